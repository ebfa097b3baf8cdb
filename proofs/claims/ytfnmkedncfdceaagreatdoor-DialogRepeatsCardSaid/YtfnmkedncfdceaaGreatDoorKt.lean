/- Contracts: the small functions of dialog.Accept and Repeat, and of the reference's; Same of lists of outputs. And what stands behind it. -/
import Derived.Test.YtfnmkedncfdceaaGreatDoorLk
import Derived.Test.YtfnmkedncfdceaaGreatDoorKd
set_option linter.unusedVariables false
set_option linter.unusedSimpArgs false
set_option maxRecDepth 100000
set_option maxHeartbeats 4000000
namespace Go.Proofs.YtfnmkedncfdceaaGreatDoor
open Go.RowKit

structure Out where
 k:Int
 c:Int
 t:Int
 a:Int
structure Mach where
 st:Int
 wt:Int
 co:Int
def oC (x:Out):List Value:=[.int .u8 x.k,.int .i64 x.c,.int .u8 x.t,.int .i64 x.a]
def oCs (l:List Out):List Value:=l.flatMap oC
def mchV (m:Mach):Value := .agg #[.int .u8 m.st,.int .i64 m.wt,.int .i64 m.co]
def ye3 (c:Int):Mach × List Out:=if accL c=true then (⟨4,500,c⟩,[⟨1,c,0,0⟩,⟨4,0,7,500⟩,⟨4,0,8,32000⟩]) else (⟨0,0,0⟩,[])
def ye5 (n:Int):Bool:=n == 500 || n == 1000 || n == 2000 || n == 4000
def yfe (m:Mach):Bool:=ye5 m.wt && m.st == 4 && accL m.co
def ye2 (m:Mach) (k t:Int):Mach × List Out:=
 if yfe m=false then (m,[])
 else if k=3 then (⟨7,0,m.co⟩,[⟨7,0,0,0⟩])
 else if k=5∧t=7 then (⟨m.st,min (2*m.wt) 4000,m.co⟩,[⟨1,m.co,0,0⟩,⟨4,0,7,min (2*m.wt) 4000⟩])
 else if k=5∧t=8 then (⟨7,0,m.co⟩,[⟨5,0,0,0⟩,⟨7,0,0,0⟩])
 else (m,[])
def OutP (w:World) (r:Mach × List Out) (e:Ending) (w':World):Prop := ∃ A c,e = .returned (.tuple #[mchV r.1,.slice A r.2.length c])∧Below w.heap.size w w'∧(∀ b o s,A=some ⟨b,o,s⟩→w.heap.size≤b)∧Rds w' w'.heap.size A (oCs r.2)
theorem ye7 {n:Int} (h:ye5 n=true):n=500∨n=1000∨n=2000∨n=4000:=by
 unfold ye5 at h
 simpa [or_assoc] using h
theorem yfd {n:Int} (h:ye5 n=false):(n == 500)=false∧(n == 1000)=false∧(n == 2000)=false∧(n == 4000)=false:=by
 unfold ye5 at h
 simpa [and_assoc] using h
theorem yfc (a b c d:Value):(Tryz.prog.info? 109).map (·.size)=some [a,b,c,d].length:=show (Tryz.prog.info? 109).map (·.size)=some 4 by kernel_rfl
theorem one4 (x y z t:Int):∀ u∈[Value.int .u8 x,.int .i64 y,.int .u8 z,.int .i64 t],u.oneCell'=true:=fun u hu=>by
 simp only [List.mem_cons,List.not_mem_nil,or_false] at hu
 rcases hu with rfl|rfl|rfl|rfl<;>rfl
theorem ye8 (t a:Int) (w:World):Calls Tryz.prog 61 #[.int .u8 t,.int .i64 a] w fun e w'=>e = .returned (.agg (oC ⟨4,0,t,a⟩).toArray)∧Below w.heap.size w w':=by
 go_enter Tryz.func61,Tryz.ntmps61
 go_wp2_with (refine zak rfl 109 (.tmp 4) (.tmp 7) rfl [.int .u8 0,.int .i64 0,.int .u8 0,.int .i64 0] [.int .u8 4,.int .i64 0,.int .u8 t,.int .i64 a] rfl rfl rfl (yfc _ _ _ _) (one4 _ _ _ _) ?_;intro w2 R2 S2);go_wp2_with fail
 exact bodyPost_ret (zdv rfl _ _ _ w.heap.size [.int .u8 4,.int .i64 0,.int .u8 t,.int .i64 a] _ rfl R2.out.range Tryz.underlying109 rfl (yfc _ _ _ _)) rfl (by exact ⟨rfl,S2.out⟩)
theorem ye6 (n:Int) (w:World):Calls Tryz.prog 60 #[.int .i64 n] w fun e w'=>e = .returned (.bool (accL n))∧w=w':=by
 unfold accL
 cases d1:decide (200≤n)<;>cases d2:decide (n≤299)
 all_goals
  go_enter Tryz.func60,Tryz.ntmps60
  go_wp2_with fail;go_ret;exact ⟨rfl,rfl⟩
theorem yfm (n a b:Int) (w:World):Calls Tryz.prog 43 #[.int .i64 n,.int .i64 a,.int .i64 b] w fun e w'=>e = .returned (.bool (decide (a≤n) && decide (n≤b)))∧w=w':=by
 cases d1:decide (a≤n)<;>cases d2:decide (n≤b)
 all_goals
  go_enter Tryz.func43,Tryz.ntmps43
  go_wp2_with fail;go_ret;exact ⟨rfl,rfl⟩
theorem yff (m:Mach) (w:World):Calls Tryz.prog 63 #[mchV m] w fun e w'=>e = .returned (.bool (ye5 m.wt))∧Below w.heap.size w w':=by
 obtain ⟨st,wt,co⟩:=m;have B1:=kd ((Below.refl w.heap.size w).alloc zNr (.cells #[.int .u8 st,.int .i64 wt,.int .i64 co] 60));unfold mchV
 cases hs:ye5 wt
 · obtain ⟨p1,p2,p3,p4⟩:=yfd hs
   clear hs
   go_enter Tryz.func63,Tryz.ntmps63
   go_wp2_with fail;go_ret;exact ⟨rfl,B1.out⟩
 · rcases ye7 hs with rfl|rfl|rfl|rfl
   all_goals
    clear hs
    go_enter Tryz.func63,Tryz.ntmps63
    go_wp2_with fail;go_ret;exact ⟨rfl,B1.out⟩
theorem yfi (m:Mach) (w:World):Calls Tryz.prog 62 #[mchV m] w fun e w'=>e = .returned (.bool (yfe m))∧Below w.heap.size w w':=by
 obtain ⟨st,wt,co⟩:=m;have B1:=kd ((Below.refl w.heap.size w).alloc zNr (.cells #[.int .u8 st,.int .i64 wt,.int .i64 co] 60));have AC:=kd (fun w=>ye6 co w);unfold mchV yfe;dsimp only;generalize accL co=ac at *
 cases hs:ye5 wt
 · obtain ⟨p1,p2,p3,p4⟩:=yfd hs
   clear hs AC
   go_enter Tryz.func62,Tryz.ntmps62
   go_wp2_with fail;go_ret;exact ⟨rfl,B1.out⟩
 · rcases ye7 hs with rfl|rfl|rfl|rfl
   all_goals
    clear hs
    cases e4:(st == 4)
    · clear AC
      go_enter Tryz.func62,Tryz.ntmps62
      go_wp2_with fail;go_ret;exact ⟨rfl,B1.out⟩
    · go_enter Tryz.func62,Tryz.ntmps62
      go_wp2_with fail;refine (AC.out _).mono ?_;rintro _ _ ⟨rfl,rfl⟩;go_wp2_with fail;go_ret;exact ⟨rfl,B1.out⟩
theorem yfq:∀ (l:List Out) (j:Nat) (x:Out),l[j]? = some x→(oCs l)[j*4]? = some (.int .u8 x.k)∧(oCs l)[j*4+1]? = some (.int .i64 x.c)∧(oCs l)[j*4+2]? = some (.int .u8 x.t)∧(oCs l)[j*4+3]? = some (.int .i64 x.a)
 | [],j,x,h=>by simp at h
 | y::l,0,x,h=>by
   obtain rfl:y=x:=by simpa using h
   exact ⟨rfl,rfl,rfl,rfl⟩
 | y::l,j+1,x,h=>by
   have ih:=yfq l j x (by simpa using h)
   have e:∀ f,(oCs (y::l))[(j+1)*4+f]? = (oCs l)[j*4+f]? := fun f=>by
    show (oC y++oCs l)[(j+1)*4+f]? = _;rw [List.getElem?_append_right (by simp [oC];omega)]
    congr 1
    simp [oC];omega
   exact ⟨(e 0).trans ih.1,(e 1).trans ih.2.1,(e 2).trans ih.2.2.1,(e 3).trans ih.2.2.2⟩
theorem yfp {l:List Out} (h:0<l.length):0<(oCs l).length:=by
 cases l with
 | nil=>exact absurd h (by decide)
 | cons x l=>show 0<(oC x++oCs l).length;simp [oC]
theorem yfs (l:List Out) (A B:Option Addr) (c d:Nat) (w:World) (hA:Rds w w.heap.size A (oCs l)) (hB:Rds w w.heap.size B (oCs l)) (hl:l.length≤1000):Calls Tryz.prog 27 #[.slice A l.length c,.slice B l.length d] w fun e w'=>e = .returned (.bool true)∧Below w.heap.size w w':=by
 have HV:=kd hA;have HU:=kd hB;clear hA hB;obtain ⟨n,hn⟩:∃ n,n=l.length:=⟨_,rfl⟩;have HN:=kd hn;have B0:=kd (Below.refl w.heap.size w);rw [← hn] at hl ⊢;clear hn
 have pn:((n:Int) != (n:Int))=false:=by simp
 go_enter Tryz.func27,Tryz.ntmps27
 go_wp2_with fail
 go_loopw [5] (fun i wr => ∃ j:Nat,j≤n∧i = .int .i64 j∧Hid (Below w.heap.size w wr)) (fun i _=>n - (intOf i).toNat)
 case atStart=>exact ⟨0,Nat.zero_le _,rfl,B0⟩
 case round =>
  obtain ⟨j,hj,rfl,BW⟩:=hrel
  by_cases hlt:j<n
  · have hd:decide ((j:Int)<(n:Int))=true:=by simp;omega
    have hn:=HN.out;obtain ⟨x,hx⟩:∃ x,l[j]? = some x:=⟨l[j]'(by omega),List.getElem?_eq_getElem (by omega)⟩;obtain ⟨b,o,rfl,hb,hcb⟩:=HV.out (yfp (by omega));obtain ⟨g,p,rfl,hg,hcg⟩:=HU.out (yfp (by omega));obtain ⟨g0,g1,g2,g3⟩:=yfq l j x hx
    have k0:∀ f,wr.cell? ⟨b,f,none⟩=w.cell? ⟨b,f,none⟩:=fun f=>BW.out.cell hb;have k1:∀ f,wr.cell? ⟨g,f,none⟩=w.cell? ⟨g,f,none⟩:=fun f=>BW.out.cell hg;have a0:=(k0 _).trans (hcb _ _ g0);have a1:=(k0 _).trans (hcb _ _ g1);have a2:=(k0 _).trans (hcb _ _ g2)
    have a3:=(k0 _).trans (hcb _ _ g3);have b0:=(k1 _).trans (hcg _ _ g0);have b1:=(k1 _).trans (hcg _ _ g1);have b2:=(k1 _).trans (hcg _ _ g2);have b3:=(k1 _).trans (hcg _ _ g3);rw [← Nat.add_assoc] at a1 a2 a3 b1 b2 b3;clear hn hcb hcg hx g0 g1 g2 g3 k0 k1 hb hg
    go_upto_region 6 with (fail)
    go_quiet (fail)
    go_wp2_with fail;go_roundw
    case rel=>exact ⟨j+1,by omega,by go_num,kd (zao BW.out (zam _ _))⟩
    case measure=>simp [intOf];omega
  · obtain rfl:j=n:=by omega
    have hd:decide ((j:Int)<(j:Int))=false:=by simp
    go_wp2_with fail;go_ret;exact ⟨rfl,BW.out⟩

theorem ye9 (w:World) (T1 T2 T3:TypeId) (x y z:List Value):Mine w (((w.alloc (.cells x.toArray T1)).alloc (.cells y.toArray T2)).alloc (.cells z.toArray T3)) [(w.heap.size+1+1,T3,z),(w.heap.size+1,T2,y),(w.heap.size,T1,x)] []:=by
 have h:=(((Mine.refl w).alloc T1 x).alloc T2 y).alloc T3 z;rw [World.size_alloc,World.size_alloc] at h;exact h
theorem yfr {w0 w:World} {L:List Blk} {FS:List (World→Prop)} (h:Mine w0 w L FS) {i b:Nat} {T:TypeId} {vs:List Value} (us:List Value) (hi:L[i]? = some (b,T,vs)) (hl:vs.length=us.length):Mine w0 (w.setCells b 0 us) (L.set i (b,T,us)) FS:=
 h.store hi rfl ((h.row hi).setAll us hl) (zbs (h.ge hi) us 0 _ h.bw) ⟨zg4 us b 0 w,fun b' hb'=>zcc us 0 w b' hb'⟩
theorem ye4 {P:Program} {ops:Array Oper} {Q:Exit→Act→World→Prop} (hm:P.follows .mixedOrders=true) (hA:ahead ops=true) (A:Nat→World→Value→Prop) (s o:Nat) (p q:Tmp) (b:Nat) (T:TypeId) (zs us:List Value) {id:Nat} {a:Act} {w:World} (hS:ssa ops a.tmps.size=true)
  {w0:World} {L:List Blk} {FS:List (World→Prop)} (M:Mine w0 w ((b,T,zs)::L) FS)
  (oS oB:Oper) (s1:ops[s]? = some oS) (s2:oS.op = .store T (.tmp p) (.tmp q)) (s3:oS.dst=none) (s4:oS.guard=none) (s5:(oS.after.toList.any fun e=>Region.binds .any e && e.on == o)=true)
  (b1:ops[o]? = some oB) (b2:oB.dst=some q) (hp:a.eval (.tmp p) = .pointer (some ⟨b,0,none⟩)) (hfp:free ops p=true)
  (hB:∀ W v,A o W v→v = .agg us.toArray) (hl:zs.length=us.length) (hi:(P.info? T).map (·.size)=some us.length) (h1:∀ u∈us,u.oneCell'=true)
  (hAm:∀ i v W W',Below W.heap.size W W'→A i W v→A i W' v)
  (hAs:∀ i v W,A i W v→A i (W.setCells b 0 us) v)
  (hstep:∀ (i:Nat) (o:Oper),i≠s→ops[i]? = some o→∀ a' W cs,Mine w0 W ((b,T,cs)::L) FS→Fr ops a a'→zeb ops A o a' W→wpOp P ops Q i (fun a2 W2 => ∃ v,a2=a'.put o.dst v∧Below W.heap.size W W2∧∀ d,o.dst=some d→A i W2 v) a' W)
  (hend:∀ vs W,Mine w0 W ((b,T,us)::L) FS→vs.length=ops.size→(∀ (i:Nat) (o:Oper) (d:Tmp) (v:Value),ops[i]? = some o→o.dst=some d→vs[i]? = some v→A i W v)→Q .normal (putL a ops.toList vs) W) :
  (Code.region id ops true).wp P Q a w:=by
 refine zdo hm hA A (fun L' _ W => ∃ cs,cs.length=us.length∧Mine w0 W ((b,T,cs)::L) FS∧(L' s=true→cs=us)) hS ⟨zs,hl,M.call zBr.drew,fun h=>by cases h⟩ (fun L' a' W i oi hI ho hL hdp => ?_) (fun L' a' W hF hall hL hG => ?_)
 · obtain ⟨hF,hD0,cs,hcl,MW,hcs⟩:=hI
   have hD:zeb ops A oi a' W:=fun e he hb oj d hoj hd=>hD0 e.on oj d hoj hd (hdp e he hb)
   by_cases his:i=s
   · subst his
     obtain rfl:=Option.some.inj (s1.symm.trans ho);have hx:a'.eval (.tmp p) = .pointer (some ⟨b,0,none⟩):=(zap hF hfp).trans hp;have hy:a'.eval (.tmp q) = .agg us.toArray:=hB W _ (zai hD o s5 b1 b2)
     have hu:us.toArray.size=us.length:=by simp
     have hr:Row W b T cs:=MW.row (i:=0) rfl;refine zbw ho s4 (wp_store_mid T (.tmp p) (.tmp q) s2 b 0 us.toArray hx hy (by rw [hu,← hcl];exact hr.there) (by rw [hu];exact hi) (all_oneCell_toArray h1) ?_)
     exact ⟨undef,rfl,fun j u h=>hAs j u W h,(fun d hd=>by rw [s3] at hd;cases hd),us,rfl,yfr MW us (i:=0) rfl hcl,fun _=>rfl⟩
   · refine wpOp_mono (fun a2 W2 h => ?_) (hstep i oi his ho a' W cs MW hF hD)
     obtain ⟨v,rfl,hb2,hv⟩:=h;refine ⟨v,rfl,fun j u h=>hAm j u _ _ hb2 h,hv,cs,hcl,MW.call hb2,fun h=>hcs ?_⟩
     simpa [upd,Ne.symm his] using h
 · obtain ⟨cs,hcl,MW,hcs⟩:=hG
   obtain rfl:=hcs (hL s (Array.getElem?_eq_some_iff.1 s1).1);rw [zen hS hF];refine hend _ W MW (by simp [zcl]) fun i o d v ho hd hv => ?_;simp only [zcl,List.getElem?_map,Array.getElem?_toList,ho,Option.map_some,hd,Option.some.injEq] at hv;rw [← hv];exact hall i o d ho hd

theorem ye0 (a b c:Value):(Tryz.prog.info? 60).map (·.size)=some [a,b,c].length:=show (Tryz.prog.info? 60).map (·.size)=some 3 by kernel_rfl
theorem yfl (a b c:Value):(Tryz.prog.info? 64).map (·.size)=some [a,b,c].length:=show (Tryz.prog.info? 64).map (·.size)=some 3 by kernel_rfl
theorem one3 (x y z:Int):∀ u∈[Value.int .u8 x,.int .i64 y,.int .i64 z],u.oneCell'=true:=fun u hu=>by
 simp only [List.mem_cons,List.not_mem_nil,or_false] at hu
 rcases hu with rfl|rfl|rfl<;>rfl
theorem OutP.nil {w W:World} {R:Mach × List Out} {a b c:Int} (h:R=(⟨a,b,c⟩,[])) (hb:Below w.heap.size w W):OutP w R (.returned (.tuple #[.agg #[.int .u8 a,.int .i64 b,.int .i64 c],.slice none 0 0])) W:=by
 subst h;exact ⟨none,0,rfl,hb,(fun _ _ _ e=>by cases e),fun h=>absurd h (by simp [oCs])⟩
theorem OutP.rows {w W:World} {R:Mach × List Out} {a b c:Int} {l:List Out} {n x:Nat} (h:R=(⟨a,b,c⟩,l)) (hn:l.length=n) (hb:Below w.heap.size w W) (hx:w.heap.size≤x) (hr:Row W x 109 (oCs l)):OutP w R (.returned (.tuple #[.agg #[.int .u8 a,.int .i64 b,.int .i64 c],.slice (some ⟨x,0,none⟩) n n])) W:=by
 subst h hn;exact ⟨some ⟨x,0,none⟩,l.length,rfl,hb,(fun b o s e=>by cases e;exact hx),fun _=>⟨x,0,rfl,hr.lt,fun j u hu=>by rw [Nat.zero_add];exact (hr.cell j).trans hu⟩⟩
def SlO (b lo:Nat) (cs:List Value) (n:Nat) (W:World) (v:Value):Prop := ∃ x,v = .slice (some ⟨x,0,none⟩) n n∧x≠b∧lo≤x∧Row W x 109 cs
theorem SlO.below {b lo n:Nat} {cs:List Value} {W W':World} {v:Value} (h:SlO b lo cs n W v) (hb:Below W.heap.size W W'):SlO b lo cs n W' v:=by
 obtain ⟨x,h1,h2,h3,h4⟩:=h;exact ⟨x,h1,h2,h3,h4.below hb⟩
theorem SlO.set {b lo n:Nat} {cs us:List Value} {W:World} {v:Value} (h:SlO b lo cs n W v):SlO b lo cs n (W.setCells b 0 us) v:=by
 obtain ⟨x,h1,h2,h3,h4⟩:=h;exact ⟨x,h1,h2,h3,h4.heap (zcc us 0 W x h2)⟩
theorem yft {o:Oper} {a:Act} {W:World} {next:Act→World→Prop} {Q:Exit→Act→World→Prop} (x:Operand) (ho:o.op = .buildSlice 65 1 #[(0,x)]) (p q r s:Value) (hx:a.eval x = .agg #[p,q,r,s])
  (hn:Row (W.alloc (.cells #[p,q,r,s] 109)) W.heap.size 109 [p,q,r,s]→next (a.put o.dst (.slice (some ⟨W.heap.size,0,none⟩) 1 1)) (W.alloc (.cells #[p,q,r,s] 109))):o.wp Tryz.prog a W next Q:=by
 have hr:(execOp a.eval o).run Tryz.prog W = .ok (.value (.slice (some ⟨W.heap.size,0,none⟩) 1 1)) (W.alloc (.cells #[p,q,r,s] 109)):=by
  unfold execOp;rw [ho];dsimp only [List.map_toArray,List.map_cons,List.map_nil];simp only [List.map_toArray,List.map_cons,List.map_nil,hx]
  kernel_rfl
 unfold Oper.wp;rw [hr];exact hn (Row.new W 109 [p,q,r,s])
theorem yfg {o:Oper} {a:Act} {W:World} {next:Act→World→Prop} {Q:Exit→Act→World→Prop} (x y:Operand) (ho:o.op = .buildSlice 65 2 #[(0,x),(1,y)]) (p q r s p' q' r' s':Value) (hx:a.eval x = .agg #[p,q,r,s]) (hy:a.eval y = .agg #[p',q',r',s'])
  (hn:Row (W.alloc (.cells #[p,q,r,s,p',q',r',s'] 109)) W.heap.size 109 [p,q,r,s,p',q',r',s']→next (a.put o.dst (.slice (some ⟨W.heap.size,0,none⟩) 2 2)) (W.alloc (.cells #[p,q,r,s,p',q',r',s'] 109))):o.wp Tryz.prog a W next Q:=by
 have hr:(execOp a.eval o).run Tryz.prog W = .ok (.value (.slice (some ⟨W.heap.size,0,none⟩) 2 2)) (W.alloc (.cells #[p,q,r,s,p',q',r',s'] 109)):=by
  unfold execOp;rw [ho];dsimp only [List.map_toArray,List.map_cons,List.map_nil];simp only [List.map_toArray,List.map_cons,List.map_nil,hx,hy]
  kernel_rfl
 unfold Oper.wp;rw [hr];exact hn (Row.new W 109 [p,q,r,s,p',q',r',s'])
theorem ye1 (a b c d e f:Value):[a,b,c].length=[d,e,f].length:=rfl
theorem yfo (c:Int) (w:World):Calls Tryz.prog 25 #[.int .i64 c] w (OutP w (ye3 c)):=by
 have AC:=kd (fun w=>ye6 c w);have TM:=kd (fun t a w=>ye8 t a w);have M0:=kd ((Mine.refl w).alloc 60 [.int .u8 0,.int .i64 0,.int .i64 0]);obtain ⟨R,hR⟩:∃ r,ye3 c=r:=⟨_,rfl⟩;rw [hR];have HR:=kd hR;clear hR
 have FIN0:=kd (fun (h:R=(⟨0,0,0⟩,[])) W (hb:Below w.heap.size w W)=>OutP.nil h hb)
 have FIN3:=kd (fun (h:R=(⟨4,500,c⟩,[⟨1,c,0,0⟩,⟨4,0,7,500⟩,⟨4,0,8,32000⟩])) W x (hb:Below w.heap.size w W) (hx:w.heap.size≤x) (hr:Row W x 109 [.int .u8 1,.int .i64 c,.int .u8 0,.int .i64 0,.int .u8 4,.int .i64 0,.int .u8 7,.int .i64 500,.int .u8 4,.int .i64 0,.int .u8 8,.int .i64 32000])=>OutP.rows (n:=3) h rfl hb hx hr)
 unfold ye3 at HR;generalize OutP w R=PO at *;obtain ⟨b,hb⟩:∃ b,w.heap.size=b:=⟨_,rfl⟩;rw [hb] at M0;unfold oC at TM;dsimp only at TM
 cases ha:accL c
 · have E:=kd (show R=(⟨0,0,0⟩,[]) by rw [← HR.out,ha];rfl)
   have AC:=kd (fun w=>(AC.out w).mono (R':=fun e w'=>e = .returned (.bool false)∧w=w') fun e w' h=>⟨by rw [h.1];first|rw [ha]|(unfold accL at ha;rw [ha]),h.2⟩);clear HR FIN3 TM ha
   go_enter Tryz.func25,Tryz.ntmps25
   go_upto_region 1 with (fail)
   try rw [hb]
   generalize w.alloc (.cells #[.int .u8 0,.int .i64 0,.int .i64 0] 60)=w1 at *;clear hb;go_wp2_with fail;refine (AC.out _).mono ?_;rintro _ _ ⟨rfl,rfl⟩
   go_wp2_with (with_reducible refine zad M0.out 0 rfl 60 (.tmp 2) (.tmp 8) rfl [.int .u8 0,.int .i64 0,.int .i64 0] _ rfl rfl rfl rfl ?hl ?hz ?h1 ?hh)
   case hl=>exact ye1 _ _ _ _ _ _
   case hz=>exact ye0 _ _ _
   case h1=>exact one3 _ _ _
   case hh =>
   intro w3 M3;go_wp2_with fail;exact bodyPost_ret (zah rfl _ _ _ b [.int .u8 0,.int .i64 0,.int .i64 0] _ rfl (M3.out.row (i:=0) rfl).range Tryz.underlying60 rfl (ye0 _ _ _)) rfl (by exact FIN0.out E.out _ M3.out.bw)
 · have E:=kd (show R=(⟨4,500,c⟩,[⟨1,c,0,0⟩,⟨4,0,7,500⟩,⟨4,0,8,32000⟩]) by rw [← HR.out,ha];rfl)
   have AC:=kd (fun w=>(AC.out w).mono (R':=fun e w'=>e = .returned (.bool true)∧w=w') fun e w' h=>⟨by rw [h.1];first|rw [ha]|(unfold accL at ha;rw [ha]),h.2⟩);clear HR FIN0 ha
   go_enter Tryz.func25,Tryz.ntmps25
   go_upto_region 1 with (fail)
   try rw [hb]
   generalize w.alloc (.cells #[.int .u8 0,.int .i64 0,.int .i64 0] 60)=w1 at *;clear hb;go_wp2_with fail;refine (AC.out _).mono ?_;rintro _ _ ⟨rfl,rfl⟩;go_wp2_with fail;refine (TM.out _ _ _).mono ?_;rintro _ w2 ⟨rfl,hb2⟩;go_wp2_with fail;refine (TM.out _ _ _).mono ?_;rintro _ w2b ⟨rfl,hb3⟩
   have M1:=kd ((M0.out.call hb2).call hb3);clear hb2 hb3;have R3:=kd (Row.new w2b 109 [.int .u8 1,.int .i64 c,.int .u8 0,.int .i64 0,.int .u8 4,.int .i64 0,.int .u8 7,.int .i64 500,.int .u8 4,.int .i64 0,.int .u8 8,.int .i64 32000])
   have B3:=kd ((Below.refl w2b.heap.size w2b).alloc zNr (.cells #[.int .u8 1,.int .i64 c,.int .u8 0,.int .i64 0,.int .u8 4,.int .i64 0,.int .u8 7,.int .i64 500,.int .u8 4,.int .i64 0,.int .u8 8,.int .i64 32000] 109))
   go_wp2_with (with_reducible refine zad (M1.out.join B3.out zNr R3.out) 1 rfl 60 (.tmp 2) (.tmp 15) rfl [.int .u8 4,.int .i64 500,.int .i64 c] _ rfl rfl rfl rfl ?hl ?hz ?h1 ?hh)
   case hl=>exact ye1 _ _ _ _ _ _
   case hz=>exact ye0 _ _ _
   case h1=>exact one3 _ _ _
   case hh =>
   intro w3 M3;go_wp2_with fail;exact bodyPost_ret (zah rfl _ _ _ b [.int .u8 4,.int .i64 500,.int .i64 c] _ rfl (M3.out.row (i:=1) rfl).range Tryz.underlying60 rfl (ye0 _ _ _)) rfl (by exact FIN3.out E.out _ _ M3.out.bw (M3.out.ge (i:=0) rfl) (M3.out.row (i:=0) rfl))
theorem yfn (m:Mach) (k ic t:Int) (w:World):Calls Tryz.prog 28 #[mchV m,.agg #[.int .u8 k,.int .i64 ic,.int .u8 t]] w (OutP w (ye2 m k t)):=by
 have RP:=kd (fun w=>yfi m w);obtain ⟨st,wt,co⟩:=m;have M0:=kd (ye9 w 60 64 60 [.int .u8 st,.int .i64 wt,.int .i64 co] [.int .u8 k,.int .i64 ic,.int .u8 t] [.int .u8 0,.int .i64 0,.int .i64 0]);obtain ⟨R,hR⟩:∃ r,ye2 ⟨st,wt,co⟩ k t=r:=⟨_,rfl⟩;rw [hR];have HR:=kd hR
 clear hR;have FIN0:=kd (fun a b c (h:R=(⟨a,b,c⟩,[])) W (hb:Below w.heap.size w W)=>OutP.nil h hb);have FIN1:=kd (fun a b c x (h:R=(⟨a,b,c⟩,[x])) W y (hb:Below w.heap.size w W) (hx:w.heap.size≤y) (hr:Row W y 109 (oCs [x]))=>OutP.rows (n:=1) h rfl hb hx hr)
 have FIN2:=kd (fun a b c x z (h:R=(⟨a,b,c⟩,[x,z])) W y (hb:Below w.heap.size w W) (hx:w.heap.size≤y) (hr:Row W y 109 (oCs [x,z]))=>OutP.rows (n:=2) h rfl hb hx hr);unfold ye2 at HR;dsimp only at HR;generalize OutP w R=PO at *
 obtain ⟨g,hg⟩:∃ b,w.heap.size=b:=⟨_,rfl⟩;obtain ⟨b,hb⟩:∃ b,g+1+1=b:=⟨_,rfl⟩;rw [hg,hb] at M0;unfold mchV at RP ⊢;dsimp only at RP ⊢;have RM:=kd (M0.out.row (i:=2) rfl)
 cases hr:yfe ⟨st,wt,co⟩
 · have E:=kd (show R=(⟨st,wt,co⟩,[]) by rw [← HR.out,hr];rfl)
   rw [hr] at RP;clear HR FIN1 FIN2 hr
   go_enter Tryz.func28,Tryz.ntmps28
   go_upto_region 1 with (fail)
   try rw [hg]
   try rw [hb]
   generalize ((w.alloc (.cells #[.int .u8 st,.int .i64 wt,.int .i64 co] 60)).alloc (.cells #[.int .u8 k,.int .i64 ic,.int .u8 t] 64)).alloc (.cells #[.int .u8 0,.int .i64 0,.int .i64 0] 60)=w1 at *;clear hg hb
   go_wp2_with (with_reducible refine zab rfl 60 (.tmp 2) rfl RM.out rfl Tryz.underlying60 rfl (ye0 _ _ _) ?_);refine (RP.out _).mono ?_;rintro _ w2 ⟨rfl,hb2⟩;have M2:=kd (M0.out.call hb2);have RM2:=kd (M2.out.row (i:=2) rfl);clear hb2 RM M0
   go_wp2_with (first
    | (with_reducible refine zab rfl 60 (.tmp 2) rfl RM2.out rfl Tryz.underlying60 rfl (ye0 _ _ _) ?_)
    | (with_reducible refine zad M2.out 0 rfl 60 (.tmp 4) (.tmp 11) rfl [.int .u8 st,.int .i64 wt,.int .i64 co] _ rfl rfl rfl rfl ?hl ?hz ?h1 ?hh))
   case hl=>exact ye1 _ _ _ _ _ _
   case hz=>exact ye0 _ _ _
   case h1=>exact one3 _ _ _
   case hh =>
   intro w3 M3;go_wp2_with fail;exact bodyPost_ret (zah rfl _ _ _ b [.int .u8 st,.int .i64 wt,.int .i64 co] _ rfl (M3.out.row (i:=0) rfl).range Tryz.underlying60 rfl (ye0 _ _ _)) rfl (by exact FIN0.out _ _ _ E.out _ M3.out.bw)
 have hr2:=hr;unfold yfe at hr2;dsimp only at hr2;rw [Bool.and_eq_true,Bool.and_eq_true,beq_iff_eq] at hr2;obtain ⟨⟨hs,rfl⟩,hac⟩:=hr2;rw [hr] at RP HR;rw [if_neg (by decide)] at HR;clear hr hac
 go_enter Tryz.func28,Tryz.ntmps28
 go_upto_region 1 with (fail)
 try rw [hg]
 try rw [hb]
 generalize ((w.alloc (.cells #[.int .u8 4,.int .i64 wt,.int .i64 co] 60)).alloc (.cells #[.int .u8 k,.int .i64 ic,.int .u8 t] 64)).alloc (.cells #[.int .u8 0,.int .i64 0,.int .i64 0] 60)=w1 at *;clear hg hb
 go_wp2_with (with_reducible refine zab rfl 60 (.tmp 2) rfl RM.out rfl Tryz.underlying60 rfl (ye0 _ _ _) ?_);refine (RP.out _).mono ?_;rintro _ w2 ⟨rfl,hb2⟩;have M2:=kd (M0.out.call hb2);have RM2:=kd (M2.out.row (i:=2) rfl);clear hb2 RM M0 RP
 have x2:w2.cell? ⟨g,2,none⟩=some (.int .i64 co):=RM2.out.cell 2;go_upto_region 4 with (refine zak rfl 60 (.tmp 6) (.tmp 14) rfl [.int .u8 0,.int .i64 0,.int .i64 0] [.int .u8 7,.int .i64 0,.int .i64 co] rfl rfl (ye1 _ _ _ _ _ _) (ye0 _ _ _) (one3 _ _ _) ?_;intro w4 R4 S4)
 have M4:=kd (M2.out.join S4.out zNr R4.out);generalize w2.heap.size=ge at *;clear R4 S4 M2 RM2 x2
 go_upto_region 5 with (refine zak rfl 109 (.tmp 7) (.tmp 15) rfl [.int .u8 0,.int .i64 0,.int .u8 0,.int .i64 0] [.int .u8 7,.int .i64 0,.int .u8 0,.int .i64 0] rfl rfl rfl (yfc _ _ _ _) (one4 _ _ _ _) ?_;intro w5 R5 S5);have M5:=kd (M4.out.join S5.out zNr R5.out)
 generalize w4.heap.size=go at *;clear R5 S5 M4
 have MB:=kd (show Mine w w5 [(b,60,[.int .u8 0,.int .i64 0,.int .i64 0]),(go,109,[.int .u8 7,.int .i64 0,.int .u8 0,.int .i64 0]),(ge,60,[.int .u8 7,.int .i64 0,.int .i64 co]),(g+1,64,[.int .u8 k,.int .i64 ic,.int .u8 t]),(g,60,[.int .u8 4,.int .i64 wt,.int .i64 co])] [] from M5.out.sub (fun r hr=>by simp only [List.mem_cons,List.not_mem_nil,or_false] at hr ⊢;rcases hr with rfl|rfl|rfl|rfl|rfl<;>simp) (by have:=M5.out.nd;simp at this ⊢;omega))
 clear M5;have y0:w5.cell? ⟨g+1,0,none⟩=some (.int .u8 k):=(MB.out.row (i:=3) rfl).cell 0;have y2:w5.cell? ⟨g+1,2,none⟩=some (.int .u8 t):=(MB.out.row (i:=3) rfl).cell 2
 by_cases hk3:k=3
 · subst hk3
   have E:=kd (show R=(⟨7,0,co⟩,[⟨7,0,0,0⟩]) by rw [← HR.out];rfl);clear HR FIN0 FIN2 hs;go_upto_region 6 with (fail);clear y0 y2
   refine ye4 (by kernel_rfl) (by kernel_rfl) (fun (i:Nat) (W:World) (v:Value)=>match i with
    | 0=>v=(.agg ([.int .u8 7,.int .i64 0,.int .i64 co]:List Value).toArray)
    | 1=>v=(.agg ([.int .u8 7,.int .i64 0,.int .u8 0,.int .i64 0]:List Value).toArray)
    | 2=>SlO b w.heap.size [.int .u8 7,.int .i64 0,.int .u8 0,.int .i64 0] 1 W v
    | 4=>SlO b w.heap.size [.int .u8 7,.int .i64 0,.int .u8 0,.int .i64 0] 1 W v
    | _=>True) 3 0 4 20 b 60 [.int .u8 0,.int .i64 0,.int .i64 0] [.int .u8 7,.int .i64 0,.int .i64 co] (by kernel_rfl) MB.out _ _ rfl rfl rfl rfl (by kernel_rfl) rfl rfl rfl (by kernel_rfl) (fun _ _ h=>h) rfl (ye0 _ _ _) (one3 _ _ _) ?hAm ?hAs ?hstep ?hend
   case hAm =>
    intro i v W W' hb h
    rcases i with _|_|_|_|_|i
    all_goals first
     | exact h
     | exact SlO.below h hb
   case hAs =>
    intro i v W h
    rcases i with _|_|_|_|_|i
    all_goals first
     | exact h
     | exact SlO.set h
   case hstep =>
    intro i o hne ho a' W cs MW hF hD
    match i,ho,hne with
     | 0,ho,hne =>
       obtain rfl:=zSi ho;exact (zaf ho rfl (zf4 60 (.tmp 6) rfl ge 0 [.int .u8 7,.int .i64 0,.int .i64 co] _ ((zap hF (by kernel_rfl)).trans rfl) ((MW.row (i:=2) rfl).range) Tryz.underlying60 rfl (ye0 _ _ _) ⟨_,rfl,Below.refl _ _,fun _ _=>rfl⟩))
     | 1,ho,hne =>
       obtain rfl:=zSi ho;exact (zaf ho rfl (zf4 109 (.tmp 7) rfl go 0 [.int .u8 7,.int .i64 0,.int .u8 0,.int .i64 0] _ ((zap hF (by kernel_rfl)).trans rfl) ((MW.row (i:=1) rfl).range) Tryz.underlying109 rfl (yfc _ _ _ _) ⟨_,rfl,Below.refl _ _,fun _ _=>rfl⟩))
     | 2,ho,hne =>
       obtain rfl:=zSi ho;have hx0:a'.eval (.tmp 21) = .agg #[.int .u8 7,.int .i64 0,.int .u8 0,.int .i64 0]:=(zai hD 1 (by kernel_rfl) rfl rfl)
       exact (zaf ho rfl (yft (.tmp 21) rfl _ _ _ _ hx0 fun hr=>⟨_,rfl,zBr.alloc zNr _,fun _ _=>⟨_,rfl,Nat.ne_of_gt (MW.row (i:=0) rfl).lt,MW.bw.size,hr⟩⟩))
     | 3,ho,hne=>exact absurd rfl hne
     | 4,ho,hne =>
       obtain rfl:=zSi ho;exact (zaf ho rfl (zb5 (.tmp 22) (.inr rfl) ⟨_,rfl,Below.refl _ _,fun _ _=>(zai hD 2 (by kernel_rfl) rfl rfl)⟩))
     | j+5,ho,hne=>exact absurd ho (by simp)
   case hend =>
   intro vs W MX hlen hall
   obtain ⟨u0,u1,u2,u3,u4,rfl⟩:∃ u0 u1 u2 u3 u4,vs=[u0,u1,u2,u3,u4]:=by
    match vs,hlen with
    | [u0,u1,u2,u3,u4],_=>exact ⟨_,_,_,_,_,rfl⟩
   obtain ⟨x,rfl,hxb,hxl,hxr⟩:=(show SlO b w.heap.size [.int .u8 7,.int .i64 0,.int .u8 0,.int .i64 0] 1 W u4 from hall 4 _ 5 u4 rfl rfl rfl);have MX:=kd MX;have XL:=kd hxl;have XR:=kd hxr;clear hall hlen hxb hxl hxr
   simp only [putL,Act.put,List.setIfInBounds_toArray,List.set_cons_zero,List.set_cons_succ];go_wp2_with fail
   exact bodyPost_ret (zah rfl _ _ _ b [.int .u8 7,.int .i64 0,.int .i64 co] _ rfl (MX.out.row (i:=0) rfl).range Tryz.underlying60 rfl (ye0 _ _ _)) rfl (by exact FIN1.out _ _ _ _ E.out _ _ MX.out.bw XL.out XR.out)
 have hk3b:(k == 3)=false:=by simpa using hk3
 rw [if_neg hk3] at HR
 by_cases hk5:k=5
 · subst hk5
   by_cases ht7:t=7
   · subst ht7
     rw [if_pos ⟨rfl,rfl⟩] at HR;have x1:w5.cell? ⟨g,1,none⟩=some (.int .i64 wt):=(MB.out.row (i:=4) rfl).cell 1;have f1:w5.frozen? ⟨g,1,none⟩=false:=(MB.out.row (i:=4) rfl).frozen 1;obtain ⟨nw,hnw⟩:∃ x,min (2*wt) 4000=x:=⟨_,rfl⟩
     have E:=kd (show R=(⟨4,nw,co⟩,[⟨1,co,0,0⟩,⟨4,0,7,nw⟩]) by rw [← HR.out,hnw])
     have wb:500≤wt∧wt≤4000:=by rcases ye7 hs with rfl|rfl|rfl|rfl<;>omega
     obtain ⟨wb1,wb2⟩:=wb
     have ww:wrap64 (2*wt)=2*wt:=by unfold wrap64;omega
     clear HR FIN0 FIN1 hs;go_upto_region 8 with (fail);clear y0 y2;go_upto_region 9 with (fail)
     try rw [ww]
     try rw [hnw]
     have M8:=kd (MB.out.setCell (.int .i64 nw) (i:=4) (off:=1) rfl rfl);generalize w5.setCell ⟨g,1,none⟩ (.int .i64 nw)=w8 at *;clear x1 f1 MB hnw ww wb1 wb2
     refine ye4 (by kernel_rfl) (by kernel_rfl) (fun (i:Nat) (W:World) (v:Value)=>match i with
      | 0=>v=(.agg ([.int .u8 4,.int .i64 nw,.int .i64 co]:List Value).toArray)
      | 1=>v=(.pointer (some ⟨g,2,none⟩))
      | 2=>v=(.int .i64 co)
      | 3=>v=(.agg #[.int .u8 1,.int .i64 co,.int .u8 0,.int .i64 0])
      | 4=>v=(.pointer (some ⟨g,1,none⟩))
      | 5=>v=(.int .i64 nw)
      | 6=>v=(.agg #[.int .u8 4,.int .i64 0,.int .u8 7,.int .i64 nw])
      | 7=>SlO b w.heap.size [.int .u8 1,.int .i64 co,.int .u8 0,.int .i64 0,.int .u8 4,.int .i64 0,.int .u8 7,.int .i64 nw] 2 W v
      | 9=>SlO b w.heap.size [.int .u8 1,.int .i64 co,.int .u8 0,.int .i64 0,.int .u8 4,.int .i64 0,.int .u8 7,.int .i64 nw] 2 W v
      | _=>True) 8 0 4 37 b 60 [.int .u8 0,.int .i64 0,.int .i64 0] [.int .u8 4,.int .i64 nw,.int .i64 co] (by kernel_rfl) M8.out _ _ rfl rfl rfl rfl (by kernel_rfl) rfl rfl rfl (by kernel_rfl) (fun _ _ h=>h) rfl (ye0 _ _ _) (one3 _ _ _) ?hAm ?hAs ?hstep ?hend
     case hAm =>
      intro i v W W' hb h
      rcases i with _|_|_|_|_|_|_|_|_|_|i
      all_goals first
       | exact h
       | exact SlO.below h hb
     case hAs =>
      intro i v W h
      rcases i with _|_|_|_|_|_|_|_|_|_|i
      all_goals first
       | exact h
       | exact SlO.set h
     case hstep =>
      intro i o hne ho a' W cs MW hF hD
      match i,ho,hne with
       | 0,ho,hne =>
         obtain rfl:=zSi ho;exact (zaf ho rfl (zf4 60 (.tmp 2) rfl g 0 [.int .u8 4,.int .i64 nw,.int .i64 co] _ ((zap hF (by kernel_rfl)).trans rfl) ((MW.row (i:=4) rfl).range) Tryz.underlying60 rfl (ye0 _ _ _) ⟨_,rfl,Below.refl _ _,fun _ _=>rfl⟩))
       | 1,ho,hne =>
         obtain rfl:=zSi ho;exact (zaf ho rfl (zdm 60 (.tmp 2) 2 rfl g 2 ((zap hF (by kernel_rfl)).trans rfl) (fun w=>by kernel_rfl) ⟨_,rfl,Below.refl _ _,fun _ _=>rfl⟩))
       | 2,ho,hne =>
         obtain rfl:=zSi ho;exact (zaf ho rfl (zbu 3 (.tmp 38) rfl g 2 (.int .i64 co) (zai hD 1 (by kernel_rfl) rfl rfl) ((MW.row (i:=4) rfl).cell 2) _ Tryz.underlying3 rfl ⟨_,rfl,Below.refl _ _,fun _ _=>rfl⟩))
       | 3,ho,hne =>
         obtain rfl:=zSi ho;have hx0:a'.eval (.tmp 39) = .int .i64 co:=(zai hD 2 (by kernel_rfl) rfl rfl)
         exact (zaf ho rfl (zfq 109 _ rfl [(0,.int .u8 1),(1,.int .i64 co)] (by first|(simp only [List.map_toArray,List.map_cons,List.map_nil,hx0];rfl)|simp only [List.map_toArray,List.map_cons,List.map_nil,hx0]) #[.int .u8 1,.int .i64 co,.int .u8 0,.int .i64 0] (by kernel_rfl) ⟨_,rfl,Below.refl _ _,fun _ _=>rfl⟩))
       | 4,ho,hne =>
         obtain rfl:=zSi ho;exact (zaf ho rfl (zdm 60 (.tmp 2) 1 rfl g 1 ((zap hF (by kernel_rfl)).trans rfl) (fun w=>by kernel_rfl) ⟨_,rfl,Below.refl _ _,fun _ _=>rfl⟩))
       | 5,ho,hne =>
         obtain rfl:=zSi ho;exact (zaf ho rfl (zbu 3 (.tmp 41) rfl g 1 (.int .i64 nw) (zai hD 4 (by kernel_rfl) rfl rfl) ((MW.row (i:=4) rfl).cell 1) _ Tryz.underlying3 rfl ⟨_,rfl,Below.refl _ _,fun _ _=>rfl⟩))
       | 6,ho,hne =>
         obtain rfl:=zSi ho;have hx0:a'.eval (.tmp 42) = .int .i64 nw:=(zai hD 5 (by kernel_rfl) rfl rfl)
         exact (zaf ho rfl (zc3 61 _ _ rfl #[.int .u8 7,.int .i64 nw] (by first|(simp only [List.map_toArray,List.map_cons,List.map_nil,hx0];rfl)|simp only [List.map_toArray,List.map_cons,List.map_nil,hx0]) (enters_of Tryz.func61 (by kernel_rfl) rfl) ((ye8 7 _ W).mono fun e W2 ⟨he,hb⟩=>⟨_,he,_,rfl,hb,fun _ _=>rfl⟩)))
       | 7,ho,hne =>
         obtain rfl:=zSi ho;have hx0:a'.eval (.tmp 40) = .agg #[.int .u8 1,.int .i64 co,.int .u8 0,.int .i64 0]:=(zai hD 3 (by kernel_rfl) rfl rfl);have hx1:a'.eval (.tmp 43) = .agg #[.int .u8 4,.int .i64 0,.int .u8 7,.int .i64 nw]:=(zai hD 6 (by kernel_rfl) rfl rfl)
         exact (zaf ho rfl (yfg (.tmp 40) (.tmp 43) rfl _ _ _ _ _ _ _ _ hx0 hx1 fun hr=>⟨_,rfl,zBr.alloc zNr _,fun _ _=>⟨_,rfl,Nat.ne_of_gt (MW.row (i:=0) rfl).lt,MW.bw.size,hr⟩⟩))
       | 8,ho,hne=>exact absurd rfl hne
       | 9,ho,hne =>
         obtain rfl:=zSi ho;exact (zaf ho rfl (zb5 (.tmp 44) (.inr rfl) ⟨_,rfl,Below.refl _ _,fun _ _=>(zai hD 7 (by kernel_rfl) rfl rfl)⟩))
       | j+10,ho,hne=>exact absurd ho (by simp)
     case hend =>
     intro vs W MX hlen hall
     obtain ⟨u0,u1,u2,u3,u4,u5,u6,u7,u8,u9,rfl⟩:∃ u0 u1 u2 u3 u4 u5 u6 u7 u8 u9,vs=[u0,u1,u2,u3,u4,u5,u6,u7,u8,u9]:=by
      match vs,hlen with
      | [u0,u1,u2,u3,u4,u5,u6,u7,u8,u9],_=>exact ⟨_,_,_,_,_,_,_,_,_,_,rfl⟩
     obtain ⟨x,rfl,hxb,hxl,hxr⟩:=(show SlO b w.heap.size [.int .u8 1,.int .i64 co,.int .u8 0,.int .i64 0,.int .u8 4,.int .i64 0,.int .u8 7,.int .i64 nw] 2 W u9 from hall 9 _ 5 u9 rfl rfl rfl);have MX:=kd MX;have XL:=kd hxl;have XR:=kd hxr;clear hall hlen hxb hxl hxr
     simp only [putL,Act.put,List.setIfInBounds_toArray,List.set_cons_zero,List.set_cons_succ];go_wp2_with fail
     exact bodyPost_ret (zah rfl _ _ _ b [.int .u8 4,.int .i64 nw,.int .i64 co] _ rfl (MX.out.row (i:=0) rfl).range Tryz.underlying60 rfl (ye0 _ _ _)) rfl (by exact FIN2.out _ _ _ _ _ E.out _ _ MX.out.bw XL.out XR.out)
   · have ht7b:(t == 7)=false:=by simpa using ht7
     rw [if_neg (fun h=>ht7 h.2)] at HR
     by_cases ht8:t=8
     · subst ht8
       rw [if_pos ⟨rfl,rfl⟩] at HR;have E:=kd (show R=(⟨7,0,co⟩,[⟨5,0,0,0⟩,⟨7,0,0,0⟩]) by rw [← HR.out]);clear HR FIN0 FIN1 hs;go_upto_region 11 with (fail);clear y0 y2
       refine ye4 (by kernel_rfl) (by kernel_rfl) (fun (i:Nat) (W:World) (v:Value)=>match i with
        | 0=>v=(.agg ([.int .u8 7,.int .i64 0,.int .i64 co]:List Value).toArray)
        | 1=>v=(.agg #[.int .u8 5,.int .i64 0,.int .u8 0,.int .i64 0])
        | 2=>v=(.agg ([.int .u8 7,.int .i64 0,.int .u8 0,.int .i64 0]:List Value).toArray)
        | 3=>SlO b w.heap.size [.int .u8 5,.int .i64 0,.int .u8 0,.int .i64 0,.int .u8 7,.int .i64 0,.int .u8 0,.int .i64 0] 2 W v
        | 5=>SlO b w.heap.size [.int .u8 5,.int .i64 0,.int .u8 0,.int .i64 0,.int .u8 7,.int .i64 0,.int .u8 0,.int .i64 0] 2 W v
        | _=>True) 4 0 4 54 b 60 [.int .u8 0,.int .i64 0,.int .i64 0] [.int .u8 7,.int .i64 0,.int .i64 co] (by kernel_rfl) MB.out _ _ rfl rfl rfl rfl (by kernel_rfl) rfl rfl rfl (by kernel_rfl) (fun _ _ h=>h) rfl (ye0 _ _ _) (one3 _ _ _) ?hAm ?hAs ?hstep ?hend
       case hAm =>
        intro i v W W' hb h
        rcases i with _|_|_|_|_|_|i
        all_goals first
         | exact h
         | exact SlO.below h hb
       case hAs =>
        intro i v W h
        rcases i with _|_|_|_|_|_|i
        all_goals first
         | exact h
         | exact SlO.set h
       case hstep =>
        intro i o hne ho a' W cs MW hF hD
        match i,ho,hne with
         | 0,ho,hne =>
           obtain rfl:=zSi ho;exact (zaf ho rfl (zf4 60 (.tmp 6) rfl ge 0 [.int .u8 7,.int .i64 0,.int .i64 co] _ ((zap hF (by kernel_rfl)).trans rfl) ((MW.row (i:=2) rfl).range) Tryz.underlying60 rfl (ye0 _ _ _) ⟨_,rfl,Below.refl _ _,fun _ _=>rfl⟩))
         | 1,ho,hne =>
           obtain rfl:=zSi ho
           exact (zaf ho rfl (zfq 109 _ rfl [(0,.int .u8 5)] (by first|(simp only [List.map_toArray,List.map_cons,List.map_nil];rfl)|simp only [List.map_toArray,List.map_cons,List.map_nil]) #[.int .u8 5,.int .i64 0,.int .u8 0,.int .i64 0] (by kernel_rfl) ⟨_,rfl,Below.refl _ _,fun _ _=>rfl⟩))
         | 2,ho,hne =>
           obtain rfl:=zSi ho;exact (zaf ho rfl (zf4 109 (.tmp 7) rfl go 0 [.int .u8 7,.int .i64 0,.int .u8 0,.int .i64 0] _ ((zap hF (by kernel_rfl)).trans rfl) ((MW.row (i:=1) rfl).range) Tryz.underlying109 rfl (yfc _ _ _ _) ⟨_,rfl,Below.refl _ _,fun _ _=>rfl⟩))
         | 3,ho,hne =>
           obtain rfl:=zSi ho;have hx0:a'.eval (.tmp 55) = .agg #[.int .u8 5,.int .i64 0,.int .u8 0,.int .i64 0]:=(zai hD 1 (by kernel_rfl) rfl rfl);have hx1:a'.eval (.tmp 56) = .agg #[.int .u8 7,.int .i64 0,.int .u8 0,.int .i64 0]:=(zai hD 2 (by kernel_rfl) rfl rfl)
           exact (zaf ho rfl (yfg (.tmp 55) (.tmp 56) rfl _ _ _ _ _ _ _ _ hx0 hx1 fun hr=>⟨_,rfl,zBr.alloc zNr _,fun _ _=>⟨_,rfl,Nat.ne_of_gt (MW.row (i:=0) rfl).lt,MW.bw.size,hr⟩⟩))
         | 4,ho,hne=>exact absurd rfl hne
         | 5,ho,hne =>
           obtain rfl:=zSi ho;exact (zaf ho rfl (zb5 (.tmp 57) (.inr rfl) ⟨_,rfl,Below.refl _ _,fun _ _=>(zai hD 3 (by kernel_rfl) rfl rfl)⟩))
         | j+6,ho,hne=>exact absurd ho (by simp)
       case hend =>
       intro vs W MX hlen hall
       obtain ⟨u0,u1,u2,u3,u4,u5,rfl⟩:∃ u0 u1 u2 u3 u4 u5,vs=[u0,u1,u2,u3,u4,u5]:=by
        match vs,hlen with
        | [u0,u1,u2,u3,u4,u5],_=>exact ⟨_,_,_,_,_,_,rfl⟩
       obtain ⟨x,rfl,hxb,hxl,hxr⟩:=(show SlO b w.heap.size [.int .u8 5,.int .i64 0,.int .u8 0,.int .i64 0,.int .u8 7,.int .i64 0,.int .u8 0,.int .i64 0] 2 W u5 from hall 5 _ 5 u5 rfl rfl rfl);have MX:=kd MX;have XL:=kd hxl;have XR:=kd hxr;clear hall hlen hxb hxl hxr
       simp only [putL,Act.put,List.setIfInBounds_toArray,List.set_cons_zero,List.set_cons_succ];go_wp2_with fail
       exact bodyPost_ret (zah rfl _ _ _ b [.int .u8 7,.int .i64 0,.int .i64 co] _ rfl (MX.out.row (i:=0) rfl).range Tryz.underlying60 rfl (ye0 _ _ _)) rfl (by exact FIN2.out _ _ _ _ _ E.out _ _ MX.out.bw XL.out XR.out)
     · have ht8b:(t == 8)=false:=by simpa using ht8
       have E:=kd (show R=(⟨4,wt,co⟩,[]) by rw [← HR.out];simp [*]);have RMB:=kd (MB.out.row (i:=4) rfl);clear HR FIN1 FIN2 hs;go_upto_region 12 with (fail);clear y0 y2
       go_wp2_with (first
        | (with_reducible refine zab rfl 60 (.tmp 2) rfl RMB.out rfl Tryz.underlying60 rfl (ye0 _ _ _) ?_)
        | (with_reducible refine zad MB.out 0 rfl 60 (.tmp 4) (.tmp 58) rfl [.int .u8 4,.int .i64 wt,.int .i64 co] _ rfl rfl rfl rfl ?hl ?hz ?h1 ?hh))
       case hl=>exact ye1 _ _ _ _ _ _
       case hz=>exact ye0 _ _ _
       case h1=>exact one3 _ _ _
       case hh =>
       intro w6 M6;go_wp2_with fail;exact bodyPost_ret (zah rfl _ _ _ b [.int .u8 4,.int .i64 wt,.int .i64 co] _ rfl (M6.out.row (i:=0) rfl).range Tryz.underlying60 rfl (ye0 _ _ _)) rfl (by exact FIN0.out _ _ _ E.out _ M6.out.bw)
 · have hk5b:(k == 5)=false:=by simpa using hk5
   have E:=kd (show R=(⟨4,wt,co⟩,[]) by rw [← HR.out];simp [*]);have RMB:=kd (MB.out.row (i:=4) rfl);clear HR FIN1 FIN2 hs;go_upto_region 12 with (fail);clear y0 y2
   go_wp2_with (first
    | (with_reducible refine zab rfl 60 (.tmp 2) rfl RMB.out rfl Tryz.underlying60 rfl (ye0 _ _ _) ?_)
    | (with_reducible refine zad MB.out 0 rfl 60 (.tmp 4) (.tmp 58) rfl [.int .u8 4,.int .i64 wt,.int .i64 co] _ rfl rfl rfl rfl ?hl ?hz ?h1 ?hh))
   case hl=>exact ye1 _ _ _ _ _ _
   case hz=>exact ye0 _ _ _
   case h1=>exact one3 _ _ _
   case hh =>
   intro w6 M6;go_wp2_with fail;exact bodyPost_ret (zah rfl _ _ _ b [.int .u8 4,.int .i64 wt,.int .i64 co] _ rfl (M6.out.row (i:=0) rfl).range Tryz.underlying60 rfl (ye0 _ _ _)) rfl (by exact FIN0.out _ _ _ E.out _ M6.out.bw)
end Go.Proofs.YtfnmkedncfdceaaGreatDoor
