/- Contract: the cursor's listed, where the text has no bracket. And what stands behind it. -/
import Derived.Test.YtfnmkedncfdceaaGreatDoorAd
set_option linter.unusedVariables false
set_option linter.unusedSimpArgs false
set_option maxRecDepth 100000
namespace Go.Proofs.YtfnmkedncfdceaaGreatDoor
open Go.RowKit

theorem zbq (a b c:Value):(Tryz.prog.info? 155).map (·.size)=some [a,b,c].length:=show (Tryz.prog.info? 155).map (·.size)=some 3 by kernel_rfl
theorem zwm {a b c d e f:Value}:[a,b,c].length=[d,e,f].length:=rfl
theorem zfl (a b:ByteArray) (c:Bool):∀ u∈[Value.string a,.string b,.bool c],u.oneCell'=true:=fun u hu=>by
 simp at hu
 rcases hu with rfl|rfl|rfl<;>rfl
theorem zav {P:Program} {ops:Array Oper} {rest:List Oper} {op:Oper} {a:Act} {w:World} {Q:Exit→Act→World→Prop} (hgd:op.guard=none) (ty:TypeId) (x y:Operand) (ho:op.op = .store ty x y) {b:Nat} {T:TypeId} {vs:List Value} (hr:Row w b T vs) (us:List Value)
  (hx:a.eval x = .pointer (some ⟨b,0,none⟩)) (hy:a.eval y = .agg us.toArray) (hl:vs.length=us.length) (hi:(P.info? ty).map (·.size)=some us.length) (h1:∀ u∈us,u.oneCell'=true)
  (h:∀ w',Hid (Row w' b T us)→Hid (w.grownBy w' (some b))→wpList P ops Q rest (a.put op.dst undef) w'):wpList P ops Q (op::rest) a w:=
 zbx (W0:={ w with heap:=#[] }) hgd ty x y ho hr us hx hy hl hi h1 ⟨rfl,rfl,rfl,Nat.zero_le _,fun k hk=>absurd hk (by simp)⟩ zNz
  fun w' k1 k2 k3=>h w' k1 (kd ⟨k2.out.os,k2.out.tape,k2.out.output,Nat.le_of_eq k3.out.1.symm,fun k _ hn=>k3.out.2 k (fun e=>hn (by rw [e]))⟩)
theorem za3 {fn:Func} {t u v:Tmp} {ty:TypeId} (h:fn.results=#[.cell t ty,.tmp u,.tmp v]) (tmps:Array Value) (P:Program) (w:World) (b:Nat) (cs:List Value) (d:TypeDesc)
  (ht:tmps.getD t undef = .pointer (some ⟨b,0,none⟩)) (hc:w.rangeAt b 0 cs) (hu:P.underlying ty=some d) (hd:d.isRow=true) (hi:(P.info? ty).map (·.size)=some cs.length) :
  (results fn tmps).run P w = .ok (.tuple #[.agg cs.toArray,tmps.getD u undef,tmps.getD v undef]) w:=by
 have hl:=run_loadVar_mid (P:=P) w b 0 ty cs d hc hu hd hi;simp only [results,h];simp [-Array.getD_eq_getD_getElem?,ht,asAddr,hl]
structure LM (w:World) (b:Nat) (s:ByteArray) (a rb pb:Nat) (zs ps:List Value) (w':World):Prop where
 c:CG w b s a w'
 rr:Row w' rb 155 zs
 rp:Row w' pb 155 ps
 g1:w.heap.size≤rb
 g2:w.heap.size≤pb
 ne:rb≠pb
 lt:b<w.heap.size
section
variable {w w1 w2 : World} {b a a' rb pb : Nat} {s : ByteArray} {zs ps us : List Value}
theorem LM.call (h:LM w b s a rb pb zs ps w1) (hb:Below w1.heap.size w1 w2):LM w b s a rb pb zs ps w2:=⟨h.c.call hb,h.rr.below hb,h.rp.below hb,h.g1,h.g2,h.ne,h.lt⟩
theorem LM.cur (h:LM w b s a rb pb zs ps w1) (hg:CG w1 b s a' w2):LM w b s a' rb pb zs ps w2:=
 ⟨h.c.trans hg,h.rr.heap (hg.g.block rb h.rr.lt (fun e=>by injection e with e;have:=h.g1;have:=h.lt;omega)),h.rp.heap (hg.g.block pb h.rp.lt (fun e=>by injection e with e;have:=h.g2;have:=h.lt;omega)),h.g1,h.g2,h.ne,h.lt⟩
theorem LM.cset (h:LM w b s a rb pb zs ps w1) (a':Nat) {z:Int} (hz:z=a'):LM w b s a' rb pb zs ps (w1.setCell ⟨b,1,none⟩ (.int .i64 z)):=h.cur ((CG.refl h.c.r).set a' hz)
theorem LM.putp (h:LM w b s a rb pb zs ps w1) (hr:Row w2 pb 155 us) (hg:w1.grownBy w2 (some pb)):LM w b s a rb pb zs us w2:=
 ⟨⟨h.c.r.heap (hg.block b h.c.r.lt (fun e=>by injection e with e;have:=h.g2;have:=h.lt;omega)),h.c.g.andThen hg (fun j hj=>by injection hj with hj;subst hj;exact .inl h.g2)⟩,h.rr.heap (hg.block rb h.rr.lt (fun e=>h.ne (by injection e))),hr,h.g1,h.g2,h.ne,h.lt⟩
theorem LM.putr (h:LM w b s a rb pb zs ps w1) (hr:Row w2 rb 155 us) (hg:w1.grownBy w2 (some rb)):LM w b s a rb pb us ps w2:=
 ⟨⟨h.c.r.heap (hg.block b h.c.r.lt (fun e=>by injection e with e;have:=h.g1;have:=h.lt;omega)),h.c.g.andThen hg (fun j hj=>by injection hj with hj;subst hj;exact .inl h.g1)⟩,hr,h.rp.heap (hg.block pb h.rp.lt (fun e=>h.ne (by injection e with e;exact e.symm))),h.g1,h.g2,h.ne,h.lt⟩
theorem LM.pset (h:LM w b s a rb pb zs ps w1) (i:Nat) (u:Value):LM w b s a rb pb zs (ps.set i u) (w1.setCell ⟨pb,i,none⟩ u):=h.putp (h.rp.set i u) (zl0 u (zr2 _ _))
end
theorem zs3 {w:World} {b i:Nat} {T:TypeId} {vs:List Value} {v:Value} (h:Row w b T vs) (hv:vs[i]? = some v):w.setCell ⟨b,i,none⟩ v=w:=by
 have he:(w.setCell ⟨b,i,none⟩ v).heap=w.heap:=by
  refine Array.ext_getElem? fun k => ?_
  by_cases hk:k=b
  · subst hk
    have h2:=h.set i v;obtain ⟨hl,rfl⟩:=List.getElem?_eq_some_iff.1 hv;rw [List.set_getElem_self hl] at h2;exact h2.trans h.symm
  · exact Below.heap_setCell w ⟨b,i,none⟩ v k hk
 have hw:w.setCell ⟨b,i,none⟩ v={ w with heap:=(w.setCell ⟨b,i,none⟩ v).heap }:=rfl;rw [hw,he]
theorem zjw {w:World} {b:Nat} {T:TypeId} {vs:List Value} (h:Row w b T vs):∀ (us:List Value) (o:Nat),(∀ j u,us[j]? = some u→vs[o+j]? = some u)→w.setCells b o us=w
 | [],_,_=>rfl
 | u::us,o,hu=>by
   show (w.setCell ⟨b,o,none⟩ u).setCells b (o+1) us=w;rw [zs3 (i:=o) h (by simpa using hu 0 u rfl)];exact zjw h us (o+1) (fun j x hx=>by rw [Nat.add_assoc,Nat.add_comm 1 j];exact hu (j+1) x hx)
theorem zh5 {P:Program} {o:Oper} {a:Act} {w:World} {K:Act→Prop} (ty:TypeId) (x y:Operand) (ho:o.op = .store ty x y) {b:Nat} {T:TypeId} (vs:List Value) (hr:Row w b T vs) (hx:a.eval x = .pointer (some ⟨b,0,none⟩)) (hy:a.eval y = .agg vs.toArray)
  (hi:(P.info? ty).map (·.size)=some vs.length) (h1:∀ u∈vs,u.oneCell'=true) (h:K (a.put o.dst undef)):o.quiet P a (fun w' => ∃ y:BW w,w'=y.w) K:=
 ⟨undef,fun w' ⟨z,hz⟩=>by
   subst hz;have hR:=hr.below z.h
   have hs:vs.toArray.size=vs.length:=by simp
   unfold Oper.quietAt execOp;simp only [ho,hx,hy,Instr.storeAt,Instr.sureAddr,Sem.run_bind,Sem.run_pure,Result.andThen_ok,run_storeVar_mid z.w b 0 ty vs.toArray (by rw [hs];exact hR.there) (by rw [hs];exact hi) (all_oneCell_toArray h1)]
   rw [zjw hR vs 0 (fun j u hu=>by rw [Nat.zero_add];exact hu)]
   exact ⟨rfl,rfl⟩,h⟩
def zio (w:World) (b:Nat) (s:ByteArray) (R:Except (Nat × Int) (Pm × Nat)) (e:Ending) (w':World):Prop:=match R with
 | .error q=>e = .returned (.tuple #[.agg #[.string ⟨#[]⟩,.string ⟨#[]⟩,.bool false],.int .i64 (q.1:Nat),.int .u8 q.2])∧∃ a',CG w b s a' w'
 | .ok q=>e = .returned (.tuple #[.agg #[.string (strOfNums q.1.n),.string (strOfNums q.1.v),.bool q.1.h],.int .i64 0,.int .u8 0])∧CG w b s q.2 w'
theorem zio.bad {w w':World} {b a' z:Nat} {k:Int} {s:ByteArray} {R:Except (Nat × Int) (Pm × Nat)} (h:R = .error (z,k)) (hc:CG w b s a' w'):zio w b s R (.returned (.tuple #[.agg #[.string ⟨#[]⟩,.string ⟨#[]⟩,.bool false],.int .i64 (z:Nat),.int .u8 k])) w':=by
 subst h;exact ⟨rfl,a',hc⟩
theorem zio.good {w w':World} {b a':Nat} {n v:List Int} {h:Bool} {s:ByteArray} {R:Except (Nat × Int) (Pm × Nat)} (hR:R = .ok (⟨n,v,h⟩,a')) (hc:CG w b s a' w'):zio w b s R (.returned (.tuple #[.agg #[.string (strOfNums n),.string (strOfNums v),.bool h],.int .i64 0,.int .u8 0])) w':=by
 subst hR;exact ⟨rfl,hc⟩
theorem zb1 (l:List Int):((strOfNums l).toList == ([]:List UInt8))=l.isEmpty:=by
 cases l with
 | nil=>rw [show (strOfNums [])=⟨#[]⟩ from rfl,List.isEmpty_nil,beq_iff_eq,zhx]
 | cons x l =>
   rw [List.isEmpty_cons,beq_eq_false_iff_ne,Ne,zhx];intro h;have:=congrArg ByteArray.size h;rw [zaq,List.length_cons,show (ByteArray.mk #[]).size=0 from rfl] at this;omega
theorem zf5 {X:List Int} {a b:Nat} (h:b≤X.length) (hab:a≤b):(subL X a b).isEmpty=decide (b=a):=by
 rw [Bool.eq_iff_iff,List.isEmpty_iff,← List.length_eq_zero_iff,zdr h];simp;omega
theorem ztm (l:List Int):(lowS l).isEmpty=l.isEmpty:=by cases l<;>rfl
theorem zg5 {X:List Int} {a:Nat} {c:Int} (h:a<X.length∧X.getD a 0=c):zcw X a c=true:=by unfold zcw;rw [decide_eq_true h.1,h.2];simp
theorem zjf {X:List Int} {a:Nat} {c:Int} (h:¬ (a<X.length∧X.getD a 0=c)):zcw X a c=false:=by
 rw [Bool.eq_false_iff];unfold zcw;intro h2;simp at h2;exact h ⟨h2.1,by simpa using h2.2⟩

def KINDS:List (List Int × Int):=[
 ([70,114,111,109],1),
 ([84,111],1),
 ([67,111,110,116,97,99,116],1),
 ([82,111,117,116,101],1),
 ([82,101,99,111,114,100,45,82,111,117,116,101],1),
 ([80,97,116,104],1),
 ([83,101,114,118,105,99,101,45,82,111,117,116,101],1),
 ([82,101,102,101,114,45,84,111],1),
 ([82,101,102,101,114,114,101,100,45,66,121],1),
 ([82,101,112,108,121,45,84,111],1),
 ([86,105,97],2),
 ([67,83,101,113],3),
 ([82,65,99,107],4),
 ([67,111,110,116,101,110,116,45,76,101,110,103,116,104],5),
 ([69,120,112,105,114,101,115],5),
 ([77,97,120,45,70,111,114,119,97,114,100,115],5),
 ([77,105,110,45,69,120,112,105,114,101,115],5),
 ([82,83,101,113],5),
 ([67,111,110,116,101,110,116,45,68,105,115,112,111,115,105,116,105,111,110],6),
 ([67,111,110,116,101,110,116,45,84,121,112,101],6),
 ([69,118,101,110,116],6),
 ([77,105,110,45,83,69],6),
 ([83,101,115,115,105,111,110,45,69,120,112,105,114,101,115],6),
 ([83,117,98,115,99,114,105,112,116,105,111,110,45,83,116,97,116,101],6),
 ([65,99,99,101,112,116],7),
 ([65,108,108,111,119],7),
 ([65,108,108,111,119,45,69,118,101,110,116,115],7),
 ([80,114,111,120,121,45,82,101,113,117,105,114,101],7),
 ([82,101,113,117,105,114,101],7),
 ([83,117,112,112,111,114,116,101,100],7),
 ([85,110,115,117,112,112,111,114,116,101,100],7)
]
def zkc (c:List Int):Int:=((KINDS.find? fun q=>q.1 == c).map (·.2)).getD 0
def MANY5:List (List Int):=[[67,111,110,116,97,99,116],[80,97,116,104],[82,101,99,111,114,100,45,82,111,117,116,101],[82,111,117,116,101],[83,101,114,118,105,99,101,45,82,111,117,116,101]
]
def zp7 (c:List Int):Bool:=MANY5.any (fun q=>q == c) || (zkc c == 2 || zkc c == 7)
def zp6 (nm:List Int):Bool:=match zbr nm with
 | some c=>zp7 c
 | none=>false
def ze2 (v:List Int):Except Int (List (List Int)):=
 if (zde v 44).2.2≠0 then .error (zde v 44).2.2
 else if ((zde v 44).1.map (·.2)).all (fun p => !p.isEmpty)=true then .ok ((zde v 44).1.map (·.2)) else .error 5
def zd9 (v:List Int):List (List Int):=match ze2 v with
 | .ok l=>l
 | .error _=>[v]
def hitN (C:Option (List Int)) (h:ByteArray × ByteArray):Bool:=eqN (zbr (zaa h.1)) C
def getH (l:List (ByteArray × ByteArray)) (nm:List Int):Option Nat:=l.findIdx? (hitN (zbr nm))
def allH (l:List (ByteArray × ByteArray)) (nm:List Int):List (List Int):=(l.filter (hitN (zbr nm))).flatMap fun h=>if zp6 nm=true then zd9 (zaa h.2) else [zaa h.2]

theorem zlo {a b:Int} (h:a=b):Ending.returned (.int .u8 a) = .returned (.int .u8 b):=by rw [h]
theorem zgs (c:Int) (w:World) (h0:0≤c) (h1:c<256):Calls Tryz.prog 153 #[.int .u8 c] w fun e w'=>e = .returned (.int .u8 (lowC c))∧w=w':=by
 by_cases hr:65≤c∧c≤90
 · have E:=kd (show lowC c=c+32 from if_pos hr)
   obtain ⟨h65,h90⟩:=hr
   have d1:decide (65≤c)=true:=by simp [h65]
   have d2:decide (c≤90)=true:=by simp [h90]
   go_enter Tryz.func153,Tryz.ntmps153
   go_wp2_with fail;go_ret;exact ⟨zlo E.out.symm,rfl⟩
 · have E:=kd (show lowC c=c from if_neg hr)
   have d0:decide (65≤c)=false∨(decide (65≤c)=true∧decide (c≤90)=false):=by simp;omega
   clear hr
   rcases d0 with d1|⟨d1,d2⟩
   all_goals
    go_enter Tryz.func153,Tryz.ntmps153
    go_wp2_with fail;go_ret;exact ⟨zlo E.out.symm,rfl⟩
theorem zlj (c:Int) (w:World) (h0:0≤c) (h1:c<256):Calls Tryz.prog 112 #[.int .u8 c] w fun e w'=>e = .returned (.int .u8 (upC c))∧w=w':=by
 by_cases hr:97≤c∧c≤122
 · have E:=kd (show upC c=c - 32 from if_pos hr)
   obtain ⟨h65,h90⟩:=hr
   have d1:decide (97≤c)=true:=by simp [h65]
   have d2:decide (c≤122)=true:=by simp [h90]
   go_enter Tryz.func112,Tryz.ntmps112
   go_wp2_with fail;go_ret;exact ⟨zlo E.out.symm,rfl⟩
 · have E:=kd (show upC c=c from if_neg hr)
   have d0:decide (97≤c)=false∨(decide (97≤c)=true∧decide (c≤122)=false):=by simp;omega
   clear hr
   rcases d0 with d1|⟨d1,d2⟩
   all_goals
    go_enter Tryz.func112,Tryz.ntmps112
    go_wp2_with fail;go_ret;exact ⟨zlo E.out.symm,rfl⟩
theorem zwi {c:Int} (h:∀ q∈zyh,c≠q.1):zfy c=[]:=by
 unfold zfy;rw [List.find?_eq_none.2 (fun q hq e=>h q hq (beq_iff_eq.1 e).symm)]
 rfl
theorem zoi (c:Int) (w:World) (h0:0≤c) (h1:c<256):Calls Tryz.prog 152 #[.int .u8 c] w fun e w'=>e = .returned (.string (strOfNums (zfy c)))∧w=w':=by
 rcases (show c=98∨c=99∨c=101∨c=102∨c=105∨c=107∨c=108∨c=109∨c=111∨c=114∨c=115∨c=116∨c=117∨c=118∨c=120∨(c≠98∧c≠99∧c≠101∧c≠102∧c≠105∧c≠107∧c≠108∧c≠109∧c≠111∧c≠114∧c≠115∧c≠116∧c≠117∧c≠118∧c≠120) by omega) with
  rfl|rfl|rfl|rfl|rfl|rfl|rfl|rfl|rfl|rfl|rfl|rfl|rfl|rfl|rfl|⟨n1,n2,n3,n4,n5,n6,n7,n8,n9,n10,n11,n12,n13,n14,n15⟩
 iterate 15
  · go_enter Tryz.func152,Tryz.ntmps152
    go_wp2_with fail;go_ret;exact ⟨rfl,rfl⟩
 have E:=kd (zwi (c:=c) (by
  intro q hq;simp only [zyh,List.mem_cons,List.not_mem_nil,or_false] at hq
  rcases hq with rfl|rfl|rfl|rfl|rfl|rfl|rfl|rfl|rfl|rfl|rfl|rfl|rfl|rfl|rfl<;>assumption))
 have e1:(c == 98)=false:=by simp [n1]
 have e2:(c == 99)=false:=by simp [n2]
 have e3:(c == 101)=false:=by simp [n3]
 have e4:(c == 102)=false:=by simp [n4]
 have e5:(c == 105)=false:=by simp [n5]
 have e6:(c == 107)=false:=by simp [n6]
 have e7:(c == 108)=false:=by simp [n7]
 have e8:(c == 109)=false:=by simp [n8]
 have e9:(c == 111)=false:=by simp [n9]
 have e10:(c == 114)=false:=by simp [n10]
 have e11:(c == 115)=false:=by simp [n11]
 have e12:(c == 116)=false:=by simp [n12]
 have e13:(c == 117)=false:=by simp [n13]
 have e14:(c == 118)=false:=by simp [n14]
 have e15:(c == 120)=false:=by simp [n15]
 clear n1 n2 n3 n4 n5 n6 n7 n8 n9 n10 n11 n12 n13 n14 n15
 go_enter Tryz.func152,Tryz.ntmps152
 go_wp2_with fail;go_ret;exact ⟨by rw [E.out];rfl,rfl⟩
theorem zgy (s:ByteArray) (w:World) (hM:s.size≤4000000) :
  Calls Tryz.prog 111 #[.string s,.func (.func 153) #[] #[]] w fun e w'=>e = .returned (.string (strOfNums (lowS (zaa s))))∧Below w.heap.size w w':=by
 have HB:=kd (zas s);have HL:=kd (zac s)
 go_enter Tryz.func111,Tryz.ntmps111
 go_wp2_with (with_reducible refine zec rfl _ rfl s rfl ?_);intro cap w1 hcap R1 B1;generalize hX:zaa s=X at *;have HX:=kd hX;clear hX;go_wp2_with fail
 go_loopw [12] (fun v wr=>LWR w w1 X v wr) (fun v _=>s.size - (intOf v).toNat)
 case atStart=>exact ⟨0,Nat.zero_le _,rfl,kd ⟨R1.out,B1.out⟩⟩
 case round =>
  obtain ⟨k,hk,rfl,H⟩:=hrel;rw [HL.out] at hk
  by_cases hlt:k<s.size
  · have hlt':k<X.length:=by rw [HL.out];exact hlt
    have hd:decide (k<s.size)=true:=by simp;omega
    have hcell:=H.out.1.c k _ (zqa hlt');have hfz:=H.out.1.f k (by rw [zjg];exact hlt');have hx2:=HB.out _ (zbg hlt')
    have ST:=kd (show BR (wr.setCell ⟨w.heap.size,k,none⟩ (.int .u8 (lowC (X.getD k 0)))) w.heap.size (lowK X (k+1)) by
     rw [← zmw hlt']
     exact H.out.1.set (by rw [zjg];exact hlt') _)
    clear hlt';generalize X.getD k 0=x at *;have x0:=hx2.1;have x1:=hx2.2;clear hx2;go_wp2_with fail;refine (zgs x _ x0 x1).mono ?_;rintro e w' ⟨rfl,rfl⟩;go_wp2_with fail;go_roundw
    case rel=>exact ⟨k+1,by rw [HL.out];omega,by go_num,kd ⟨ST.out,H.out.2.setCell zNr _⟩⟩
    case measure=>simp [intOf];omega
  · obtain rfl:k=s.size:=by omega
    have HR:=H.out.1;rw [zrt (by rw [HL.out];exact Nat.le_refl _)] at HR;have cv:=HR.conv s.size cap (by rw [zbo];exact HL.out);clear HR;go_wp2_with fail;go_ret;exact ⟨by rw [HX.out];rfl,H.out.2⟩
theorem yav (c:Int) (b:Bool) (cb:Nat) (w:World) (h0:0≤c) (h1:c<256) (hc:w.cell? ⟨cb,0,none⟩=some (.bool b)) (hf:w.frozen? ⟨cb,0,none⟩=false) :
  Calls Tryz.prog 154 #[.int .u8 c,.pointer (some ⟨cb,0,none⟩)] w fun e w'=>e = .returned (.int .u8 (capC b c))∧w.setCell ⟨cb,0,none⟩ (.bool (capC b c == 45))=w':=by
 cases b with
 | true =>
   have E:=kd (show capC true c=upC c from rfl)
   go_enter Tryz.func154,Tryz.ntmps154
   go_wp2_with fail;refine (zlj c _ h0 h1).mono ?_;rintro e w' ⟨rfl,rfl⟩;generalize upC c=d at *;go_wp2_with fail;go_ret;exact ⟨zlo E.out.symm,by rw [E.out]⟩
 | false =>
   have E:=kd (show capC false c=lowC c from rfl)
   go_enter Tryz.func154,Tryz.ntmps154
   go_wp2_with fail;refine (zgs c _ h0 h1).mono ?_;rintro e w' ⟨rfl,rfl⟩;generalize lowC c=d at *;go_wp2_with fail;go_ret;exact ⟨zlo E.out.symm,by rw [E.out]⟩
def capK (xs:List Int) (k:Nat):List Int:=capL (xs.take k)++xs.drop k
theorem zna (xs:List Int) (k:Nat):(capK xs k).length=xs.length:=by
 unfold capK;rw [List.length_append,zgc,List.length_take,List.length_drop];omega
theorem yax {xs:List Int} {k:Nat} (h:xs.length≤k):capK xs k=capL xs:=by
 unfold capK;rw [List.take_of_length_le h,List.drop_of_length_le h,List.append_nil]
theorem zx0 {xs:List Int} {k:Nat} (h:k<xs.length):(capK xs k)[k]? = some (xs.getD k 0):=by
 unfold capK;rw [List.getElem?_append_right (by rw [zgc,List.length_take];omega),zgc,List.length_take,show k - min k xs.length=0 by omega,za7 xs h]
 rfl
theorem yaw {xs:List Int} {k:Nat} (h:k<xs.length):(capK xs k).set k (capC (capF (xs.take k)).2 (xs.getD k 0))=capK xs (k+1):=by
 unfold capK;rw [List.set_append_right _ _ (by rw [zgc,List.length_take];omega),zgc,List.length_take,show k - min k xs.length=0 by omega,za7 xs h,List.set_cons_zero,zcu xs h];unfold capL;rw [zo7];simp [zim]
theorem zx1 {xs:List Int} {k:Nat} (h:k<xs.length):(capF (xs.take (k+1))).2=(capC (capF (xs.take k)).2 (xs.getD k 0) == 45):=by rw [zcu xs h,zo7];rfl
theorem zov {w wr:World} {r:Option Nat} {p:Addr} {u:Value} (h:w.grownBy wr r) (hp:r=some p.block∨w.heap.size≤p.block):w.grownBy (wr.setCell p u) r:=by
 refine ⟨h.os,h.tape,h.output,by simpa [World.setCell] using h.size,fun k hk hr => ?_⟩
 have hne:k≠p.block:=by
  rintro rfl
  rcases hp with h1|h1
  · exact hr h1.symm
  · exact absurd h1 (Nat.not_le.2 hk)
 rw [Below.heap_setCell wr p u k hne];exact h.block k hk hr
theorem zql {w w1:World} (r:Option Nat) (h:Below w.heap.size w w1):w.grownBy w1 r:=⟨h.os,h.tape,h.output,h.size,fun k hk _=>h.block k hk⟩
theorem BR.other {w:World} {b:Nat} {xs:List Int} (h:BR w b xs) {p:Addr} (hp:p.block≠b) (u:Value):BR (w.setCell p u) b xs:=
 ⟨by simpa [World.setCell] using h.lt,fun j x hx=>by
   rw [World.cell?_setCell_other _ _ _ _ (by intro e;apply hp;rw [e])]
   exact h.c j x hx,fun j hj=>by rw [World.frozen?_setCell];exact h.f j hj⟩
structure CPX (w:World) (cb:Nat) (xs:List Int) (k:Nat) (wr:World):Prop where
 r:BR wr w.heap.size (capK xs k)
 c:wr.cell? ⟨cb,0,none⟩=some (.bool (capF (xs.take k)).2)
 f:wr.frozen? ⟨cb,0,none⟩=false
 g:w.grownBy wr (some cb)
theorem CPX.step {w wr:World} {cb:Nat} {xs:List Int} {k:Nat} (H:CPX w cb xs k wr) (hk:k<xs.length) (hcb:cb<w.heap.size) :
  CPX w cb xs (k+1) ((wr.setCell ⟨cb,0,none⟩ (.bool (capC (capF (xs.take k)).2 (xs.getD k 0) == 45))).setCell ⟨w.heap.size,k,none⟩ (.int .u8 (capC (capF (xs.take k)).2 (xs.getD k 0)))):=by
 refine ⟨?_,?_,?_,?_⟩
 · rw [← yaw hk]
   exact (H.r.other (p:=⟨cb,0,none⟩) (Nat.ne_of_lt hcb) _).set (by rw [zna];exact hk) _
 · rw [World.cell?_setCell_other _ _ _ _ (by intro e;injection e with e1;exact absurd e1 (Nat.ne_of_gt hcb)),zx1 hk]
   exact World.cell?_setCell_same _ _ _ H.c
 · rw [World.frozen?_setCell,World.frozen?_setCell]
   exact H.f
 · exact zov (zov H.g (.inl rfl)) (.inr zNr)
def CPR (w:World) (cb:Nat) (xs:List Int) (v:Value) (wr:World):Prop := ∃ k:Nat,k≤xs.length∧v = .int .i64 k∧Hid (CPX w cb xs k wr)
theorem zqs (s:ByteArray) (cb:Nat) (w:World) (hM:s.size≤4000000) (hcb:cb<w.heap.size) (hc:w.cell? ⟨cb,0,none⟩=some (.bool true)) (hf:w.frozen? ⟨cb,0,none⟩=false) :
  Calls Tryz.prog 111 #[.string s,.func (.func 154) #[] #[.pointer (some ⟨cb,0,none⟩)]] w fun e w'=>e = .returned (.string (strOfNums (capL (zaa s))))∧w.grownBy w' (some cb):=by
 have HB:=kd (zas s);have HL:=kd (zac s);have HC:=kd hc;have HF:=kd hf;clear hc hf
 go_enter Tryz.func111,Tryz.ntmps111
 go_wp2_with (with_reducible refine zec rfl _ rfl s rfl ?_);intro cap w1 hcap R1 B1;generalize hX:zaa s=X at *;have HX:=kd hX;clear hX
 have S0:=kd (show CPX w cb X 0 w1 from ⟨R1.out,(B1.out.cell (p:=⟨cb,0,none⟩) hcb).trans HC.out,(B1.out.frozen (p:=⟨cb,0,none⟩) hcb).trans HF.out,zql _ B1.out⟩);clear R1 B1 HC HF;go_wp2_with fail
 go_loopw [12] (fun v wr=>CPR w cb X v wr) (fun v _=>s.size - (intOf v).toNat)
 case atStart=>exact ⟨0,Nat.zero_le _,rfl,S0⟩
 case round =>
  clear S0;obtain ⟨k,hk,rfl,H⟩:=hrel;rw [HL.out] at hk
  by_cases hlt:k<s.size
  · have hlt':k<X.length:=by rw [HL.out];exact hlt
    have hd:decide (k<s.size)=true:=by simp;omega
    have hcell:=H.out.r.c k _ (zx0 hlt');have hfz:=H.out.r.f k (by rw [zna];exact hlt');have hx2:=HB.out _ (zbg hlt');have ST:=kd (H.out.step hlt' hcb);have kc:=H.out.c;have kf:=H.out.f;have wl:=H.out.r.lt
    have ncell:=H.out.r.other (p:=⟨cb,0,none⟩) (Nat.ne_of_lt hcb) (.bool (capC (capF (X.take k)).2 (X.getD k 0) == 45));have nc:=ncell.c k _ (zx0 hlt');have nf:=ncell.f k (by rw [zna];exact hlt');clear hlt' ncell;generalize X.getD k 0=x at *;generalize (capF (X.take k)).2=b at *
    have x0:=hx2.1;have x1:=hx2.2;clear hx2;have DB:=kd (zx3 b ⟨x0,x1⟩);go_wp2_with fail;refine (yav x b cb _ x0 x1 kc kf).mono ?_;rintro e w' ⟨rfl,rfl⟩;clear hcell hfz kc kf;generalize capC b x=d at *;go_wp2_with fail;go_roundw
    case rel=>exact ⟨k+1,by rw [HL.out];omega,by go_num,ST⟩
    case measure=>simp [intOf];omega
  · obtain rfl:k=s.size:=by omega
    have HR:=H.out.r;rw [yax (by rw [HL.out];exact Nat.le_refl _)] at HR;have cv:=HR.conv s.size cap (by rw [zgc];exact HL.out);clear HR;go_wp2_with fail;go_ret;exact ⟨by rw [HX.out];rfl,H.out.g⟩
end Go.Proofs.YtfnmkedncfdceaaGreatDoor
