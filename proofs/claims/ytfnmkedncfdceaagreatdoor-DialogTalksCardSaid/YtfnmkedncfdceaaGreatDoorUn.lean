/- Contract: address's number. And what stands behind it. -/
import Derived.Test.YtfnmkedncfdceaaGreatDoorLl
set_option linter.unusedVariables false
set_option linter.unusedSimpArgs false
set_option maxRecDepth 100000
set_option maxHeartbeats 4000000
namespace Go.Proofs.YtfnmkedncfdceaaGreatDoor
open Go.RowKit

theorem yb2:Asc7 ⟨#[59]⟩:=fun j b h=>by
 have hm:=List.mem_of_getElem? h;simp only [List.mem_cons,List.not_mem_nil,or_false] at hm;subst hm;decide
theorem zyr (sg:Bool) (d:List Int) (h:d.all (telC sg)=true):(⟨(Lib.trimPrefix (strOfNums ((if sg=true then [43] else [])++d)).data.toList [43]).toArray⟩:ByteArray)=strOfNums d:=by
 rw [strOfNums_data];unfold Lib.trimPrefix Lib.hasPrefix
 cases sg with
 | true=>simp [strOfNums,List.isPrefixOf]
 | false =>
   cases d with
   | nil=>rfl
   | cons c d =>
     rw [List.all_cons,Bool.and_eq_true] at h;have hc:=zhy h.1;rw [if_neg]
     · rfl
     · simp [List.isPrefixOf]
       intro e;have e2:=congrArg UInt8.toNat e;simp at e2;omega
theorem OX.put {w wr:World} {v u:Value} {xs:List Int} {b i:Nat} (H:OX w v xs wr) (hb:w.heap.size≤b) (hne:∀ g,v.ownBlock=some g→g≠b):OX w v xs (wr.setCell ⟨b,i,none⟩ u):=by
 refine ⟨⟨H.o.1,?_⟩,H.bw.setCell hb u⟩
 rcases H.o.2 with h0|⟨g,cap,cur,h1,h2,h3,h4⟩
 · exact .inl h0
 · exact .inr ⟨g,cap,cur,h1,h2,(Below.heap_setCell wr ⟨b,i,none⟩ u g (hne g (by rw [h1];rfl))).trans h3,h4⟩
theorem OX.ne {w wr:World} {v:Value} {xs:List Int} {b:Nat} {T:TypeId} {us:List Value} (H:OX w v xs wr) (h:Row wr b T us) (ht:T≠5):∀ g,v.ownBlock=some g→g≠b:=fun g hg e=>by
 subst e;unfold Row at h
 rcases H.o.2 with ⟨rfl,_⟩|⟨g2,cap,cur,rfl,_,h3,_⟩
 · cases hg
 · cases hg
   rw [h] at h3
   injection h3 with h3
   injection h3 with _ h3
   exact ht h3
structure TlX (w:World) (cb ub:Nat) (s:ByteArray) (a:Nat) (us:List Value) (l:List Int) (v:Value) (wr:World):Prop where
 c:Row wr cb 148 [.string s,.int .i64 a]
 u:Row wr ub 117 us
 gc:w.heap.size≤cb
 gu:w.heap.size≤ub
 o:OX w v l wr
section
variable {w wr w' : World} {cb ub a : Nat} {s : ByteArray} {us : List Value} {l : List Int} {v : Value}
theorem TlX.call (h:TlX w cb ub s a us l v wr) (hb:Below wr.heap.size wr w'):TlX w cb ub s a us l v w':=⟨h.c.below hb,h.u.below hb,h.gc,h.gu,h.o.step hb⟩
theorem TlX.cset (h:TlX w cb ub s a us l v wr) (a':Nat) {z:Int} (hz:z=a'):TlX w cb ub s a' us l v (wr.setCell ⟨cb,1,none⟩ (.int .i64 z)):=by
 subst hz;exact ⟨h.c.set 1 _,h.u.setOther (zft h.c h.u (by decide)) _,h.gc,h.gu,h.o.put h.gc (h.o.ne h.c (by decide))⟩
theorem TlX.mine (h:TlX w cb ub s a us l v wr):Mine w wr (LP cb ub s a us) []:=⟨h.o.bw,(fun r hr=>by
  simp only [LP,List.mem_cons,List.not_mem_nil,or_false] at hr
  rcases hr with rfl|rfl
  · exact ⟨h.c,h.gc⟩
  · exact ⟨h.u,h.gu⟩),(by
  have:=zft h.c h.u (by decide)
  simp [LP,this]),fun F hF=>by cases hF⟩
theorem TlX.of (h:Mine w wr (LP cb ub s a us) []):TlX w cb ub s a us [] (.slice none 0 0) wr:=⟨zbd h,zfx h,h.ge (i:=0) rfl,h.ge (i:=1) rfl,⟨World.ownsRow_nil _ _ _ _,h.bw⟩⟩
end
theorem zeu {w wr:World} {cb ub a0:Nat} {s:ByteArray} {us:List Value} {l:List Int} {v:Value} {ops:Array Oper} {rest:List Oper} {o:Oper} {a:Act} {Q:Exit→Act→World→Prop} (hgd:o.guard=none) (x y:Operand)
  (ho:o.op = .call { callee := .builtin .append,args:=#[x,y],argTypes:=#[29,29] }) (hs:a.eval x=v) (H:TlX w cb ub s a0 us l v wr) (c:Int) (hy:a.eval y = .slice (some ⟨wr.heap.size,0,none⟩) 1 1) (hb:l.length+1≤16777216)
  (h:∀ v' w',Hid (TlX w cb ub s a0 us (l++[c]) v' w')→wpList Tryz.prog ops Q rest (a.put o.dst v') w'):wpList Tryz.prog ops Q (o::rest) a (wr.alloc (.cells #[.int .u8 c] 5)):=
 zel hgd x y ho w.heap.size v l.length l hs (H.o.o.alloc _) (some ⟨wr.heap.size,0,none⟩) 1 1 [c] hy (ybk _ _) rfl ybl hb (H.o.base _) fun v' w' o1 g1 =>
  h v' w' (kd ⟨(H.c.alloc _).heap (g1.block cb (by rw [World.size_alloc];have:=H.c.lt;omega) (fun e=>H.o.ne H.c (by decide) cb e.symm rfl)),(H.u.alloc _).heap (g1.block ub (by rw [World.size_alloc];have:=H.u.lt;omega) (fun e=>H.o.ne H.u (by decide) ub e.symm rfl)),H.gc,H.gu,H.o.push o1 g1⟩)
def PhP (w:World) (cb ub:Nat) (s sc:ByteArray) (R:Except (Nat × Int) (List Int × Nat)) (r:Ending) (w':World):Prop:=match R with
 | .error q=>r = .returned (.tuple #[.int .i64 (q.1:Nat),.int .u8 q.2])∧Below w.heap.size w w'∧q.2≠0
 | .ok (u,b)=>r = .returned (.tuple #[.int .i64 0,.int .u8 0])∧Mine w w' (LP cb ub s b (uCs sc u [] 0)) []
theorem PhP.bad {w w':World} {cb ub z:Nat} {k:Int} {s sc:ByteArray} {R:Except (Nat × Int) (List Int × Nat)} (h:R = .error (z,k)) (hb:Below w.heap.size w w') (hk:k≠0):PhP w cb ub s sc R (.returned (.tuple #[.int .i64 (z:Nat),.int .u8 k])) w':=by
 subst h;exact ⟨rfl,hb,hk⟩
theorem PhP.good {w w':World} {cb ub b:Nat} {u:List Int} {s sc:ByteArray} {R:Except (Nat × Int) (List Int × Nat)} (hR:R = .ok (u,b)) (hb:Mine w w' (LP cb ub s b (uCs sc u [] 0)) []):PhP w cb ub s sc R (.returned (.tuple #[.int .i64 0,.int .u8 0])) w':=by
 subst hR;exact ⟨rfl,hb⟩
theorem zy7 (xs:List Int) (a:Nat):zd8 xs a=match telN (xs.take (zaj xs a [59])) (zcw xs a 43) (xs.length+1) (if zcw xs a 43=true then a+1 else a) [] with
 | .error i => .error (i,5)
 | .ok d=>if d=[] then .error (a,5) else if 30<d.length then .error (a,4) else .ok ((if zcw xs a 43=true then [43] else [])++d,zaj xs a [59]):=rfl
theorem zyt {xs:List Int} {sg:Bool} {f i:Nat} {acc:List Int} (hi:i<xs.length) (h:telC sg (xs.getD i 0)=true):telN xs sg (f+1) i acc=telN xs sg f (i+1) (acc++[xs.getD i 0]):=by
 conv=>lhs;unfold telN
 rw [if_neg (by omega),if_pos h]
theorem zys {xs:List Int} {sg:Bool} {f i:Nat} {acc:List Int} (hi:i<xs.length) (h:telC sg (xs.getD i 0)=false) (h2:telS (xs.getD i 0)=true):telN xs sg (f+1) i acc=telN xs sg f (i+1) acc:=by
 conv=>lhs;unfold telN
 rw [if_neg (by omega),if_neg (by rw [h];decide),if_pos h2]
theorem ycp {xs:List Int} {sg:Bool} {f i:Nat} {acc:List Int} (hi:i<xs.length) (h:telC sg (xs.getD i 0)=false) (h2:telS (xs.getD i 0)=false):telN xs sg (f+1) i acc = .error i:=by
 conv=>lhs;unfold telN
 rw [if_neg (by omega),if_neg (by rw [h];decide),if_neg (by rw [h2];decide)]
theorem ycn {xs:List Int} {sg:Bool} {f i:Nat} {acc:List Int} (hi:xs.length≤i):telN xs sg (f+1) i acc = .ok acc:=by
 conv=>lhs;unfold telN
 rw [if_pos hi]
theorem zsr {xs:List Int} {a:Nat} {st:List Int} (h:a<xs.length) (hc:st.contains (xs.getD a 0)=false):a+1≤zaj xs a st:=by
 have e:xs.drop a=xs.getD a 0::xs.drop (a+1):=by
  rw [List.drop_eq_getElem_cons h,List.getD_eq_getElem?_getD,List.getElem?_eq_getElem h];rfl
 unfold zaj zag;rw [e,List.takeWhile_cons,if_pos (by rw [hc];rfl),List.length_cons];omega
def TelR (w:World) (cb ub:Nat) (s sc:ByteArray) (k:Nat) (Z PL:List Int) (sg:Bool) (T:Except Nat (List Int)) (g:Nat) (v:Value) (wx:World):Prop:=
 ∃ (i f:Nat) (acc l:List Int) (v2:Value),i+g=k∧g<f∧l.length≤i∧v=v2∧Hid (l=PL++acc)∧Hid (T=telN Z sg f i acc)∧Hid (acc.all (telC sg)=true)∧Hid (TlX w cb ub s i (uCs sc [] [] 0) l v2 wx)
theorem yef {sg:Bool} {c:Int} (h1:48≤c) (h2:c≤57):telC sg c=true:=by
 unfold telC zbc;simp [h1,h2]
theorem znt {sg:Bool} {c:Int} (h1:¬ (48≤c∧c≤57)) (h2:sg=true∨(c≠42∧c≠35)):telC sg c=false:=by
 unfold telC zbc
 rcases h2 with rfl|⟨h3,h4⟩
 · simp;omega
 · simp [h3,h4];omega
theorem ycq (w wr:World) (cb ub a:Nat) (s sc:ByteArray) (H:Mine w wr (LP cb ub s a (uCs sc [] [] 0)) []) (ha:a≤s.size) (hs:s.size≤4000000) :
  Calls Tryz.prog 122 #[.pointer (some ⟨cb,0,none⟩),.pointer (some ⟨ub,0,none⟩)] wr (PhP w cb ub s sc (zd8 (zaa s) a)):=by
 have HM:=kd H;have HL:=zac s;have HB:=kd (zas s);obtain ⟨u1,u2⟩:=zbf (xs:=zaa s) (a:=a) (st:=[59]) (by rw [HL];exact ha);rw [HL] at u2;have UN:=kd (fun w=>zcm s ⟨#[59]⟩ a w hs ha (by decide) (by decide) yb2);simp only [show zaa ⟨#[59]⟩=[59] by rfl] at UN
 have SE:=kd (fun w wr (h:Mine w wr (LP cb ub s a (uCs sc [] [] 0)) [])=>zb4 wr cb a 43 s (zbd h));have PE:=kd (zy7 (zaa s) a)
 have ZG:=kd (fun i (h:i<zaj (zaa s) a [59])=>show ((zaa s).take (zaj (zaa s) a [59])).getD i 0=(zaa s).getD i 0 by
  rw [List.getD_eq_getElem?_getD,List.getD_eq_getElem?_getD,List.getElem?_take_of_lt h])
 have ZL:((zaa s).take (zaj (zaa s) a [59])).length=zaj (zaa s) a [59]:=by rw [List.length_take];omega
 have SP:=kd (fun (h:zcw (zaa s) a 43=true)=>show a+1≤zaj (zaa s) a [59] from by
  have h1:decide (a<(zaa s).length)=true∧((zaa s).getD a 0 == 43)=true:=by
   have h2:=h;unfold zcw at h2
   rwa [Bool.and_eq_true] at h2
  exact zsr (of_decide_eq_true h1.1) (by rw [eq_of_beq h1.2];rfl))
 have BAD:=kd (fun w' z k' (h:zd8 (zaa s) a = .error (z,k')) hb hk=>PhP.bad (w:=w) (w':=w') (cb:=cb) (ub:=ub) (z:=z) (k:=k') (s:=s) (sc:=sc) h hb hk)
 have GOOD:=kd (fun w' u b (hR:zd8 (zaa s) a = .ok (u,b)) hb=>PhP.good (w:=w) (w':=w') (cb:=cb) (ub:=ub) (b:=b) (u:=u) (s:=s) (sc:=sc) hR hb);generalize PhP w cb ub s sc (zd8 (zaa s) a)=PP at *;generalize zd8 (zaa s) a=R at *;generalize zaj (zaa s) a [59]=k at *
 generalize (zaa s).take k=Z at *;generalize zcw (zaa s) a 43=sg at *
 have PT:=kd (fun (d:List Int) (h:d.all (telC sg)=true) (w:World)=>(Tryz.strings_TrimPrefix (strOfNums ((if sg=true then [43] else [])++d)) ⟨#[43]⟩ w).mono (R':=fun e w'=>e = .returned (.string (strOfNums d))∧w=w') fun e w' h2=>⟨by rw [h2.1];exact congrArg (fun x=>Ending.returned (.string x)) (zyr sg d h),h2.2.symm⟩)
 have k0:wr.cell? ⟨cb,0,none⟩=some (.string s):=(zbd HM.out).cell 0;have k1:wr.cell? ⟨cb,1,none⟩=some (.int .i64 a):=(zbd HM.out).cell 1;have RG:=kd (zbd HM.out).text;clear H
 go_enter Tryz.func122,Tryz.ntmps122
 go_wp2_with (with_reducible refine wpList_load_mid rfl 146 (.tmp 18) rfl cb 0 rfl [.string s] _ RG.out Tryz.underlying146 rfl (ziu _) ?_);refine (UN.out _).mono ?_;rintro _ w2 ⟨rfl,hb2⟩;have M2:=kd (HM.out.call hb2);clear k0 k1 RG hb2 HM UN;go_wp2_with fail;refine (SE.out _ _ M2.out).mono ?_
 rintro _ _ ⟨rfl,nq3,rfl⟩;have M3:=kd (M2.out.call (zam w2 nq3));clear M2 SE;generalize w2.drewN nq3=w3 at *;have N3:=kd (TlX.of M3.out);clear M3;obtain ⟨b0,hb0⟩:∃ b0,(if sg=true then a+1 else a)=b0:=⟨_,rfl⟩
 obtain ⟨PL,hPL⟩:∃ PL:List Int,(if sg=true then [43] else [])=PL:=⟨_,rfl⟩;have HB0:=kd hb0;have HPL:=kd hPL
 have bk:b0≤k:=by
  cases sg with
  | true=>have:=SP.out rfl;rw [if_pos rfl] at hb0;omega
  | false=>rw [if_neg (by decide)] at hb0;omega
 have pl:PL.length≤b0:=by
  cases sg with
  | true=>rw [if_pos rfl] at hb0 hPL;subst hPL;subst hb0;simp
  | false=>rw [if_neg (by decide)] at hPL;subst hPL;simp
 rw [hb0,hPL] at PE;rw [hPL] at PT;clear hb0 hPL SP;go_upto_if 24 with (fail)
 go_cut [8] (fun v wx=>Hid (TlX w cb ub s b0 (uCs sc [] [] 0) PL v wx))
 case first =>
  cases sg with
  | false =>
    obtain rfl:=HB0.out;obtain rfl:=HPL.out;go_wp2_with fail;go_meet;exact N3
  | true =>
    obtain rfl:=HB0.out;obtain rfl:=HPL.out;go_wp2_with (with_reducible refine zeu rfl (.tmp 25) (.tmp 26) rfl rfl N3.out 43 rfl (by simp) ?_);intro v4 w4 N4;clear N3;have k1:w4.cell? ⟨cb,1,none⟩=some (.int .i64 a):=N4.out.c.cell 1
    have f1:w4.frozen? ⟨cb,1,none⟩=false:=N4.out.c.frozen 1;have N5:=kd (N4.out.cset (a+1) (z:=(a:Int)+1) (by push_cast;rfl));go_wp2_with fail;go_meet;exact N5
 case rest =>
 rename_i KK hKK;have N4:=kd hcut.out;clear hcut N3
 first|(refine hKK _ _ ?_;clear hKK KK)|skip
 clear HB0 HPL u1;obtain ⟨T,hT⟩:∃ T,telN Z sg ((zaa s).length+1) b0 []=T:=⟨_,rfl⟩;rw [hT] at PE;have TE0:=kd hT.symm;rw [HL] at TE0;have ZL2:=kd ZL;have HL2:=kd HL;clear hT ZL HL;go_wp2_with fail
 go_loopg [8,10] (k - b0) (fun g v _ wx=>TelR w cb ub s sc k Z PL sg T g v wx)
 case atStart=>exact ⟨b0,s.size+1,[],PL,_,by omega,by omega,pl,rfl,kd (by simp),TE0,kd rfl,N4⟩
 case round =>
  clear N4 TE0 bk pl;obtain ⟨i,f,acc,l,v2,hig,hgf,hl,rfl,LE,TE,AC,NI⟩:=hrel;have k0:wr.cell? ⟨cb,0,none⟩=some (.string s):=NI.out.c.cell 0;have k1:wr.cell? ⟨cb,1,none⟩=some (.int .i64 i):=NI.out.c.cell 1
  cases gk with
  | zero =>
    have hd:decide ((i:Int)<(k:Int))=false:=by simp;omega
    have T2:=kd (show T = .ok acc by obtain ⟨f',rfl⟩:∃ f',f=f'+1:=⟨f - 1,by omega⟩;rw [TE.out,ycn (by rw [ZL2.out];omega)])
    obtain rfl:i=k:=by omega
    obtain rfl:=LE.out;have cv:=zgb NI.out.o.o;have f1:wr.frozen? ⟨ub,1,none⟩=false:=NI.out.u.frozen 1;have c1:wr.cell? ⟨ub,1,none⟩=some (.string (strOfNums [])):=NI.out.u.cell 1
    have M5:=kd (show Mine w (wr.setCell ⟨ub,1,none⟩ (.string (strOfNums (PL++acc)))) (LP cb ub s i (uCs sc (PL++acc) [] 0)) [] from zg9 NI.out.mine 1 _)
    have RE:=kd (show R=if acc=[] then .error (a,5) else if 30<acc.length then .error (a,4) else .ok (PL++acc,i) by rw [PE.out,T2.out]);have PT1:=kd (PT.out acc AC.out);clear PT PE T2 TE LE AC ZG ZL2 HL2 hgf hig;go_upto_region 17 with (fail);clear f1 c1 k0 k1 cv NI
    generalize wr.setCell ⟨ub,1,none⟩ (.string (strOfNums (PL++acc)))=w5 at *;have c1:w5.cell? ⟨ub,1,none⟩=some (.string (strOfNums (PL++acc))):=(zfx M5.out).cell 1;go_wp2_with fail;refine (PT1.out _).mono ?_;rintro _ _ ⟨rfl,rfl⟩;clear c1 PT1
    cases hacc:acc with
    | nil =>
      have E:=kd (show R = .error (a,5) by rw [RE.out,if_pos hacc]);subst hacc;rw [show strOfNums []=⟨#[]⟩ from rfl];clear RE;go_wp2_with fail;exact BAD.out _ _ _ E.out M5.out.bw (by decide)
    | cons x y =>
      have LN:=zaq (x::y);have q0:=zb1 (x::y);rw [List.isEmpty_cons] at q0
      have q1:¬ (strOfNums (x::y)).toList=[]:=by simpa using q0
      rw [← hacc] at LN q0 q1 ⊢;have RE2:=kd (RE.out.trans (if_neg (by rw [hacc];simp)));clear RE hacc
      by_cases h30:30<acc.length
      · have E:=kd (RE2.out.trans (if_pos h30))
        have d3:decide ((30:Int)<(acc.length:Int))=true:=by simp;omega
        clear RE2 h30;go_wp2_with fail;exact BAD.out _ _ _ E.out M5.out.bw (by decide)
      · have E:=kd (RE2.out.trans (if_neg h30))
        have d3:decide ((30:Int)<(acc.length:Int))=false:=by simp;omega
        clear RE2 h30;go_wp2_with fail;exact GOOD.out _ _ _ E.out M5.out
  | succ g =>
    have hd:decide ((i:Int)<(k:Int))=true:=by simp;omega
    have hi:i<k:=by omega
    have hi2:i<s.size:=by omega
    have d1:=fun w=>zbe s (i:=i) hi2 (z:=(i:Int)) rfl w;have hx2:=HB.out _ (zbg (l:=zaa s) (i:=i) (by rw [HL2.out];exact hi2));obtain ⟨f,rfl⟩:∃ f',f=f'+1:=⟨f - 1,by omega⟩
    have T1:=kd (fun (h:telC sg ((zaa s).getD i 0)=true)=>show T=telN Z sg f (i+1) (acc++[(zaa s).getD i 0]) by rw [TE.out,zyt (by rw [ZL2.out];exact hi) (by rw [ZG.out i hi];exact h),ZG.out i hi])
    have T2:=kd (fun (h:telC sg ((zaa s).getD i 0)=false) (h2:telS ((zaa s).getD i 0)=true)=>show T=telN Z sg f (i+1) acc by rw [TE.out,zys (by rw [ZL2.out];exact hi) (by rw [ZG.out i hi];exact h) (by rw [ZG.out i hi];exact h2)])
    have T3:=kd (fun (h:telC sg ((zaa s).getD i 0)=false) (h2:telS ((zaa s).getD i 0)=false)=>show R = .error (i,5) by rw [PE.out,TE.out,ycp (by rw [ZL2.out];exact hi) (by rw [ZG.out i hi];exact h) (by rw [ZG.out i hi];exact h2)]);generalize (zaa s).getD i 0=c at *
    clear TE hi hi2;go_wp2_with fail
    go_quiet (fail)
    have N2:=kd (NI.out.call (zam wr nq));clear k0 k1 d1 hd NI;generalize wr.drewN nq=w2 at *;have k1:w2.cell? ⟨cb,1,none⟩=some (.int .i64 i):=N2.out.c.cell 1;have f1:w2.frozen? ⟨cb,1,none⟩=false:=N2.out.c.frozen 1;clear hx2 PT PE ZG ZL2 HL2 GOOD
    by_cases hdg:48≤c∧c≤57
    · have TC:=kd (yef (sg:=sg) hdg.1 hdg.2)
      have d2:decide (48≤c)=true:=by simp [hdg.1]
      have d3:decide (c≤57)=true:=by simp [hdg.2]
      clear hdg;have T4:=kd (T1.out (TC.out));clear T1 T2 T3 f1 k1;go_wp2_with (with_reducible refine zeu rfl (.tmp 75) (.tmp 77) rfl rfl N2.out c rfl (by omega) ?_);intro v3 w3 N3;clear N2;have k1:w3.cell? ⟨cb,1,none⟩=some (.int .i64 i):=N3.out.c.cell 1
      have f1:w3.frozen? ⟨cb,1,none⟩=false:=N3.out.c.frozen 1;have N4:=kd (N3.out.cset (i+1) (z:=(i:Int)+1) (by push_cast;rfl));have AC2:=kd (show (acc++[c]).all (telC _)=true by rw [List.all_append,AC.out];simpa using TC.out);go_wp2_with fail
      go_roundg g
      case measure=>omega
      case rel=>exact ⟨i+1,f,acc++[c],l++[c],_,by omega,by omega,by rw [List.length_append,List.length_singleton];omega,rfl,kd (by rw [LE.out,List.append_assoc]),T4,AC2,N4⟩
    · by_cases h42:c=42
      · subst h42
        cases sg with
        | false =>
          have T4:=kd (T1.out (show telC false 42=true by decide));clear T1 T2 T3 f1 k1;go_wp2_with (with_reducible refine zeu rfl (.tmp 75) (.tmp 77) rfl rfl N2.out 42 rfl (by omega) ?_);intro v3 w3 N3;clear N2;have k1:w3.cell? ⟨cb,1,none⟩=some (.int .i64 i):=N3.out.c.cell 1
          have f1:w3.frozen? ⟨cb,1,none⟩=false:=N3.out.c.frozen 1;have N4:=kd (N3.out.cset (i+1) (z:=(i:Int)+1) (by push_cast;rfl));have AC2:=kd (show (acc++[42]).all (telC _)=true by rw [List.all_append,AC.out];simpa using show telC false 42=true by decide)
          go_wp2_with fail
          go_roundg g
          case measure=>omega
          case rel=>exact ⟨i+1,f,acc++[42],l++[42],_,by omega,by omega,by rw [List.length_append,List.length_singleton];omega,rfl,kd (by rw [LE.out,List.append_assoc]),T4,AC2,N4⟩
        | true =>
          have E:=kd (T3.out (by decide) (by decide));clear T1 T2 T3;go_wp2_with fail;exact BAD.out _ _ _ E.out N2.out.o.bw (by decide)
      by_cases h35:c=35
      · subst h35
        cases sg with
        | false =>
          have T4:=kd (T1.out (show telC false 35=true by decide));clear T1 T2 T3 f1 k1;go_wp2_with (with_reducible refine zeu rfl (.tmp 75) (.tmp 77) rfl rfl N2.out 35 rfl (by omega) ?_);intro v3 w3 N3;clear N2;have k1:w3.cell? ⟨cb,1,none⟩=some (.int .i64 i):=N3.out.c.cell 1
          have f1:w3.frozen? ⟨cb,1,none⟩=false:=N3.out.c.frozen 1;have N4:=kd (N3.out.cset (i+1) (z:=(i:Int)+1) (by push_cast;rfl));have AC2:=kd (show (acc++[35]).all (telC _)=true by rw [List.all_append,AC.out];simpa using show telC false 35=true by decide)
          go_wp2_with fail
          go_roundg g
          case measure=>omega
          case rel=>exact ⟨i+1,f,acc++[35],l++[35],_,by omega,by omega,by rw [List.length_append,List.length_singleton];omega,rfl,kd (by rw [LE.out,List.append_assoc]),T4,AC2,N4⟩
        | true =>
          have E:=kd (T3.out (by decide) (by decide));clear T1 T2 T3;go_wp2_with fail;exact BAD.out _ _ _ E.out N2.out.o.bw (by decide)
      by_cases h45:c=45
      · subst h45
        have T4:=kd (T2.out (znt (by decide) (.inr (by decide))) (by decide));clear T1 T2 T3;have N4:=kd (N2.out.cset (i+1) (z:=(i:Int)+1) (by push_cast;rfl))
        cases sg
        all_goals
         go_wp2_with fail
         go_roundg g
         case measure=>omega
         case rel=>exact ⟨i+1,f,acc,l,_,by omega,by omega,by omega,rfl,LE,T4,AC,N4⟩
      by_cases h46:c=46
      · subst h46
        have T4:=kd (T2.out (znt (by decide) (.inr (by decide))) (by decide));clear T1 T2 T3;have N4:=kd (N2.out.cset (i+1) (z:=(i:Int)+1) (by push_cast;rfl))
        cases sg
        all_goals
         go_wp2_with fail
         go_roundg g
         case measure=>omega
         case rel=>exact ⟨i+1,f,acc,l,_,by omega,by omega,by omega,rfl,LE,T4,AC,N4⟩
      by_cases h40:c=40
      · subst h40
        have T4:=kd (T2.out (znt (by decide) (.inr (by decide))) (by decide));clear T1 T2 T3;have N4:=kd (N2.out.cset (i+1) (z:=(i:Int)+1) (by push_cast;rfl))
        cases sg
        all_goals
         go_wp2_with fail
         go_roundg g
         case measure=>omega
         case rel=>exact ⟨i+1,f,acc,l,_,by omega,by omega,by omega,rfl,LE,T4,AC,N4⟩
      by_cases h41:c=41
      · subst h41
        have T4:=kd (T2.out (znt (by decide) (.inr (by decide))) (by decide));clear T1 T2 T3;have N4:=kd (N2.out.cset (i+1) (z:=(i:Int)+1) (by push_cast;rfl))
        cases sg
        all_goals
         go_wp2_with fail
         go_roundg g
         case measure=>omega
         case rel=>exact ⟨i+1,f,acc,l,_,by omega,by omega,by omega,rfl,LE,T4,AC,N4⟩
      have q42:(c == 42)=false:=by simpa using h42
      have q35:(c == 35)=false:=by simpa using h35
      have q45:(c == 45)=false:=by simpa using h45
      have q46:(c == 46)=false:=by simpa using h46
      have q40:(c == 40)=false:=by simpa using h40
      have q41:(c == 41)=false:=by simpa using h41
      have E:=kd (T3.out (znt hdg (.inr ⟨h42,h35⟩)) (by unfold telS;rw [q45,q46,q40,q41];rfl))
      have n45:(c != 45)=true:=by simpa using h45
      have n46:(c != 46)=true:=by simpa using h46
      have n40:(c != 40)=true:=by simpa using h40
      have n41:(c != 41)=true:=by simpa using h41
      clear T1 T2 T3 h42 h35 h45 h46 h40 h41 q45 q46 q40 q41
      by_cases hlo:48≤c
      · have d2:decide (48≤c)=true:=by simp [hlo]
        have d3:decide (c≤57)=false:=by simp;omega
        clear hdg hlo
        cases sg<;>(go_wp2_with fail;exact BAD.out _ _ _ E.out N2.out.o.bw (by decide))
      · have d2:decide (48≤c)=false:=by simp;omega
        clear hdg hlo
        cases sg<;>(go_wp2_with fail;exact BAD.out _ _ _ E.out N2.out.o.bw (by decide))

theorem yan (s:ByteArray):(⟨(Lib.trimPrefix s.data.toList [43]).toArray⟩:ByteArray)=strOfNums (if decide ((zaa s).head? = some 43)=true then (zaa s).drop 1 else zaa s)∧Lib.hasPrefix s.data.toList [43]=decide ((zaa s).head? = some 43):=by
 obtain ⟨⟨L⟩⟩:=s;unfold Lib.trimPrefix Lib.hasPrefix zaa;have key:∀ r:List UInt8,strOfNums (r.map fun c=>(c.toNat:Int))=⟨r.toArray⟩:=fun r=>zbh ⟨r.toArray⟩
 cases L with
 | nil=>exact ⟨rfl,rfl⟩
 | cons c r =>
   by_cases hc:c=43
   · subst hc
     refine ⟨?_,rfl⟩;exact (key r).symm
   · have e1:List.isPrefixOf [43] (c::r)=false:=by
      simp [List.isPrefixOf];exact fun h=>hc h.symm
     have e2:decide (((c::r).map fun c=>(c.toNat:Int)).head? = some 43)=false:=by
      rw [decide_eq_false_iff_not];intro h;simp at h;exact hc (UInt8.toNat_inj.1 (by simpa using (by omega:c.toNat=43)))
     refine ⟨?_,?_⟩
     · show (⟨(if List.isPrefixOf [43] (c::r)=true then (c::r).drop 1 else (c::r)).toArray⟩:ByteArray)=strOfNums (if decide (((c::r).map fun c=>(c.toNat:Int)).head? = some 43)=true then _ else _)
       rw [e1,e2,if_neg (by decide),if_neg (by decide)];exact (key (c::r)).symm
     · exact e1.trans e2.symm
theorem yah {l:List Int} {i:Nat} (h:i<l.length):l.drop i=l.getD i 0::l.drop (i+1):=by
 rw [List.drop_eq_getElem_cons h,List.getD_eq_getElem?_getD,List.getElem?_eq_getElem h];rfl
theorem yco {sg:Bool} {c:Int} (h:zbc c=true):telC sg c=true:=by unfold telC;rw [h];rfl
theorem zuc (s:ByteArray) (w:World) (hs:s.size≤4000000):Calls Tryz.prog 260 #[.string s] w fun e w'=>e = .returned (.bool (zep (zaa s)))∧w=w':=by
 obtain ⟨c1,c2⟩:=yan s
 have CP:=kd (fun w=>(Tryz.strings_CutPrefix s ⟨#[43]⟩ w).mono (R':=fun e w'=>e = .returned (.tuple #[.string (strOfNums (if decide ((zaa s).head? = some 43)=true then (zaa s).drop 1 else zaa s)),.bool (decide ((zaa s).head? = some 43))])∧w=w') fun e w' h=>⟨by rw [h.1,← c1,← c2],h.2.symm⟩)
 have RE:=kd (show zep (zaa s)=((decide ((if decide ((zaa s).head? = some 43)=true then (zaa s).drop 1 else zaa s)≠[]) && decide ((if decide ((zaa s).head? = some 43)=true then (zaa s).drop 1 else zaa s).length≤30)) && (if decide ((zaa s).head? = some 43)=true then (zaa s).drop 1 else zaa s).all (telC (decide ((zaa s).head? = some 43)))) from rfl)
 have DB:By (if decide ((zaa s).head? = some 43)=true then (zaa s).drop 1 else zaa s):=by
  split
  · exact fun x hx=>zas s x (List.mem_of_mem_drop hx)
  · exact zas s
 clear c1 c2;generalize zep (zaa s)=R at *;generalize (if decide ((zaa s).head? = some 43)=true then (zaa s).drop 1 else zaa s)=d at *;generalize decide ((zaa s).head? = some 43)=sg at *;have BS:=kd (zal DB);have DB2:=kd DB;have LN:=zaq d;have EB:=zb1 d;clear DB
 go_enter Tryz.func260,Tryz.ntmps260
 go_wp2_with fail;refine (CP.out _).mono ?_;rintro _ _ ⟨rfl,rfl⟩;clear CP
 cases hd0:d with
 | nil =>
   have E:=kd (show R=false by rw [RE.out,hd0];rfl);subst hd0;rw [show strOfNums []=⟨#[]⟩ from rfl];clear RE BS DB2 LN EB;go_wp2_with fail
   first|(go_ret;exact ⟨by rw [E.out];rfl,rfl⟩)|exact ⟨by rw [E.out];rfl,rfl⟩
 | cons x y =>
   have q0:((strOfNums d).toList == [])=false:=by rw [EB,hd0];rfl
   have q1:¬ (strOfNums d).toList=[]:=by simpa using q0
   have RE2:=kd (show R=(decide (d.length≤30) && d.all (telC sg)) by rw [RE.out,show decide (d≠[])=true by rw [hd0];simp];rfl);rw [← hd0];clear hd0 RE EB
   by_cases h30:30<d.length
   · have E:=kd (show R=false by rw [RE2.out,show decide (d.length≤30)=false by simp;omega];rfl)
     have d3:decide ((30:Int)<(d.length:Int))=true:=by simp;omega
     clear RE2 h30;go_wp2_with fail
     first|(go_ret;exact ⟨by rw [E.out];rfl,rfl⟩)|exact ⟨by rw [E.out];rfl,rfl⟩
   · have RE3:=kd (show R=(d.drop 0).all (telC sg) by rw [RE2.out,show decide (d.length≤30)=true by simp;omega,List.drop_zero];rfl)
     have d3:decide ((30:Int)<(d.length:Int))=false:=by simp;omega
     obtain ⟨n,hn⟩:∃ n,d.length=n:=⟨_,rfl⟩;rw [hn] at LN d3;have HN:=kd hn
     have n30:n≤30:=by omega
     clear RE2 h30 hn;go_wp2_with fail
     go_loopw [5,6,21] (fun _ _ v wr => ∃ i:Nat,i≤n∧v = .int .i64 i∧Hid (R=(d.drop i).all (telC sg))∧wr=w) (fun _ _ v _=>n - (intOf v).toNat)
     case atStart=>exact ⟨0,Nat.zero_le _,rfl,RE3,rfl⟩
     case round =>
      clear RE3 q0 q1 d3;obtain ⟨i,hi,rfl,RI,rfl⟩:=hrel
      by_cases hlt:i<n
      · have hd:decide ((i:Int)<(n:Int))=true:=by simp;omega
        have d1:=fun w=>zbe (strOfNums d) (i:=i) (by rw [LN];exact hlt) (z:=(i:Int)) rfl w;rw [BS.out] at d1;have RJ:=kd (show R=(telC sg (d.getD i 0) && (d.drop (i+1)).all (telC sg)) by rw [RI.out,yah (by rw [HN.out];exact hlt)];rfl);generalize d.getD i 0=c at *
        have DG:=kd (fun w=>zer c w)
        cases hc:zbc c with
        | true =>
          rw [hc] at DG;have R2:=kd (show R=(d.drop (i+1)).all (telC sg) by rw [RJ.out,yco hc];rfl);clear hc RJ RI;go_wp2_with (go_at_call 226;refine (DG.out _).mono ?_;rintro e w2 ⟨rfl,rfl⟩);go_roundw
          case rel=>exact ⟨i+1,by omega,by go_num,R2,by first|rfl|trivial⟩
          case measure=>simp [intOf];omega
        | false =>
          rw [hc] at DG
          cases sg with
          | true =>
            have E:=kd (show R=false by rw [RJ.out,show telC true c=false by unfold telC;rw [hc];rfl];rfl);clear hc RJ RI;go_wp2_with (go_at_call 226;refine (DG.out _).mono ?_;rintro e w2 ⟨rfl,rfl⟩)
            first|(go_ret;exact ⟨by rw [E.out];rfl,rfl⟩)|exact ⟨by rw [E.out];rfl,rfl⟩
          | false =>
            by_cases h42:c=42
            · subst h42
              have R2:=kd (show R=(d.drop (i+1)).all (telC false) by rw [RJ.out];rfl);clear hc RJ RI;go_wp2_with (go_at_call 226;refine (DG.out _).mono ?_;rintro e w2 ⟨rfl,rfl⟩);go_roundw
              case rel=>exact ⟨i+1,by omega,by go_num,R2,by first|rfl|trivial⟩
              case measure=>simp [intOf];omega
            · by_cases h35:c=35
              · subst h35
                have R2:=kd (show R=(d.drop (i+1)).all (telC false) by rw [RJ.out];rfl);clear hc RJ RI;go_wp2_with (go_at_call 226;refine (DG.out _).mono ?_;rintro e w2 ⟨rfl,rfl⟩);go_roundw
                case rel=>exact ⟨i+1,by omega,by go_num,R2,by first|rfl|trivial⟩
                case measure=>simp [intOf];omega
              · have E:=kd (show R=false by rw [RJ.out,show telC false c=false by unfold telC;rw [hc];simp [h42,h35]];rfl)
                have n42:(c != 42)=true:=by simpa using h42
                have n35:(c != 35)=true:=by simpa using h35
                clear hc RJ RI h42 h35;go_wp2_with (go_at_call 226;refine (DG.out _).mono ?_;rintro e w2 ⟨rfl,rfl⟩)
                first|(go_ret;exact ⟨by rw [E.out];rfl,rfl⟩)|exact ⟨by rw [E.out];rfl,rfl⟩
      · obtain rfl:i=n:=by omega
        have hd:decide ((i:Int)<(i:Int))=false:=by simp
        have E:=kd (show R=true by rw [RI.out,List.drop_of_length_le (by rw [HN.out];exact Nat.le_refl _)];rfl);clear RI;go_wp2_with fail
        first|(go_ret;exact ⟨by rw [E.out];rfl,rfl⟩)|exact ⟨by rw [E.out];rfl,rfl⟩

theorem uri_eq {xs:List Int} {k:Nat} (hk:zaj xs 0 [58]=k):uriL xs =
  if 1024<xs.length then .error (1024,4) else if xs.length≤k then .error (xs.length,5)
  else if lowS (xs.take k)=SIPT∨lowS (xs.take k)=zes then
   (match zew xs (k+1) with
   | .error e => .error e
   | .ok (u,h,p,a)=>zhz xs [59,63] (lowS (xs.take k)) u h p a)
  else if lowS (xs.take k)=TELT then
   (match zd8 xs (k+1) with
   | .error e => .error e
   | .ok (u,a)=>zhz xs [59] (lowS (xs.take k)) u [] 0 a)
  else .error (0,15):=by subst hk;rfl
def hdR (xs sc us ho:List Int) (po:Int) (ps:List Pm) (f b:Nat) (l:List Pm):Except (Nat × Int) Uri:=
 match hsN xs f b l with
 | .error e => .error e
 | .ok hs => .ok ⟨sc,us,ho,po,zbb ps,zbb hs⟩
def psR (xs st sc us ho:List Int) (po:Int) (f a:Nat) (l:List Pm):Except (Nat × Int) Uri:=
 match psN xs st f a l with
 | .error e => .error e
 | .ok (ps,b)=>hdR xs sc us ho po ps (xs.length+1) b []
theorem zvg {xs st sc us ho:List Int} {po:Int} {a:Nat}:zhz xs st sc us ho po a=psR xs st sc us ho po (xs.length+1) a []:=by
 unfold zhz psR hdR
 cases psN xs st (xs.length+1) a []<;>rfl
section
variable {xs st sc us ho : List Int} {po : Int} {f a : Nat} {l m ps : List Pm} {e : Nat × Int}
theorem yde (h:atL xs a 59=false):psR xs st sc us ho po (f+1) a l=hdR xs sc us ho po l (xs.length+1) a []:=by
 unfold psR psN;rw [if_pos h]
theorem ydf (h:atL xs a 59=true) (h2:zcg xs l (a+1) (zaj xs (a+1) st) 1 = .error e):psR xs st sc us ho po (f+1) a l = .error e:=by
 unfold psR psN;rw [if_neg (by rw [h];decide),h2]
theorem psR_go (h:atL xs a 59=true) (h2:zcg xs l (a+1) (zaj xs (a+1) st) 1 = .ok m):psR xs st sc us ho po (f+1) a l=psR xs st sc us ho po f (zaj xs (a+1) st) m:=by
 conv=>lhs;unfold psR psN
 rw [if_neg (by rw [h];decide),h2]
 rfl
theorem yd1 (h:xs.length≤a):hdR xs sc us ho po ps (f+1) a l = .ok ⟨sc,us,ho,po,zbb ps,zbb l⟩:=by
 unfold hdR hsN;rw [if_pos h]
theorem yd2 (h:¬ xs.length≤a) (h2:zcg xs l (a+1) (zaj xs (a+1) [38]) 2 = .error e):hdR xs sc us ho po ps (f+1) a l = .error e:=by
 unfold hdR hsN;rw [if_neg h,h2]
theorem hdR_go (h:¬ xs.length≤a) (h2:zcg xs l (a+1) (zaj xs (a+1) [38]) 2 = .ok m):hdR xs sc us ho po ps (f+1) a l=hdR xs sc us ho po ps f (zaj xs (a+1) [38]) m:=by
 conv=>lhs;unfold hdR hsN
 rw [if_neg h,h2]
 rfl
end
section
variable {w wr w' : World} {cb a ub i : Nat} {s : ByteArray} {l : List Pm} {v u : Value} {K : List Blk} {T : TypeId} {us : List Value}
theorem PK.kset (h:PK w cb s a l v ((ub,T,us)::K) wr) (hg:w.heap.size≤ub) (hK:∀ r∈K,ub≠r.1) (i:Nat) (u:Value):PK w cb s a l v ((ub,T,us.set i u)::K) (wr.setCell ⟨ub,i,none⟩ u):=by
 have h1:Row wr ub T us:=h.k (ub,T,us) (by simp);have h2:=h.t1 (ub,T,us) (by simp);have h3:=h.t2 (ub,T,us) (by simp);refine ⟨h.ps.put h3 hg h2,fun r hr => ?_,fun r hr => ?_,fun r hr => ?_⟩
 · rcases List.mem_cons.1 hr with rfl|hr
   · exact h1.set i u
   · exact (h.k r (List.mem_cons_of_mem _ hr)).setOther (hK r hr) u
 · rcases List.mem_cons.1 hr with rfl|hr
   · exact h2
   · exact h.t1 r (List.mem_cons_of_mem _ hr)
 · rcases List.mem_cons.1 hr with rfl|hr
   · exact h3
   · exact h.t2 r (List.mem_cons_of_mem _ hr)
end
theorem VX.whole {w wr:World} {v:Value} {n:Nat} {cs:List Value} (H:VX 155 3 w v n cs wr):∃ (K:List Blk) (A:Option Addr) (c:Nat),v = .slice A n c∧(A=none→n=0∧c=0)∧(∀ r∈K,Row wr r.1 r.2.1 r.2.2∧w.heap.size≤r.1∧r.2.1=155∧v.ownBlock=some r.1)∧∀ w',(∀ r∈K,Row w' r.1 r.2.1 r.2.2)→Rds w' w'.heap.size A cs:=by
 have hl:=H.o.1
 rcases H.o.2 with ⟨rfl,rfl⟩|⟨g,cap,cur,rfl,hb,hg,hc,_,hs,ht⟩
 · refine ⟨[],none,0,rfl,fun _=>⟨rfl,rfl⟩,(fun r hr=>by cases hr),fun w' _ hn => ?_⟩
   rw [List.eq_nil_of_length_eq_zero (l:=cs) (by simpa using hl)] at hn;simp at hn
 · have hr0:Row wr g 155 cur.toList:=by unfold Row;rw [hg]
   refine ⟨[(g,155,cur.toList)],some ⟨g,0,none⟩,cap,rfl,(fun h=>by cases h),(fun r hr=>by rw [List.mem_singleton] at hr;subst hr;exact ⟨hr0,hb,rfl,rfl⟩),fun w' hk hn => ?_⟩;have hr:=hk (g,155,cur.toList) (by simp);refine ⟨g,0,rfl,hr.lt,fun j u hx => ?_⟩
   rw [Nat.zero_add,hr.cell j];have hj:j<cs.length:=(List.getElem?_eq_some_iff.1 hx).1
   have h2:(cur.toList.take (n*3))[j]? = cs[j]? := by rw [ht]
   rw [List.getElem?_take,if_pos (by omega),hx] at h2;exact h2
theorem PK.turn {w wr:World} {cb a:Nat} {s:ByteArray} {l:List Pm} {v:Value} {K K2:List Blk} (h:PK w cb s a l v K wr) (hK:∀ r∈K2,Row wr r.1 r.2.1 r.2.2∧w.heap.size≤r.1∧r.2.1=155∧v.ownBlock=some r.1):PK w cb s a [] (.slice none 0 0) (K++K2) wr:=by
 refine ⟨⟨h.c,h.ps.ge,World.ownsRow_nil _ _ _ _,h.o.bw⟩,fun r hr => ?_,(fun r hr g hg=>by cases hg),fun r hr => ?_⟩
 · rcases List.mem_append.1 hr with hr|hr
   · exact h.k r hr
   · exact (hK r hr).1
 · rcases List.mem_append.1 hr with hr|hr
   · exact h.t2 r hr
   · exact h.ps.far r.1 (hK r hr).2.2.2

def UriP (w:World) (R:Except (Nat × Int) Uri) (e:Ending) (w':World):Prop:=match R with
 | .error q=>e = .returned (.tuple #[.agg #[.string ⟨#[]⟩,.string ⟨#[]⟩,.string ⟨#[]⟩,.int .i64 0,.slice none 0 0,.slice none 0 0],.int .i64 (q.1:Nat),.int .u8 q.2])∧Below w.heap.size w w'∧q.2≠0
 | .ok u => ∃ v1 v2,e = .returned (.tuple #[.agg #[.string (strOfNums u.sc),.string (strOfNums u.us),.string (strOfNums u.ho),.int .i64 u.po,v1,v2],.int .i64 0,.int .u8 0])∧VX 155 3 w v1 u.ps.length (pms u.ps) w'∧VX 155 3 w v2 u.hs.length (pms u.hs) w'
theorem zcv {a b c d e f:Value}:(Tryz.prog.info? 117).map (·.size)=some [a,b,c,d,e,f].length:=show (Tryz.prog.info? 117).map (·.size)=some 6 by kernel_rfl
theorem lenU {a b c d e f a' b' c' d' e' f':Value}:[a,b,c,d,e,f].length=[a',b',c',d',e',f'].length:=rfl
theorem ze5 (a b c:ByteArray) (d:Int) {A B:Option Addr} {n m c1 c2:Nat}:∀ u∈[Value.string a,.string b,.string c,.int .i64 d,.slice A n c1,.slice B m c2],u.oneCell'=true:=fun u hu=>by
 simp only [List.mem_cons,List.not_mem_nil,or_false] at hu
 rcases hu with rfl|rfl|rfl|rfl|rfl|rfl<;>rfl
theorem PK.of_mine {w wr:World} {cb ub a:Nat} {s:ByteArray} {us:List Value} {F:List (World→Prop)} (h:Mine w wr (LP cb ub s a us) F):PK w cb s a [] (.slice none 0 0) [(ub,117,us)] wr:=by
 refine ⟨⟨zbd h,h.ge (i:=0) rfl,World.ownsRow_nil _ _ _ _,h.bw⟩,fun r hr => ?_,(fun r hr g hg=>by cases hg),fun r hr => ?_⟩
 · rw [List.mem_singleton] at hr;subst hr;exact zfx h
 · rw [List.mem_singleton] at hr;subst hr;exact (zft (zbd h) (zfx h) (by decide)).symm
theorem ydl {w wr:World} {cb ub a:Nat} {s:ByteArray} {us:List Value} {F:List (World→Prop)} (h:Mine w wr (LP cb ub s a us) F):w.heap.size≤ub:=h.ge (i:=1) rfl
def STP (stb:ByteArray) (st:List Int):Prop:=(stb=⟨#[59,63]⟩∧st=[59,63])∨(stb=⟨#[59]⟩∧st=[59])
theorem zvh {stb:ByteArray} {st:List Int} (h:STP stb st) (s:ByteArray) (a:Nat) (w:World) (hs:s.size≤4000000) (ha:a≤s.size):Calls Tryz.prog 125 #[.agg #[.string s],.int .i64 a,.string stb] w fun e w'=>e = .returned (.int .i64 (zaj (zaa s) a st:Nat))∧Below w.heap.size w w':=by
 rcases h with ⟨rfl,rfl⟩|⟨rfl,rfl⟩
 · exact zcm s ⟨#[59,63]⟩ a w hs ha (by decide) (by decide) yb1
 · exact zcm s ⟨#[59]⟩ a w hs ha (by decide) (by decide) yb2
theorem asc_38:Asc7 ⟨#[38]⟩:=fun j b h=>by
 have hm:=List.mem_of_getElem? h;simp only [List.mem_cons,List.not_mem_nil,or_false] at hm;subst hm;decide
def uK (ub:Nat) (sc us ho:List Int) (po:Int) (v1 v2:Value):Blk:=(ub,117,[.string (strOfNums sc),.string (strOfNums us),.string (strOfNums ho),.int .i64 po,v1,v2])
def Lp1 (wb:World) (cb ub:Nat) (s:ByteArray) (st sc us ho:List Int) (po:Int) (R:Except (Nat × Int) Uri) (g:Nat) (v8 v9:Value) (wx:World):Prop:=
 (∃ (n:Nat) (k:Int),v8 = .int .i64 n∧v9 = .int .u8 k∧k≠0∧Hid (R = .error (n,k))∧Hid (Below wb.heap.size wb wx)) ∨
 (∃ (a f:Nat) (l:List Pm) (v:Value),v8 = .int .i64 0∧v9 = .int .u8 0∧a≤s.size∧a+g=s.size+1∧s.size+1≤f+a∧l.length≤16∧Hid (R=psR (zaa s) st sc us ho po f a l)∧Hid (LOK 1 l)∧Hid (PK wb cb s a l v [uK ub sc us ho po v (.slice none 0 0)] wx))
def Lp2 (wb:World) (cb ub:Nat) (s:ByteArray) (sc us ho:List Int) (po:Int) (ps:List Pm) (v1:Value) (K2:List Blk) (R:Except (Nat × Int) Uri) (g:Nat) (v8 v9:Value) (wx:World):Prop:=
 (∃ (n:Nat) (k:Int),v8 = .int .i64 n∧v9 = .int .u8 k∧k≠0∧Hid (R = .error (n,k))∧Hid (Below wb.heap.size wb wx)) ∨
 (∃ (a f:Nat) (l:List Pm) (v:Value),v8 = .int .i64 0∧v9 = .int .u8 0∧a≤s.size∧a+g=s.size+1∧s.size+1≤f+a∧l.length≤16∧Hid (R=hdR (zaa s) sc us ho po ps f a l)∧Hid (LOK 2 l)∧Hid (PK wb cb s a l v (uK ub sc us ho po v1 v::K2) wx))
def Mid (wb:World) (cb ub:Nat) (s:ByteArray) (sc us ho:List Int) (po:Int) (R:Except (Nat × Int) Uri) (v8 v9:Value) (wx:World):Prop:=
 (∃ (n:Nat) (k:Int),v8 = .int .i64 n∧v9 = .int .u8 k∧k≠0∧Hid (R = .error (n,k))∧Hid (Below wb.heap.size wb wx)) ∨
 (∃ (a:Nat) (l:List Pm) (v:Value),v8 = .int .i64 0∧v9 = .int .u8 0∧a≤s.size∧l.length≤16∧Hid (R=hdR (zaa s) sc us ho po l (s.size+1) a [])∧Hid (LOK 1 l)∧Hid (PK wb cb s a l v [uK ub sc us ho po v (.slice none 0 0)] wx))
def Fin (wb:World) (cb ub:Nat) (s:ByteArray) (sc us ho:List Int) (po:Int) (ps:List Pm) (v1:Value) (K2:List Blk) (R:Except (Nat × Int) Uri) (v8 v9:Value) (wx:World):Prop:=
 (∃ (n:Nat) (k:Int),v8 = .int .i64 n∧v9 = .int .u8 k∧k≠0∧Hid (R = .error (n,k))∧Hid (Below wb.heap.size wb wx)) ∨
 (∃ (a:Nat) (l:List Pm) (v:Value),v8 = .int .i64 0∧v9 = .int .u8 0∧l.length≤16∧Hid (R = .ok ⟨sc,us,ho,po,zbb ps,zbb l⟩)∧Hid (LOK 2 l)∧Hid (PK wb cb s a l v (uK ub sc us ho po v1 v::K2) wx))
theorem zxb {wb w':World} {cb b:Nat} {s:ByteArray} {ub:Nat} {us:List Value} {K2:List Blk} {F:Except (Nat × Int) (List Pm)} {e:Ending} (h:FldP wb cb s ((ub,117,us)::K2) b F e w'):∃ (A:Option Addr) (n c:Nat) (z:Nat) (kk:Int),e = .returned (.tuple #[.slice A n c,.int .i64 z,.int .u8 kk])∧Row w' ub 117 us ∧
  ((kk≠0∧F = .error (z,kk)∧Below wb.heap.size wb w')∨(kk=0∧z=0∧∃ m,F = .ok m∧PK wb cb s b m (.slice A n c) ((ub,117,us)::K2) w')):=by
 cases F with
 | error q=>obtain ⟨rfl,h2,h3,h4⟩:=h;exact ⟨none,0,0,q.1,q.2,rfl,h3 (ub,117,us) (by simp),.inl ⟨h4,rfl,h2⟩⟩
 | ok m =>
   obtain ⟨v,rfl,h2⟩:=h;obtain ⟨A,c,hv,_⟩:=h2.form;subst hv;exact ⟨A,_,c,0,0,rfl,h2.k (ub,117,us) (by simp),.inr ⟨rfl,rfl,m,rfl,h2⟩⟩
structure SR (wb:World) (ub:Nat) (us:List Value) (K:List Blk) (W:World):Prop where
 u:Row W ub 117 us
 k:∀ r∈K,Row W r.1 r.2.1 r.2.2
 b:Below wb.heap.size wb W
theorem SR.call {wb W W':World} {ub:Nat} {us:List Value} {K:List Blk} (h:SR wb ub us K W) (hb:Below W.heap.size W W'):SR wb ub us K W':=⟨h.u.below hb,fun r hr=>(h.k r hr).below hb,zao h.b hb⟩
theorem zu0 {wb W:World} {ub:Nat} {us:List Value} {v u4 u5:Value} {n:Nat} {cs:List Value} (X:VX 155 3 wb v n cs W) (hr:Row W ub 117 us) (hb:Below wb.heap.size wb ((W.setCell ⟨ub,4,none⟩ u4).setCell ⟨ub,5,none⟩ u5)):VX 155 3 wb v n cs ((W.setCell ⟨ub,4,none⟩ u4).setCell ⟨ub,5,none⟩ u5):=
 X.other hb fun g hg=>by
  have hne:=zpw hr X (by decide) g hg;rw [Below.heap_setCell _ ⟨ub,5,none⟩ u5 g hne,Below.heap_setCell _ ⟨ub,4,none⟩ u4 g hne]
theorem znn {w wb w7 w9:World} {T:TypeId} {sz n:Nat} {v:Value} {cs:List Value} (X:VX T sz wb v n cs w7) (WB:Below w.heap.size w wb) (hs:w.heap.size<wb.heap.size) (hg:w7.grownBy w9 (some w.heap.size)) (hb:Below w.heap.size w w9):VX T sz w v n cs w9:=
 (X.base WB).other hb fun g hg2=>hg.block g (X.own_lt hg2) (fun e=>by injection e with e;have:=zb8 X.o g hg2;omega)
def SwR (wb:World) (cb ub:Nat) (s:ByteArray) (sc:List Int) (R:Except (Nat × Int) Uri) (v8 v9 v10:Value) (wx:World):Prop:=
 ∃ (stb:ByteArray) (st us ho:List Int) (po:Int),v10 = .string stb∧Hid (STP stb st)∧∃ g,g≤s.size+1∧Lp1 wb cb ub s st sc us ho po R g v8 v9 wx
end Go.Proofs.YtfnmkedncfdceaaGreatDoor
