/- Contracts: header.List, message's elements. And what stands behind it. -/
import Derived.Test.YtfnmkedncfdceaaGreatDoorAm
import Derived.Lib.MinMax
import Derived.IntWalk
set_option linter.unusedVariables false
set_option linter.unusedSimpArgs false
set_option maxRecDepth 100000
set_option maxHeartbeats 2000000
namespace Go.Proofs.YtfnmkedncfdceaaGreatDoor
open Go.RowKit

def strs (l:List (List Int)):List Value:=l.map fun t => .string (strOfNums t)
theorem za8 (l:List (List Int)):(strs l).length=l.length:=by simp [strs]
theorem znv (l:List (List Int)) (t:List Int):strs (l++[t])=strs l++[.string (strOfNums t)]:=by simp [strs]
theorem zyx (l m:List (List Int)):strs (l++m)=strs l++strs m:=by simp [strs]
theorem VX.base {T:TypeId} {sz:Nat} {w W wr:World} {v:Value} {n:Nat} {cs:List Value} (H:VX T sz W v n cs wr) (hb:Below w.heap.size w W):VX T sz w v n cs wr:=by
 refine ⟨⟨H.o.1,?_⟩,zao hb H.bw⟩
 rcases H.o.2 with h0|⟨g,cap,cur,h1,h2,h3⟩
 · exact .inl h0
 · exact .inr ⟨g,cap,cur,h1,Nat.le_trans hb.size h2,h3⟩
theorem VX.new' (w:World) (T:TypeId) (n:Nat) (cs:List Value) (hn:cs.length=n) (hb:n≤16777216):VX T 1 w (.slice (some ⟨w.heap.size,0,none⟩) n n) n cs (w.alloc (.cells cs.toArray T)):=
 ⟨⟨by omega,.inr ⟨w.heap.size,n,cs.toArray,rfl,Nat.le_refl _,Row.new w T cs,Nat.le_refl _,by unfold maxLen;omega,by simp [hn],by rw [Nat.mul_one,← hn];simp⟩⟩,zBr.alloc zNr _⟩
abbrev SXL (w:World) (v:Value) (l:List (List Int)) (wr:World):Prop:=VX 9 1 w v l.length (strs l) wr
theorem zc8 {w wr:World} {ops:Array Oper} {rest:List Oper} {o:Oper} {a:Act} {Q:Exit→Act→World→Prop} (hgd:o.guard=none) (s x:Operand)
  (ho:o.op = .call { callee := .builtin .append,args:=#[s,x],argTypes:=#[23,23] }) (v:Value) (ps:List (List Int)) (hs:a.eval s=v) (H:SXL w v ps wr) (p:List Int) (hx:a.eval x = .slice (some ⟨wr.heap.size,0,none⟩) 1 1) (hb:ps.length+1≤16777216)
  (h:∀ v' w',Hid (SXL w v' (ps++[p]) w')→wpList Tryz.prog ops Q rest (a.put o.dst v') w'):wpList Tryz.prog ops Q (o::rest) a (wr.alloc (.cells #[.string (strOfNums p)] 9)):=
 ziq hgd s x ho Tryz.underlying23 ztt rfl (by omega) (by omega) v ps.length (strs ps) hs H [.string (strOfNums p)] rfl (fun u hu=>by
  simp at hu
  rcases hu with rfl;rfl) hx hb fun v' w' h1=>h v' w' (kd (by
   have:=h1.out;unfold SXL;rw [znv,List.length_append]
   exact this))
def zpn (w:World) (R:Except Int (List (List Int))) (e:Ending) (w':World):Prop:=match R with
 | .error k=>e = .returned (.tuple #[.slice none 0 0,.int .u8 k])∧Below w.heap.size w w'∧k≠0
 | .ok l => ∃ v,e = .returned (.tuple #[v,.int .u8 0])∧SXL w v l w'
theorem zpn.bad {w w':World} {R:Except Int (List (List Int))} {k:Int} (h:R = .error k) (hk:k≠0) (hb:Below w.heap.size w w'):zpn w R (.returned (.tuple #[.slice none 0 0,.int .u8 k])) w':=by
 subst h;exact ⟨rfl,hb,hk⟩
theorem zpn.good {w w':World} {R:Except Int (List (List Int))} {l:List (List Int)} {v:Value} (h:R = .ok l) (hb:SXL w v l w'):zpn w R (.returned (.tuple #[v,.int .u8 0])) w':=by
 subst h;exact ⟨v,rfl,hb⟩
theorem zwj {v:List Int} {S:List (Nat × List Int) × Nat × Int} (h:zde v 44=S) (h2:S.2.2≠0):ze2 v = .error S.2.2:=by
 subst h;unfold ze2;rw [if_pos h2]
theorem zwk {v:List Int} {S:List (Nat × List Int) × Nat × Int} (h:zde v 44=S) (h2:S.2.2=0) (h3:(S.1.map (·.2)).all (fun p => !p.isEmpty)=false):ze2 v = .error 5:=by
 subst h;unfold ze2;rw [if_neg (fun h=>h h2),h3];rfl
theorem zzi {v:List Int} {S:List (Nat × List Int) × Nat × Int} (h:zde v 44=S) (h2:S.2.2=0) (h3:(S.1.map (·.2)).all (fun p => !p.isEmpty)=true):ze2 v = .ok (S.1.map (·.2)):=by
 subst h;unfold ze2;rw [if_neg (fun h=>h h2),h3];rfl
theorem zya {ps:List (Nat × List Int)} {k:Nat} {p:Nat × List Int} (h:ps[k]? = some p) (hp:p.2.isEmpty=true):(ps.map (·.2)).all (fun p => !p.isEmpty)=false:=by
 rw [Bool.eq_false_iff];intro hc;rw [List.all_eq_true] at hc;have:=hc p.2 (List.mem_map.2 ⟨p,List.mem_of_getElem? h,rfl⟩);rw [hp] at this
 cases this
theorem zdu {α:Type} {l:List α} {k:Nat} {p:α} (h:l[k]? = some p):l.take (k+1)=l.take k++[p]:=by
 obtain ⟨h1,h2⟩:=List.getElem?_eq_some_iff.1 h;rw [List.take_add_one,h]
 rfl
theorem ydh {ps:List (Nat × List Int)} {k:Nat} {p:Nat × List Int} (h:ps[k]? = some p):∀ j u,[Value.int .i64 (p.1:Int),.string (strOfNums p.2)][j]? = some u→(pcs ps)[k*2+j]? = some u:=fun j u hu=>by
 have hj:j<2:=(List.getElem?_eq_some_iff.1 hu).1;rw [← hu];exact zfg (fun p:Nat × List Int=>[Value.int .i64 (p.1:Int),.string (strOfNums p.2)]) 2 (fun _=>rfl) ps k j p h hj
theorem zy9 (ps:List (Nat × List Int)):(pcs ps).length=ps.length*2:=by
 unfold pcs;rw [List.length_flatMap,show (ps.map fun a=>[Value.int .i64 (a.1:Int),.string (strOfNums a.2)].length)=ps.map (fun _=>2) from List.map_congr_left fun _ _=>rfl];simp [List.map_const',Nat.mul_comm]
theorem sizePc (a b:Value):(Tryz.prog.info? 182).map (·.size)=some [a,b].length:=show (Tryz.prog.info? 182).map (·.size)=some 2 by kernel_rfl
def LIR (w:World) (W:World) (ps:List (Nat × List Int)) (n:Nat) (v7 v:Value) (wr:World):Prop := ∃ (k:Nat) (x:Value),x=v7∧k≤n∧v = .int .i64 k∧Hid (SXL W x ((ps.map (·.2)).take k) wr)∧Hid (∀ j p,j<k→ps[j]? = some p→p.2.isEmpty=false)
theorem zzh (s:ByteArray) (w:World) (hs:s.size≤4000000):Calls Tryz.prog 109 #[.string s] w (zpn w (ze2 (zaa s))):=by
 have BAD:=kd (fun w' k h hk hb=>zpn.bad (w:=w) (w':=w') (R:=ze2 (zaa s)) (k:=k) h hk hb);have GOOD:=kd (fun w' l v h hb=>zpn.good (w:=w) (w':=w') (R:=ze2 (zaa s)) (l:=l) (v:=v) h hb);have SQ:=zsx s w hs;unfold SplR at SQ;have SO:=kd (zjt (zaa s) 44)
 obtain ⟨S,hS⟩:∃ S,zde (zaa s) 44=S:=⟨_,rfl⟩;have E1:=kd (fun h=>zwj hS h);have E2:=kd (fun h h2=>zwk hS h h2);have E3:=kd (fun h h2=>zzi hS h h2);rw [hS] at SQ SO;have SL:=kd (show S.1.length≤4000001 by have:=SO.out.2;rw [zac] at this;omega);have SH:=kd SQ
 clear SQ SO hS;generalize zpn w (ze2 (zaa s))=PP at *;generalize ze2 (zaa s)=R at *
 go_enter Tryz.func109,Tryz.ntmps109
 go_wp2_with fail;refine SH.out.mono ?_;clear SH;rintro e w4 ⟨v,rfl,hp⟩;obtain ⟨ps,pl,er⟩:=S;dsimp only at hp E1 E2 E3 SL ⊢;have HP:=kd hp;clear hp
 by_cases her:er=0
 · subst her
   have E2':=kd (fun h=>E2.out rfl h);have E3':=kd (fun h=>E3.out rfl h);clear E1 E2 E3;obtain ⟨A,c,rfl,hnc,hR⟩:=zj4 HP.out;have RD:=kd hR;have B4:=kd HP.out.bw;generalize hn:ps.length=n at *;have HN:=kd hn;have nL:=SL.out;clear hn HP hR SL;go_wp2_with fail
   go_loopw [7,21] (fun v7 v wr=>LIR w w4 ps n v7 v wr) (fun _ v _=>n - (intOf v).toNat)
   case atStart=>exact ⟨0,_,rfl,Nat.zero_le _,rfl,kd (VX.nil _ _ w4),kd (fun _ _ h=>absurd h (Nat.not_lt_zero _))⟩
   case round =>
    obtain ⟨k,x,rfl,hk,rfl,HX,HE⟩:=hrel
    by_cases hlt:k<n
    · obtain ⟨p,hp⟩:∃ p,ps[k]? = some p:=⟨_,List.getElem?_eq_getElem (by rw [HN.out];exact hlt)⟩
      have hd:decide (k<n)=true:=by simp [hlt]
      have hd2:decide ((k:Int)<(n:Int))=true:=by simp;omega
      obtain ⟨ab,ao,rfl,hab,hac⟩:=RD.out (by rw [zy9,HN.out];omega);have RG:=kd (show wr.rangeAt ab (ao+k*2) [.int .i64 (p.1:Int),.string (strOfNums p.2)] from fun j u hu=>(HX.out.bw.cell (p:=⟨ab,_,none⟩) hab).trans (Rds.range2 hac (k*2) _ (ydh hp) j u hu))
      have NO:=kd (fun h=>E2'.out (zya hp h));have TK:=kd (show (ps.map (·.2)).take (k+1)=(ps.map (·.2)).take k++[p.2] from zdu (by rw [List.getElem?_map,hp];rfl))
      have NX:=kd (fun (h:p.2.isEmpty=false) (j:Nat) (q:Nat × List Int) (hj:j<k+1) (hq:ps[j]? = some q)=>show q.2.isEmpty=false by
       rcases (show j<k∨j=k by omega) with h1|rfl
       · exact HE.out j q h1 hq
       · obtain rfl:=Option.some.inj (hp.symm.trans hq)
         exact h)
      have QE:=kd (zb1 p.2);clear hac hab hp HE;obtain ⟨p1,p2⟩:=p;dsimp only at RG NO TK NX QE;have RN:=kd (Row.new wr 182 [.int .i64 (p1:Int),.string (strOfNums p2)]);have BN:=kd ((Below.refl wr.heap.size wr).alloc zNr (.cells #[.int .i64 (p1:Int),.string (strOfNums p2)] 182))
      go_upto_region 8 with (with_reducible refine wpList_load_mid rfl 182 (.tmp 23) rfl ab (ao+k*2) rfl [.int .i64 (p1:Int),.string (strOfNums p2)] _ RG.out Tryz.underlying182 rfl (sizePc _ _) ?_);have X2:=kd (HX.out.step BN.out)
      generalize wr.alloc (.cells #[.int .i64 (p1:Int),.string (strOfNums p2)] 182)=w5 at *;have c1:=RN.out.cell 1;simp only [List.getElem?_cons_succ,List.getElem?_cons_zero] at c1;generalize wr.heap.size=pb at *
      have LK:((ps.map (·.2)).take k).length≤k:=by rw [List.length_take];omega
      clear BN RN RG HX
      cases hq:p2.isEmpty with
      | true =>
        have q2:=QE.out.trans hq;have E:=kd (NO.out hq);clear NO NX hq;go_wp2_with fail
        first|exact BAD.out _ _ E.out (by decide) (zao B4.out X2.out.bw)|(go_ret2;exact BAD.out _ _ E.out (by decide) (zao B4.out X2.out.bw))
      | false =>
        have q2:=QE.out.trans hq;have N2:=kd (NX.out hq);clear NO NX hq;go_wp2_with (with_reducible refine zc8 rfl (.tmp 28) (.tmp 31) rfl _ _ rfl X2.out p2 rfl (by omega) ?_);intro v' w6 X6;rw [← TK.out] at X6;clear c1;go_wp2_with fail;go_roundw
        case rel=>exact ⟨k+1,_,rfl,by omega,by go_num,X6,N2⟩
        case measure=>simp [intOf];omega
    · obtain rfl:k=n:=by omega
      have TK:(ps.map (·.2)).take k=ps.map (·.2):=List.take_of_length_le (by rw [List.length_map,HN.out];exact Nat.le_refl _);rw [TK] at HX
      have E:=kd (E3'.out (by
       rw [List.all_eq_true];intro q hq;obtain ⟨p,hp,rfl⟩:=List.mem_map.1 hq;obtain ⟨j,hj⟩:=List.mem_iff_getElem?.1 hp;rw [HE.out j p (by rw [← HN.out];exact (List.getElem?_eq_some_iff.1 hj).1) hj]
       rfl))
      go_wp2_with fail
      first|exact GOOD.out _ _ _ E.out (HX.out.base B4.out)|(go_ret2;exact GOOD.out _ _ _ E.out (HX.out.base B4.out))
 · have hb:(er != 0)=true:=by simpa using her
   have E:=kd (E1.out her);go_wp2_with fail
   first|exact BAD.out _ _ E.out her HP.out.bw|(go_ret2;exact BAD.out _ _ E.out her HP.out.bw)
theorem zxj (s:ByteArray) (w:World) (hs:s.size≤4000000):Calls Tryz.prog 73 #[.string s] w fun e w' => ∃ v,e = .returned v∧SXL w v (zd9 (zaa s)) w':=by
 have LQ:=kd (zzh s w hs)
 have EV:=kd (show zd9 (zaa s)=match ze2 (zaa s) with
  | .ok l=>l
  | .error _=>[zaa s] from rfl)
 have ST:=kd (zbh s);generalize zd9 (zaa s)=E at *;generalize ze2 (zaa s)=R at *
 go_enter Tryz.func73,Tryz.ntmps73
 go_wp2_with fail;refine LQ.out.mono ?_;clear LQ;intro e w1 hq
 cases R with
 | error k =>
   obtain ⟨rfl,hb,hk⟩:=hq;have B1:=kd hb
   have hkb:(k == 0)=false:=by simp [hk]
   clear hb;go_wp2_with fail;go_ret;refine ⟨_,rfl,?_⟩;rw [EV.out];have h:=(VX.new' w1 9 1 [.string s] rfl (by decide)).base B1.out;show VX _ 1 w _ 1 [.string (strOfNums (zaa s))] _;rw [ST.out];exact h
 | ok l =>
   obtain ⟨v,rfl,hv⟩:=hq;have HV:=kd hv;clear hv;go_wp2_with fail;go_ret;exact ⟨_,rfl,by rw [EV.out];exact HV.out⟩

theorem zjo {w wr:World} {ops:Array Oper} {rest:List Oper} {o:Oper} {a:Act} {Q:Exit→Act→World→Prop} (hgd:o.guard=none) (s x:Operand)
  (ho:o.op = .call { callee := .builtin .append,args:=#[s,x],argTypes:=#[23,23] }) (v:Value) (ps:List (List Int)) (hs:a.eval s=v) (H:SXL w v ps wr) (qs:List (List Int)) (ab ao m c:Nat) (hx:a.eval x = .slice (some ⟨ab,ao,none⟩) m c) (hm:qs.length=m)
  (hc:∀ j u,(strs qs)[j]? = some u→wr.cell? ⟨ab,ao+j,none⟩=some u) (hb:ps.length+m≤16777216)
  (h:∀ v' w',Hid (SXL w v' (ps++qs) w')→wpList Tryz.prog ops Q rest (a.put o.dst v') w'):wpList Tryz.prog ops Q (o::rest) a wr:=by
 obtain ⟨i,hi,hz,hsz,hbt⟩:=ztt;subst hm
 refine wpList_append_own _ hgd s x 23 ho w.heap.size 9 i _ 1 16 Tryz.underlying23 hi hz hsz hbt rfl (by omega) v ps.length (strs ps) hs H.o ⟨ab,ao,none⟩ qs.length c (strs qs) hx (by rw [za8,Nat.mul_one]) (fun j u hu => ?_) (fun u hu => ?_) (by unfold maxLen;omega) (by omega) H.bw.size ?_
 · rw [Addr.add_mid]
   exact hc j u hu
 · obtain ⟨t,_,rfl⟩:=List.mem_map.1 hu
   rfl
 · intro v' w' h2 h3 _
   refine h v' w' (kd ⟨?_,H.bw.grown h3 H.bw.size (zb8 H.o)⟩);rw [zyx,List.length_append];exact h2
def one1 (nm:List Int) (h:ByteArray × ByteArray):List (List Int):=if zp6 nm=true then zd9 (zaa h.2) else [zaa h.2]
theorem zd6 (l:List (ByteArray × ByteArray)) (nm:List Int):allH l nm=(l.filter (hitN (zbr nm))).flatMap (one1 nm):=rfl
theorem zyb (l:List (ByteArray × ByteArray)) (h:ByteArray × ByteArray) (nm:List Int):allH (l++[h]) nm=allH l nm++(if hitN (zbr nm) h=true then one1 nm h else []):=by
 rw [zd6,zd6,List.filter_append,List.flatMap_append]
 congr 1
 cases hq:hitN (zbr nm) h with
 | true=>simp [hq]
 | false=>simp [hq]
theorem zpg (l:List (ByteArray × ByteArray)) (nm:List Int) (k:Nat):(allH (l.take k) nm).length≤(allH l nm).length:=by
 rw [zd6,zd6]
 conv=>rhs;rw [← List.take_append_drop k l,List.filter_append,List.flatMap_append,List.length_append]
 exact Nat.le_add_right _ _
def ALR (W:World) (l:List (ByteArray × ByteArray)) (nm:List Int) (n:Nat) (v7 v:Value) (wr:World):Prop := ∃ (k:Nat) (x:Value),x=v7∧k≤n∧v = .int .i64 k∧Hid (SXL W x (allH (l.take k) nm) wr)
theorem yeu (ms uri rsn nm:ByteArray) (code:Int) (A B:Option Addr) (n c m d:Nat) (l:List (ByteArray × ByteArray)) (w:World) (hA:Rds w w.heap.size A (hds l)) (hn:l.length=n) (hN:n≤16000000) (hl:∀ h∈l,h.1.size≤4000000∧h.2.size≤4000000∧zd9 (zaa h.2)≠[]) (hM:nm.size≤4000000) (hT:(allH l (zaa nm)).length≤16000000) (hS:SC w) (hK:KD w) :
  Calls Tryz.prog 35 #[.agg #[.string ms,.string uri,.int .i64 code,.string rsn,.slice A n c,.slice B m d],.string nm] w fun e w' => ∃ v,e = .returned v∧SXL w v (allH l (zaa nm)) w':=by
 have R:=kd (Row.new w 31 [.string ms,.string uri,.int .i64 code,.string rsn,.slice A n c,.slice B m d]);have B0:=kd ((Below.refl w.heap.size w).alloc zNr (.cells #[.string ms,.string uri,.int .i64 code,.string rsn,.slice A n c,.slice B m d] 31))
 have HA:=kd ((hA.below B0.out).up B0.out.size);have HN:=kd hn;have HL:=kd hl;have HS:=kd (hS.below B0.out);have HK:=kd (hK.below B0.out);have HC:=kd (fun c (h:zbr (zaa nm)=some c)=>zgd (zas nm) h)
 have ND:=kd (fun w h=>zoc nm w hM h);have MN:=kd (fun w h h2=>zwc nm w hM h h2);have TOT:=kd (fun k=>Nat.le_trans (zpg l (zaa nm) k) hT);have ALL:=kd (show allH l (zaa nm)=allH (l.take n) (zaa nm) by rw [List.take_of_length_le (by omega)])
 have SN:=kd (fun k p (h:l[k]? = some p)=>show allH (l.take (k+1)) (zaa nm)=allH (l.take k) (zaa nm)++(if hitN (zbr (zaa nm)) p=true then one1 (zaa nm) p else []) by rw [zdu h,zyb])
 have ONE:=kd (fun p=>show one1 (zaa nm) p=if zp6 (zaa nm)=true then zd9 (zaa p.2) else [zaa p.2] from rfl);generalize zbr (zaa nm)=C at *;generalize zp6 (zaa nm)=G at *;clear hA hn hl hS hM hK hT;generalize zaa nm=NM0 at *
 go_enter Tryz.func35,Tryz.ntmps35
 go_wp2_with fail;generalize w.alloc (.cells #[.string ms,.string uri,.int .i64 code,.string rsn,.slice A n c,.slice B m d] 31)=W at *;refine (ND.out W HS.out).mono ?_;rintro e W1 ⟨hb,eb,cb,rfl,hnm⟩;unfold nmV
 have R1:=kd (R.out.below hb);have HA1:=kd ((HA.out.below hb).up hb.size);have HS1:=kd (HS.out.below hb);have HK1:=kd (HK.out.below hb);have NM1:=kd hnm;have B1:=kd (zao B0.out hb);clear hb hnm R HA HS HK B0 ND;go_wp2_with fail;refine (MN.out W1 HS1.out HK1.out).mono ?_
 rintro e W2 ⟨rfl,hb⟩;have R2:=kd (R1.out.below hb);have HA2:=kd ((HA1.out.below hb).up hb.size);have HS2:=kd (HS1.out.below hb);have NM2:=kd (NM1.out.below hb);have B2:=kd (zao B1.out hb);clear hb R1 HA1 HS1 HK1 NM1 B1 MN;have k4:=R2.out.cell 4
 simp only [List.getElem?_cons_succ,List.getElem?_cons_zero] at k4;go_wp2_with fail;clear k4
 go_loopw [7,17] (fun v7 v wr=>ALR W2 l NM0 n v7 v wr) (fun _ v _=>n - (intOf v).toNat)
 case atStart=>exact ⟨0,_,rfl,Nat.zero_le _,rfl,kd (by rw [List.take_zero];exact VX.nil _ _ W2)⟩
 case round =>
  obtain ⟨k,x,rfl,hk,rfl,HX⟩:=hrel
  by_cases hlt:k<n
  · have hd:decide (k<n)=true:=by simp [hlt]
    have hd2:decide ((k:Int)<(n:Int))=true:=by simp;omega
    obtain ⟨p,hp⟩:∃ p,l[k]? = some p:=⟨_,List.getElem?_eq_getElem (by rw [HN.out];exact hlt)⟩;obtain ⟨x1,o1,rfl,hx1,hc1⟩:=HA2.out (by rw [zqk,HN.out];omega)
    have G1:=kd (show wr.rangeAt x1 (o1+k*2) [.string p.1,.string p.2] from fun j v hv=>(HX.out.bw.cell (p:=⟨x1,_,none⟩) hx1).trans (Rds.range2 hc1 (k*2) _ (zw6 hp) j v hv));obtain ⟨s1,s2,ne⟩:=HL.out p (List.mem_of_getElem? hp);have NE:=kd ne;have SK:=kd (SN.out k p hp)
    have OP:=kd (ONE.out p);have TK:=TOT.out k;have TK1:=kd (TOT.out (k+1));clear hc1 hp ne;obtain ⟨pa,pb⟩:=p;dsimp only at G1 s1 s2 NE OP;have BN:=kd ((Below.refl wr.heap.size wr).alloc zNr (.cells #[.string pa,.string pb] 56));have RN:=kd (Row.new wr 56 [.string pa,.string pb])
    have X1:=kd (HX.out.step BN.out);go_upto_region 7 with (with_reducible refine wpList_load_mid rfl 56 (.tmp 19) rfl x1 (o1+k*2) rfl [.string pa,.string pb] _ G1.out Tryz.underlying56 rfl (ycz _ _) ?_);generalize wr.alloc (.cells #[.string pa,.string pb] 56)=w5 at *
    generalize wr.heap.size=hb0 at *;clear BN G1 HX;have HI:=kd (zr0 pa pb eb cb C w5 s1 (HS2.out.below X1.out.bw) (NM2.out.below X1.out.bw) HC.out);go_wp2_with (with_reducible refine zab rfl 56 (.tmp 9) rfl RN.out rfl Tryz.underlying56 rfl (ycz _ _) ?_);refine HI.out.mono ?_
    rintro e w6 ⟨rfl,hb⟩;have X2:=kd (X1.out.step hb);have RN2:=kd (RN.out.below hb);clear hb HI X1 RN
    cases hq:hitN C (pa,pb) with
    | false =>
      rw [hq,if_neg (by decide),List.append_nil] at SK;rw [← SK.out] at X2;clear hq RN2;go_wp2_with fail;go_roundw
      case rel=>exact ⟨k+1,_,rfl,by omega,by go_num,X2⟩
      case measure=>simp [intOf];omega
    | true =>
      rw [hq,if_pos rfl] at SK;have k1:=RN2.out.cell 1;simp only [List.getElem?_cons_succ,List.getElem?_cons_zero] at k1;clear hq
      cases G with
      | false =>
        rw [if_neg (by decide)] at OP;rw [OP.out] at SK;have HPB:=kd (zbh pb);have SKL:=kd (show (allH (List.take k l) NM0).length+1≤16777216 by omega);rw [← HPB.out] at k1;generalize zaa pb=q at *
        go_wp2_with (with_reducible refine zc8 rfl (.tmp 21) (.tmp 24) rfl _ _ rfl X2.out q rfl SKL.out ?_);intro v' w7 X7;rw [← SK.out] at X7;clear k1;go_wp2_with fail;go_roundw
        case rel=>exact ⟨k+1,_,rfl,by omega,by go_num,X7⟩
        case measure=>simp [intOf];omega
      | true =>
        rw [if_pos rfl] at OP;rw [OP.out] at SK;have EQ:=kd (fun w=>zxj pb w s2);have SKL:=kd (show (allH (List.take k l) NM0).length+(zd9 (zaa pb)).length≤16777216 by have h1:=TK1.out;rw [SK.out,List.length_append] at h1;omega);generalize zd9 (zaa pb)=q at *;go_wp2_with fail
        refine (EQ.out w6).mono ?_;rintro e w7 ⟨v,rfl,hv⟩;have X3:=kd (X2.out.step hv.bw);obtain ⟨A3,c3,rfl,_,hR3⟩:=zj4 hv;obtain ⟨ab,ao,rfl,_,hac⟩:=hR3 (by rw [za8];exact List.length_pos_iff.2 NE.out);have HAC:=kd hac;clear hv hR3 hac k1 X2
        go_wp2_with (with_reducible refine zjo rfl (.tmp 33) (.tmp 36) rfl _ _ rfl X3.out q ab ao q.length c3 rfl rfl HAC.out SKL.out ?_);intro v' w8 X8;rw [← SK.out] at X8;go_wp2_with fail;go_roundw
        case rel=>exact ⟨k+1,_,rfl,by omega,by go_num,X8⟩
        case measure=>simp [intOf];omega
  · obtain rfl:k=n:=by omega
    go_wp2_with fail;go_ret;exact ⟨_,rfl,by rw [ALL.out];exact HX.out.base B2.out⟩

def zz3 (l:List (ByteArray × ByteArray)):Option Nat→Value
 | none => .tuple #[.string ⟨#[]⟩,.bool false]
 | some k => .tuple #[.string (l.getD k (⟨#[]⟩,⟨#[]⟩)).2,.bool true]
theorem zz1 (ms uri rsn nm:ByteArray) (code:Int) (A B:Option Addr) (n c m d:Nat) (l:List (ByteArray × ByteArray)) (w:World) (hA:Rds w w.heap.size A (hds l)) (hn:l.length=n) (hN:n≤16000000) (hl:∀ h∈l,h.1.size≤4000000) (hM:nm.size≤4000000) (hS:SC w) :
  Calls Tryz.prog 54 #[.agg #[.string ms,.string uri,.int .i64 code,.string rsn,.slice A n c,.slice B m d],.string nm] w fun e w'=>e = .returned (zz3 l (getH l (zaa nm)))∧Below w.heap.size w w':=by
 have R:=kd (Row.new w 31 [.string ms,.string uri,.int .i64 code,.string rsn,.slice A n c,.slice B m d]);have B0:=kd ((Below.refl w.heap.size w).alloc zNr (.cells #[.string ms,.string uri,.int .i64 code,.string rsn,.slice A n c,.slice B m d] 31))
 have HA:=kd ((hA.below B0.out).up B0.out.size);have HN:=kd hn;have HL:=kd hl;have HS:=kd (hS.below B0.out);have HC:=kd (fun c (h:zbr (zaa nm)=some c)=>zgd (zas nm) h);have HG:=kd (show getH l (zaa nm)=l.findIdx? (hitN (zbr (zaa nm))) from rfl)
 have GK:=kd (fun k (h:getH l (zaa nm)=some k)=>show ∃ p,l[k]? = some p from by
  obtain ⟨h1,_⟩:=List.findIdx?_eq_some_iff_getElem.1 h
  exact ⟨_,List.getElem?_eq_getElem h1⟩)
 generalize getH l (zaa nm)=X at *;have ND:=kd (fun w h=>zoc nm w hM h);generalize zbr (zaa nm)=C at *;clear hA hn hl hS hM
 go_enter Tryz.func54,Tryz.ntmps54
 go_wp2_with fail;generalize w.alloc (.cells #[.string ms,.string uri,.int .i64 code,.string rsn,.slice A n c,.slice B m d] 31)=W at *;have k4:=R.out.cell 4;simp only [List.getElem?_cons_succ,List.getElem?_cons_zero] at k4
 have HAd:=kd (show Rds W.drew W.drew.heap.size A (hds l) from HA.out);have HSd:=kd (show SC W.drew from HS.out);have Rd:=kd R.out.drew;have Bd:=kd (show Below w.heap.size w W.drew from B0.out.drew);clear HA HS R B0
 go_region_with ((first
  | (go_at_call 71
     refine (ND.out _ HSd.out).mono ?_;rintro e W1 ⟨hb,eb,cb,rfl,hnm⟩;have R1:=kd (Rd.out.below hb);have HA1:=kd ((HAd.out.below hb).up hb.size);have HS1:=kd (HSd.out.below hb);have NM1:=kd hnm;have B1:=kd (zao Bd.out hb);clear hb hnm k4;have k4:=R1.out.cell 4
     simp only [List.getElem?_cons_succ,List.getElem?_cons_zero] at k4)
  | (go_at_call 94
     refine (ztv A n c _ _ l C _ HA1.out HN.out hN HL.out HS1.out NM1.out HC.out).mono ?_;rintro e W2 ⟨rfl,hb⟩;rw [← HG.out];have R2:=kd (R1.out.below hb);have HA2:=kd ((HA1.out.below hb).up hb.size);have B2:=kd (zao B1.out hb);clear hb k4;have k4:=R2.out.cell 4
     simp only [List.getElem?_cons_succ,List.getElem?_cons_zero] at k4)))
 all_goals
  clear HG ND Rd Bd R1 HA1 HS1 NM1 B1 HC HSd HAd
  cases X with
  | none =>
    rw [show idxV none = .int .i64 (-1) from rfl];go_wp2_with fail
    go_ret2
    exact ⟨rfl,B2.out⟩
  | some k =>
    obtain ⟨p,hp⟩:=GK.out k rfl
    have hlt:k<n:=by rw [← HN.out];exact (List.getElem?_eq_some_iff.1 hp).1
    obtain ⟨x1,o1,rfl,hx1,hc1⟩:=HA2.out (by rw [zqk,HN.out];omega);have c1:W2.cell? ⟨x1,o1+k*2+1,none⟩=some (.string p.2):=Rds.range2 hc1 (k*2) _ (zw6 hp) 1 _ rfl
    have PE:=kd (show zz3 l (some k) = .tuple #[.string p.2,.bool true] by
     unfold zz3;dsimp only
     rw [List.getD_eq_getElem?_getD,hp];rfl)
    have hd:decide (k<n)=true:=by simp [hlt]
    obtain ⟨pa,pb⟩:=p;dsimp only at c1 PE;clear hc1 hp HA2 GK
    have hng:decide ((k:Int)<0)=false:=by simp
    rw [show idxV (some k) = .int .i64 k from rfl];go_wp2_with fail
    go_ret2
    exact ⟨by rw [PE.out];rfl,B2.out⟩

theorem zaw {a b c d e f:Value}:(Tryz.prog.info? 31).map (·.size)=some [a,b,c,d,e,f].length:=show (Tryz.prog.info? 31).map (·.size)=some 6 by kernel_rfl

theorem zzd {P:Program} (w:World) (ts:Array TypeId) (t:TypeId) (k k' k2:IntKind) (x y z:Int) :
  (Builtin.max_ ts t #[.int k x,.int k' y,.int k2 z]).run P w = .ok (.int k (max (max x y) z)) w:=by
 have e:(if y > x then y else x)=max x y:=by rw [Int.max_def];split<;>split<;>omega
 have e2:(if z > max x y then z else max x y)=max (max x y) z:=by rw [Int.max_def (max x y) z];split<;>split<;>omega
 simp [Builtin.max_,Builtin.max2,e,e2]
attribute [go_sem high] zzd
theorem zz2 {l:List Pm} {nm:List Int} (hl:∀ p∈l,pmOK 4000000 p):By ((zd4 l nm).getD []):=by
 unfold zd4
 cases h:l.find? fun p=>lowS p.n == lowS nm with
 | none=>exact fun x hx=>by cases hx
 | some p=>exact (hl p (List.mem_of_find?_eq_some h)).2.1

end Go.Proofs.YtfnmkedncfdceaaGreatDoor
