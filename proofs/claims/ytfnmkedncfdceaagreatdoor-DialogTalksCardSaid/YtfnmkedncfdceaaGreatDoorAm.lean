/- Contract: address.Params, where the text has no bracket. And what stands behind it. -/
import Derived.Test.YtfnmkedncfdceaaGreatDoorAj
set_option linter.unusedVariables false
set_option linter.unusedSimpArgs false
set_option maxRecDepth 100000
set_option maxHeartbeats 1000000
namespace Go.Proofs.YtfnmkedncfdceaaGreatDoor
open Go.RowKit

def lenOf:Value→Nat
 | .slice _ n _=>n
 | _=>0
def ParP (w:World) (R:Except (Nat × Int) (List Pm)) (e:Ending) (w':World):Prop:=match R with
 | .error q=>e = .returned (.tuple #[.slice none 0 0,.int .i64 (q.1:Nat),.int .u8 q.2])∧Below w.heap.size w w'∧q.2≠0
 | .ok l => ∃ v,e = .returned (.tuple #[v,.int .i64 0,.int .u8 0])∧VX 155 3 w v l.length (pms l) w'∧l.length≤16
theorem ParP.bad {w w':World} {R:Except (Nat × Int) (List Pm)} {z:Nat} {k:Int} (h:R = .error (z,k)) (hk:k≠0) (hb:Below w.heap.size w w'):ParP w R (.returned (.tuple #[.slice none 0 0,.int .i64 (z:Nat),.int .u8 k])) w':=by
 subst h;exact ⟨rfl,hb,hk⟩
theorem ParP.good {w w':World} {R:Except (Nat × Int) (List Pm)} {l:List Pm} {v:Value} (h:R = .ok l) (hv:VX 155 3 w v l.length (pms l) w') (hl:l.length≤16):ParP w R (.returned (.tuple #[v,.int .i64 0,.int .u8 0])) w':=by
 subst h;exact ⟨v,rfl,hv,hl⟩
theorem zs4 {l:List Pm} {nm:List Int} (h:zbz l nm=0):l.length<16:=by
 unfold zbz at h
 split at h
 · cases h
 · split at h
   · cases h
   · omega

theorem zu2 {l:List Int} (h:l.all zbc=true) (hl:l.length≤10):0≤valL l∧valL l≤9999999999:=by
 obtain ⟨h1,h2⟩:=zli l h
 have h3:(10:Int) ^ l.length≤10 ^ 10:=by exact_mod_cast Nat.pow_le_pow_right (by decide) hl
 exact ⟨h1,by (have h4:(10:Int) ^ 10=10000000000:=by decide);omega⟩
theorem zxn {xs:List Int} (h:xs.length<1∨10<xs.length):zcd xs=(0,5):=by
 unfold zcd;rw [if_pos (by rcases h with h|h;exact .inl h;exact .inr (.inl h))]
theorem zxp {xs:List Int} (h:xs.all zbc=false):zcd xs=(0,5):=by
 unfold zcd;rw [if_pos (.inr (.inr h))]
theorem zxo {xs:List Int} (h0:1≤xs.length) (h1:xs.length≤10) (h:xs.all zbc=true) (hb:2147483647<valL xs):zcd xs=(0,3):=by
 unfold zcd;rw [if_neg (by rintro (a|a|a);omega;omega;rw [h] at a;cases a),if_pos hb]
theorem yaj {xs:List Int} (h0:1≤xs.length) (h1:xs.length≤10) (h:xs.all zbc=true) (hb:¬ 2147483647<valL xs):zcd xs=(valL xs,0):=by
 unfold zcd;rw [if_neg (by rintro (a|a|a);omega;omega;rw [h] at a;cases a),if_neg hb]
def decV (p:Int × Int):Value := .tuple #[.int .i64 p.1,.int .u8 p.2]
theorem zf8 (s:ByteArray) (w:World):Calls Tryz.prog 117 #[.string s] w fun e w'=>e = .returned (decV (zcd (zaa s)))∧w=w':=by
 have HL:=kd (zac s);have HB:=kd (zas s);have IDX:=kd (fun (i:Nat) (h:i<s.size) (w:World)=>zbe s (i:=i) h (z:=(i:Int)) rfl w);have E0:=kd (fun h=>zxn (xs:=zaa s) h);have E1:=kd (fun h=>zxp (xs:=zaa s) h);have E2:=kd (fun h0 h1 h h2=>zxo (xs:=zaa s) h0 h1 h h2)
 have E3:=kd (fun h0 h1 h h2=>yaj (xs:=zaa s) h0 h1 h h2);generalize zcd (zaa s)=D at *;generalize zaa s=X at *
 by_cases h0:s.size<1
 · have hd:decide ((s.size:Int)<1)=true:=by simp;omega
   have E:=kd (E0.out (.inl (by rw [HL.out];exact h0)))
   go_enter Tryz.func117,Tryz.ntmps117
   go_wp2_with fail
   go_ret2
   exact ⟨by rw [E.out];rfl,rfl⟩
 · have hd:decide ((s.size:Int)<1)=false:=by simp;omega
   by_cases h1:10<s.size
   · have hd1:decide ((10:Int)<(s.size:Int))=true:=by simp;omega
     have E:=kd (E0.out (.inr (by rw [HL.out];exact h1)))
     go_enter Tryz.func117,Tryz.ntmps117
     go_wp2_with fail
     go_ret2
     exact ⟨by rw [E.out];rfl,rfl⟩
   · have hd1:decide ((10:Int)<(s.size:Int))=false:=by simp;omega
     have s1:1≤s.size:=by omega
     have s10:s.size≤10:=by omega
     go_enter Tryz.func117,Tryz.ntmps117
     go_wp2_with fail;clear hd hd1 h0 h1 E0
     go_loop [4,16] (fun vn vi => ∃ k:Nat,k≤s.size∧vi = .int .i64 k∧∃ m:Int,vn = .int .i64 m∧0≤m∧m≤9999999999∧Hid (m=valL (X.take k)∧(X.take k).all zbc=true)) (fun vn vi=>s.size - (intOf vi).toNat)
     case atStart=>exact ⟨0,Nat.zero_le _,rfl,0,rfl,by decide,by decide,kd ⟨rfl,rfl⟩⟩
     case round =>
      obtain ⟨k,hk,rfl,m,rfl,m0,m1,HK⟩:=hrel
      by_cases hlt:k<s.size
      · have hd:decide ((k:Int)<(s.size:Int))=true:=by simp;omega
        have dx:=IDX.out k hlt
        have hkX:k<X.length:=by rw [HL.out];exact hlt
        have hx:=HB.out _ (zbg hkX);have BAD:=kd (fun h=>E1.out (zsj (p:=zbc) hkX h))
        have NXT:=kd (fun (h:zbc (X.getD k 0)=true)=>show (10*m+(X.getD k 0 - 48))=valL (X.take (k+1))∧(X.take (k+1)).all zbc=true by
         rw [zdk hkX,HK.out.2,h,zcu X hkX,zno,← HK.out.1]
         exact ⟨rfl,rfl⟩)
        have NL:=kd (show (X.take (k+1)).length≤10 by rw [List.length_take];omega);clear hkX;generalize X.getD k 0=x at *
        by_cases h48:x<48
        · have d1:decide (x<48)=true:=by simp [h48]
          have E:=kd (BAD.out (by unfold zbc;simp;omega));go_wp2_with fail
          go_ret2
          exact ⟨by rw [E.out];rfl,rfl⟩
        · have d1:decide (x<48)=false:=by simpa using h48
          by_cases h57:57<x
          · have d2:decide (57<x)=true:=by simp [h57]
            have E:=kd (BAD.out (by unfold zbc;simp;omega));go_wp2_with fail
            go_ret2
            exact ⟨by rw [E.out];rfl,rfl⟩
          · have d2:decide (57<x)=false:=by simpa using h57
            have x0:48≤x:=by omega
            have x1:x≤57:=by omega
            have N:=NXT.out (by unfold zbc;simp;omega);have NB:=zu2 N.2 NL.out;rw [← N.1] at NB;have NH:=kd N;obtain ⟨b0,b1⟩:=NB;clear h48 h57 hx N BAD NXT NL;go_wp2_with fail;go_roundw
            case rel=>exact ⟨k+1,by omega,by go_num,10*m+(x - 48),by go_num,b0,b1,NH⟩
            case measure=>simp [intOf];omega
      · obtain rfl:k=s.size:=by omega
        have TK:X.take s.size=X:=List.take_of_length_le (by rw [HL.out];exact Nat.le_refl _);rw [TK] at HK;clear IDX HB E1
        by_cases hb:2147483647<m
        · have d1:decide (2147483647<m)=true:=by simp [hb]
          have E:=kd (E2.out (by rw [HL.out];exact s1) (by rw [HL.out];exact s10) HK.out.2 (by rw [← HK.out.1];exact hb));go_wp2_with fail
          go_ret2
          exact ⟨by rw [E.out];rfl,rfl⟩
        · have d1:decide (2147483647<m)=false:=by simpa using hb
          have E:=kd (E3.out (by rw [HL.out];exact s1) (by rw [HL.out];exact s10) HK.out.2 (by rw [← HK.out.1];omega));rw [← HK.out.1] at E
          have hb2:m≤2147483647:=by omega
          clear hb;go_wp2_with fail
          go_ret2
          exact ⟨by rw [E.out];rfl,rfl⟩

theorem Rds.heapR {w w':World} {A:Option Addr} {cs:List Value} {x:Nat} (h:Rds w w.heap.size A cs) (hp:∀ b o s,A=some ⟨b,o,s⟩→b≠x) (hs:w'.heap.size=w.heap.size) (hh:∀ b,b≠x→w'.heap[b]? = w.heap[b]?):Rds w' w'.heap.size A cs:=fun hn=>by
 obtain ⟨b,o,e,hb,hc⟩:=h hn;exact ⟨b,o,e,by omega,fun j u hu=>(World.cell?_of_block (w:=w) (a:=⟨b,o+j,none⟩) (hh b (hp b o none e))).trans (hc j u hu)⟩

def gotV:Option (List Int)→Value
 | none => .tuple #[.string ⟨#[]⟩,.bool false]
 | some v => .tuple #[.string (strOfNums v),.bool true]
def zp3 (l:List Pm) (nm:List Int) (k:Nat):Prop := ∀ j p,j<k→l[j]? = some p→(lowS p.n == lowS nm)=false
theorem zt1 {l:List Pm} {nm:List Int} (h:zp3 l nm l.length):zd4 l nm=none:=by
 unfold zd4;rw [Option.map_eq_none_iff,List.find?_eq_none];intro p hp;obtain ⟨j,hj⟩:=List.mem_iff_getElem?.1 hp;have:=h j p (List.getElem?_eq_some_iff.1 hj).1 hj
 simpa using this
theorem zl1:∀ {l:List Pm} {nm:List Int} {k:Nat} {p:Pm},zp3 l nm k→l[k]? = some p→(lowS p.n == lowS nm)=true→zd4 l nm=some p.v
 | [],_,_,_,_,hp,_=>by cases hp
 | x::l,nm,0,p,_,hp,hq=>by
   obtain rfl:x=p:=by simpa using hp
   unfold zd4;rw [List.find?_cons,hq]
   rfl
 | x::l,nm,k+1,p,h,hp,hq=>by
   have h0:=h 0 x (Nat.succ_pos k) rfl;have ih:=zl1 (l:=l) (nm:=nm) (k:=k) (p:=p) (fun j q hj hq=>h (j+1) q (by omega) (by simpa using hq)) (by simpa using hp) hq;unfold zd4 at ih ⊢;rw [List.find?_cons,h0];exact ih
theorem ztj {l:List Pm} {nm:List Int} {k:Nat} {p:Pm} (h:zp3 l nm k) (hp:l[k]? = some p) (hq:(lowS p.n == lowS nm)=false):zp3 l nm (k+1):=fun j q hj hqj=>by
 rcases Nat.lt_or_ge j k with h1|h1
 · exact h j q h1 hqj
 · obtain rfl:j=k:=by omega
   obtain rfl:=Option.some.inj (hp.symm.trans hqj);exact hq
theorem ze4 (A:Option Addr) (n c:Nat) (l:List Pm) (nm:List Int) (w:World) (hA:Rds w w.heap.size A (pms l)) (hn:l.length=n) (hN:n≤16000000) (hl:∀ p∈l,By p.n∧p.n.length≤4000000) (hm:By nm) (hm2:nm.length≤4000000) :
  Calls Tryz.prog 79 #[.slice A n c,.string (strOfNums nm)] w fun e w'=>e = .returned (gotV (zd4 l nm))∧Below w.heap.size w w':=by
 have HA:=kd hA;have HN:=kd hn;have HL:=kd hl;have HM:=kd hm;have LW:=kd (fun w=>zce (strOfNums nm) w (by rw [zaq];exact hm2));rw [zal hm] at LW;have BL:=kd (zcr hm);clear hA hn hl hm hm2
 have ES:=kd (fun k p (h1:zp3 l nm k) h2 h3=>zl1 (l:=l) (nm:=nm) (k:=k) (p:=p) h1 h2 h3);have EN:=kd (fun h=>zt1 (l:=l) (nm:=nm) h);generalize zd4 l nm=R at *
 go_enter Tryz.func79,Tryz.ntmps79
 go_wp2_with fail;refine (LW.out w).mono ?_;rintro e w1 ⟨rfl,hb⟩;have B1:=kd hb;clear hb LW;go_wp2_with fail
 go_loopw [12] (fun v wr => ∃ k:Nat,k≤n∧v = .int .i64 k∧Hid (zp3 l nm k)∧Hid (Below w.heap.size w wr)) (fun v _=>n - (intOf v).toNat)
 case atStart=>exact ⟨0,Nat.zero_le _,rfl,kd (fun _ _ h=>absurd h (Nat.not_lt_zero _)),B1⟩
 case round =>
  clear B1;obtain ⟨k,hk,rfl,HK,BR⟩:=hrel
  by_cases hlt:k<n
  · have hd:decide (k<n)=true:=by simp [hlt]
    have hd2:decide ((k:Int)<(n:Int))=true:=by simp;omega
    obtain ⟨p,hp⟩:∃ p,l[k]? = some p:=⟨_,List.getElem?_eq_getElem (by rw [HN.out];exact hlt)⟩;obtain ⟨x1,o1,rfl,hx1,hc1⟩:=HA.out (by rw [zh9,HN.out];omega)
    have G1:=kd (show wr.rangeAt x1 (o1+k*3) (pmC p) from fun j v hv=>(BR.out.cell (p:=⟨x1,_,none⟩) hx1).trans (Rds.range2 hc1 (k*3) _ (zn7 hp) j v hv));obtain ⟨pb,pl⟩:=HL.out p (List.mem_of_getElem? hp);have KS:=kd (fun h=>ztj HK.out hp h)
    have KF:=kd (fun h=>ES.out k p HK.out hp h);have LP:=kd (fun w=>zce (strOfNums p.n) w (by rw [zaq];exact pl));rw [zal pb] at LP;have QE:=kd (zhh (zcr pb) BL.out);clear hc1 hp HK pb pl;obtain ⟨pn,pv,ph⟩:=p;dsimp only at LP KS KF QE
    have G2:=kd (show wr.rangeAt x1 (o1+k*3) [.string (strOfNums pn),.string (strOfNums pv),.bool ph] from G1.out);have RP:=kd (Row.new wr 155 [.string (strOfNums pn),.string (strOfNums pv),.bool ph])
    have BN:=kd (BR.out.alloc BR.out.size (.cells #[.string (strOfNums pn),.string (strOfNums pv),.bool ph] 155));clear G1
    go_upto_region 5 with (with_reducible refine wpList_load_mid rfl 155 (.tmp 14) rfl x1 (o1+k*3) rfl [.string (strOfNums pn),.string (strOfNums pv),.bool ph] _ G2.out Tryz.underlying155 rfl (zbq _ _ _) ?_)
    generalize wr.alloc (.cells #[.string (strOfNums pn),.string (strOfNums pv),.bool ph] 155)=w2 at *;have k0:=RP.out.cell 0;simp only [List.getElem?_cons_succ,List.getElem?_cons_zero] at k0;generalize wr.heap.size=pb at *;go_wp2_with fail;refine (LP.out w2).mono ?_;rintro e w3 ⟨rfl,hb⟩
    have B3:=kd (zao BN.out hb);have k1:=(RP.out.below hb).cell 1;simp only [List.getElem?_cons_succ,List.getElem?_cons_zero] at k1;clear hb k0 RP BN G2 LP BR
    cases hq:(lowS pn == lowS nm) with
    | true =>
      have E:=kd (KF.out hq);have q2:=QE.out.trans hq;clear KS KF hq;go_wp2_with fail
      go_ret2
      exact ⟨by rw [E.out];rfl,B3.out⟩
    | false =>
      have K2:=kd (KS.out hq);have q2:=QE.out.trans hq;clear KS KF hq k1;go_wp2_with fail;go_roundw
      case rel=>exact ⟨k+1,by omega,by go_num,K2,B3⟩
      case measure=>simp [intOf];omega
  · obtain rfl:k=n:=by omega
    have E:=kd (EN.out (show zp3 l nm l.length by rw [HN.out];exact HK.out));go_wp2_with fail
    go_ret2
    exact ⟨by rw [E.out];rfl,BR.out⟩
def KDV:List Value:=KINDS.flatMap fun q=>[.string (strOfNums q.1),.int .i64 q.2]
def KD (w:World):Prop:=1<w.heap.size∧w.rangeAt 1 0 KDV
theorem KD.below {w w1:World} (h:KD w) (hb:Below w.heap.size w w1):KD w1:=⟨Nat.lt_of_lt_of_le h.1 hb.size,fun j v hv=>(hb.cell (p:=⟨1,0+j,none⟩) h.1).trans (h.2 j v hv)⟩
theorem KD.at {w:World} (h:KD w) {k:Nat} (hk:k<31):w.cell? ⟨1,k*2,none⟩=some (.string (strOfNums (KINDS.getD k ([],0)).1))∧w.cell? ⟨1,k*2+1,none⟩=some (.int .i64 (KINDS.getD k ([],0)).2):=by
 have hp:KINDS[k]? = some (KINDS.getD k ([],0)):=by
  rw [List.getD_eq_getElem?_getD,List.getElem?_eq_getElem (show k<KINDS.length from hk)];rfl
 have h1:=zfg (fun q:List Int × Int=>[Value.string (strOfNums q.1),.int .i64 q.2]) 2 (fun _=>rfl) KINDS k 0 _ hp (by decide);have h2:=zfg (fun q:List Int × Int=>[Value.string (strOfNums q.1),.int .i64 q.2]) 2 (fun _=>rfl) KINDS k 1 _ hp (by decide);have e1:=h.2 (k*2) _ h1
 have e2:=h.2 (k*2+1) _ h2;rw [Nat.zero_add] at e1 e2;exact ⟨e1,e2⟩
theorem zzq {k:Nat} (hk:k<31):By (KINDS.getD k ([],0)).1:=by
 have h1:KINDS.getD k ([],0)∈KINDS:=by
  rw [List.getD_eq_getElem?_getD,List.getElem?_eq_getElem (show k<KINDS.length from hk)];exact List.getElem_mem _
 exact (show ∀ q∈KINDS,By q.1 by unfold By;decide) _ h1
theorem zzr {c:List Int} {k:Nat} (hk:k<31) (hn:∀ j,j<k→((KINDS.getD j ([],0)).1 == c)=false) (h:((KINDS.getD k ([],0)).1 == c)=true):zkc c=(KINDS.getD k ([],0)).2:=by
 unfold zkc;rw [zji (d:=([],0)) (show k<KINDS.length from hk) hn h]
 rfl
theorem zwr {c:List Int} (hn:∀ j,j<31→((KINDS.getD j ([],0)).1 == c)=false):zkc c=0:=by
 unfold zkc;rw [zkr (l:=KINDS) (d:=([],0)) (fun j hj=>hn j (show j<31 from hj))]
 rfl
theorem ztq (c:List Int) (w:World) (hc:By c) (hK:KD w):Calls Tryz.prog 155 #[.string (strOfNums c)] w fun e w'=>e = .returned (.int .i64 (zkc c))∧w=w':=by
 have HK:=kd hK;have HC:=kd hc;have EH:=kd (fun k h1 h2 h3=>zzr (c:=c) (k:=k) h1 h2 h3);have EM:=kd (fun h=>zwr (c:=c) h);generalize zkc c=R at *;clear hK hc
 go_enter Tryz.func155,Tryz.ntmps155
 go_wp2_with fail
 go_loopw [4] (fun v wr => ∃ k:Nat,k≤31∧v = .int .i64 k∧Hid (∀ j,j<k→((KINDS.getD j ([],0)).1 == c)=false)∧w=wr) (fun v _=>31 - (intOf v).toNat)
 case atStart=>exact ⟨0,Nat.zero_le _,rfl,kd (fun _ h=>absurd h (Nat.not_lt_zero _)),rfl⟩
 case round =>
  obtain ⟨k,hk,rfl,HN,rfl⟩:=hrel
  by_cases hlt:k<31
  · have hd:decide ((k:Int)<31)=true:=by simp;omega
    have hd2:decide (k<31)=true:=by simp [hlt]
    obtain ⟨c0,c1⟩:=HK.out.at hlt;have QE:=kd (zhh (zzq hlt) HC.out);have HH:=kd (fun h=>EH.out k hlt HN.out h)
    have HX:=kd (fun (h:((KINDS.getD k ([],0)).1 == c)=false) (j:Nat) (hj:j<k+1)=>show ((KINDS.getD j ([],0)).1 == c)=false by
     rcases (show j<k∨j=k by omega) with h1|rfl
     · exact HN.out j h1
     · exact h)
    generalize KINDS.getD k ([],0)=q at *;obtain ⟨qn,qk⟩:=q;dsimp only at c0 c1 QE HH HX
    cases hq:(qn == c) with
    | true =>
      have E:=kd (HH.out hq);have q2:=QE.out.trans hq;clear HH HX hq;go_wp2_with fail;go_ret;exact ⟨by rw [E.out];rfl,rfl⟩
    | false =>
      have N2:=kd (HX.out hq);have q2:=QE.out.trans hq;clear HH HX hq;go_wp2_with fail;go_roundw
      case rel=>first|exact ⟨k+1,by omega,by go_num,N2,trivial⟩|exact ⟨k+1,by omega,by go_num,N2,rfl⟩
      case measure=>simp [intOf];omega
  · obtain rfl:k=31:=by omega
    have E:=kd (EM.out HN.out);rw [show ((31:Nat):Int)=(31:Int) from rfl];go_wp2_with fail;go_ret;exact ⟨by rw [E.out];rfl,rfl⟩
theorem zcs {c:List Int} (hc:By c) (u:List UInt8):((strOfNums c).toList == u)=(bl u == c):=by
 rw [Bool.eq_iff_iff,beq_iff_eq,beq_iff_eq,ByteArray.toList_eq]
 constructor
 · intro h
   rw [← zal hc,znb,h]
 · rintro rfl
   apply bl_inj
   rw [zi3 (yeq u)]
theorem zwd (c:List Int) (w:World) (hc:By c) (hK:KD w):Calls Tryz.prog 108 #[.string (strOfNums c)] w fun e w'=>e = .returned (.bool (zp7 c))∧w=w':=by
 have KQ:=kd (ztq c w hc hK);have Q0:=kd (zcs hc [67,111,110,116,97,99,116]);have Q1:=kd (zcs hc [80,97,116,104]);have Q2:=kd (zcs hc [82,101,99,111,114,100,45,82,111,117,116,101]);have Q3:=kd (zcs hc [82,111,117,116,101])
 have Q4:=kd (zcs hc [83,101,114,118,105,99,101,45,82,111,117,116,101])
 have EV:=kd (show zp7 c=(((([67,111,110,116,97,99,116]:List Int) == c) || ((([80,97,116,104]:List Int) == c) || ((([82,101,99,111,114,100,45,82,111,117,116,101]:List Int) == c) || ((([82,111,117,116,101]:List Int) == c) || (([83,101,114,118,105,99,101,45,82,111,117,116,101]:List Int) == c))))) || (zkc c == 2 || zkc c == 7)) by
  unfold zp7 MANY5
  simp only [List.any_cons,List.any_nil,Bool.or_false])
 generalize zp7 c=R at *;generalize zkc c=K at *;clear hK hc
 cases h0:(([67,111,110,116,97,99,116]:List Int) == c) with
 | true =>
   have E:=kd (show R=true by rw [EV.out,h0];simp only [Bool.or_true,Bool.true_or]);have q0:=Q0.out.trans h0;clear EV
   go_enter Tryz.func108,Tryz.ntmps108
   go_wp2_with fail;go_ret;exact ⟨zax E.out.symm,rfl⟩
 | false =>
 have q0:=Q0.out.trans h0
 cases h1:(([80,97,116,104]:List Int) == c) with
 | true =>
   have E:=kd (show R=true by rw [EV.out,h1];simp only [Bool.or_true,Bool.true_or]);have q1:=Q1.out.trans h1;clear EV
   go_enter Tryz.func108,Tryz.ntmps108
   go_wp2_with fail;go_ret;exact ⟨zax E.out.symm,rfl⟩
 | false =>
 have q1:=Q1.out.trans h1
 cases h2':(([82,101,99,111,114,100,45,82,111,117,116,101]:List Int) == c) with
 | true =>
   have E:=kd (show R=true by rw [EV.out,h2'];simp only [Bool.or_true,Bool.true_or]);have q2:=Q2.out.trans h2';clear EV
   go_enter Tryz.func108,Tryz.ntmps108
   go_wp2_with fail;go_ret;exact ⟨zax E.out.symm,rfl⟩
 | false =>
 have q2:=Q2.out.trans h2'
 cases h3:(([82,111,117,116,101]:List Int) == c) with
 | true =>
   have E:=kd (show R=true by rw [EV.out,h3];simp only [Bool.or_true,Bool.true_or]);have q3:=Q3.out.trans h3;clear EV
   go_enter Tryz.func108,Tryz.ntmps108
   go_wp2_with fail;go_ret;exact ⟨zax E.out.symm,rfl⟩
 | false =>
 have q3:=Q3.out.trans h3
 cases h4:(([83,101,114,118,105,99,101,45,82,111,117,116,101]:List Int) == c) with
 | true =>
   have E:=kd (show R=true by rw [EV.out,h4];simp only [Bool.or_true,Bool.true_or]);have q4:=Q4.out.trans h4;clear EV
   go_enter Tryz.func108,Tryz.ntmps108
   go_wp2_with fail;go_ret;exact ⟨zax E.out.symm,rfl⟩
 | false =>
 have q4:=Q4.out.trans h4
 have e2:(K == 2)=decide (K=2):=by rw [Bool.eq_iff_iff];simp
 cases h2:(K == 2) with
 | true =>
   have E:=kd (show R=true by rw [EV.out,h2];simp only [Bool.or_true,Bool.true_or]);clear EV e2
   go_enter Tryz.func108,Tryz.ntmps108
   go_wp2_with fail;refine KQ.out.mono ?_;rintro e w' ⟨rfl,rfl⟩;go_wp2_with fail;go_ret;exact ⟨zax E.out.symm,rfl⟩
 | false =>
   have E:=kd (show R=(K == 7) by rw [EV.out,h2,h0,h1,h2',h3,h4];simp only [Bool.false_or,Bool.or_false]);clear EV e2
   go_enter Tryz.func108,Tryz.ntmps108
   go_wp2_with fail;refine KQ.out.mono ?_;rintro e w' ⟨rfl,rfl⟩;go_wp2_with fail;go_ret;exact ⟨zax E.out.symm,rfl⟩
theorem zwc (s:ByteArray) (w:World) (hs:s.size≤4000000) (hS:SC w) (hK:KD w):Calls Tryz.prog 72 #[.string s] w fun e w'=>e = .returned (.bool (zp6 (zaa s)))∧Below w.heap.size w w':=by
 have CN:=kd (zgq s w hs hS);have HB:=kd (fun x (h:zbr (zaa s)=some x)=>zgd (zas s) h)
 have EV:=kd (show zp6 (zaa s)=match zbr (zaa s) with
  | some c=>zp7 c
  | none=>false from rfl)
 have HK:=kd hK;generalize zp6 (zaa s)=R at *;generalize zbr (zaa s)=C at *;clear hS hK
 go_enter Tryz.func72,Tryz.ntmps72
 go_wp2_with fail;refine CN.out.mono ?_;rintro e w1 ⟨rfl,hb⟩;have B1:=kd hb;have K1:=kd (HK.out.below hb);clear hb CN
 cases C with
 | none =>
   have E:=kd (show R=false from EV.out);rw [show zi1 none = .tuple #[.string ⟨#[]⟩,.int .u8 5] from rfl];go_wp2_with fail;go_ret;exact ⟨zax E.out.symm,B1.out⟩
 | some c =>
   have E:=kd (show R=zp7 c from EV.out);rw [show zi1 (some c) = .tuple #[.string (strOfNums c),.int .u8 0] from rfl];have MQ:=kd (zwd c w1 (HB.out c rfl) K1.out);go_wp2_with fail;refine MQ.out.mono ?_;rintro e w' ⟨rfl,rfl⟩;go_wp2_with fail;go_ret;exact ⟨zax E.out.symm,B1.out⟩
end Go.Proofs.YtfnmkedncfdceaaGreatDoor
