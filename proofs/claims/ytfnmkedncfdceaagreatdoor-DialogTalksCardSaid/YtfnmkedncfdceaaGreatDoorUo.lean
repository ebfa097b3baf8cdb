/- Contract: address.Parse, the walk. -/
import Derived.Test.YtfnmkedncfdceaaGreatDoorUn
import Derived.Deep.CutBlock
set_option linter.unusedVariables false
set_option linter.unusedSimpArgs false
namespace Go.Proofs.YtfnmkedncfdceaaGreatDoor
open Go.RowKit

theorem UriP.bad {w w':World} {R:Except (Nat × Int) Uri} {n:Nat} {k:Int} (h:R = .error (n,k)) (hb:Below w.heap.size w w') (hk:k≠0):UriP w R (.returned (.tuple #[.agg #[.string ⟨#[]⟩,.string ⟨#[]⟩,.string ⟨#[]⟩,.int .i64 0,.slice none 0 0,.slice none 0 0],.int .i64 (n:Nat),.int .u8 k])) w':=by
 subst h;exact ⟨rfl,hb,hk⟩
theorem UriP.good {w w':World} {R:Except (Nat × Int) Uri} {sc us ho:List Int} {po:Int} {ps hs:List Pm} {v1 v2:Value} (h:R = .ok ⟨sc,us,ho,po,ps,hs⟩) (h1:VX 155 3 w v1 ps.length (pms ps) w') (h2:VX 155 3 w v2 hs.length (pms hs) w'):UriP w R (.returned (.tuple #[.agg #[.string (strOfNums sc),.string (strOfNums us),.string (strOfNums ho),.int .i64 po,v1,v2],.int .i64 0,.int .u8 0])) w':=by
 subst h;exact ⟨v1,v2,rfl,h1,h2⟩
theorem zpd {w wx:World} {T:TypeId} {zs:List Value} (h:Below (w.alloc (.cells zs.toArray T)).heap.size (w.alloc (.cells zs.toArray T)) wx):Row wx w.heap.size T zs:=(Row.new w T zs).below h
theorem zk1 {w wx w9:World} {T:TypeId} {zs:List Value} (h:Below (w.alloc (.cells zs.toArray T)).heap.size (w.alloc (.cells zs.toArray T)) wx) (hg:wx.grownBy w9 (some w.heap.size)):Below w.heap.size w w9:=
 (zao ((Below.refl w.heap.size w).alloc zNr _) h).grown hg (by have:=h.size;rw [World.size_alloc] at this;omega) (fun k hk=>by cases hk;exact Nat.le_refl _)
theorem zwb {wb w4:World} {cb ub k:Nat} {s:ByteArray} {us:List Value} {FS:List (World→Prop)} (h:Mine wb w4 [(ub,117,us),(cb,148,[.string s,.int .i64 ((k:Int)+1)])] FS):Mine wb w4 (LP cb ub s (k+1) us) FS:=by
 unfold LP;rw [show ((k+1:Nat):Int)=(k:Int)+1 by push_cast;rfl];refine h.sub (fun r hr => ?_) ?_
 · simp only [List.mem_cons,List.not_mem_nil,or_false] at hr ⊢
   rcases hr with rfl|rfl
   · exact .inr rfl
   · exact .inl rfl
 · have:=h.nd
   simp only [List.map_cons,List.map_nil,List.nodup_cons,List.mem_singleton,List.not_mem_nil,not_false_eq_true,List.nodup_nil,and_true] at this ⊢;exact fun e=>this e.symm
theorem zy6 {xs:List Int} {a:Nat} {u h:List Int} {p:Int} {b:Nat} (hx:By xs) (ha:a≤xs.length) (hR:zew xs a = .ok (u,h,p,b)):b≤xs.length:=by
 unfold zew at hR;have h1:=zu3 hx ha
 cases hu:zk6 xs a with
 | error e=>rw [hu] at hR;cases hR
 | ok q =>
   obtain ⟨u',b'⟩:=q;rw [hu] at hR h1;dsimp only at hR h1
   cases hh:zb3 (subL xs b' (zci xs b')) with
   | none=>rw [hh] at hR;cases hR
   | some h' =>
     rw [hh] at hR;dsimp only at hR;have h2:=zvy (xs:=xs) (a:=zci xs b') (zif (by omega)).2
     cases hp:zh8 xs (zci xs b') with
     | error e=>rw [hp] at hR;cases hR
     | ok q =>
       obtain ⟨p',c⟩:=q;rw [hp] at hR h2;dsimp only at hR h2
       injection hR with hR
       injection hR with _ hR
       injection hR with _ hR
       injection hR with _ hR
       subst hR;omega
set_option maxRecDepth 100000 in
set_option maxHeartbeats 8000000 in
theorem zj5 (s:ByteArray) (w:World) (hC:CLS w) (hG:GM w) (hP:PT w):Calls Tryz.prog 78 #[.string s] w (UriP w (uriL (zaa s))):=by
 have HL:=zac s;have BAD:=kd (fun w' n k (h:uriL (zaa s) = .error (n,k)) hb hk=>UriP.bad (w:=w) (w':=w') h hb hk);have GOOD:=kd (fun w' sc us ho po ps hs v1 v2 (h:uriL (zaa s) = .ok ⟨sc,us,ho,po,ps,hs⟩) h1 h2=>UriP.good (w:=w) (w':=w') (v1:=v1) (v2:=v2) h h1 h2)
 obtain ⟨k,hk⟩:∃ k,zaj (zaa s) 0 [58]=k:=⟨_,rfl⟩;have UE:=kd (uri_eq hk);rw [HL] at UE;have IX:=kd (fun w=>zef s 58 w);rw [skip1,List.drop_zero,Nat.zero_add] at hk;rw [show (((58:UInt8)).toNat:Int)=58 from rfl,hk] at IX
 have kl:k≤s.size:=by rw [← hk,← HL];exact za5 zNz
 have TK:=kd (zco s k);have SL:=zas s;generalize UriP w (uriL (zaa s))=PP at *;generalize uriL (zaa s)=R at *;have RES:=kd (fun wx h=>zpd (w:=w) (wx:=wx) (T:=117) (zs:=ZU6) h);have GRO:=kd (fun wx w9 h hg=>zk1 (w:=w) (wx:=wx) (w9:=w9) (T:=117) (zs:=ZU6) h hg)
 have WB0:=kd ((Below.refl w.heap.size w).alloc zNr (.cells ([.string ⟨#[]⟩,.string ⟨#[]⟩,.string ⟨#[]⟩,.int .i64 0,.slice none 0 0,.slice none 0 0]:List Value).toArray 117))
 have WBS:=kd (show w.heap.size<(w.alloc (.cells ([.string ⟨#[]⟩,.string ⟨#[]⟩,.string ⟨#[]⟩,.int .i64 0,.slice none 0 0,.slice none 0 0]:List Value).toArray 117)).heap.size by rw [World.size_alloc];omega)
 have REF:=kd (Below.refl (w.alloc (.cells ([.string ⟨#[]⟩,.string ⟨#[]⟩,.string ⟨#[]⟩,.int .i64 0,.slice none 0 0,.slice none 0 0]:List Value).toArray 117)).heap.size (w.alloc (.cells ([.string ⟨#[]⟩,.string ⟨#[]⟩,.string ⟨#[]⟩,.int .i64 0,.slice none 0 0,.slice none 0 0]:List Value).toArray 117)))
 clear hk
 go_enter Tryz.func78,Tryz.ntmps78
 by_cases hbig:1024<s.size
 · have dd:decide ((1024:Int)<(s.size:Int))=true:=by simp;omega
   have E:=kd (show R = .error (1024,4) from UE.out.trans (if_pos hbig));clear UE IX hbig TK;have RR:=kd (RES.out _ REF.out);go_wp2_with (with_reducible refine zav rfl 117 (.tmp 2) (.tmp 14) rfl RR.out ZU6 rfl rfl lenU zcv (ze5 _ _ _ _) ?_);intro w9 R9 G9
   have BW9:=kd (GRO.out _ _ REF.out G9.out);go_wp2_with fail;exact bodyPost_ret (za3 rfl _ _ _ w.heap.size ZU6 _ rfl R9.out.range Tryz.underlying117 rfl zcv) rfl (by exact BAD.out _ _ _ E.out BW9.out (by first|decide|exact HK.out))
 have dd:decide ((1024:Int)<(s.size:Int))=false:=by simp;omega
 have hs:s.size≤1024:=by omega
 have UE2:=kd (UE.out.trans (if_neg hbig));clear UE hbig;go_upto_region 3 with (fail);go_wp2_with fail;refine (IX.out _).mono ?_;rintro _ _ ⟨rfl,rfl⟩;clear dd IX
 by_cases hk2:s.size≤k
 · rw [if_pos hk2]
   have E:=kd (show R = .error (s.size,5) from UE2.out.trans (if_pos hk2));clear UE2 TK;have RR:=kd (RES.out _ REF.out);go_wp2_with (with_reducible refine zav rfl 117 (.tmp 2) (.tmp 19) rfl RR.out ZU6 rfl rfl lenU zcv (ze5 _ _ _ _) ?_);intro w9 R9 G9;have BW9:=kd (GRO.out _ _ REF.out G9.out)
   go_wp2_with fail;exact bodyPost_ret (za3 rfl _ _ _ w.heap.size ZU6 _ rfl R9.out.range Tryz.underlying117 rfl zcv) rfl (by exact BAD.out _ _ _ E.out BW9.out (by first|decide|exact HK.out))
 rw [if_neg hk2];have UE3:=kd (UE2.out.trans (if_neg hk2));clear UE2
 have dk:decide ((k:Int)<0)=false:=by simp
 have k1:k+1≤s.size:=by omega
 have i1:(k:Int)≤(s.size:Int):=by omega
 have ES:(s.extract 0 k).size≤4000000:=by rw [← zac,TK.out,List.length_take];omega
 have LW:=kd (fun w=>zce (s.extract 0 k) w ES);rw [TK.out] at LW;have SB:=zcr (SL.sub (List.take_sublist k _));obtain ⟨sc,hsc⟩:∃ sc,lowS ((zaa s).take k)=sc:=⟨_,rfl⟩;rw [hsc] at LW UE3 SB;have HSB:=kd SB;clear TK ES hsc SB;go_upto_region 6 with (fail)
 generalize w.alloc (.cells #[.string ⟨#[]⟩,.string ⟨#[]⟩,.string ⟨#[]⟩,.int .i64 0,.slice none 0 0,.slice none 0 0] 117)=wb at *;have M1:=kd ((Mine.refl wb).alloc 148 [.string s,.int .i64 ((k:Int)+1)]);go_wp2_with fail;refine (LW.out _).mono ?_;rintro _ w3 ⟨rfl,hb3⟩
 have M3:=kd (M1.out.call hb3);have M4r:=kd M3;go_wp2_with (with_reducible refine zak rfl 117 (.tmp 7) (.tmp 32) rfl ZU6 [.string (strOfNums sc),.string ⟨#[]⟩,.string ⟨#[]⟩,.int .i64 0,.slice none 0 0,.slice none 0 0] rfl rfl lenU zcv (ze5 _ _ _ _) ?_);intro w4 R4 B4
 have M4:=kd (show Mine wb w4 (LP wb.heap.size w3.heap.size s (k+1) (uCs (strOfNums sc) [] [] 0)) [] from zwb (M3.out.join B4.out zNr R4.out));clear M1 hb3 M3 R4 B4 LW i1 M4r;generalize w3.heap.size=ub at *;generalize hcb:wb.heap.size=cb at M4 ⊢;clear hcb
 have c0:w4.cell? ⟨ub,0,none⟩=some (.string (strOfNums sc)):=(zfx M4.out).cell 0;have Q1:=zcs HSB.out [115,105,112];have Q2:=zcs HSB.out [115,105,112,115];have Q3:=zcs HSB.out [116,101,108];rw [show bl [115,105,112]=SIPT from rfl] at Q1
 rw [show bl [115,105,112,115]=zes from rfl] at Q2;rw [show bl [116,101,108]=TELT from rfl] at Q3;have HQ1:=kd Q1;have HQ2:=kd Q2;have HQ3:=kd Q3;clear Q1 Q2 Q3;have HCb:=kd (hC.below WB0.out);have HGb:=kd (hG.below WB0.out);have HPb:=kd (hP.below WB0.out);clear hC hG hP
 have HBY:=kd SL;clear SL
 go_upto_block 0 with (fail)
 go_cut [8,9,10] (fun v8 v9 v10 wx=>SwR wb cb ub s sc R v8 v9 v10 wx)
 case first =>
  go_upto_if 35 with (fail)
  go_cut [35] (fun v wx=>v = .bool (decide (sc=SIPT∨sc=zes))∧wx=w4)
  case first =>
   by_cases h1:sc=SIPT
   · have q1:((strOfNums sc).toList == [115,105,112])=true:=HQ1.out.trans (by rw [h1];rfl)
     rw [q1];have d1:=kd (decide_eq_true (p:=sc=SIPT∨sc=zes) (.inl h1));clear h1;go_wp2_with fail;go_meet;exact ⟨congrArg Value.bool d1.out.symm,rfl⟩
   · have q1:((strOfNums sc).toList == [115,105,112])=false:=HQ1.out.trans (by simpa using fun e=>h1 e.symm)
     rw [q1]
     by_cases h2:sc=zes
     · have q2:((strOfNums sc).toList == [115,105,112,115])=true:=HQ2.out.trans (by rw [h2];rfl)
       have d1:=kd (decide_eq_true (p:=sc=SIPT∨sc=zes) (.inr h2));clear h1 h2;go_wp2_with fail;go_meet;exact ⟨congrArg Value.bool d1.out.symm,rfl⟩
     · have q2:((strOfNums sc).toList == [115,105,112,115])=false:=HQ2.out.trans (by simpa using fun e=>h2 e.symm)
       have d1:=kd (decide_eq_false (p:=sc=SIPT∨sc=zes) (by rintro (h|h);exact h1 h;exact h2 h));clear h1 h2;go_wp2_with fail;go_meet;exact ⟨congrArg Value.bool d1.out.symm,rfl⟩
  case rest =>
   first|(rename_i KK hKK;obtain ⟨rfl,rfl⟩:=hcut;refine hKK _ _ ?_;clear hKK KK)|obtain ⟨rfl,rfl⟩:=hcut
   by_cases hsip:sc=SIPT∨sc=zes
   · rw [decide_eq_true hsip]
     have UE4:=kd (UE3.out.trans (if_pos hsip));have PL:=kd (zvz wb _ cb ub (k+1) s (strOfNums sc) [] M4.out k1 (by omega) HCb.out HGb.out HPb.out)
     have PLE:=kd (fun u h p b (hR:zew (zaa s) (k+1) = .ok (u,h,p,b))=>show b≤s.size by rw [← HL];exact zy6 HBY.out (by rw [HL];exact k1) hR);generalize zew (zaa s) (k+1)=P at *;clear UE3 hsip;go_wp2_with fail;refine PL.out.mono ?_
     cases P with
     | error q =>
       obtain ⟨n,kk⟩:=q;rintro _ w5 ⟨rfl,hb5,hk5⟩;have HB5:=kd hb5;have HK5:=kd hk5;have E:=kd (show R = .error (n,kk) from UE4.out);clear hb5 hk5 UE4 PL PLE M4;dsimp only at HB5 HK5;go_wp2_with fail;go_meet
       exact ⟨_,[59,63],[],[],0,rfl,kd (.inl ⟨rfl,rfl⟩),0,Nat.zero_le _,.inl ⟨n,kk,rfl,rfl,HK5.out,E,HB5⟩⟩
     | ok q =>
       obtain ⟨u,h,p,b⟩:=q;rintro _ w5 ⟨rfl,hm5⟩;have M5:=kd hm5;have E:=kd (show R=psR (zaa s) [59,63] sc u h p (s.size+1) b [] by rw [UE4.out,← HL];exact zvg);have LE:=PLE.out u h p b rfl;clear hm5 UE4 PL PLE M4;go_wp2_with fail;go_meet
       exact ⟨_,[59,63],u,h,p,rfl,kd (.inl ⟨rfl,rfl⟩),s.size+1 - b,by omega,.inr ⟨b,s.size+1,[],_,rfl,rfl,LE,by omega,by omega,Nat.zero_le _,E,kd (LOK.nil 1),kd (PK.of_mine M5.out)⟩⟩
   · rw [decide_eq_false hsip]
     have UE4:=kd (UE3.out.trans (if_neg hsip));clear UE3 hsip
     by_cases htel:sc=TELT
     · have q3:((strOfNums sc).toList == [116,101,108])=true:=HQ3.out.trans (by rw [htel];rfl)
       have UE5:=kd (UE4.out.trans (if_pos htel));have PL:=kd (ycq wb _ cb ub (k+1) s (strOfNums sc) M4.out k1 (by omega))
       have PLE:=kd (fun u b (hR:zd8 (zaa s) (k+1) = .ok (u,b))=>show b≤s.size by
        have:=zro (xs:=zaa s) (a:=k+1) (by rw [HL];exact k1);rw [hR] at this
        rw [← HL];exact this.2.2)
       generalize zd8 (zaa s) (k+1)=P at *;clear UE4 htel;go_wp2_with fail;refine PL.out.mono ?_
       cases P with
       | error q =>
         obtain ⟨n,kk⟩:=q;rintro _ w5 ⟨rfl,hb5,hk5⟩;have HB5:=kd hb5;have HK5:=kd hk5;have E:=kd (show R = .error (n,kk) from UE5.out);clear hb5 hk5 UE5 PL PLE M4;dsimp only at HB5 HK5;go_wp2_with fail;go_meet
         exact ⟨_,[59],[],[],0,rfl,kd (.inr ⟨rfl,rfl⟩),0,Nat.zero_le _,.inl ⟨n,kk,rfl,rfl,HK5.out,E,HB5⟩⟩
       | ok q =>
         obtain ⟨u,b⟩:=q;rintro _ w5 ⟨rfl,hm5⟩;have M5:=kd hm5;have E:=kd (show R=psR (zaa s) [59] sc u [] 0 (s.size+1) b [] by rw [UE5.out,← HL];exact zvg);have LE:=PLE.out u b rfl;clear hm5 UE5 PL PLE M4;go_wp2_with fail;go_meet
         exact ⟨_,[59],u,[],0,rfl,kd (.inr ⟨rfl,rfl⟩),s.size+1 - b,by omega,.inr ⟨b,s.size+1,[],_,rfl,rfl,LE,by omega,by omega,Nat.zero_le _,E,kd (LOK.nil 1),kd (PK.of_mine M5.out)⟩⟩
     · have q3:((strOfNums sc).toList == [116,101,108])=false:=HQ3.out.trans (by simpa using fun e=>htel e.symm)
       have E:=kd (show R = .error (0,15) from UE4.out.trans (if_neg htel));clear UE4 htel;go_wp2_with fail;go_meet;exact ⟨_,[59,63],[],[],0,rfl,kd (.inl ⟨rfl,rfl⟩),0,Nat.zero_le _,.inl ⟨0,15,rfl,rfl,by decide,E,kd M4.out.bw⟩⟩
 case rest =>
 first|(rename_i KK hKK;obtain ⟨stb,st,us,ho,po,rfl,HST,g0,hg0,hrel0⟩:=hcut;refine hKK _ _ ?_;clear hKK KK)|obtain ⟨stb,st,us,ho,po,rfl,HST,g0,hg0,hrel0⟩:=hcut
 have HUB:=kd (ydl M4.out);clear UE3 M4 HQ1 HQ2 HQ3 c0 HSB
 go_upto_block 1 with (fail)
 go_cut [8,9] (fun v8 v9 wx=>Mid wb cb ub s sc us ho po R v8 v9 wx)
 case first =>
  go_wp2_with fail
  go_loopg [8,9] g0 (fun g v8 v9 wx=>Lp1 wb cb ub s st sc us ho po R g v8 v9 wx)
  case atStart=>exact hrel0
  case round =>
   clear hrel0
   rcases hrel with ⟨n,kk,rfl,rfl,hk,HE,HB⟩|⟨a,f,l,v,rfl,rfl,ha,hg,hf,hl,HR,HLK,HP⟩
   · have q0:(kk == 0)=false:=by simpa using hk
     have HK:=kd hk;clear hk;go_wp2_with fail;go_meet;exact .inl ⟨n,kk,rfl,rfl,HK.out,HE,HB⟩
   · have SE:=kd (zb4 wr cb a 59 s HP.out.c)
     go_wp2_with fail;refine SE.out.mono ?_;rintro _ _ ⟨rfl,nq,rfl⟩;have P1:=kd (HP.out.call (zam wr nq));clear SE HP;generalize wr.drewN nq=w1 at *;obtain ⟨f,rfl⟩:∃ f',f=f'+1:=⟨f - 1,by omega⟩
     cases h59:zcw (zaa s) a 59 with
     | false =>
       have HR2:=kd (show R=hdR (zaa s) sc us ho po l (s.size+1) a [] by rw [HR.out,yde h59,HL]);clear HR h59;go_wp2_with fail;go_meet;exact .inr ⟨a,l,v,rfl,rfl,ha,hl,HR2,HLK,P1⟩
     | true =>
       have A1:a+1≤s.size:=by have:=(zgk (xs:=zaa s) (a:=a) (c:=59) (by rw [show atL (zaa s) a 59=true from h59];decide)).1;rw [HL] at this;omega
       obtain ⟨u1,u2⟩:=zbf (xs:=zaa s) (a:=a+1) (st:=st) (by rw [HL];exact A1);rw [HL] at u2;have HRB:=kd (fun e (h:zcg (zaa s) l (a+1) (zaj (zaa s) (a+1) st) 1 = .error e)=>show R = .error e from HR.out.trans (ydf h59 h))
       have HRG:=kd (fun m (h:zcg (zaa s) l (a+1) (zaj (zaa s) (a+1) st) 1 = .ok m)=>show R=psR (zaa s) st sc us ho po f (zaj (zaa s) (a+1) st) m from HR.out.trans (psR_go h59 h));have UN:=kd (fun w=>zvh HST.out s (a+1) w (by omega) A1)
       obtain ⟨b,hb⟩:∃ b,zaj (zaa s) (a+1) st=b:=⟨_,rfl⟩;rw [hb] at u1 u2 HRB HRG UN;have LOK2:=kd (fun m (h:zcg (zaa s) l (a+1) b 1 = .ok m)=>zjj HBY.out u1 (by rw [HL];exact u2) (.inl rfl) HLK.out h);clear hb h59 HR
       have k1:w1.cell? ⟨cb,1,none⟩=some (.int .i64 a):=P1.out.c.cell 1;have f1:w1.frozen? ⟨cb,1,none⟩=false:=P1.out.c.frozen 1;have P2:=kd (P1.out.cset (a+1) (z:=(a:Int)+1) (by push_cast;rfl));go_upto_region 19 with (fail);clear k1 f1 P1
       generalize w1.setCell ⟨cb,1,none⟩ (.int .i64 ((a:Int)+1))=w2 at *;obtain ⟨A,c,hv,hRd⟩:=P2.out.form;subst hv;obtain ⟨F,hF⟩:∃ F,zcg (zaa s) l (a+1) b 1=F:=⟨_,rfl⟩
       have FA:=kd (fun w3 (h:PK wb cb s (a+1) l (.slice A l.length c) [uK ub sc us ho po (.slice A l.length c) (.slice none 0 0)] w3)=>zo0 wb w3 cb (a+1) b 1 s l _ _ h u1 u2 (by omega) (.inl rfl) (fun p hp=>(HLK.out.f p hp).n) hl HCb.out);rw [hF] at FA HRB HRG LOK2;clear hF hRd
       replace P2:=kd (P2.out.call (Below.refl _ w2).drew);have k0:w2.drew.cell? ⟨cb,0,none⟩=some (.string s):=P2.out.c.cell 0;have k1:w2.drew.cell? ⟨cb,1,none⟩=some (.int .i64 ((a:Int)+1)):=(P2.out.c.cell 1).trans (by simp)
       have k4:w2.drew.cell? ⟨ub,4,none⟩=some (.slice A l.length c):=(P2.out.k _ (List.mem_singleton.2 rfl)).cell 4
       go_region_with ((first
        | (go_at_call 125
           refine (UN.out _).mono ?_;rintro _ w3 ⟨rfl,hbl⟩;replace P2:=kd (P2.out.call hbl);clear hbl k0 k1 k4;have k0:w3.cell? ⟨cb,0,none⟩=some (.string s):=P2.out.c.cell 0;have k1:w3.cell? ⟨cb,1,none⟩=some (.int .i64 ((a:Int)+1)):=(P2.out.c.cell 1).trans (by simp)
           have k4:w3.cell? ⟨ub,4,none⟩=some (.slice A l.length c):=(P2.out.k _ (List.mem_singleton.2 rfl)).cell 4)
        | (go_at_call 124
           refine (FA.out _ P2.out).mono ?_;intro e w4 hF4;obtain ⟨A4,n4,c4,z4,kk,rfl,hu4,hf4⟩:=zxb hF4;have RU4:=kd hu4;have AF4:=kd hf4;clear hF4 hu4 hf4 k0 k1 k4;have k4:w4.cell? ⟨ub,4,none⟩=some (.slice A l.length c):=RU4.out.cell 4
           have f4:w4.frozen? ⟨ub,4,none⟩=false:=RU4.out.frozen 4)))
       all_goals
        have AF:=AF4.out;clear AF4 k4 f4 P2 RU4
        rcases AF with ⟨hk,hE,hB⟩|⟨rfl,rfl,m,hE,hP⟩
        · have HE:=kd (HRB.out _ hE)
          have HB:=kd (hB.setCell (p:=⟨ub,4,none⟩) HUB.out (.slice A4 n4 c4));have HK:=kd hk;clear hk hE hB HRB HRG LOK2;go_wp2_with fail
          go_roundg 0
          case measure=>omega
          case rel=>exact .inl ⟨z4,kk,rfl,rfl,HK.out,HE,HB⟩
        · have HE:=kd (HRG.out _ hE)
          obtain ⟨l2,l3,l4⟩:=LOK2.out _ hE;have HL2:=kd l2;have hl5:=l2.len
          have HPK:=kd (show PK wb cb s b m (.slice A4 n4 c4) [uK ub sc us ho po (.slice A4 n4 c4) (.slice none 0 0)] (w4.setCell ⟨ub,4,none⟩ (.slice A4 n4 c4)) from hP.kset HUB.out (fun r hr=>by cases hr) 4 (.slice A4 n4 c4));clear hE hP l2 l3 l4 HRB HRG LOK2;go_wp2_with fail
          go_roundg (s.size+1 - b)
          case measure=>omega
          case rel=>exact .inr ⟨b,f,m,_,rfl,rfl,u2,by omega,by omega,hl5,HE,HL2,HPK⟩
 case rest =>
 clear hrel0 hg0
 rcases hcut with ⟨n,kk,rfl,rfl,hk,HE,HB⟩|⟨a,ps,v,rfl,rfl,ha,hl,HR,HLK,HP⟩
 · have q0:(kk == 0)=false:=by simpa using hk
   have q1:(kk != 0)=true:=by simpa using hk
   have HK:=kd hk;clear hk;go_wp2_with fail
   go_loopg [8,9] 0 (fun g v8 v9 wx=>v8 = .int .i64 n∧v9 = .int .u8 kk∧Hid (Below wb.heap.size wb wx))
   case atStart=>exact ⟨rfl,rfl,HB⟩
   case round =>
    obtain ⟨rfl,rfl,HB2⟩:=hrel;have RR:=kd (RES.out _ HB2.out);have GR:=kd (fun w9 h=>GRO.out _ w9 HB2.out h);go_wp2_with (with_reducible refine zav rfl 117 (.tmp 2) (.tmp 116) rfl RR.out ZU6 rfl rfl lenU zcv (ze5 _ _ _ _) ?_);intro w9 R9 G9;have BW9:=kd (GR.out _ G9.out)
    go_wp2_with fail;exact bodyPost_ret (za3 rfl _ _ _ w.heap.size ZU6 _ rfl R9.out.range Tryz.underlying117 rfl zcv) rfl (by exact BAD.out _ _ _ HE.out BW9.out HK.out)
 obtain ⟨K2,A1,c1,hv,hnil1,hK2,hRd1⟩:=HP.out.o.whole;subst hv;have RU0:=kd (HP.out.k _ (List.mem_singleton.2 rfl));have HN:=kd (show ∀ r∈K2,ub≠r.1 from fun r hr=>zft RU0.out (hK2 r hr).1 (by rw [(hK2 r hr).2.2.1];exact show 117≠155 by decide));have P0:=kd (HP.out.turn hK2)
 have LP1:=kd HLK.out;have HRd1:=kd hRd1;have HNIL1:=kd hnil1;clear hK2 hRd1 hnil1 HP HLK RU0
 go_upto_block 3 with (fail)
 go_cut [8,9] (fun v8 v9 wx=>Fin wb cb ub s sc us ho po ps (.slice A1 ps.length c1) K2 R v8 v9 wx)
 case first =>
  go_wp2_with fail
  go_loopg [8,9] (s.size+1 - a) (fun g v8 v9 wx=>Lp2 wb cb ub s sc us ho po ps (.slice A1 ps.length c1) K2 R g v8 v9 wx)
  case atStart=>exact .inr ⟨a,s.size+1,[],_,rfl,rfl,ha,by omega,by omega,Nat.zero_le _,HR,kd (LOK.nil 2),P0⟩
  case round =>
   clear P0 HR ha
   rcases hrel with ⟨n,kk,rfl,rfl,hk,HE,HB⟩|⟨a,f,l,v,rfl,rfl,ha,hg,hf,hl,HR,HLK,HP⟩
   · have q0:(kk == 0)=false:=by simpa using hk
     have HK:=kd hk;clear hk;go_wp2_with fail;go_meet;exact .inl ⟨n,kk,rfl,rfl,HK.out,HE,HB⟩
   · have SE:=kd (zex wr cb a s HP.out.c)
     go_wp2_with fail;refine SE.out.mono ?_;rintro _ _ ⟨rfl,nq,rfl⟩;have P1:=kd (HP.out.call (zam wr nq));clear SE HP;generalize wr.drewN nq=w1 at *;obtain ⟨f,rfl⟩:∃ f',f=f'+1:=⟨f - 1,by omega⟩
     by_cases hend:s.size≤a
     · have hd:decide (s.size≤a)=true:=by simp [hend]
       have HR2:=kd (show R = .ok ⟨sc,us,ho,po,zbb ps,zbb l⟩ by rw [HR.out,yd1 (by rw [HL];exact hend)]);clear HR;rw [hd];clear hd;go_wp2_with fail;go_meet;exact .inr ⟨a,l,v,rfl,rfl,hl,HR2,HLK,P1⟩
     · have hd:decide (s.size≤a)=false:=by simp;omega
       rw [hd];clear hd
       have A1s:a+1≤s.size:=by omega
       obtain ⟨u1,u2⟩:=zbf (xs:=zaa s) (a:=a+1) (st:=[38]) (by rw [HL];exact A1s);rw [HL] at u2;have HRB:=kd (fun e (h:zcg (zaa s) l (a+1) (zaj (zaa s) (a+1) [38]) 2 = .error e)=>show R = .error e from HR.out.trans (yd2 (by rw [HL];exact hend) h))
       have HRG:=kd (fun m (h:zcg (zaa s) l (a+1) (zaj (zaa s) (a+1) [38]) 2 = .ok m)=>show R=hdR (zaa s) sc us ho po ps f (zaj (zaa s) (a+1) [38]) m from HR.out.trans (hdR_go (by rw [HL];exact hend) h))
       have UN:=kd (fun w=>zcm s ⟨#[38]⟩ (a+1) w (by omega) A1s (by decide) (by decide) asc_38);simp only [show zaa ⟨#[38]⟩=[38] by rfl] at UN;obtain ⟨b,hb⟩:∃ b,zaj (zaa s) (a+1) [38]=b:=⟨_,rfl⟩;rw [hb] at u1 u2 HRB HRG UN
       have LOK2:=kd (fun m (h:zcg (zaa s) l (a+1) b 2 = .ok m)=>zjj HBY.out u1 (by rw [HL];exact u2) (.inr rfl) HLK.out h);clear hb HR hend;have k1:w1.cell? ⟨cb,1,none⟩=some (.int .i64 a):=P1.out.c.cell 1;have f1:w1.frozen? ⟨cb,1,none⟩=false:=P1.out.c.frozen 1
       have P2:=kd (P1.out.cset (a+1) (z:=(a:Int)+1) (by push_cast;rfl));go_upto_region 22 with (fail);clear k1 f1 P1;generalize w1.setCell ⟨cb,1,none⟩ (.int .i64 ((a:Int)+1))=w2 at *;obtain ⟨A,c,hv,hRd⟩:=P2.out.form;subst hv
       obtain ⟨F,hF⟩:∃ F,zcg (zaa s) l (a+1) b 2=F:=⟨_,rfl⟩
       have FA:=kd (fun w3 (h:PK wb cb s (a+1) l (.slice A l.length c) (uK ub sc us ho po (.slice A1 ps.length c1) (.slice A l.length c)::K2) w3)=>zo0 wb w3 cb (a+1) b 2 s l _ _ h u1 u2 (by omega) (.inr rfl) (fun p hp=>(HLK.out.f p hp).n) hl HCb.out);rw [hF] at FA HRB HRG LOK2
       clear hF hRd;replace P2:=kd (P2.out.call (Below.refl _ w2).drew);have k0:w2.drew.cell? ⟨cb,0,none⟩=some (.string s):=P2.out.c.cell 0;have k1:w2.drew.cell? ⟨cb,1,none⟩=some (.int .i64 ((a:Int)+1)):=(P2.out.c.cell 1).trans (by simp)
       have k4:w2.drew.cell? ⟨ub,5,none⟩=some (.slice A l.length c):=(P2.out.k _ (List.mem_cons_self ..)).cell 5
       go_region_with ((first
        | (go_at_call 125
           refine (UN.out _).mono ?_;rintro _ w3 ⟨rfl,hbl⟩;replace P2:=kd (P2.out.call hbl);clear hbl k0 k1 k4;have k0:w3.cell? ⟨cb,0,none⟩=some (.string s):=P2.out.c.cell 0;have k1:w3.cell? ⟨cb,1,none⟩=some (.int .i64 ((a:Int)+1)):=(P2.out.c.cell 1).trans (by simp)
           have k4:w3.cell? ⟨ub,5,none⟩=some (.slice A l.length c):=(P2.out.k _ (List.mem_cons_self ..)).cell 5)
        | (go_at_call 124
           refine (FA.out _ P2.out).mono ?_;intro e w4 hF4;obtain ⟨A4,n4,c4,z4,kk,rfl,hu4,hf4⟩:=zxb hF4;have RU4:=kd hu4;have AF4:=kd hf4;clear hF4 hu4 hf4 k0 k1 k4;have k4:w4.cell? ⟨ub,5,none⟩=some (.slice A l.length c):=RU4.out.cell 5
           have f4:w4.frozen? ⟨ub,5,none⟩=false:=RU4.out.frozen 5)))
       all_goals
        have AF:=AF4.out;clear AF4 k4 f4 P2 RU4
        rcases AF with ⟨hk,hE,hB⟩|⟨rfl,rfl,m,hE,hP⟩
        · have HE:=kd (HRB.out _ hE)
          have HB:=kd (hB.setCell (p:=⟨ub,5,none⟩) HUB.out (.slice A4 n4 c4));have HK:=kd hk;clear hk hE hB HRB HRG LOK2;go_wp2_with fail
          go_roundg 0
          case measure=>omega
          case rel=>exact .inl ⟨z4,kk,rfl,rfl,HK.out,HE,HB⟩
        · have HE:=kd (HRG.out _ hE)
          obtain ⟨l2,l3,l4⟩:=LOK2.out _ hE;have HL2:=kd l2;have hl5:=l2.len;have HPK:=kd (show PK wb cb s b m (.slice A4 n4 c4) (uK ub sc us ho po (.slice A1 ps.length c1) (.slice A4 n4 c4)::K2) (w4.setCell ⟨ub,5,none⟩ (.slice A4 n4 c4)) from hP.kset HUB.out HN.out 5 (.slice A4 n4 c4))
          clear hE hP l2 l3 l4 HRB HRG LOK2;go_wp2_with fail
          go_roundg (s.size+1 - b)
          case measure=>omega
          case rel=>exact .inr ⟨b,f,m,_,rfl,rfl,u2,by omega,by omega,hl5,HE,HL2,HPK⟩
 case rest =>
 clear P0 HR ha
 rcases hcut with ⟨n,kk,rfl,rfl,hk,HE,HB⟩|⟨a,hs2,v,rfl,rfl,hl2,HR,HLK,HP⟩
 · have q1:(kk != 0)=true:=by simpa using hk
   have HK:=kd hk;clear hk;have RR:=kd (RES.out _ HB.out);have GR:=kd (fun w9 h=>GRO.out _ w9 HB.out h);go_wp2_with (with_reducible refine zav rfl 117 (.tmp 2) (.tmp 116) rfl RR.out ZU6 rfl rfl lenU zcv (ze5 _ _ _ _) ?_);intro w9 R9 G9;have BW9:=kd (GR.out _ G9.out);go_wp2_with fail
   exact bodyPost_ret (za3 rfl _ _ _ w.heap.size ZU6 _ rfl R9.out.range Tryz.underlying117 rfl zcv) rfl (by exact BAD.out _ _ _ HE.out BW9.out HK.out)
 obtain ⟨K3,A2,c2,hv,hnil2,hK3,hRd2⟩:=HP.out.o.whole;subst hv
 have SR0:=kd (show SR wb ub [.string (strOfNums sc),.string (strOfNums us),.string (strOfNums ho),.int .i64 po,.slice A1 ps.length c1,.slice A2 hs2.length c2] (K2++K3) wc from ⟨HP.out.k _ (List.mem_cons_self ..),fun r hr=>by
  rcases List.mem_append.1 hr with hr|hr
  · exact HP.out.k r (List.mem_cons_of_mem _ hr)
  · exact (hK3 r hr).1,HP.out.o.bw⟩)
 have ps16:=LP1.out.len
 have SO1:=kd (fun W (h:SR wb ub [.string (strOfNums sc),.string (strOfNums us),.string (strOfNums ho),.int .i64 po,.slice A1 ps.length c1,.slice A2 hs2.length c2] (K2++K3) W)=>zh2 A1 ps.length c1 ps W rfl (HRd1.out W fun r hr=>h.k r (List.mem_append_left _ hr)) HNIL1.out (by omega) LP1.out.by)
 have SO2:=kd (fun W (h:SR wb ub [.string (strOfNums sc),.string (strOfNums us),.string (strOfNums ho),.int .i64 po,.slice A1 ps.length c1,.slice A2 hs2.length c2] (K2++K3) W)=>zh2 A2 hs2.length c2 hs2 W rfl (hRd2 W fun r hr=>h.k r (List.mem_append_right _ hr)) hnil2 (by omega) HLK.out.by)
 have ES1:=kd (fun (m:List Pm) (h1:m.Perm ps) h2=>zne h1 h2 LP1.out.nd);have ES2:=kd (fun (m:List Pm) (h1:m.Perm hs2) h2=>zne h1 h2 HLK.out.nd);clear hnil2 hK3 hRd2 HRd1 HNIL1 LP1 HLK HP HN;go_upto_region 25 with (fail);replace SR0:=kd (SR0.out.call (Below.refl _ wc).drew)
 have k4:wc.drew.cell? ⟨ub,4,none⟩=some (.slice A1 ps.length c1):=SR0.out.u.cell 4;have k5:wc.drew.cell? ⟨ub,5,none⟩=some (.slice A2 hs2.length c2):=SR0.out.u.cell 5
 go_region_with ((first
  | (go_at_call 127
     refine (SO1.out _ SR0.out).mono ?_;rintro _ w5 ⟨v5,m5,rfl,hs5⟩;obtain rfl:=ES1.out m5 hs5.p hs5.a;obtain ⟨_,A5,c5,hv5,_⟩:=hs5.x.whole;subst hv5;have X5:=kd (hs5.x.base SR0.out.b);have hbl:=hs5.x.bw;replace SR0:=kd (SR0.out.call hbl);clear hbl hs5 k4 k5
     have k4:w5.cell? ⟨ub,4,none⟩=some (.slice A1 ps.length c1):=SR0.out.u.cell 4
     have k5:w5.cell? ⟨ub,5,none⟩=some (.slice A2 hs2.length c2):=SR0.out.u.cell 5)
  | (go_at_call 127
     refine (SO2.out _ SR0.out).mono ?_;rintro _ w6 ⟨v6,m6,rfl,hs6⟩;obtain rfl:=ES2.out m6 hs6.p hs6.a;obtain ⟨_,A6,c6,hv6,_⟩:=hs6.x.whole;subst hv6;have X6:=kd (hs6.x.base SR0.out.b);have hbl:=hs6.x.bw;replace SR0:=kd (SR0.out.call hbl);replace X5:=kd (X5.out.step hbl)
     clear hbl hs6 k4 k5;have k4:w6.cell? ⟨ub,4,none⟩=some (.slice A1 ps.length c1):=SR0.out.u.cell 4;have f4:w6.frozen? ⟨ub,4,none⟩=false:=SR0.out.u.frozen 4
     have k5:(w6.setCell ⟨ub,4,none⟩ (.slice A5 (zbb ps).length c5)).cell? ⟨ub,5,none⟩=some (.slice A2 hs2.length c2):=(SR0.out.u.set 4 _).cell 5
     have f5:(w6.setCell ⟨ub,4,none⟩ (.slice A5 (zbb ps).length c5)).frozen? ⟨ub,5,none⟩=false:=(SR0.out.u.set 4 _).frozen 5)))
 all_goals
  have RU7:=kd (show Row ((w6.setCell ⟨ub,4,none⟩ (.slice A5 (zbb ps).length c5)).setCell ⟨ub,5,none⟩ (.slice A6 (zbb hs2).length c6)) ub 117 [.string (strOfNums sc),.string (strOfNums us),.string (strOfNums ho),.int .i64 po,.slice A5 (zbb ps).length c5,.slice A6 (zbb hs2).length c6] from (SR0.out.u.set 4 _).set 5 _)
  have B7:=kd ((SR0.out.b.setCell (p:=⟨ub,4,none⟩) HUB.out (.slice A5 (zbb ps).length c5)).setCell (p:=⟨ub,5,none⟩) HUB.out (.slice A6 (zbb hs2).length c6));have Y5:=kd (zu0 X5.out SR0.out.u B7.out);have Y6:=kd (zu0 X6.out SR0.out.u B7.out);clear X5 X6 SR0 k4 k5 f4 f5
  generalize (w6.setCell ⟨ub,4,none⟩ (.slice A5 (zbb ps).length c5)).setCell ⟨ub,5,none⟩ (.slice A6 (zbb hs2).length c6)=w7 at *;have RR:=kd (RES.out _ B7.out);have GR:=kd (fun w9 h=>GRO.out _ w9 B7.out h)
  go_wp2_with (first
   | (with_reducible refine zab rfl 117 (.tmp 7) rfl RU7.out rfl Tryz.underlying117 rfl zcv ?_)
   | (with_reducible refine zav rfl 117 (.tmp 2) (.tmp 127) rfl RR.out [.string (strOfNums sc),.string (strOfNums us),.string (strOfNums ho),.int .i64 po,.slice A5 (zbb ps).length c5,.slice A6 (zbb hs2).length c6] rfl rfl lenU zcv (ze5 _ _ _ _) ?_))
  intro w9 R9 G9;have BW9:=kd (GR.out _ G9.out);have Z5:=kd (znn Y5.out WB0.out WBS.out G9.out BW9.out);have Z6:=kd (znn Y6.out WB0.out WBS.out G9.out BW9.out);go_wp2_with fail
  exact bodyPost_ret (za3 rfl _ _ _ w.heap.size [.string (strOfNums sc),.string (strOfNums us),.string (strOfNums ho),.int .i64 po,.slice A5 (zbb ps).length c5,.slice A6 (zbb hs2).length c6] _ rfl R9.out.range Tryz.underlying117 rfl zcv) rfl (by exact GOOD.out _ _ _ _ _ _ _ _ _ HR.out Z5.out Z6.out)
end Go.Proofs.YtfnmkedncfdceaaGreatDoor
