/- Contract: the law's works. And what stands behind it. -/
import Derived.Test.YtfnmkedncfdceaaGreatDoorJc
import Derived.Below
import Derived.ChangeSame
import Derived.ProofKit
import Derived.LaidMore
import Derived.OpenShut
import Derived.ShutString
import Derived.Stop.Joined
import Derived.Shelf.Vars
import Derived.Deep.DeepHandedRow
import Derived.Deep.Slices
import Derived.Deep.Fields
import Derived.Stop.LaidErr
set_option linter.unusedVariables false
set_option linter.unusedSimpArgs false
namespace Go.Proofs.YtfnmkedncfdceaaGreatDoor
open Go.RowKit

theorem zfc {w:World} {g:Nat} {T:TypeId} {vs:List Value} (h:Row w g T vs):Rds w w.heap.size (some ⟨g,0,none⟩) vs:=fun _=>⟨g,0,rfl,h.lt,fun j u hj=>h.range j u hj⟩
theorem VX.msg {w wr:World} {v:Value} {n:Nat} {m:Msg} (X:VX 56 2 w v n (hds m.hs) wr) (hn:n=m.hs.length) (hS:HOK m.hs∧By m.me∧By m.ur∧m.me.length≤4000000∧m.ur.length≤4000000):∃ A c,v = .slice A m.hs.length c∧(∀ b o s,A=some ⟨b,o,s⟩→w.heap.size≤b)∧MArg wr m A:=by
 subst hn;obtain ⟨s1,s2,s3,s4,s5⟩:=hS
 rcases X.form with ⟨rfl,h0,hc⟩|⟨g,cap,rfl,h1,h2,h3,h4⟩
 · exact ⟨none,0,by rw [h0],(fun b o s e=>by cases e),(fun hp=>by rw [hc] at hp;exact absurd hp (by simp)),s1,s2,s3,s4,s5⟩
 · exact ⟨some ⟨g,0,none⟩,cap,rfl,(fun b o s e=>by cases e;exact h2),(fun _=>⟨g,0,rfl,h3,fun j u hu=>by rw [Nat.zero_add];exact h4 j u hu⟩),s1,s2,s3,s4,s5⟩
theorem zoj {l:List Int} (h:By l) (u:List UInt8) (hU:bl u=l):(strOfNums l).toList=u:=by
 have h2:=zdg h u l hU;rw [show (l == l)=true by simp] at h2
 simpa using h2
theorem yak (x:List (List Int)):decide (x=x)=true:=by simp
theorem ybm {l:List Int} (h:By l) (u:List UInt8) (hU:bl u=l):((strOfNums l).toList == u)=true:=by
 rw [zdg h u l hU];simp
set_option maxRecDepth 100000 in
set_option maxHeartbeats 8000000 in
theorem znk (w:World) (G:GW w):Calls Tryz.prog 15 #[] w fun e w'=>e = .returned (.bool true)∧Below w.heap.size w w':=by
 have GH:=kd (fun W (hb:Below w.heap.size w W)=>G.below hb);have M0:=kd (Mine.refl w);obtain ⟨PO,hPO⟩:∃ PO,(fun (e:Ending) (w':World)=>e = .returned (.bool true)∧Below w.heap.size w w')=PO:=⟨_,rfl⟩
 have FIN:=kd (show ∀ w',Below w.heap.size w w'→PO (.returned (.bool true)) w' from fun w' h=>by rw [← hPO];exact ⟨rfl,h⟩);rw [hPO];clear hPO G;obtain ⟨DA,hDA⟩:∃ x,zd0 200 [SP2,SP1]=x:=⟨_,rfl⟩;obtain ⟨DB,hDB⟩:∃ x,zda 200 [SP2,SP1]=x:=⟨_,rfl⟩
 have WA:=kd (show zdh (zaz [SP2,SP1]) (zay 200 [SP2,SP1]) = .ok DA by rw [← hDA];exact wk_a);have WB:=kd (show zc6 (zaz [SP2,SP1]) (zay 200 [SP2,SP1]) = .ok DB by rw [← hDB];exact wk_b);have OA:=kd (show DOK DA by rw [← hDA];exact zo4 zh0 (by decide))
 have OB:=kd (show DOK DB by rw [← hDB];exact zku zh0 (by decide));obtain ⟨QM,hQM⟩:∃ x,wkM=x:=⟨_,rfl⟩;obtain ⟨DC,hDC⟩:∃ x,wkB=x:=⟨_,rfl⟩;obtain ⟨DD,hDD⟩:∃ x,wkD=x:=⟨_,rfl⟩;have RQ0:=kd (show zcb DB BYET VIA2 = .ok (DC,QM) by rw [← hDB,← hQM,← hDC];exact wk_req)
 have RC0:=kd (show zbl DA QM = .ok DD by rw [← hDA,← hQM,← hDD];exact wk_rec);have RC1:=kd (show zbl DD QM = .error 9 by rw [← hDD,← hQM];exact zyj);have SQ0:=kd (show zan QM.hs=(8,BYET,true) by rw [← hQM];exact wk_seq)
 have RT0:=kd (show allH QM.hs (zaa ⟨#[82,111,117,116,101]⟩)=[brak SP1,brak SP2] by rw [← hQM];exact wk_rt);have QMS:=kd (show HOK QM.hs∧By QM.me∧By QM.ur∧QM.me.length≤4000000∧QM.ur.length≤4000000 by rw [← hQM];exact wk_msg)
 have OD:=kd (show DOK DD by rw [← hDD];exact wkD_ok)
 have pm1:((strOfNums QM.ur).toList == [115,105,112,58,98,64,53,46,54,46,55,46,56])=true:=by rw [← hQM];exact ybm (by unfold By wkM;decide) _ rfl
 have pc9:(DC.ls == 8)=true:=by rw [← hDC];rfl
 have pd0:(DD.st == 3)=true:=by rw [← hDD];rfl
 have pb:((strOfNums BYET).toList == [66,89,69])=true:=ybm (by unfold By;decide) _ rfl;clear hQM hDC hDD;have SFAE:=kd (show decide (DA.rs=[SP2,SP1])=true by rw [← hDA];decide);have SFBE:=kd (show decide (DB.rs=[SP1,SP2])=true by rw [← hDB];decide)
 have SFAN:=kd (show DA.rs.length≤1000000 by rw [← hDA];decide);have SFBN:=kd (show DB.rs.length≤1000000 by rw [← hDB];decide);have SFAB:=kd (show ∀ t∈DA.rs,By t from fun t ht=>(OA.out.rs t ht).1);have SFBB:=kd (show ∀ t∈DB.rs,By t from fun t ht=>(OB.out.rs t ht).1)
 have pa0:(DA.st != 2)=false:=by rw [← hDA];rfl
 have pa3:(strOfNums DA.lt).toList=[121]:=by rw [← hDA];exact zoj (by unfold By zd0;decide) _ rfl
 have pa4:(strOfNums DA.rt).toList=[120]:=by rw [← hDA];exact zoj (by unfold By zd0;decide) _ rfl
 have pa7:(strOfNums DA.tg).toList=[115,105,112,58,97,64,49,46,50,46,51,46,52]:=by rw [← hDA];exact zoj (by unfold By zd0;decide) _ rfl
 have pa10:(DA.rq != 7)=false:=by rw [← hDA];rfl
 have pb3:(strOfNums DB.lt).toList=[120]:=by rw [← hDB];exact zoj (by unfold By zda;decide) _ rfl
 have pb7:(strOfNums DB.tg).toList=[115,105,112,58,98,64,53,46,54,46,55,46,56]:=by rw [← hDB];exact zoj (by unfold By zda;decide) _ rfl
 have pb9:(DB.ls != 7)=false:=by rw [← hDB];rfl
 have pb11:(DB.iq != 7)=false:=by rw [← hDB];rfl
 clear hDA hDB
 go_enter Tryz.func15,Tryz.ntmps15
 have RL2:=kd (Row.new w 9 [.string ⟨#[115,105,112,58,112,50,46,101,120,97,109,112,108,101,59,108,114]⟩,.string ⟨#[115,105,112,58,112,49,46,101,120,97,109,112,108,101,59,108,114]⟩])
 have BL2:=kd ((Below.refl w.heap.size w).alloc zNr (.cells ([.string ⟨#[115,105,112,58,112,50,46,101,120,97,109,112,108,101,59,108,114]⟩,.string ⟨#[115,105,112,58,112,49,46,101,120,97,109,112,108,101,59,108,114]⟩]:List Value).toArray 9));go_wp2_with fail
 generalize w.alloc (.cells #[.string ⟨#[115,105,112,58,112,50,46,101,120,97,109,112,108,101,59,108,114]⟩,.string ⟨#[115,105,112,58,112,49,46,101,120,97,109,112,108,101,59,108,114]⟩] 9)=wa2 at *;have Ma2:=kd (M0.out.call BL2.out)
 refine (ze3 [SP2,SP1] (some ⟨w.heap.size,0,none⟩) 2 2 wa2 rfl (by decide) (fun r hr=>(zfn (zh0 r hr)).2.1) (fun b o s e=>by cases e;rfl) (zfc RL2.out)).mono ?_;rintro _ w2 ⟨v2,rfl,X⟩;obtain ⟨A2,c2,rfl,F,HM⟩:=VX.msg (m:=zaz [SP2,SP1]) X rfl (invS zh0 (by decide))
 have M2:=kd (Ma2.out.call X.bw);have B2:=kd (zao BL2.out X.bw);have H2:=kd HM;clear X F HM RL2 BL2 Ma2
 have RL4:=kd (Row.new w2 9 [.string ⟨#[115,105,112,58,112,50,46,101,120,97,109,112,108,101,59,108,114]⟩,.string ⟨#[115,105,112,58,112,49,46,101,120,97,109,112,108,101,59,108,114]⟩])
 have BL4:=kd ((Below.refl w2.heap.size w2).alloc zNr (.cells ([.string ⟨#[115,105,112,58,112,50,46,101,120,97,109,112,108,101,59,108,114]⟩,.string ⟨#[115,105,112,58,112,49,46,101,120,97,109,112,108,101,59,108,114]⟩]:List Value).toArray 9));go_wp2_with fail
 generalize w2.alloc (.cells #[.string ⟨#[115,105,112,58,112,50,46,101,120,97,109,112,108,101,59,108,114]⟩,.string ⟨#[115,105,112,58,112,49,46,101,120,97,109,112,108,101,59,108,114]⟩] 9)=wa4 at *;have Ma4:=kd (M2.out.call BL4.out)
 refine (zek 200 [SP2,SP1] (some ⟨w2.heap.size,0,none⟩) 2 2 wa4 rfl (by decide) (fun r hr=>(zfn (zh0 r hr)).2.1) (fun b o s e=>by cases e;rfl) (zfc RL4.out)).mono ?_;rintro _ w4 ⟨v4,rfl,X⟩;obtain ⟨A4,c4,rfl,F,HM⟩:=VX.msg (m:=zay 200 [SP2,SP1]) X rfl (ansS zh0 (by decide))
 have M4:=kd (Ma4.out.call X.bw);have B24:=kd (zao BL4.out X.bw);have H4:=kd HM;clear X F HM RL4 BL4 Ma4;go_wp2_with fail;refine (zkp (zaz [SP2,SP1]) (zay 200 [SP2,SP1]) A2 none A4 none c2 0 0 c4 0 0 w4 (H2.out.step B24.out) H4.out (GH.out _ M4.out.bw)).mono ?_;intro e w5 hx
 rw [WA.out] at hx;obtain ⟨A5,c5,rfl,hb,sf⟩:=hx;have SFA:=kd sf;have M5:=kd ((M4.out.call hb).add (F:=fun W=>Rds W W.heap.size A5 (strs DA.rs)) (za9 sf.r (fun b o s e=>M4.out.fresh (sf.fresh b o s e).1)));clear sf hb
 go_upto_region 2 with (refine zak rfl 25 (.tmp 1) (.tmp 20) rfl Z12 (dgC DA A5 c5) rfl rfl za6 (zae _ _ _ _ _ _ _ _ _ _ _ _) zat ?_;intro w6 R6 S6);have M6:=kd (M5.out.join S6.out zNr R6.out);generalize w5.heap.size=g1 at *;clear R6 S6 M5 M4 M2 H2 H4 B24
 have RL7:=kd (Row.new w6 9 [.string ⟨#[115,105,112,58,112,50,46,101,120,97,109,112,108,101,59,108,114]⟩,.string ⟨#[115,105,112,58,112,49,46,101,120,97,109,112,108,101,59,108,114]⟩])
 have BL7:=kd ((Below.refl w6.heap.size w6).alloc zNr (.cells ([.string ⟨#[115,105,112,58,112,50,46,101,120,97,109,112,108,101,59,108,114]⟩,.string ⟨#[115,105,112,58,112,49,46,101,120,97,109,112,108,101,59,108,114]⟩]:List Value).toArray 9));go_wp2_with fail
 generalize w6.alloc (.cells #[.string ⟨#[115,105,112,58,112,50,46,101,120,97,109,112,108,101,59,108,114]⟩,.string ⟨#[115,105,112,58,112,49,46,101,120,97,109,112,108,101,59,108,114]⟩] 9)=wa7 at *;have Ma7:=kd (M6.out.call BL7.out)
 refine (ze3 [SP2,SP1] (some ⟨w6.heap.size,0,none⟩) 2 2 wa7 rfl (by decide) (fun r hr=>(zfn (zh0 r hr)).2.1) (fun b o s e=>by cases e;rfl) (zfc RL7.out)).mono ?_;rintro _ w7 ⟨v7,rfl,X⟩;obtain ⟨A7,c7,rfl,F,HM⟩:=VX.msg (m:=zaz [SP2,SP1]) X rfl (invS zh0 (by decide))
 have M7:=kd (Ma7.out.call X.bw);have B67:=kd (zao BL7.out X.bw);have H7:=kd HM;clear X F HM RL7 BL7 Ma7
 have RL9:=kd (Row.new w7 9 [.string ⟨#[115,105,112,58,112,50,46,101,120,97,109,112,108,101,59,108,114]⟩,.string ⟨#[115,105,112,58,112,49,46,101,120,97,109,112,108,101,59,108,114]⟩])
 have BL9:=kd ((Below.refl w7.heap.size w7).alloc zNr (.cells ([.string ⟨#[115,105,112,58,112,50,46,101,120,97,109,112,108,101,59,108,114]⟩,.string ⟨#[115,105,112,58,112,49,46,101,120,97,109,112,108,101,59,108,114]⟩]:List Value).toArray 9));go_wp2_with fail
 generalize w7.alloc (.cells #[.string ⟨#[115,105,112,58,112,50,46,101,120,97,109,112,108,101,59,108,114]⟩,.string ⟨#[115,105,112,58,112,49,46,101,120,97,109,112,108,101,59,108,114]⟩] 9)=wa9 at *;have Ma9:=kd (M7.out.call BL9.out)
 refine (zek 200 [SP2,SP1] (some ⟨w7.heap.size,0,none⟩) 2 2 wa9 rfl (by decide) (fun r hr=>(zfn (zh0 r hr)).2.1) (fun b o s e=>by cases e;rfl) (zfc RL9.out)).mono ?_;rintro _ w9 ⟨v9,rfl,X⟩;obtain ⟨A9,c9,rfl,F,HM⟩:=VX.msg (m:=zay 200 [SP2,SP1]) X rfl (ansS zh0 (by decide))
 have M9:=kd (Ma9.out.call X.bw);have B79:=kd (zao BL9.out X.bw);have H9:=kd HM;clear X F HM RL9 BL9 Ma9;go_wp2_with fail;refine (zgw (zaz [SP2,SP1]) (zay 200 [SP2,SP1]) A7 none A9 none c7 0 0 c9 0 0 w9 (H7.out.step (B79.out)) H9.out (GH.out _ M9.out.bw)).mono ?_;intro e w10 hx
 rw [WB.out] at hx;obtain ⟨A10,c10,rfl,hb,sf⟩:=hx;have SFB:=kd sf;have M10:=kd ((M9.out.call hb).add (F:=fun W=>Rds W W.heap.size A10 (strs DB.rs)) (za9 sf.r (fun b o s e=>M9.out.fresh (sf.fresh b o s e).1)));clear sf hb
 go_wp2_with (refine zak rfl 25 (.tmp 3) (.tmp 28) rfl Z12 (dgC DB A10 c10) rfl rfl za6 (zae _ _ _ _ _ _ _ _ _ _ _ _) zat ?_);intro w11 R11 S11;have M11:=kd (M10.out.join S11.out zNr R11.out);generalize w10.heap.size=g3 at *;clear R11 S11 M10 M9 M7 H7 H9 B79 M6
 have ka0:w11.cell? ⟨g1,0,none⟩=some (.int .u8 DA.st):=(M11.out.row (i:=1) rfl).cell 0;have ka3:w11.cell? ⟨g1,3,none⟩=some (.string (strOfNums DA.lt)):=(M11.out.row (i:=1) rfl).cell 3
 have ka4:w11.cell? ⟨g1,4,none⟩=some (.string (strOfNums DA.rt)):=(M11.out.row (i:=1) rfl).cell 4;have ka7:w11.cell? ⟨g1,7,none⟩=some (.string (strOfNums DA.tg)):=(M11.out.row (i:=1) rfl).cell 7
 have ka8:w11.cell? ⟨g1,8,none⟩=some (.slice A5 DA.rs.length c5):=(M11.out.row (i:=1) rfl).cell 8;have ka10:w11.cell? ⟨g1,10,none⟩=some (.int .i64 DA.rq):=(M11.out.row (i:=1) rfl).cell 10
 have RL:=kd (Row.new w11 9 [.string ⟨#[115,105,112,58,112,50,46,101,120,97,109,112,108,101,59,108,114]⟩,.string ⟨#[115,105,112,58,112,49,46,101,120,97,109,112,108,101,59,108,114]⟩])
 have BL:=kd ((Below.refl w11.heap.size w11).alloc zNr (.cells ([.string ⟨#[115,105,112,58,112,50,46,101,120,97,109,112,108,101,59,108,114]⟩,.string ⟨#[115,105,112,58,112,49,46,101,120,97,109,112,108,101,59,108,114]⟩]:List Value).toArray 9));go_wp2_with fail
 generalize w11.alloc (.cells #[.string ⟨#[115,105,112,58,112,50,46,101,120,97,109,112,108,101,59,108,114]⟩,.string ⟨#[115,105,112,58,112,49,46,101,120,97,109,112,108,101,59,108,114]⟩] 9)=wa12 at *;have Ma12:=kd (M11.out.call BL.out)
 refine (zjs DA.rs [SP2,SP1] A5 (some ⟨w11.heap.size,0,none⟩) DA.rs.length c5 2 2 wa12 rfl rfl SFAN.out (fun b o s e=>(SFA.out.fresh b o s e).2) (fun b o s e=>by cases e;rfl) (Ma12.out.fact (i:=1) rfl) (zfc RL.out) SFAB.out (by unfold By;decide)).mono ?_;rintro _ w12 ⟨rfl,hb⟩
 have M12:=kd (Ma12.out.call hb);clear hb RL BL Ma12;rw [SFAE.out];have ka0:w12.cell? ⟨g1,0,none⟩=some (.int .u8 DA.st):=(M12.out.row (i:=1) rfl).cell 0;have ka3:w12.cell? ⟨g1,3,none⟩=some (.string (strOfNums DA.lt)):=(M12.out.row (i:=1) rfl).cell 3
 have ka4:w12.cell? ⟨g1,4,none⟩=some (.string (strOfNums DA.rt)):=(M12.out.row (i:=1) rfl).cell 4;have ka7:w12.cell? ⟨g1,7,none⟩=some (.string (strOfNums DA.tg)):=(M12.out.row (i:=1) rfl).cell 7
 have ka8:w12.cell? ⟨g1,8,none⟩=some (.slice A5 DA.rs.length c5):=(M12.out.row (i:=1) rfl).cell 8;have ka10:w12.cell? ⟨g1,10,none⟩=some (.int .i64 DA.rq):=(M12.out.row (i:=1) rfl).cell 10
 have kb3:w12.cell? ⟨g3,3,none⟩=some (.string (strOfNums DB.lt)):=(M12.out.row (i:=0) rfl).cell 3;have kb7:w12.cell? ⟨g3,7,none⟩=some (.string (strOfNums DB.tg)):=(M12.out.row (i:=0) rfl).cell 7
 have kb8:w12.cell? ⟨g3,8,none⟩=some (.slice A10 DB.rs.length c10):=(M12.out.row (i:=0) rfl).cell 8;have kb9:w12.cell? ⟨g3,9,none⟩=some (.int .i64 DB.ls):=(M12.out.row (i:=0) rfl).cell 9
 have kb11:w12.cell? ⟨g3,11,none⟩=some (.int .i64 DB.iq):=(M12.out.row (i:=0) rfl).cell 11
 have RL:=kd (Row.new w12 9 [.string ⟨#[115,105,112,58,112,49,46,101,120,97,109,112,108,101,59,108,114]⟩,.string ⟨#[115,105,112,58,112,50,46,101,120,97,109,112,108,101,59,108,114]⟩])
 have BL:=kd ((Below.refl w12.heap.size w12).alloc zNr (.cells ([.string ⟨#[115,105,112,58,112,49,46,101,120,97,109,112,108,101,59,108,114]⟩,.string ⟨#[115,105,112,58,112,50,46,101,120,97,109,112,108,101,59,108,114]⟩]:List Value).toArray 9));go_wp2_with fail
 generalize w12.alloc (.cells #[.string ⟨#[115,105,112,58,112,49,46,101,120,97,109,112,108,101,59,108,114]⟩,.string ⟨#[115,105,112,58,112,50,46,101,120,97,109,112,108,101,59,108,114]⟩] 9)=wa13 at *;have Ma13:=kd (M12.out.call BL.out)
 refine (zjs DB.rs [SP1,SP2] A10 (some ⟨w12.heap.size,0,none⟩) DB.rs.length c10 2 2 wa13 rfl rfl SFBN.out (fun b o s e=>(SFB.out.fresh b o s e).2) (fun b o s e=>by cases e;rfl) (Ma13.out.fact (i:=0) rfl) (zfc RL.out) SFBB.out (by unfold By;decide)).mono ?_;rintro _ w13 ⟨rfl,hb⟩
 have M13:=kd (Ma13.out.call hb);clear hb RL BL Ma13;rw [SFBE.out];have kb3:w13.cell? ⟨g3,3,none⟩=some (.string (strOfNums DB.lt)):=(M13.out.row (i:=0) rfl).cell 3;have kb7:w13.cell? ⟨g3,7,none⟩=some (.string (strOfNums DB.tg)):=(M13.out.row (i:=0) rfl).cell 7
 have kb8:w13.cell? ⟨g3,8,none⟩=some (.slice A10 DB.rs.length c10):=(M13.out.row (i:=0) rfl).cell 8;have kb9:w13.cell? ⟨g3,9,none⟩=some (.int .i64 DB.ls):=(M13.out.row (i:=0) rfl).cell 9
 have kb11:w13.cell? ⟨g3,11,none⟩=some (.int .i64 DB.iq):=(M13.out.row (i:=0) rfl).cell 11;go_upto_region 5 with (fail);clear pa0 pa3 pa4 pa7 pa10 pb3 pb7 pb9 pb11 ka0 ka3 ka4 ka7 ka8 ka10 kb3 kb7 kb8 kb9 kb11 M11 M12
 have RB:=kd (show Row w13 g3 25 (dgC DB A10 c10) from M13.out.row (i:=0) rfl)
 have RQ:=kd (fun W (hb:Below w13.heap.size w13 W)=>show Calls Tryz.prog 11 #[.agg (dgC DB A10 c10).toArray,.string ⟨#[66,89,69]⟩,.string (strOfNums VIA2)] W (RqP W (.ok (DC,QM))) from by
  have hm:=M13.out.call hb;have h:=zfb DB A10 c10 BYET VIA2 W ⟨SFB.out.nil,SFB.out.cap,hm.fact (i:=0) rfl,OB.out⟩ ⟨by unfold By;decide,by decide⟩ ⟨by unfold By;decide,by decide⟩ (GH.out _ hm.bw);rw [RQ0.out] at h
  exact h)
 refine yc6 3 96 97 98 95 99 100 101 5 6 7 (.const (.string (⟨#[66,89,69]⟩))) (by kernel_rfl) (by kernel_rfl) (by kernel_rfl) rfl ⟨⟨_,rfl,rfl,rfl,rfl,rfl⟩,⟨_,rfl,rfl,rfl,rfl,rfl⟩,⟨_,rfl,rfl,rfl,rfl,rfl⟩,⟨_,rfl,rfl,rfl,rfl,rfl⟩,⟨_,rfl,rfl,rfl,rfl,rfl⟩,⟨_,rfl,rfl,rfl,rfl,rfl⟩,⟨_,rfl,rfl,rfl,rfl,rfl⟩,⟨_,rfl,rfl,rfl,rfl,rfl⟩,⟨_,rfl,rfl,rfl,rfl,rfl⟩,⟨_,rfl,rfl,rfl,rfl,rfl⟩,⟨_,rfl,rfl,rfl,rfl,rfl⟩,⟨_,rfl,rfl,rfl,rfl,rfl⟩⟩ (by kernel_rfl) (.ok (DC,QM)) DC QM 0 rfl rfl rfl (⟨#[66,89,69]⟩) (fun _=>rfl) (gb:=g3) rfl rfl RB RQ ?_
 intro va0 va1 va2 va3 va4 va5 va6 va7 va8 W b1 b2 A7 c7 A8 c8 hx;have BWX:=kd hx.bw;have GE1:=kd hx.g1;have GE2:=kd hx.g2;have NE:=kd hx.ne;have RX1:=kd hx.r1;have RX2:=kd hx.r2
 have VA1:=kd hx.va1;have VA2:=kd hx.va2;have VB1:=kd hx.vb1;have VB2:=kd hx.vb2;have SD:=kd hx.sd;have SM:=kd hx.sm;have SQ:=kd hx.sq;clear hx;simp only [putL,Act.put,List.setIfInBounds_toArray,List.set_cons_zero,List.set_cons_succ]
 have M14:=kd ((zrs M13.out BWX.out GE1.out GE2.out NE.out RX1.out RX2.out).add (F:=fun W=>Rds W W.heap.size A8 (hds QM.hs)) (znw SM.out (fun hn b o s e hm=>by
  rw [List.map_cons,List.map_cons,List.mem_cons,List.mem_cons] at hm
  rcases hm with h|h|h
  · exact VB2.out hn b o s e h
  · exact VB1.out hn b o s e h
  · exact M13.out.fresh (SQ.out b o s e) h)))
 clear M13 BWX GE1 GE2 NE RX1 RX2 VA1 VA2 VB1 VB2 SD SM RQ RB;go_upto_region 6 with (fail);have RM:=kd (show Row W b2 31 (mC QM A8 none c8 0 0) from M14.out.row (i:=0) rfl)
 have MQ:=kd (show MArg W QM A8 from ⟨M14.out.fact (i:=0) rfl,QMS.out.1,QMS.out.2.1,QMS.out.2.2.1,QMS.out.2.2.2.1,QMS.out.2.2.2.2⟩);go_wp2_with (refine zab rfl 31 (.tmp 6) rfl RM.out rfl Tryz.underlying31 rfl zaw ?_);refine (zn0 QM A8 none c8 0 0 W MQ.out (GH.out _ M14.out.bw)).mono ?_
 rintro _ w15 ⟨rfl,hb⟩;rw [SQ0.out];have M15:=kd (M14.out.call hb);have MQ2:=kd (MQ.out.step hb);clear hb RM MQ M14;go_upto_region 7 with (fail);have RM:=kd (show Row w15 b2 31 (mC QM A8 none c8 0 0) from M15.out.row (i:=0) rfl)
 have RA:=kd (show Row w15 g1 25 (dgC DA A5 c5) from M15.out.row (i:=3) rfl)
 go_wp2_with (first
  | (refine zab rfl 25 (.tmp 1) rfl RA.out rfl Tryz.underlying25 rfl (zae _ _ _ _ _ _ _ _ _ _ _ _) ?_)
  | (refine zab rfl 31 (.tmp 6) rfl RM.out rfl Tryz.underlying31 rfl zaw ?_))
 refine (zj1 DA A5 c5 QM A8 none c8 0 0 w15 ⟨SFA.out.nil,SFA.out.cap,M15.out.fact (i:=2) rfl,OA.out⟩ MQ2.out (GH.out _ M15.out.bw)).mono ?_;intro e w16 hx;rw [RC0.out] at hx;obtain ⟨A16,c16,rfl,hb,sf⟩:=hx;have SFD:=kd sf;have MQ3:=kd (MQ2.out.step hb)
 have M16:=kd ((M15.out.call hb).add (F:=fun W=>Rds W W.heap.size A16 (strs DD.rs)) (za9 sf.r (fun b o s e=>M15.out.fresh (sf.fresh b o s e).1)));clear sf hb RM RA M15 MQ2
 go_upto_region 8 with (refine zak rfl 25 (.tmp 10) (.tmp 111) rfl Z12 (dgC DD A16 c16) rfl rfl za6 (zae _ _ _ _ _ _ _ _ _ _ _ _) zat ?_;intro w17 R17 S17);have M17:=kd (M16.out.join S17.out zNr R17.out);have MQ4:=kd (MQ3.out.step S17.out);generalize w16.heap.size=g10 at *
 clear R17 S17 M16 MQ3;have RM:=kd (show Row w17 b2 31 (mC QM A8 none c8 0 0) from M17.out.row (i:=1) rfl);have RD:=kd (show Row w17 g10 25 (dgC DD A16 c16) from M17.out.row (i:=0) rfl)
 go_wp2_with (first
  | (refine zab rfl 25 (.tmp 10) rfl RD.out rfl Tryz.underlying25 rfl (zae _ _ _ _ _ _ _ _ _ _ _ _) ?_)
  | (refine zab rfl 31 (.tmp 6) rfl RM.out rfl Tryz.underlying31 rfl zaw ?_))
 refine (zj1 DD A16 c16 QM A8 none c8 0 0 w17 ⟨SFD.out.nil,SFD.out.cap,M17.out.fact (i:=0) rfl,OD.out⟩ MQ4.out (GH.out _ M17.out.bw)).mono ?_;intro e w18 hx;rw [RC1.out] at hx;obtain ⟨rfl,hb,_⟩:=hx;have M18:=kd (M17.out.call hb);have MQ5:=kd (MQ4.out.step hb);clear hb RM RD M17 MQ4
 go_upto_region 9 with (refine zak rfl 25 (.tmp 12) (.tmp 117) rfl Z12 Z12 rfl rfl za6 (zae _ _ _ _ _ _ _ _ _ _ _ _) zat ?_;intro w19 R19 S19);have M19:=kd (M18.out.call S19.out);have MQ6:=kd (MQ5.out.step S19.out);clear R19 S19 M18 MQ5
 have km0:w19.cell? ⟨b2,0,none⟩=some (.string (strOfNums QM.me)):=(M19.out.row (i:=1) rfl).cell 0;have km1:w19.cell? ⟨b2,1,none⟩=some (.string (strOfNums QM.ur)):=(M19.out.row (i:=1) rfl).cell 1
 have km2:w19.cell? ⟨b2,2,none⟩=some (.int .i64 QM.co):=(M19.out.row (i:=1) rfl).cell 2;have km3:w19.cell? ⟨b2,3,none⟩=some (.string (strOfNums QM.re)):=(M19.out.row (i:=1) rfl).cell 3
 have km4:w19.cell? ⟨b2,4,none⟩=some (.slice A8 QM.hs.length c8):=(M19.out.row (i:=1) rfl).cell 4;have km5:w19.cell? ⟨b2,5,none⟩=some (.slice none 0 0):=(M19.out.row (i:=1) rfl).cell 5
 have kc9:w19.cell? ⟨b1,9,none⟩=some (.int .i64 DC.ls):=(M19.out.row (i:=2) rfl).cell 9;go_wp2_with fail;refine (znf QM A8 none c8 0 0 ⟨#[82,111,117,116,101]⟩ w19 MQ6.out (by decide) (GH.out _ M19.out.bw).s (GH.out _ M19.out.bw).k).mono ?_;rintro _ w20 ⟨v20,rfl,X⟩;rw [RT0.out] at X
 obtain ⟨A20,c20,rfl,sf⟩:=X.sf;have M20:=kd (M19.out.call X.bw);have SF20:=kd sf;clear X sf M19 MQ6 km0 km1 km2 km3 km4 km5 kc9
 have RL:=kd (Row.new w20 9 [.string ⟨#[60,115,105,112,58,112,49,46,101,120,97,109,112,108,101,59,108,114,62]⟩,.string ⟨#[60,115,105,112,58,112,50,46,101,120,97,109,112,108,101,59,108,114,62]⟩])
 have BL:=kd ((Below.refl w20.heap.size w20).alloc zNr (.cells ([.string ⟨#[60,115,105,112,58,112,49,46,101,120,97,109,112,108,101,59,108,114,62]⟩,.string ⟨#[60,115,105,112,58,112,50,46,101,120,97,109,112,108,101,59,108,114,62]⟩]:List Value).toArray 9))
 go_wp2_with fail;generalize w20.alloc (.cells #[.string ⟨#[60,115,105,112,58,112,49,46,101,120,97,109,112,108,101,59,108,114,62]⟩,.string ⟨#[60,115,105,112,58,112,50,46,101,120,97,109,112,108,101,59,108,114,62]⟩] 9)=w21 at *
 have M21:=kd (M20.out.call BL.out)
 refine (zjs [brak SP1,brak SP2] [brak SP1,brak SP2] A20 (some ⟨w20.heap.size,0,none⟩) 2 c20 2 2 w21 rfl rfl (by decide) (fun b o s e=>(SF20.out.fresh b o s e).2) (fun b o s e=>by cases e;rfl) (SF20.out.step BL.out).r (zfc RL.out) (by unfold By;decide) (by unfold By;decide)).mono ?_
 rintro _ w22 ⟨rfl,hb⟩;rw [yak];have M22:=kd (M21.out.call hb);clear hb RL BL M20 M21 SF20;have kd0:w22.cell? ⟨g10,0,none⟩=some (.int .u8 DD.st):=(M22.out.row (i:=0) rfl).cell 0;go_wp2_with fail
 first|exact FIN.out _ M22.out.bw|(go_ret;exact FIN.out _ M22.out.bw)
open Go.RowKit Go.WideShapes Go.ChangeShapes

section
variable {H : Type} {enc : TypeId × Value → H} {P : Program}
theorem zn6 {f:Func} {s:ChangeSpec} {apart fresh handsOn again:Bool} {W W':World} {args:Array Value} {v:Value} {ds gs:List (DataW H)} {before pa pv:List MemPlace}
  (hW:DataW.Whole enc P f.params.toList s.vars apart W args.toList ds gs before)
  (hres:∀ (b:Nat) (sp:Nat→Bool) (hd:Bool),DataW.TrodAll enc P W' b sp hd f.resultTypes.toList (v.resultList f.resultTypes.size) (s.fn H (ds++gs)).results [])
  (hargs:∀ sp:Nat→Bool,(∀ p∈before,sp p.block=true)→DataW.TrodAll enc P W' 0 sp true f.params.toList args.toList (s.fn H (ds++gs)).args pa)
  (hvars:∀ sp:Nat→Bool,(∀ p∈before,sp p.block=true)→DataW.TrodVars enc P W' sp s.vars (s.fn H (ds++gs)).vars pv)
  (hps:before=pa++pv) (hb:Below W.heap.size W W')
  (hok:∀ (j:Nat) (t:TypeId) (r:Value),f.resultTypes[j]? = some t→(v.resultList f.resultTypes.size)[j]? = some r→Value.okWide P W' .any 0 t r) :
  s.post enc P f apart fresh handsOn again W args v W':=by
 have hlt:∀ p∈before,p.block<W.heap.size:=fun p hp=>hW.lt p hp
 have hold:∀ p∈before,(fun b=>decide (b<W.heap.size)) p.block=true:=fun p hp=>by simpa using hlt p hp
 refine ⟨ds,gs,before,[],pa,pv,hW,hres _ _ _,hargs _ hold,hvars _ hold,World.keptBut_mono (fun p hp=>⟨hp,?_⟩) (hb.frame (· ∈ before)),fun _ => ?_⟩
 · rw [hps,List.mem_append] at hp
   exact Or.inr hp
 · obtain ⟨_,_,_,_,_,hz,hn⟩:=hW
   refine ⟨hok,_,_,([]++pa)++pv,⟨[]++pa,pv,trodAll_append (hargs _ (fun _ _=>rfl)) (hres _ _ _),hvars _ (fun _ _=>rfl),rfl,?_,?_⟩,?_⟩
   · intro b off hp
     have hin:MemPlace.cell b off∈before:=by rw [hps];simpa using hp
     rw [hb.frozen (hlt _ hin)];exact hz b off hin
   · intro ha
     have:=hn ha;rw [hps] at this
     simpa using this
   · intro p hp _
     rw [hps]
     simpa using hp
end

theorem ze6 {H:Type} {enc:TypeId × Value→H} {P:Program} (hl:laidOutB P=true) {W W':World} (hb:Below W.heap.size W W') {sp:Nat→Bool} :
  ∀ {ts:List TypeId} {vs:List Value} {ds:List (DataW H)} {ps:List MemPlace},(∀ t∈ts,P.readableRec t=true∧t<P.types.size)→DataW.TrodAll enc P W 0 (fun _=>true) true ts vs ds ps→(∀ x∈ps,x.block<W.heap.size)→(∀ x∈ps,sp x.block=true) →
  DataW.TrodAll enc P W' 0 sp true ts vs ds ps
 | [],[],[],_,_,h,_,_=>h
 | t::ts,v::vs,d::ds,_,hT,⟨p,q,h1,h2,e⟩,hlt,hs=>by
   subst e;refine ⟨p,q,?_,?_,rfl⟩
   · exact WideElems.Trod_stays hl (hT t (by simp)).1 (hT t (by simp)).2 h1 (fun x hx=>hb.same (hlt x (List.mem_append_left _ hx))) (fun x hx=>hs x (List.mem_append_left _ hx))
   · exact ze6 hl hb (fun t ht=>hT t (by simp [ht])) h2 (fun x hx=>hlt x (List.mem_append_right _ hx)) (fun x hx=>hs x (List.mem_append_right _ hx))
 | [],[],_::_,_,_,h,_,_=>h.elim
 | [],_::_,_,_,_,h,_,_=>h.elim
 | _::_,[],_,_,_,h,_,_=>h.elim
 | _::_,_::_,[],_,_,h,_,_=>h.elim
open Go.ChangeShapes Go.WideShapes Go.ChangeAt Go.RowKit
open Go.ChangeMaps (open_string shut_string)

section
variable {H : Type} {enc : TypeId × Value → H}
theorem ziz {a:Assume} {C:Checked} {os:Os} {f:FuncId} {fn:Func} {s:ChangeSpec} {conds:List PathCond} {apart fresh handsOn again:Bool} {X:World→Array Value→Prop}
  (hX:∀ (w w':World) (args:Array Value),w.heap=w'.heap→X w args→X w' args)
  (own:ownKnob C.prog.godebug=none) (started:os.Started) (noInit:C.prog.inits.idxOf? f=none) (hfn:C.prog.funcs[f]? = some fn)
  (witness:∃ (w:World) (tape:Tape) (i:Input),w.os=os∧(w.forCall tape i).Shaped C.prog∧i.vars=[]∧Input.okWide C.prog (w.forCall tape i) .any w.heap.size f i ∧
    ((s.pre enc C.prog fn conds apart (w.forCall tape i).memory i.args∧X (w.forCall tape i).memory i.args)∧sizedMet enc C.prog fn (OpenSpec.ofChange s) apart (w.forCall tape i).memory i.args)∧a.holds C.prog (lone (Frame.enter C.prog f i.args .normal) [] (w.forCall tape i)))
  (contract:∀ (W:World) (base:Nat) (args:Array Value) (ds gs:List (DataW H)) (before:List MemPlace),
    (∀ (j:Nat) t v,fn.params[j]? = some t→args[j]? = some v→Value.okWide C.prog W .any base t v) →
    DataW.Whole enc C.prog fn.params.toList s.vars apart W args.toList ds gs before →
    X W args→W.ShapedOpen C.prog →
    Calls C.prog f args W fun e W' => ∃ v,e = .returned v∧s.post enc C.prog fn apart fresh handsOn again W args v W') :
  ReturnsInHanded a C os f .any (fun w args=>(s.pre enc C.prog fn conds apart w args∧X w args)∧sizedMet enc C.prog fn (OpenSpec.ofChange s) apart w args) (s.post enc C.prog fn apart fresh handsOn again):=by
 refine returnsInHanded_of_calls own started noInit witness ?_;intro w tape i _ hsh _ hok hpre hholds;obtain ⟨_,_,_,fn',hfn',_,_,_,_,hval⟩:=hok;have e:fn'=fn:=Option.some.inj (hfn'.symm.trans hfn);subst e;obtain ⟨⟨⟨ds,gs,before,hw,hc⟩,hx⟩,hz⟩:=hpre
 have hw':=DataW.Whole.of_heap (w':=w.forCall tape i) (by rfl) hw;refine (contract (w.forCall tape i) w.heap.size i.args ds gs before hval hw' (hX _ _ _ (by rfl) hx) hsh).mono fun e W' ⟨v,he,hp⟩ => ?_;subst he;exact ChangeSpec.post_blind hp
end
theorem own:ownKnob Tryz.prog.godebug=none:=by kernel_rfl
theorem zwn:laidOutB Tryz.prog=true:=by kernel_rfl
def LDk : List (String × DataW Unit) := [("math/bits.deBruijn32tab", Rows.laid_math_bits_deBruijn32tab), ("math/bits.deBruijn64tab", Rows.laid_math_bits_deBruijn64tab), ("internal/strconv.uint64pow10", Rows.laid_internal_strconv_uint64pow10), ("unicode/utf8.acceptRanges", Rows.laid_unicode_utf8_acceptRanges), ("dialtone/address.classes", Rows.laid_dialtone_address_classes), ("dialtone/header.specials", Rows.laid_dialtone_header_specials), ("dialtone/header.kinds", Rows.laid_dialtone_header_kinds), ("unicode/utf8.first", Rows.laid_unicode_utf8_first)]
noncomputable def zkb (os:Os):World:=
 { World.doorLaid Tryz.prog 400 os with heap:=(World.doorLaid Tryz.prog 400 os).heap.modify 7 fun
   | .cells _ t frozen => .cells (Go.Pinned.utf8FirstZ.map fun (x:Nat)=>Value.int .u8 (x:Int)).toArray t frozen
   | o=>o }
theorem zl5 (os:Os) (args:Array Value):laidMetH Tryz.prog LDk ((zkb os).forCall (fun _ _=>0) ⟨#[],args,[]⟩).memory:=
 laidMetH_of_parts3 (fuel:=8) (laidMet_of_run' 8 (by kernel_rfl) (by kernel_rfl)) (by kernel_rfl) (by kernel_rfl)
theorem zq5 {W:World} (h:W.ShapedOpen Tryz.prog):GM W:=by
 obtain ⟨m,hm⟩:=cell_of_shapedOpen_int (P:=Tryz.prog) (g:=3) (t:=3) (zero:=#[.int .i64 0]) h (of_decide_eq_true (by kernel_rfl)) (by kernel_rfl) rfl (by kernel_rfl) (by kernel_rfl) Tryz.underlying3;exact ⟨block_lt_of_cell hm,m,hm⟩
theorem cS:Tryz.prog.cellsOf 9=1:=by kernel_rfl
theorem gCl : Tryz.prog.globalNamed "dialtone/address.classes" = some 4 := by kernel_rfl
theorem tCl:(Tryz.prog.globals[4]?).map (·.type)=some 39:=by kernel_rfl
theorem cA3:Tryz.prog.cellsOf 39=3:=by kernel_rfl
def CLSL:List (List Int):=[[38,61,43,36,44,59,63,47],[91,93,47,58,38,43,36],[91,93,47,63,58,43,36]]
theorem yez:CLSV=CLSL.map fun s=>Value.string (strOfNums s):=by kernel_rfl
theorem zmh {s:ByteArray} {x:List Int} (h:(strOfNums x).data.toList=s.data.toList):s=strOfNums x:=by
 have:(strOfNums x).data=s.data:=Array.toList_inj.1 h
 cases s
 generalize strOfNums x=y at *
 cases y
 simp_all
theorem laidCl {H:Type}:(Rows.laid_dialtone_address_classes (H:=H)) = .agg (CLSL.map fun s => .lit (.string (strOfNums s).data.toList)):=by kernel_rfl
theorem zq6 {W : World} {rest : List (String × DataW Unit)} (h : laidMet Tryz.prog (("dialtone/address.classes", Rows.laid_dialtone_address_classes) :: rest) W) : CLS W := by
 obtain ⟨ps,⟨g',t',cs,fuel,p,q,hg',ht',hvar,hd,_,_⟩,_⟩:=h;obtain rfl:=Option.some.inj (gCl.symm.trans hg');obtain rfl:=Option.some.inj (tCl.symm.trans ht');rw [laidCl] at hd;obtain ⟨xs,m,_,hx,hl,hlen,hf⟩:=DataW.trod_array Tryz.underlying39 hd;rw [cA3] at hl
 have hxs:xs.map (·.1)=CLSL.map fun s=>(DataW.lit (.string (strOfNums s).data.toList)):=by
  have:=congrArg Prod.fst hx
  simpa using this.symm
 have key:∀ (j:Nat) (v:Value),CLSV[j]? = some v→cs.toList[j]? = some v:=fun j v hv=>by
  have hj:j<3:=(List.getElem?_eq_some_iff.1 hv).1;have h1:=hf j hj;rw [cS,Nat.mul_one] at h1;rw [List.getElem?_eq_getElem (by rw [hlen];exact hj)] at h1;obtain ⟨s,hc,hy,_⟩:=DataW.trod_string Tryz.underlying9 h1
  have h2:(xs.map (·.1))[j]? = some (DataW.lit (.string s.data.toList)):=by
   rw [List.getElem?_map,List.getElem?_eq_getElem (by rw [hlen];exact hj),hy];rfl
  rw [hxs,List.getElem?_map] at h2;obtain ⟨x,hx1,hx2⟩:=Option.map_eq_some_iff.1 h2
  injection hx2 with hx3
  injection hx3 with hx4
  have h3:cs.toList[j]? = some (.string s):=by
   have:=congrArg (·[0]?) hc
   simpa [List.getElem?_take,List.getElem?_drop] using this
  rw [h3,zmh hx4];rw [yez,List.getElem?_map,hx1] at hv;exact hv
 have cell:∀ (j:Nat) (v:Value),CLSV[j]? = some v→W.cell? ⟨4,j,none⟩=some v:=fun j v hv=>by
  rw [World.var?_cell gCl hvar j]
  simpa using key j v hv
 exact ⟨block_lt_of_cell (cell 0 _ rfl),fun j v hv=>by rw [Nat.zero_add];exact cell j v hv⟩
theorem gPow : Tryz.prog.globalNamed "internal/strconv.uint64pow10" = some 2 := by kernel_rfl
theorem tPow:(Tryz.prog.globals[2]?).map (·.type)=some 247:=by kernel_rfl
theorem cU64:Tryz.prog.cellsOf 198=1:=by kernel_rfl
theorem cA20:Tryz.prog.cellsOf 247=20:=by kernel_rfl
theorem zyg {W : World} {rest : List (String × DataW Unit)} (h : laidMet Tryz.prog (("internal/strconv.uint64pow10", Rows.laid_internal_strconv_uint64pow10) :: rest) W) : PT W := by
 have h1 : laidMet Tryz.prog (("internal/strconv.uint64pow10", Lib.tabData .u64 Lib.pow10Tab) :: rest) W := h;exact Lib.tabIs_of_head gPow tPow Tryz.underlying247 Tryz.underlying198 cU64 cA20 h1
theorem yex {W:World} (h:laidMetH Tryz.prog LDk W):PT W:=by
 rw [MakeChecks.laidMetH_plain _ _ _ (by kernel_rfl)] at h;exact zyg (laidMet.tail (laidMet.tail h))
theorem ya9 {W:World} (h:laidMetH Tryz.prog LDk W):CLS W:=by
 rw [MakeChecks.laidMetH_plain _ _ _ (by kernel_rfl)] at h;exact zq6 (laidMet.tail (laidMet.tail (laidMet.tail (laidMet.tail h))))
theorem cKn:Tryz.prog.cellsOf 176=1:=by kernel_rfl
theorem gSp : Tryz.prog.globalNamed "dialtone/header.specials" = some 0 := by kernel_rfl
theorem tSp:(Tryz.prog.globals[0]?).map (·.type)=some 175:=by kernel_rfl
theorem cA7:Tryz.prog.cellsOf 175=7:=by kernel_rfl
theorem laidSp {H:Type}:(Rows.laid_dialtone_header_specials (H:=H)) = .agg (SPECIALS.map fun s => .lit (.string (strOfNums s).data.toList)):=by kernel_rfl
theorem zup {W : World} {rest : List (String × DataW Unit)} (h : laidMet Tryz.prog (("dialtone/header.specials", Rows.laid_dialtone_header_specials) :: rest) W) : SC W := by
 obtain ⟨ps,⟨g',t',cs,fuel,p,q,hg',ht',hvar,hd,_,_⟩,_⟩:=h;obtain rfl:=Option.some.inj (gSp.symm.trans hg');obtain rfl:=Option.some.inj (tSp.symm.trans ht');rw [laidSp] at hd;obtain ⟨xs,m,_,hx,hl,hlen,hf⟩:=DataW.trod_array Tryz.underlying175 hd;rw [cA7] at hl
 have hxs:xs.map (·.1)=SPECIALS.map fun s=>(DataW.lit (.string (strOfNums s).data.toList)):=by
  have:=congrArg Prod.fst hx
  simpa using this.symm
 have key:∀ (j:Nat) (v:Value),SPV[j]? = some v→cs.toList[j]? = some v:=fun j v hv=>by
  have hj:j<7:=(List.getElem?_eq_some_iff.1 hv).1;have h1:=hf j hj;rw [cS,Nat.mul_one] at h1;rw [List.getElem?_eq_getElem (by rw [hlen];exact hj)] at h1;obtain ⟨s,hc,hy,_⟩:=DataW.trod_string Tryz.underlying9 h1
  have h2:(xs.map (·.1))[j]? = some (DataW.lit (.string s.data.toList)):=by
   rw [List.getElem?_map,List.getElem?_eq_getElem (by rw [hlen];exact hj),hy];rfl
  rw [hxs,List.getElem?_map] at h2;obtain ⟨x,hx1,hx2⟩:=Option.map_eq_some_iff.1 h2
  injection hx2 with hx3
  injection hx3 with hx4
  have h3:cs.toList[j]? = some (.string s):=by
   have:=congrArg (·[0]?) hc
   simpa [List.getElem?_take,List.getElem?_drop] using this
  rw [h3,zmh hx4];unfold SPV at hv;rw [List.getElem?_map,hx1] at hv;exact hv
 have cell:∀ (j:Nat) (v:Value),SPV[j]? = some v→W.cell? ⟨0,j,none⟩=some v:=fun j v hv=>by
  rw [World.var?_cell gSp hvar j]
  simpa using key j v hv
 exact ⟨block_lt_of_cell (cell 0 _ rfl),fun j v hv=>by rw [Nat.zero_add];exact cell j v hv⟩
theorem gKi : Tryz.prog.globalNamed "dialtone/header.kinds" = some 1 := by kernel_rfl
theorem tKi:(Tryz.prog.globals[1]?).map (·.type)=some 229:=by kernel_rfl
theorem cSt:Tryz.prog.cellsOf 228=2:=by kernel_rfl
theorem laidKi {H:Type}:(Rows.laid_dialtone_header_kinds (H:=H)) = .agg (KINDS.map fun q => .agg [.lit (.string (strOfNums q.1).data.toList),.lit (.int .i64 q.2)]):=by kernel_rfl
theorem two_of {α:Type} {l:List α} (h:l.length=2):∃ a b,l=[a,b]:=by
 match l,h with
 | [a,b],_=>exact ⟨a,b,rfl⟩
theorem zuq {W : World} {rest : List (String × DataW Unit)} (h : laidMet Tryz.prog (("dialtone/header.kinds", Rows.laid_dialtone_header_kinds) :: rest) W) : KD W := by
 obtain ⟨ps,⟨g',t',cs,fuel,p,q,hg',ht',hvar,hd,_,_⟩,_⟩:=h;obtain rfl:=Option.some.inj (gKi.symm.trans hg');obtain rfl:=Option.some.inj (tKi.symm.trans ht');rw [laidKi] at hd;obtain ⟨xs,m,_,hx,hl,hlen,hf⟩:=DataW.trod_array Tryz.underlying229 hd
 have hxs:xs.map (·.1)=KINDS.map fun q=>(DataW.agg [.lit (.string (strOfNums q.1).data.toList),.lit (.int .i64 q.2)]):=by
  have:=congrArg Prod.fst hx
  simpa using this.symm
 have key:∀ (k:Nat),k<31→cs.toList[k*2]? = some (.string (strOfNums (KINDS.getD k ([],0)).1))∧cs.toList[k*2+1]? = some (.int .i64 (KINDS.getD k ([],0)).2):=fun k hj=>by
  have h1:=hf k hj;rw [cSt] at h1;rw [List.getElem?_eq_getElem (by rw [hlen];exact hj)] at h1
  have h2:(xs.map (·.1))[k]? = some ((xs[k]'(by rw [hlen];exact hj)).1):=by
   rw [List.getElem?_map,List.getElem?_eq_getElem (by rw [hlen];exact hj)];rfl
  rw [hxs,List.getElem?_map,show KINDS[k]? = some (KINDS.getD k ([],0)) by rw [List.getD_eq_getElem?_getD,List.getElem?_eq_getElem (show k<KINDS.length from hj)];rfl] at h2;have hx1:=Option.some.inj h2;generalize xs[k]'(by rw [hlen];exact hj)=y at *
  obtain ⟨zs,m2,_,hy,hyl,hylen,hfld⟩:=DataW.trod_struct Tryz.underlying228 h1;obtain ⟨y0,y1,rfl⟩:=two_of (show zs.length=2 from hylen);have e0:=hfld 0 _ rfl;have e1:=hfld 1 _ rfl;obtain ⟨s,hc,hys,_⟩:=DataW.trod_string Tryz.underlying9 e0
  obtain ⟨z,hc1,hys1,_⟩:=DataW.trod_int Tryz.underlying176 e1;have hy2:=congrArg Prod.fst hy;rw [← hx1,hys,hys1] at hy2;replace hc:(((cs.toList.drop (k*2)).take 2).drop 0).take (Tryz.prog.cellsOf 9)=[.string s]:=hc
  replace hc1:(((cs.toList.drop (k*2)).take 2).drop 1).take (Tryz.prog.cellsOf 176)=[.int .i64 z]:=hc1;rw [cS] at hc;rw [cKn] at hc1;generalize KINDS.getD k ([],0)=qq at *;simp at hy2;obtain ⟨q1,q2⟩:=hy2
  constructor
  · have:=congrArg (·[0]?) hc
    have h3:cs.toList[k*2]? = some (.string s):=by
     simpa [List.getElem?_take,List.getElem?_drop] using this
    rw [h3,zmh (congrArg Array.toList q1)]
  · have:=congrArg (·[0]?) hc1
    have h3:cs.toList[k*2+1]? = some (.int .i64 z):=by
     simpa [List.getElem?_take,List.getElem?_drop] using this
    rw [h3,q2]
 have cell:∀ (j:Nat) (v:Value),KDV[j]? = some v→W.cell? ⟨1,j,none⟩=some v:=fun j v hv=>by
  have hj:j<62:=(List.getElem?_eq_some_iff.1 hv).1
  have hp:KINDS[j / 2]? = some (KINDS.getD (j / 2) ([],0)):=by
   rw [List.getD_eq_getElem?_getD,List.getElem?_eq_getElem (show j / 2<KINDS.length from by show j / 2<31;omega)];rfl
  obtain ⟨k0,k1⟩:=key (j / 2) (by omega);rw [World.var?_cell gKi hvar j]
  rcases (show j % 2=0∨j % 2=1 by omega) with h2|h2
  · have h3:=zfg (fun q:List Int × Int=>[Value.string (strOfNums q.1),.int .i64 q.2]) 2 (fun _=>rfl) KINDS (j / 2) 0 _ hp (by decide)
    rw [show j / 2*2+0=j by omega] at h3;have h4:=h3.symm.trans hv;rw [show j / 2*2=j by omega] at k0;have h5:v = .string (strOfNums (KINDS.getD (j / 2) ([],0)).1):=(Option.some.inj h4).symm;subst h5
    simpa using k0
  · have h3:=zfg (fun q:List Int × Int=>[Value.string (strOfNums q.1),.int .i64 q.2]) 2 (fun _=>rfl) KINDS (j / 2) 1 _ hp (by decide)
    rw [show j / 2*2+1=j by omega] at h3;have h4:=h3.symm.trans hv;rw [show j / 2*2+1=j by omega] at k1;have h5:v = .int .i64 (KINDS.getD (j / 2) ([],0)).2:=(Option.some.inj h4).symm;subst h5
    simpa using k1
 exact ⟨block_lt_of_cell (cell 0 _ rfl),fun j v hv=>by rw [Nat.zero_add];exact cell j v hv⟩
theorem yew {W:World} (h:laidMetH Tryz.prog LDk W):SC W:=by
 rw [MakeChecks.laidMetH_plain _ _ _ (by kernel_rfl)] at h;exact zup (laidMet.tail (laidMet.tail (laidMet.tail (laidMet.tail (laidMet.tail h)))))
theorem yey {W:World} (h:laidMetH Tryz.prog LDk W):KD W:=by
 rw [MakeChecks.laidMetH_plain _ _ _ (by kernel_rfl)] at h;exact zuq (laidMet.tail (laidMet.tail (laidMet.tail (laidMet.tail (laidMet.tail (laidMet.tail h))))))
theorem zyi {W:World} (h:laidMetH Tryz.prog LDk W) (hs:W.ShapedOpen Tryz.prog):GW W:=⟨yew h,yey h,ya9 h,zq5 hs,yex h⟩
end Go.Proofs.YtfnmkedncfdceaaGreatDoor
