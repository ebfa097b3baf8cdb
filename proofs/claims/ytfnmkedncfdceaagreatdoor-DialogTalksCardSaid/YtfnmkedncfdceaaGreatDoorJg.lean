/- Contract: dialog.Receive. And what stands behind it. -/
import Derived.Test.YtfnmkedncfdceaaGreatDoorJd
set_option linter.unusedVariables false
set_option linter.unusedSimpArgs false
namespace Go.Proofs.YtfnmkedncfdceaaGreatDoor
open Go.RowKit

theorem zdg {l:List Int} (h:By l) (u:List UInt8) (U:List Int) (hU:bl u=U):((strOfNums l).toList == u)=(l == U):=by
 rw [zcs h u,hU,Bool.eq_iff_iff,beq_iff_eq,beq_iff_eq];exact eq_comm
section
variable {d : Dlg} {m : Msg}
theorem ydc (h:m.co≠0∨(zan m.hs).2.2=false∨(zan m.hs).2.1≠m.me):zbl d m = .error 2:=by unfold zbl;dsimp only;exact if_pos h
theorem ydb (h1:m.co=0) (h2:(zan m.hs).2.2=true) (h3:(zan m.hs).2.1=m.me) (h4:za4 d m=false):zbl d m = .error 8:=by unfold zbl;dsimp only;rw [if_neg (by rintro (h|h|h);exact h h1;rw [h2] at h;cases h;exact h h3)];exact if_pos h4
theorem yda (h1:m.co=0) (h2:(zan m.hs).2.2=true) (h3:(zan m.hs).2.1=m.me) (h4:za4 d m=true) (h5:zdw d=false):zbl d m = .error 9:=by unfold zbl;dsimp only;rw [if_neg (by rintro (h|h|h);exact h h1;rw [h2] at h;cases h;exact h h3)];rw [if_neg (by rw [h4];decide)];exact if_pos h5
theorem zy4 (h1:m.co=0) (h2:(zan m.hs).2.2=true) (h3:(zan m.hs).2.1=m.me) (h4:za4 d m=true) (h5:zdw d=true) (h6:(zan m.hs).2.1=ACKT∨(zan m.hs).2.1=zho):zbl d m = .ok d:=by unfold zbl;dsimp only;rw [if_neg (by rintro (h|h|h);exact h h1;rw [h2] at h;cases h;exact h h3)];rw [if_neg (by rw [h4];decide)];rw [if_neg (by rw [h5];decide)];exact if_pos h6
theorem yc9 (h1:m.co=0) (h2:(zan m.hs).2.2=true) (h3:(zan m.hs).2.1=m.me) (h4:za4 d m=true) (h5:zdw d=true) (h6:¬ ((zan m.hs).2.1=ACKT∨(zan m.hs).2.1=zho)) (h7:(zan m.hs).1≤d.rq):zbl d m = .error 9:=by unfold zbl;dsimp only;rw [if_neg (by rintro (h|h|h);exact h h1;rw [h2] at h;cases h;exact h h3)];rw [if_neg (by rw [h4];decide)];rw [if_neg (by rw [h5];decide)];rw [if_neg h6];exact if_pos h7
theorem yc8 (h1:m.co=0) (h2:(zan m.hs).2.2=true) (h3:(zan m.hs).2.1=m.me) (h4:za4 d m=true) (h5:zdw d=true) (h6:¬ ((zan m.hs).2.1=ACKT∨(zan m.hs).2.1=zho)) (h7:¬ (zan m.hs).1≤d.rq):zbl d m=if (zan m.hs).2.1=INVT∨(zan m.hs).2.1=UPDT then .ok (zgi { d with rq:=(zan m.hs).1 } m.hs) else if (zan m.hs).2.1=BYET then .ok { d with rq:=(zan m.hs).1,st:=3 } else .ok { d with rq:=(zan m.hs).1 }:=by unfold zbl;dsimp only;rw [if_neg (by rintro (h|h|h);exact h h1;rw [h2] at h;cases h;exact h h3)];rw [if_neg (by rw [h4];decide)];rw [if_neg (by rw [h5];decide)];rw [if_neg h6];rw [if_neg h7]
theorem zoe {l:List Hd} (h:(zba l).2=true):zgi d l={ d with tg:=(zba l).1 }:=if_pos h
theorem zrr {l:List Hd} (h:(zba l).2=false):zgi d l=d:=if_neg (by rw [h];decide)
end
set_option maxRecDepth 100000 in
set_option maxHeartbeats 16000000 in
theorem zj1 (d:Dlg) (A:Option Addr) (c:Nat) (m:Msg) (A2 B2:Option Addr) (c2 n2 d2:Nat) (w:World) (H:DArg w d A c) (HM:MArg w m A2) (G:GW w) :
  Calls Tryz.prog 22 #[.agg (dgC d A c).toArray,.agg #[.string (strOfNums m.me),.string (strOfNums m.ur),.int .i64 m.co,.string (strOfNums m.re),.slice A2 m.hs.length c2,.slice B2 n2 d2]] w (CrP w (zbl d m)):=by
 have M0:=kd (zei w 25 31 25 [.int .u8 d.st,.bool d.cl,.string (strOfNums d.ci),.string (strOfNums d.lt),.string (strOfNums d.rt),.string (strOfNums d.lu),.string (strOfNums d.ru),.string (strOfNums d.tg),.slice A d.rs.length c,.int .i64 d.ls,.int .i64 d.rq,.int .i64 d.iq] [.string (strOfNums m.me),.string (strOfNums m.ur),.int .i64 m.co,.string (strOfNums m.re),.slice A2 m.hs.length c2,.slice B2 n2 d2] [.int .u8 0,.bool false,.string ⟨#[]⟩,.string ⟨#[]⟩,.string ⟨#[]⟩,.string ⟨#[]⟩,.string ⟨#[]⟩,.string ⟨#[]⟩,.slice none 0 0,.int .i64 0,.int .i64 0,.int .i64 0])
 have SQ:=kd (fun w' (hb:Below w.heap.size w w')=>zej m A2 B2 c2 n2 d2 w' (HM.step hb) (G.below hb));have BL:=kd (fun w' (hb:Below w.heap.size w w')=>zk2 d A c m A2 B2 c2 n2 d2 w' (H.step hb) (HM.step hb) (G.below hb));have OP:=kd (fun w'=>zmu d A c w')
 have CP:=kd (fun w' (hb:Below w.heap.size w w')=>zik d A c w' (H.step hb));have CT:=kd (fun w' (hb:Below w.heap.size w w')=>zfh m A2 B2 c2 n2 d2 w' (HM.step hb) (G.below hb));have CQB:=kd (zm7 m.hs);have MB:=kd HM.me;have E1:=kd (fun h=>ydc (d:=d) (m:=m) h)
 have E2:=kd (fun h1 h2 h3 h4=>ydb (d:=d) (m:=m) h1 h2 h3 h4);have E3:=kd (fun h1 h2 h3 h4 h5=>yda (d:=d) (m:=m) h1 h2 h3 h4 h5);have K1:=kd (fun h1 h2 h3 h4 h5 h6=>zy4 (d:=d) (m:=m) h1 h2 h3 h4 h5 h6)
 have E4:=kd (fun h1 h2 h3 h4 h5 h6 h7=>yc9 (d:=d) (m:=m) h1 h2 h3 h4 h5 h6 h7);have K2:=kd (fun h1 h2 h3 h4 h5 h6 h7=>yc8 (d:=d) (m:=m) h1 h2 h3 h4 h5 h6 h7);have V1:=kd (fun d h=>zoe (d:=d) (l:=m.hs) h);have V2:=kd (fun d h=>zrr (d:=d) (l:=m.hs) h)
 have BAD:=kd (fun w' k h hb hk=>CrP.bad (w:=w) (w':=w') (R:=zbl d m) (k:=k) h hb hk);have GOOD:=kd (fun w' d1 A c h hb hs=>CrP.good (w:=w) (w':=w') (R:=zbl d m) (d:=d1) (A:=A) (c:=c) h hb hs);unfold mS at SQ CT;unfold dgC at GOOD CP BL OP ⊢
 generalize CrP w (zbl d m)=PP at *;generalize zbl d m=R at *;generalize hmv:zgi { d with rq:=(zan m.hs).1 } m.hs=mv at *;have MV:=kd hmv;clear hmv;generalize zan m.hs=sq at *;generalize za4 d m=bo at *;generalize zdw d=op at *;generalize zba m.hs=ct at *
 obtain ⟨qn,qm,qb⟩:=sq;obtain ⟨ctg,okc⟩:=ct;dsimp only at *;clear H HM G
 go_enter Tryz.func22,Tryz.ntmps22
 go_upto_region 1 with (fail)
 generalize ((w.alloc (.cells #[.int .u8 d.st,.bool d.cl,.string (strOfNums d.ci),.string (strOfNums d.lt),.string (strOfNums d.rt),.string (strOfNums d.lu),.string (strOfNums d.ru),.string (strOfNums d.tg),.slice A d.rs.length c,.int .i64 d.ls,.int .i64 d.rq,.int .i64 d.iq] 25)).alloc (.cells #[.string (strOfNums m.me),.string (strOfNums m.ur),.int .i64 m.co,.string (strOfNums m.re),.slice A2 m.hs.length c2,.slice B2 n2 d2] 31)).alloc (.cells #[.int .u8 0,.bool false,.string ⟨#[]⟩,.string ⟨#[]⟩,.string ⟨#[]⟩,.string ⟨#[]⟩,.string ⟨#[]⟩,.string ⟨#[]⟩,.slice none 0 0,.int .i64 0,.int .i64 0,.int .i64 0] 25)=w1 at *
 obtain ⟨g,hg⟩:∃ b,w.heap.size=b:=⟨_,rfl⟩;rw [hg] at M0 ⊢;clear hg;have RM:=kd (M0.out.row (i:=1) rfl);go_wp2_with (with_reducible refine zab rfl 31 (.tmp 3) rfl RM.out rfl Tryz.underlying31 rfl zaw ?_);refine (SQ.out _ M0.out.bw).mono ?_;rintro _ w2 ⟨rfl,hb2⟩
 have M2:=kd (M0.out.call hb2);clear hb2 SQ RM M0;have y2:w2.cell? ⟨g+1,2,none⟩=some (.int .i64 m.co):=(M2.out.row (i:=1) rfl).cell 2;have y0:w2.cell? ⟨g+1,0,none⟩=some (.string (strOfNums m.me)):=(M2.out.row (i:=1) rfl).cell 0
 by_cases h1:m.co=0
 case neg =>
  have p1:(m.co != 0)=true:=by simpa using h1
  have N:=kd (E1.out (.inl h1));clear E1 E2 E3 E4 K1 K2 V1 V2 GOOD MV h1;go_wp2_with (with_reducible refine zad M2.out 0 rfl 25 (.tmp 4) (.tmp 31) rfl Z12 _ rfl rfl rfl rfl za6 (zae _ _ _ _ _ _ _ _ _ _ _ _) zat ?_);intro w9 M9;have R9:=M9.out.row (i:=0) rfl;go_wp2_with fail
  exact bodyPost_ret (zah rfl _ _ _ (g+1+1) Z12 _ rfl R9.range Tryz.underlying25 rfl (zae _ _ _ _ _ _ _ _ _ _ _ _)) rfl (by exact BAD.out _ _ (N.out) M9.out.bw (by decide))
 have p1:(m.co != 0)=false:=by simpa using h1
 have H1:=kd h1;clear h1
 cases qb with
 | false =>
   have N:=kd (E1.out (.inr (.inl rfl)));clear E1 E2 E3 E4 K1 K2 V1 V2 GOOD MV;go_wp2_with (with_reducible refine zad M2.out 0 rfl 25 (.tmp 4) (.tmp 31) rfl Z12 _ rfl rfl rfl rfl za6 (zae _ _ _ _ _ _ _ _ _ _ _ _) zat ?_);intro w9 M9;have R9:=M9.out.row (i:=0) rfl;go_wp2_with fail
   exact bodyPost_ret (zah rfl _ _ _ (g+1+1) Z12 _ rfl R9.range Tryz.underlying25 rfl (zae _ _ _ _ _ _ _ _ _ _ _ _)) rfl (by exact BAD.out _ _ (N.out) M9.out.bw (by decide))
 | true =>
 have AB:=zb7 CQB.out MB.out
 by_cases h3:qm=m.me
 case neg =>
  have p3:((strOfNums qm).toList == (strOfNums m.me).toList)=false:=AB.trans (by simpa using h3)
  have p3':((strOfNums qm).toList != (strOfNums m.me).toList)=true:=by rw [bne,p3];rfl
  have N:=kd (E1.out (.inr (.inr h3)));clear E1 E2 E3 E4 K1 K2 V1 V2 GOOD MV AB h3;go_wp2_with (with_reducible refine zad M2.out 0 rfl 25 (.tmp 4) (.tmp 31) rfl Z12 _ rfl rfl rfl rfl za6 (zae _ _ _ _ _ _ _ _ _ _ _ _) zat ?_);intro w9 M9;have R9:=M9.out.row (i:=0) rfl;go_wp2_with fail
  exact bodyPost_ret (zah rfl _ _ _ (g+1+1) Z12 _ rfl R9.range Tryz.underlying25 rfl (zae _ _ _ _ _ _ _ _ _ _ _ _)) rfl (by exact BAD.out _ _ (N.out) M9.out.bw (by decide))
 have p3:((strOfNums qm).toList == (strOfNums m.me).toList)=true:=AB.trans (by simpa using h3)
 have p3':((strOfNums qm).toList != (strOfNums m.me).toList)=false:=by rw [bne,p3];rfl
 have H3:=kd h3;clear h3 AB E1;go_upto_region 4 with (fail);clear p1 p3 p3' y0 y2;have RD:=kd (M2.out.row (i:=2) rfl);have RM:=kd (M2.out.row (i:=1) rfl)
 go_wp2_with (first
  | (with_reducible refine zab rfl 25 (.tmp 2) rfl RD.out rfl Tryz.underlying25 rfl (zae _ _ _ _ _ _ _ _ _ _ _ _) ?_)
  | (with_reducible refine zab rfl 31 (.tmp 3) rfl RM.out rfl Tryz.underlying31 rfl zaw ?_))
 refine (BL.out _ M2.out.bw).mono ?_;rintro _ w3 ⟨rfl,hb3⟩;have M3:=kd (M2.out.call hb3);clear hb3 BL RM RD M2
 cases bo with
 | false =>
   have N:=kd (E2.out H1.out (by simp) H3.out (by simp));clear E2 E3 E4 K1 K2 V1 V2 GOOD MV;go_wp2_with (with_reducible refine zad M3.out 0 rfl 25 (.tmp 4) (.tmp 36) rfl Z12 _ rfl rfl rfl rfl za6 (zae _ _ _ _ _ _ _ _ _ _ _ _) zat ?_);intro w9 M9;have R9:=M9.out.row (i:=0) rfl;go_wp2_with fail
   exact bodyPost_ret (zah rfl _ _ _ (g+1+1) Z12 _ rfl R9.range Tryz.underlying25 rfl (zae _ _ _ _ _ _ _ _ _ _ _ _)) rfl (by exact BAD.out _ _ (N.out) M9.out.bw (by decide))
 | true =>
 have RD:=kd (M3.out.row (i:=2) rfl);go_wp2_with (with_reducible refine zab rfl 25 (.tmp 2) rfl RD.out rfl Tryz.underlying25 rfl (zae _ _ _ _ _ _ _ _ _ _ _ _) ?_);refine (OP.out _).mono ?_;rintro _ w4 ⟨rfl,hb4⟩;have M4:=kd (M3.out.call hb4);clear hb4 OP RD M3
 cases op with
 | false =>
   have N:=kd (E3.out H1.out (by simp) H3.out (by simp) (by simp));clear E2 E3 E4 K1 K2 V1 V2 GOOD MV;go_wp2_with (with_reducible refine zad M4.out 0 rfl 25 (.tmp 4) (.tmp 40) rfl Z12 _ rfl rfl rfl rfl za6 (zae _ _ _ _ _ _ _ _ _ _ _ _) zat ?_);intro w9 M9;have R9:=M9.out.row (i:=0) rfl
   go_wp2_with fail;exact bodyPost_ret (zah rfl _ _ _ (g+1+1) Z12 _ rfl R9.range Tryz.underlying25 rfl (zae _ _ _ _ _ _ _ _ _ _ _ _)) rfl (by exact BAD.out _ _ (N.out) M9.out.bw (by decide))
 | true =>
 have RD:=kd (M4.out.row (i:=2) rfl);go_wp2_with (with_reducible refine zab rfl 25 (.tmp 2) rfl RD.out rfl Tryz.underlying25 rfl (zae _ _ _ _ _ _ _ _ _ _ _ _) ?_);refine (CP.out _ M4.out.bw).mono ?_;rintro _ w5 ⟨A5,c5,rfl,hb5,sf⟩;have SFH:=kd (sf.base M4.out.bw)
 have M5:=kd ((M4.out.call hb5).add (F:=fun W=>Rds W W.heap.size A5 (strs d.rs)) (za9 sf.r (fun b o s e=>M4.out.fresh (sf.fresh b o s e).1)));clear hb5 CP RD M4 sf
 go_upto_region 9 with (with_reducible refine zak rfl 25 (.tmp 9) (.tmp 42) rfl Z12 (dV d A5 c5) rfl rfl za6 (zae _ _ _ _ _ _ _ _ _ _ _ _) zat ?_;intro w6 R6 S6);have M6:=kd (M5.out.join S6.out zNr R6.out);generalize w5.heap.size=gd at *;clear R6 S6 M5
 have LA:=zdg CQB.out [65,67,75] ACKT rfl;have LC:=zdg CQB.out [67,65,78,67,69,76] zho rfl
 by_cases h6:qm=ACKT
 case pos =>
  have p6:((strOfNums qm).toList == [65,67,75])=true:=LA.trans (by simpa using h6);have N:=kd (K1.out H1.out (by simp) H3.out (by simp) (by simp) (.inl h6));clear E2 E3 E4 K1 K2 V1 V2 BAD MV LA LC h6 H3 H1;have RD:=kd (M6.out.row (i:=0) rfl)
  go_wp2_with (first
   | (with_reducible refine zab rfl 25 (.tmp 9) rfl RD.out rfl Tryz.underlying25 rfl (zae _ _ _ _ _ _ _ _ _ _ _ _) ?_)
   | (with_reducible refine zad M6.out 1 rfl 25 (.tmp 4) (.tmp 49) rfl (dV d A5 c5) _ rfl rfl rfl rfl za6 (zae _ _ _ _ _ _ _ _ _ _ _ _) zat ?_))
  intro w9 M9;have R9:=M9.out.row (i:=1) rfl;go_wp2_with fail
  exact bodyPost_ret (zah rfl _ _ _ (g+1+1) (dV d A5 c5) _ rfl R9.range Tryz.underlying25 rfl (zae _ _ _ _ _ _ _ _ _ _ _ _)) rfl (by exact GOOD.out _ _ _ _ (N.out) M9.out.bw ⟨SFH.out.nil,SFH.out.fresh,SFH.out.cap,M9.out.fact (i:=0) rfl⟩)
 have p6:((strOfNums qm).toList == [65,67,75])=false:=LA.trans (by simpa using h6)
 by_cases h6':qm=zho
 case pos =>
  have p7:((strOfNums qm).toList == [67,65,78,67,69,76])=true:=LC.trans (by simpa using h6');have N:=kd (K1.out H1.out (by simp) H3.out (by simp) (by simp) (.inr h6'));clear E2 E3 E4 K1 K2 V1 V2 BAD MV LA LC h6' h6 H3 H1;have RD:=kd (M6.out.row (i:=0) rfl)
  go_wp2_with (first
   | (with_reducible refine zab rfl 25 (.tmp 9) rfl RD.out rfl Tryz.underlying25 rfl (zae _ _ _ _ _ _ _ _ _ _ _ _) ?_)
   | (with_reducible refine zad M6.out 1 rfl 25 (.tmp 4) (.tmp 49) rfl (dV d A5 c5) _ rfl rfl rfl rfl za6 (zae _ _ _ _ _ _ _ _ _ _ _ _) zat ?_))
  intro w9 M9;have R9:=M9.out.row (i:=1) rfl;go_wp2_with fail
  exact bodyPost_ret (zah rfl _ _ _ (g+1+1) (dV d A5 c5) _ rfl R9.range Tryz.underlying25 rfl (zae _ _ _ _ _ _ _ _ _ _ _ _)) rfl (by exact GOOD.out _ _ _ _ (N.out) M9.out.bw ⟨SFH.out.nil,SFH.out.fresh,SFH.out.cap,M9.out.fact (i:=0) rfl⟩)
 have p7:((strOfNums qm).toList == [67,65,78,67,69,76])=false:=LC.trans (by simpa using h6');have H6:=kd (show ¬ (qm=ACKT∨qm=zho) from fun h=>h.elim h6 h6');clear LA LC h6 h6' K1;have y10:w6.cell? ⟨g,10,none⟩=some (.int .i64 d.rq):=(M6.out.row (i:=3) rfl).cell 10
 by_cases h7:qn≤d.rq
 case pos =>
  have p8:decide (qn≤d.rq)=true:=by simpa using h7
  have N:=kd (E4.out H1.out (by simp) H3.out (by simp) (by simp) H6.out h7);clear E2 E3 E4 K2 V1 V2 GOOD MV;go_wp2_with (with_reducible refine zad M6.out 1 rfl 25 (.tmp 4) (.tmp 54) rfl Z12 _ rfl rfl rfl rfl za6 (zae _ _ _ _ _ _ _ _ _ _ _ _) zat ?_);intro w9 M9;have R9:=M9.out.row (i:=1) rfl
  go_wp2_with fail;exact bodyPost_ret (zah rfl _ _ _ (g+1+1) Z12 _ rfl R9.range Tryz.underlying25 rfl (zae _ _ _ _ _ _ _ _ _ _ _ _)) rfl (by exact BAD.out _ _ (N.out) M9.out.bw (by decide))
 have p8:decide (qn≤d.rq)=false:=by simpa using h7
 have KK:=kd (K2.out H1.out (by simp) H3.out (by simp) (by simp) H6.out (by omega));clear K2 E2 E3 E4 H1 H3 H6;have m10:w6.cell? ⟨gd,10,none⟩=some (.int .i64 d.rq):=(M6.out.row (i:=0) rfl).cell 10;have f10:w6.frozen? ⟨gd,10,none⟩=false:=(M6.out.row (i:=0) rfl).frozen 10
 go_upto_region 14 with (fail)
 have M7:=kd (show Mine w (w6.setCell ⟨gd,10,none⟩ (.int .i64 qn)) [(gd,25,[.int .u8 d.st,.bool d.cl,.string (strOfNums d.ci),.string (strOfNums d.lt),.string (strOfNums d.rt),.string (strOfNums d.lu),.string (strOfNums d.ru),.string (strOfNums d.tg),.slice A5 d.rs.length c5,.int .i64 d.ls,.int .i64 qn,.int .i64 d.iq]),(g+1+1,25,Z12),(g+1,31,(mV m A2 c2 B2 n2 d2)),(g,25,(dV d A c))] [fun W=>Rds W W.heap.size A5 (strs d.rs)] from M6.out.setCell (i:=0) (off:=10) _ rfl rfl)
 clear p6 p7 p8 h7 y10 m10 f10 M6;generalize w6.setCell ⟨gd,10,none⟩ (.int .i64 qn)=w7 at *;have LI:=zdg CQB.out [73,78,86,73,84,69] INVT rfl;have LU:=zdg CQB.out [85,80,68,65,84,69] UPDT rfl;have LB:=zdg CQB.out [66,89,69] BYET rfl
 by_cases h8:qm=INVT
 case pos =>
  have p9:((strOfNums qm).toList == [73,78,86,73,84,69])=true:=LI.trans (by simpa using h8);have N:=kd (KK.out.trans (if_pos (.inl h8)));clear LI LU LB h8 KK;have RM:=kd (M7.out.row (i:=2) rfl)
  go_wp2_with (with_reducible refine zab rfl 31 (.tmp 3) rfl RM.out rfl Tryz.underlying31 rfl zaw ?_);refine (CT.out _ M7.out.bw).mono ?_;rintro _ w8 ⟨rfl,hb8⟩;have M8:=kd (M7.out.call hb8);clear hb8 CT RM M7
  cases okc with
  | false =>
    have N2:=kd (N.out.trans (congrArg _ (MV.out.symm.trans (V2.out _ rfl))));clear N V1 V2 MV BAD;have RD:=kd (M8.out.row (i:=0) rfl)
    go_wp2_with (first
     | (with_reducible refine zab rfl 25 (.tmp 9) rfl RD.out rfl Tryz.underlying25 rfl (zae _ _ _ _ _ _ _ _ _ _ _ _) ?_)
     | (with_reducible refine zad M8.out 1 rfl 25 (.tmp 4) (.tmp 72) rfl [.int .u8 d.st,.bool d.cl,.string (strOfNums d.ci),.string (strOfNums d.lt),.string (strOfNums d.rt),.string (strOfNums d.lu),.string (strOfNums d.ru),.string (strOfNums d.tg),.slice A5 d.rs.length c5,.int .i64 d.ls,.int .i64 qn,.int .i64 d.iq] _ rfl rfl rfl rfl za6 (zae _ _ _ _ _ _ _ _ _ _ _ _) zat ?_))
    intro w9 M9;have R9:=M9.out.row (i:=1) rfl;go_wp2_with fail
    exact bodyPost_ret (zah rfl _ _ _ (g+1+1) [.int .u8 d.st,.bool d.cl,.string (strOfNums d.ci),.string (strOfNums d.lt),.string (strOfNums d.rt),.string (strOfNums d.lu),.string (strOfNums d.ru),.string (strOfNums d.tg),.slice A5 d.rs.length c5,.int .i64 d.ls,.int .i64 qn,.int .i64 d.iq] _ rfl R9.range Tryz.underlying25 rfl (zae _ _ _ _ _ _ _ _ _ _ _ _)) rfl (by exact GOOD.out _ _ _ _ (N2.out) M9.out.bw ⟨SFH.out.nil,SFH.out.fresh,SFH.out.cap,M9.out.fact (i:=0) rfl⟩)
  | true =>
    have N2:=kd (N.out.trans (congrArg _ (MV.out.symm.trans (V1.out _ rfl))));clear N V1 V2 MV BAD;have m7:w8.cell? ⟨gd,7,none⟩=some (.string (strOfNums d.tg)):=(M8.out.row (i:=0) rfl).cell 7;have f7:w8.frozen? ⟨gd,7,none⟩=false:=(M8.out.row (i:=0) rfl).frozen 7
    go_upto_region 22 with (fail)
    have M9:=kd (show Mine w (w8.setCell ⟨gd,7,none⟩ (.string (strOfNums ctg))) [(gd,25,[.int .u8 d.st,.bool d.cl,.string (strOfNums d.ci),.string (strOfNums d.lt),.string (strOfNums d.rt),.string (strOfNums d.lu),.string (strOfNums d.ru),.string (strOfNums ctg),.slice A5 d.rs.length c5,.int .i64 d.ls,.int .i64 qn,.int .i64 d.iq]),(g+1+1,25,Z12),(g+1,31,(mV m A2 c2 B2 n2 d2)),(g,25,(dV d A c))] [fun W=>Rds W W.heap.size A5 (strs d.rs)] from M8.out.setCell (i:=0) (off:=7) _ rfl rfl)
    clear m7 f7 M8;generalize w8.setCell ⟨gd,7,none⟩ (.string (strOfNums ctg))=w10 at *;have RD:=kd (M9.out.row (i:=0) rfl)
    go_wp2_with (first
     | (with_reducible refine zab rfl 25 (.tmp 9) rfl RD.out rfl Tryz.underlying25 rfl (zae _ _ _ _ _ _ _ _ _ _ _ _) ?_)
     | (with_reducible refine zad M9.out 1 rfl 25 (.tmp 4) (.tmp 72) rfl [.int .u8 d.st,.bool d.cl,.string (strOfNums d.ci),.string (strOfNums d.lt),.string (strOfNums d.rt),.string (strOfNums d.lu),.string (strOfNums d.ru),.string (strOfNums ctg),.slice A5 d.rs.length c5,.int .i64 d.ls,.int .i64 qn,.int .i64 d.iq] _ rfl rfl rfl rfl za6 (zae _ _ _ _ _ _ _ _ _ _ _ _) zat ?_))
    intro w9 M9;have R9:=M9.out.row (i:=1) rfl;go_wp2_with fail
    exact bodyPost_ret (zah rfl _ _ _ (g+1+1) [.int .u8 d.st,.bool d.cl,.string (strOfNums d.ci),.string (strOfNums d.lt),.string (strOfNums d.rt),.string (strOfNums d.lu),.string (strOfNums d.ru),.string (strOfNums ctg),.slice A5 d.rs.length c5,.int .i64 d.ls,.int .i64 qn,.int .i64 d.iq] _ rfl R9.range Tryz.underlying25 rfl (zae _ _ _ _ _ _ _ _ _ _ _ _)) rfl (by exact GOOD.out _ _ _ _ (N2.out) M9.out.bw ⟨SFH.out.nil,SFH.out.fresh,SFH.out.cap,M9.out.fact (i:=0) rfl⟩)
 have p9:((strOfNums qm).toList == [73,78,86,73,84,69])=false:=LI.trans (by simpa using h8)
 by_cases h9:qm=UPDT
 case pos =>
  have p10:((strOfNums qm).toList == [85,80,68,65,84,69])=true:=LU.trans (by simpa using h9);have N:=kd (KK.out.trans (if_pos (.inr h9)));clear LI LU LB h8 h9 KK;have RM:=kd (M7.out.row (i:=2) rfl)
  go_wp2_with (with_reducible refine zab rfl 31 (.tmp 3) rfl RM.out rfl Tryz.underlying31 rfl zaw ?_);refine (CT.out _ M7.out.bw).mono ?_;rintro _ w8 ⟨rfl,hb8⟩;have M8:=kd (M7.out.call hb8);clear hb8 CT RM M7
  cases okc with
  | false =>
    have N2:=kd (N.out.trans (congrArg _ (MV.out.symm.trans (V2.out _ rfl))));clear N V1 V2 MV BAD;have RD:=kd (M8.out.row (i:=0) rfl)
    go_wp2_with (first
     | (with_reducible refine zab rfl 25 (.tmp 9) rfl RD.out rfl Tryz.underlying25 rfl (zae _ _ _ _ _ _ _ _ _ _ _ _) ?_)
     | (with_reducible refine zad M8.out 1 rfl 25 (.tmp 4) (.tmp 72) rfl [.int .u8 d.st,.bool d.cl,.string (strOfNums d.ci),.string (strOfNums d.lt),.string (strOfNums d.rt),.string (strOfNums d.lu),.string (strOfNums d.ru),.string (strOfNums d.tg),.slice A5 d.rs.length c5,.int .i64 d.ls,.int .i64 qn,.int .i64 d.iq] _ rfl rfl rfl rfl za6 (zae _ _ _ _ _ _ _ _ _ _ _ _) zat ?_))
    intro w9 M9;have R9:=M9.out.row (i:=1) rfl;go_wp2_with fail
    exact bodyPost_ret (zah rfl _ _ _ (g+1+1) [.int .u8 d.st,.bool d.cl,.string (strOfNums d.ci),.string (strOfNums d.lt),.string (strOfNums d.rt),.string (strOfNums d.lu),.string (strOfNums d.ru),.string (strOfNums d.tg),.slice A5 d.rs.length c5,.int .i64 d.ls,.int .i64 qn,.int .i64 d.iq] _ rfl R9.range Tryz.underlying25 rfl (zae _ _ _ _ _ _ _ _ _ _ _ _)) rfl (by exact GOOD.out _ _ _ _ (N2.out) M9.out.bw ⟨SFH.out.nil,SFH.out.fresh,SFH.out.cap,M9.out.fact (i:=0) rfl⟩)
  | true =>
    have N2:=kd (N.out.trans (congrArg _ (MV.out.symm.trans (V1.out _ rfl))));clear N V1 V2 MV BAD;have m7:w8.cell? ⟨gd,7,none⟩=some (.string (strOfNums d.tg)):=(M8.out.row (i:=0) rfl).cell 7;have f7:w8.frozen? ⟨gd,7,none⟩=false:=(M8.out.row (i:=0) rfl).frozen 7
    go_upto_region 22 with (fail)
    have M9:=kd (show Mine w (w8.setCell ⟨gd,7,none⟩ (.string (strOfNums ctg))) [(gd,25,[.int .u8 d.st,.bool d.cl,.string (strOfNums d.ci),.string (strOfNums d.lt),.string (strOfNums d.rt),.string (strOfNums d.lu),.string (strOfNums d.ru),.string (strOfNums ctg),.slice A5 d.rs.length c5,.int .i64 d.ls,.int .i64 qn,.int .i64 d.iq]),(g+1+1,25,Z12),(g+1,31,(mV m A2 c2 B2 n2 d2)),(g,25,(dV d A c))] [fun W=>Rds W W.heap.size A5 (strs d.rs)] from M8.out.setCell (i:=0) (off:=7) _ rfl rfl)
    clear m7 f7 M8;generalize w8.setCell ⟨gd,7,none⟩ (.string (strOfNums ctg))=w10 at *;have RD:=kd (M9.out.row (i:=0) rfl)
    go_wp2_with (first
     | (with_reducible refine zab rfl 25 (.tmp 9) rfl RD.out rfl Tryz.underlying25 rfl (zae _ _ _ _ _ _ _ _ _ _ _ _) ?_)
     | (with_reducible refine zad M9.out 1 rfl 25 (.tmp 4) (.tmp 72) rfl [.int .u8 d.st,.bool d.cl,.string (strOfNums d.ci),.string (strOfNums d.lt),.string (strOfNums d.rt),.string (strOfNums d.lu),.string (strOfNums d.ru),.string (strOfNums ctg),.slice A5 d.rs.length c5,.int .i64 d.ls,.int .i64 qn,.int .i64 d.iq] _ rfl rfl rfl rfl za6 (zae _ _ _ _ _ _ _ _ _ _ _ _) zat ?_))
    intro w9 M9;have R9:=M9.out.row (i:=1) rfl;go_wp2_with fail
    exact bodyPost_ret (zah rfl _ _ _ (g+1+1) [.int .u8 d.st,.bool d.cl,.string (strOfNums d.ci),.string (strOfNums d.lt),.string (strOfNums d.rt),.string (strOfNums d.lu),.string (strOfNums d.ru),.string (strOfNums ctg),.slice A5 d.rs.length c5,.int .i64 d.ls,.int .i64 qn,.int .i64 d.iq] _ rfl R9.range Tryz.underlying25 rfl (zae _ _ _ _ _ _ _ _ _ _ _ _)) rfl (by exact GOOD.out _ _ _ _ (N2.out) M9.out.bw ⟨SFH.out.nil,SFH.out.fresh,SFH.out.cap,M9.out.fact (i:=0) rfl⟩)
 have p10:((strOfNums qm).toList == [85,80,68,65,84,69])=false:=LU.trans (by simpa using h9);have K3:=kd (KK.out.trans (if_neg (fun h=>h.elim h8 h9)));clear LI LU h8 h9 KK V1 V2 MV BAD CT
 by_cases h10:qm=BYET
 case pos =>
  have p11:((strOfNums qm).toList == [66,89,69])=true:=LB.trans (by simpa using h10);have N:=kd (K3.out.trans (if_pos h10));clear LB h10 K3;have m7:w7.cell? ⟨gd,0,none⟩=some (.int .u8 d.st):=(M7.out.row (i:=0) rfl).cell 0
  have f7:w7.frozen? ⟨gd,0,none⟩=false:=(M7.out.row (i:=0) rfl).frozen 0;go_upto_region 22 with (fail)
  have M9:=kd (show Mine w (w7.setCell ⟨gd,0,none⟩ (.int .u8 3)) [(gd,25,[.int .u8 3,.bool d.cl,.string (strOfNums d.ci),.string (strOfNums d.lt),.string (strOfNums d.rt),.string (strOfNums d.lu),.string (strOfNums d.ru),.string (strOfNums d.tg),.slice A5 d.rs.length c5,.int .i64 d.ls,.int .i64 qn,.int .i64 d.iq]),(g+1+1,25,Z12),(g+1,31,(mV m A2 c2 B2 n2 d2)),(g,25,(dV d A c))] [fun W=>Rds W W.heap.size A5 (strs d.rs)] from M7.out.setCell (i:=0) (off:=0) _ rfl rfl)
  clear m7 f7 M7;generalize w7.setCell ⟨gd,0,none⟩ (.int .u8 3)=w10 at *;have RD:=kd (M9.out.row (i:=0) rfl)
  go_wp2_with (first
   | (with_reducible refine zab rfl 25 (.tmp 9) rfl RD.out rfl Tryz.underlying25 rfl (zae _ _ _ _ _ _ _ _ _ _ _ _) ?_)
   | (with_reducible refine zad M9.out 1 rfl 25 (.tmp 4) (.tmp 72) rfl [.int .u8 3,.bool d.cl,.string (strOfNums d.ci),.string (strOfNums d.lt),.string (strOfNums d.rt),.string (strOfNums d.lu),.string (strOfNums d.ru),.string (strOfNums d.tg),.slice A5 d.rs.length c5,.int .i64 d.ls,.int .i64 qn,.int .i64 d.iq] _ rfl rfl rfl rfl za6 (zae _ _ _ _ _ _ _ _ _ _ _ _) zat ?_))
  intro w9 M9;have R9:=M9.out.row (i:=1) rfl;go_wp2_with fail
  exact bodyPost_ret (zah rfl _ _ _ (g+1+1) [.int .u8 3,.bool d.cl,.string (strOfNums d.ci),.string (strOfNums d.lt),.string (strOfNums d.rt),.string (strOfNums d.lu),.string (strOfNums d.ru),.string (strOfNums d.tg),.slice A5 d.rs.length c5,.int .i64 d.ls,.int .i64 qn,.int .i64 d.iq] _ rfl R9.range Tryz.underlying25 rfl (zae _ _ _ _ _ _ _ _ _ _ _ _)) rfl (by exact GOOD.out _ _ _ _ (N.out) M9.out.bw ⟨SFH.out.nil,SFH.out.fresh,SFH.out.cap,M9.out.fact (i:=0) rfl⟩)
 have p11:((strOfNums qm).toList == [66,89,69])=false:=LB.trans (by simpa using h10);have N:=kd (K3.out.trans (if_neg h10));clear LB h10 K3;have RD:=kd (M7.out.row (i:=0) rfl)
 go_wp2_with (first
  | (with_reducible refine zab rfl 25 (.tmp 9) rfl RD.out rfl Tryz.underlying25 rfl (zae _ _ _ _ _ _ _ _ _ _ _ _) ?_)
  | (with_reducible refine zad M7.out 1 rfl 25 (.tmp 4) (.tmp 72) rfl [.int .u8 d.st,.bool d.cl,.string (strOfNums d.ci),.string (strOfNums d.lt),.string (strOfNums d.rt),.string (strOfNums d.lu),.string (strOfNums d.ru),.string (strOfNums d.tg),.slice A5 d.rs.length c5,.int .i64 d.ls,.int .i64 qn,.int .i64 d.iq] _ rfl rfl rfl rfl za6 (zae _ _ _ _ _ _ _ _ _ _ _ _) zat ?_))
 intro w9 M9;have R9:=M9.out.row (i:=1) rfl;go_wp2_with fail
 exact bodyPost_ret (zah rfl _ _ _ (g+1+1) [.int .u8 d.st,.bool d.cl,.string (strOfNums d.ci),.string (strOfNums d.lt),.string (strOfNums d.rt),.string (strOfNums d.lu),.string (strOfNums d.ru),.string (strOfNums d.tg),.slice A5 d.rs.length c5,.int .i64 d.ls,.int .i64 qn,.int .i64 d.iq] _ rfl R9.range Tryz.underlying25 rfl (zae _ _ _ _ _ _ _ _ _ _ _ _)) rfl (by exact GOOD.out _ _ _ _ (N.out) M9.out.bw ⟨SFH.out.nil,SFH.out.fresh,SFH.out.cap,M9.out.fact (i:=0) rfl⟩)

theorem za2 {a b c d e:Value}:(Tryz.prog.info? 85).map (·.size)=some [a,b,c,d,e].length:=show (Tryz.prog.info? 85).map (·.size)=some 5 by kernel_rfl
theorem len5 {a b c d e a' b' c' d' e':Value}:[a,b,c,d,e].length=[a',b',c',d',e'].length:=rfl
theorem zbv {s1 s2 s3:ByteArray} {k:Int} {A:Option Addr} {n c:Nat}:∀ u∈[Value.string s1,.string s2,.int .i64 k,.string s3,.slice A n c],u.oneCell'=true:=fun u hu=>by
 simp only [List.mem_cons,List.not_mem_nil,or_false] at hu
 rcases hu with rfl|rfl|rfl|rfl|rfl<;>rfl
theorem By.up {l:List Int} (h:By l):By (upS l):=fun x hx=>by
 obtain ⟨y,hy,rfl⟩:=List.mem_map.1 hx;exact ybc (h y hy)
theorem zue {l:List Int} (h:By l):By (cutPort l).1∧By (cutPort l).2.1∧(cutPort l).1.length≤l.length:=by
 unfold cutPort
 split
 · exact ⟨h,(fun x hx=>by cases hx),Nat.le_refl _⟩
 · split
   · exact ⟨h,(fun x hx=>by cases hx),Nat.le_refl _⟩
   · exact ⟨h.sub (List.take_sublist _ _),h.sub (List.drop_sublist _ _),by rw [List.length_take];omega⟩
theorem yes:Asc7 ⟨#[59,32,9]⟩:=fun j b h=>by
 have hm:=List.mem_of_getElem? h;simp only [List.mem_cons,List.not_mem_nil,or_false] at hm
 rcases hm with rfl|rfl|rfl<;>decide
def ViaP (w:World) (k:Int) (e:Ending) (w':World):Prop := ∃ (a b c:ByteArray) (p:Int) (A:Option Addr) (n d:Nat),e = .returned (.tuple #[.agg #[.string a,.string b,.int .i64 p,.string c,.slice A n d],.int .u8 k])∧Below w.heap.size w w'
section
variable {s v : List Int}
def viaE (v:List Int):Nat:=zag zbp v 8
def viaB (v:List Int):Nat:=zag isBlank v (viaE v)
def viaN (v:List Int):Nat:=zaj (v.drop (viaB v)) 0 [59,32,9]
def viaQ (v:List Int):List Int × List Int × Bool:=cutPort ((v.drop (viaB v)).take (viaN v))
theorem via_e1 (hv:zca s=v) (h:v.length<8∨upS (v.take 8)≠SIPV):viaK s=5:=by unfold viaK viaL;rw [hv];dsimp only;rw [if_pos h]
theorem via_e2 (hv:zca s=v) (h:¬ (v.length<8∨upS (v.take 8)≠SIPV)) (h2:viaE v=8∨viaB v=viaE v):viaK s=5:=by unfold viaB viaE at h2;unfold viaK viaL;rw [hv];dsimp only;rw [if_neg h,if_pos h2]
theorem via_e3 (hv:zca s=v) (h:¬ (v.length<8∨upS (v.take 8)≠SIPV)) (h2:¬ (viaE v=8∨viaB v=viaE v)) (h3:zb3 (viaQ v).1=none):viaK s=5:=by unfold viaQ viaN at h3;unfold viaB viaE at h2 h3;unfold viaK viaL;rw [hv];dsimp only;rw [if_neg h,if_neg h2,h3]
theorem via_e4 (hv:zca s=v) (h:¬ (v.length<8∨upS (v.take 8)≠SIPV)) (h2:¬ (viaE v=8∨viaB v=viaE v)) {ho:List Int} (h3:zb3 (viaQ v).1=some ho) {k:Int} (h4:zd2 (viaQ v) = .error k):viaK s=k:=by unfold viaQ viaN at h3 h4;unfold viaB viaE at h2 h3 h4;unfold viaK viaL;rw [hv];dsimp only;rw [if_neg h,if_neg h2,h3];dsimp only;rw [h4]
theorem via_e5 (hv:zca s=v) (h:¬ (v.length<8∨upS (v.take 8)≠SIPV)) (h2:¬ (viaE v=8∨viaB v=viaE v)) {ho:List Int} (h3:zb3 (viaQ v).1=some ho) {n:Int} (h4:zd2 (viaQ v) = .ok n) {q:Nat × Int} (h5:zeo ((v.drop (viaB v)).drop (viaN v)) = .error q):viaK s=q.2:=by unfold viaQ at h3 h4;unfold viaN at h3 h4 h5;unfold viaB viaE at h2 h3 h4 h5;unfold viaK viaL;rw [hv];dsimp only;rw [if_neg h,if_neg h2,h3];dsimp only;rw [h4];dsimp only;rw [h5]
theorem via_ok (hv:zca s=v) (h:¬ (v.length<8∨upS (v.take 8)≠SIPV)) (h2:¬ (viaE v=8∨viaB v=viaE v)) {ho:List Int} (h3:zb3 (viaQ v).1=some ho) {n:Int} (h4:zd2 (viaQ v) = .ok n) {ps:List Pm} (h5:zeo ((v.drop (viaB v)).drop (viaN v)) = .ok ps):viaK s=0:=by unfold viaQ at h3 h4;unfold viaN at h3 h4 h5;unfold viaB viaE at h2 h3 h4 h5;unfold viaK viaL;rw [hv];dsimp only;rw [if_neg h,if_neg h2,h3];dsimp only;rw [h4];dsimp only;rw [h5]
theorem zym {p:List Int × List Int × Bool} (h:p.2.2=false):zd2 p = .ok 0:=by unfold zd2;rw [h];rfl
theorem zyo {p:List Int × List Int × Bool} (h:p.2.2=true) (h2:(zcd p.2.1).2≠0):zd2 p = .error (zcd p.2.1).2:=by unfold zd2;rw [if_pos h];exact if_pos h2
theorem zyn {p:List Int × List Int × Bool} (h:p.2.2=true) (h2:(zcd p.2.1).2=0) (h3:(zcd p.2.1).1<1∨65535<(zcd p.2.1).1):zd2 p = .error 3:=by unfold zd2;rw [if_pos h];dsimp only;rw [if_neg (by simp [h2]),if_pos h3]
theorem zyl {p:List Int × List Int × Bool} (h:p.2.2=true) (h2:(zcd p.2.1).2=0) (h3:¬ ((zcd p.2.1).1<1∨65535<(zcd p.2.1).1)):zd2 p = .ok (zcd p.2.1).1:=by unfold zd2;rw [if_pos h];dsimp only;rw [if_neg (by simp [h2]),if_neg h3]
end
end Go.Proofs.YtfnmkedncfdceaaGreatDoor
