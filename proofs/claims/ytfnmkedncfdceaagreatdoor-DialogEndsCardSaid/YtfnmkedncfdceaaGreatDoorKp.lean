/- The law DialogEnds. -/
import Derived.Test.YtfnmkedncfdceaaGreatDoorYp
import Derived.Test.YtfnmkedncfdceaaGreatDoorKf
set_option linter.unusedVariables false
set_option linter.unusedSimpArgs false
namespace Go.Proofs.YtfnmkedncfdceaaGreatDoor
open Go.RowKit

def zp4 (y:Nat):List Int:=[BYET,INVT,INFOT,UPDT].getD (y % 4) []
theorem ydm (y:Nat):M4 (zp4 y):=by
 unfold zp4 M4
 have h:y % 4=0∨y % 4=1∨y % 4=2∨y % 4=3:=by omega
 rcases h with h|h|h|h<;>rw [h]<;>simp
theorem ydo {m:List Int} (h:M4 m):Tx m:=by
 rcases h with rfl|rfl|rfl|rfl<;>exact ⟨by unfold By;decide,by decide⟩
theorem m4_bye {m:List Int} (h:M4 m):((strOfNums m).toList == [66,89,69])=(m == BYET):=zdg (ydo h).1 [66,89,69] BYET rfl
theorem ybx {m:List Int} (h:M4 m) (c:Int):HOK (enM c m).hs∧By (enM c m).me∧By (enM c m).ur∧(enM c m).me.length≤4000000∧(enM c m).ur.length≤4000000:=by
 have h0:HOK (EH m):=by
  rcases h with rfl|rfl|rfl|rfl<;>exact ⟨by decide +kernel,by decide +kernel,by decide +kernel⟩
 exact ⟨h0,(byD rfl:By []),(byD rfl:By []),(by decide:([]:List Int).length≤4000000),(by decide:([]:List Int).length≤4000000)⟩
theorem ydz (m:List Int) (c:Int):(hds (zay c []).hs).set 9 (.string (strOfNums (56::32::m)))=hds (enM c m).hs:=rfl
theorem zxl (m:List Int):(⟨#[56,32]⟩:ByteArray)++strOfNums m=strOfNums (56::32::m):=by
 rw [show (56::32::m)=[56,32]++m by rfl,← zcx]
 rfl
theorem ycc {w0 w w':World} {L:List Blk} {FS:List (World→Prop)} {v:Value} {n:Nat} {cs:List Value} (M:Mine w0 w L FS) (X:VX 56 2 w v n cs w') (hn:0<n):∃ g cap cur,v = .slice (some ⟨g,0,none⟩) n cap∧Mine w0 w' ((g,56,cur)::L) FS∧cur.take (n*2)=cs:=by
 rcases X.o.2 with ⟨rfl,h0⟩|⟨g,cap,cur,rfl,hb,hg,hc,_,hs,ht⟩
 · have h1:=X.o.1
   rw [h0] at h1;simp at h1;omega
 · refine ⟨g,cap,cur.toList,rfl,M.join X.bw hb ?_,ht⟩
   show w'.heap[g]? = _;rw [hg]
set_option maxRecDepth 100000 in
set_option maxHeartbeats 8000000 in
theorem yae (x y:Nat) (hx0:x≤65535) (hy0:y≤255) (w:World) (G:GW w):Calls Tryz.prog 6 #[.int .u16 (x:Int),.int .u8 (y:Int)] w fun e w'=>e = .returned (.bool true)∧Below w.heap.size w w':=by
 have GH:=kd (fun W (hb:Below w.heap.size w W)=>G.below hb);have WK:=kd (fun W (hb:Below w.heap.size w W)=>znk W (G.below hb))
 have FIN:=kd (fun W (hb:Below w.heap.size w W)=>show (fun (e:Ending) (w':World)=>e = .returned (.bool true)∧Below w.heap.size w w') (.returned (.bool true)) W from ⟨rfl,hb⟩);generalize (fun (e:Ending) (w':World)=>e = .returned (.bool true)∧Below w.heap.size w w')=PO at *
 clear G;have M0:=kd (Mine.refl w);obtain ⟨m,hm⟩:∃ m,zp4 y=m:=⟨_,rfl⟩;have MD:=kd hm;have MO:=kd (show M4 m by rw [← hm];exact ydm y);clear hm;obtain ⟨DB,hDB⟩:∃ z,zda 200 []=z:=⟨_,rfl⟩
 have WB:=kd (show zc6 (zaz []) (zay 200 []) = .ok DB by rw [← hDB];exact zih _ (by decide) (by decide) (fun r hr=>by cases hr) (by decide));have OB:=kd (show DOK DB by rw [← hDB];exact zku (fun r hr=>by cases hr) (by decide))
 have RQ0:=kd (show zcb DB m VIA2 = .ok (enD m 2,enQ m) by rw [← hDB];exact en_req MO.out);clear hDB;have HN:=kd (show SPs [] from (fun r hr=>by cases hr))
 go_enter Tryz.func6,Tryz.ntmps6
 go_wp2_with fail;refine (ze3 [] none 0 0 w rfl (by decide) (fun r hr=>by cases hr) (fun b o s e=>by cases e) (fun h=>absurd h (by decide))).mono ?_;rintro _ w2 ⟨v2,rfl,X⟩;obtain ⟨A2,c2,rfl,F,HM⟩:=VX.msg (m:=zaz []) X rfl (invS HN.out (by decide));have M2:=kd (M0.out.call X.bw)
 have B2:=kd X.bw;have H2:=kd HM;clear X F HM;go_wp2_with fail;refine (zek 200 [] none 0 0 w2 rfl (by decide) (fun r hr=>by cases hr) (fun b o s e=>by cases e) (fun h=>absurd h (by decide))).mono ?_;rintro _ w4 ⟨v4,rfl,X⟩
 obtain ⟨A4,c4,rfl,F,HM⟩:=VX.msg (m:=zay 200 []) X rfl (ansS HN.out (by decide));have M4:=kd (M2.out.call X.bw);have B24:=kd X.bw;have H4:=kd HM;clear X F HM;go_wp2_with fail
 refine (zgw (zaz []) (zay 200 []) A2 none A4 none c2 0 0 c4 0 0 w4 (H2.out.step B24.out) H4.out (GH.out _ M4.out.bw)).mono ?_;intro e w5 hx;rw [WB.out] at hx;obtain ⟨A5,c5,rfl,hb,sf⟩:=hx;have SFB:=kd sf
 have M5:=kd ((M4.out.call hb).add (F:=fun W=>Rds W W.heap.size A5 (strs DB.rs)) (za9 sf.r (fun b o s e=>M4.out.fresh (sf.fresh b o s e).1)));clear sf hb
 go_upto_region 2 with (refine zak rfl 25 (.tmp 5) (.tmp 25) rfl Z12 (dgC DB A5 c5) rfl rfl za6 (zae _ _ _ _ _ _ _ _ _ _ _ _) zat ?_;intro w6 R6 S6);have M6:=kd (M5.out.join S6.out zNr R6.out);generalize w5.heap.size=g5 at *;clear R6 S6 M5 M4 M2 H2 H4 B2 B24 M0 WB
 go_cut [7] (fun v wx=>v = .string (strOfNums m)∧wx=w6)
 case first =>
  have k4:y % 4=0∨y % 4=1∨y % 4=2∨y % 4=3:=by omega
  clear WK FIN GH RQ0 OB M6 MO HN SFB
  rcases k4 with k4|k4|k4|k4
  · have e3:(y:Int) % 4=0:=by omega
    have IX:=fun w=>(show (Instr.index 47 (.agg #[.string ⟨#[66,89,69]⟩,.string ⟨#[73,78,86,73,84,69]⟩,.string ⟨#[73,78,70,79]⟩,.string ⟨#[85,80,68,65,84,69]⟩]) (.int .u8 0)).run Tryz.prog w = .ok (.string ⟨#[66,89,69]⟩) w by kernel_rfl)
    obtain rfl:m=BYET:=by rw [← MD.out];unfold zp4;rw [k4];rfl
    clear k4;go_wp2_with fail;go_meet;exact ⟨rfl,rfl⟩
  · have e3:(y:Int) % 4=1:=by omega
    have IX:=fun w=>(show (Instr.index 47 (.agg #[.string ⟨#[66,89,69]⟩,.string ⟨#[73,78,86,73,84,69]⟩,.string ⟨#[73,78,70,79]⟩,.string ⟨#[85,80,68,65,84,69]⟩]) (.int .u8 1)).run Tryz.prog w = .ok (.string ⟨#[73,78,86,73,84,69]⟩) w by kernel_rfl)
    obtain rfl:m=INVT:=by rw [← MD.out];unfold zp4;rw [k4];rfl
    clear k4;go_wp2_with fail;go_meet;exact ⟨rfl,rfl⟩
  · have e3:(y:Int) % 4=2:=by omega
    have IX:=fun w=>(show (Instr.index 47 (.agg #[.string ⟨#[66,89,69]⟩,.string ⟨#[73,78,86,73,84,69]⟩,.string ⟨#[73,78,70,79]⟩,.string ⟨#[85,80,68,65,84,69]⟩]) (.int .u8 2)).run Tryz.prog w = .ok (.string ⟨#[73,78,70,79]⟩) w by kernel_rfl)
    obtain rfl:m=INFOT:=by rw [← MD.out];unfold zp4;rw [k4];rfl
    clear k4;go_wp2_with fail;go_meet;exact ⟨rfl,rfl⟩
  · have e3:(y:Int) % 4=3:=by omega
    have IX:=fun w=>(show (Instr.index 47 (.agg #[.string ⟨#[66,89,69]⟩,.string ⟨#[73,78,86,73,84,69]⟩,.string ⟨#[73,78,70,79]⟩,.string ⟨#[85,80,68,65,84,69]⟩]) (.int .u8 3)).run Tryz.prog w = .ok (.string ⟨#[85,80,68,65,84,69]⟩) w by kernel_rfl)
    obtain rfl:m=UPDT:=by rw [← MD.out];unfold zp4;rw [k4];rfl
    clear k4;go_wp2_with fail;go_meet;exact ⟨rfl,rfl⟩
 case rest =>
 obtain ⟨rfl,rfl⟩:=hcut;have RB:=kd (show Row wc g5 25 (dgC DB A5 c5) from M6.out.row (i:=0) rfl)
 have RQ:=kd (fun W (hb:Below wc.heap.size wc W)=>show Calls Tryz.prog 11 #[.agg (dgC DB A5 c5).toArray,.string (strOfNums m),.string (strOfNums VIA2)] W (RqP W (.ok (enD m 2,enQ m))) from by
  have hm:=M6.out.call hb;have h:=zfb DB A5 c5 m VIA2 W ⟨SFB.out.nil,SFB.out.cap,hm.fact (i:=0) rfl,OB.out⟩ (ydo MO.out) ⟨by unfold By;decide,by decide⟩ (GH.out _ hm.bw);rw [RQ0.out] at h
  exact h)
 go_upto_region 3 with (fail)
 refine req_m 5 7 33 32 34 35 31 36 37 38 8 9 10 (by kernel_rfl) (by kernel_rfl) (by kernel_rfl) rfl ⟨⟨_,rfl,rfl,rfl,rfl,rfl⟩,⟨_,rfl,rfl,rfl,rfl,rfl⟩,⟨_,rfl,rfl,rfl,rfl,rfl⟩,⟨_,rfl,rfl,rfl,rfl,rfl⟩,⟨_,rfl,rfl,rfl,rfl,rfl⟩,⟨_,rfl,rfl,rfl,rfl,rfl⟩,⟨_,rfl,rfl,rfl,rfl,rfl⟩,⟨_,rfl,rfl,rfl,rfl,rfl⟩,⟨_,rfl,rfl,rfl,rfl,rfl⟩,⟨_,rfl,rfl,rfl,rfl,rfl⟩,⟨_,rfl,rfl,rfl,rfl,rfl⟩,⟨_,rfl,rfl,rfl,rfl,rfl⟩,⟨_,rfl,rfl,rfl,rfl,rfl⟩⟩ (by kernel_rfl) (by kernel_rfl) (.ok ((enD m 2),(enQ m))) (enD m 2) (enQ m) 0 rfl rfl rfl (strOfNums m) rfl (gb:=g5) rfl rfl RB RQ ?_
 intro va0 va1 va2 va3 va4 va5 va6 va7 va8 va9 W b1 b2 A7 c7 A8 c8 hx;have BWX:=kd hx.bw;have GE1:=kd hx.g1;have GE2:=kd hx.g2;have NE:=kd hx.ne;have RX1:=kd hx.r1;have RX2:=kd hx.r2
 have VA1:=kd hx.va1;have VA2:=kd hx.va2;have VB1:=kd hx.vb1;have VB2:=kd hx.vb2;have SD:=kd hx.sd;have SM:=kd hx.sm;have SQ:=kd hx.sq;clear hx;simp only [putL,Act.put,List.setIfInBounds_toArray,List.set_cons_zero,List.set_cons_succ]
 have M7:=kd (show Mine w W [(b1,25,dgC (enD m 2) A7 c7),(g5,25,dgC DB A5 c5)] [fun W=>Rds W W.heap.size A7 (strs (enD m 2).rs)] from ((((zrs M6.out BWX.out GE1.out GE2.out NE.out RX1.out RX2.out).tail).less (FS':=[]) (fun F hF=>by cases hF)).add (znw SD.out.r (fun hn b o s e hm=>by
  rw [List.map_cons,List.mem_cons] at hm
  rcases hm with h|h
  · exact VA1.out hn b o s e h
  · exact M6.out.fresh (SD.out.fresh b o s e).1 h))))
 have SFC:=kd SD.out;clear M6 BWX GE1 GE2 NE RX1 RX2 VA1 VA2 VB1 VB2 SD SM SQ RQ RB SFB OB RQ0;obtain ⟨C,hC⟩:∃ z:Int,100+(x:Int) % 600=z:=⟨_,rfl⟩
 have C1:100≤C:=by omega
 have C2:C≤699:=by omega
 go_upto_region 5 with (fail)
 try rw [hC]
 clear hC;go_wp2_with fail;refine (zek C [] none 0 0 W rfl (by decide) (fun r hr=>by cases hr) (fun b o s e=>by cases e) (fun h=>absurd h (by decide))).mono ?_;rintro _ w8 ⟨v8,rfl,X⟩;obtain ⟨gH,cH,cu,rfl,hM,hcu⟩:=ycc M7.out X (by decide);have M8:=kd hM
 have HCU:=kd (show cu.take 12=hds (zay C []).hs from hcu);clear X hM hcu M7
 go_upto_region 6 with (with_reducible refine zak rfl 31 (.tmp 12) (.tmp 44) rfl Z6m [.string ⟨#[]⟩,.string ⟨#[]⟩,.int .i64 C,.string ⟨#[82]⟩,.slice (some ⟨gH,0,none⟩) (6+0) cH,.slice none 0 0] rfl rfl lenU zaw zg8 ?_;intro w9 R9 S9);have M9:=kd (M8.out.join S9.out zNr R9.out)
 generalize w8.heap.size=g12 at *;clear R9 S9 M8;have CL12:=kd (show (hds (zay C []).hs).length=12 from rfl);have k4:w9.cell? ⟨g12,4,none⟩=some (.slice (some ⟨gH,0,none⟩) (6+0) cH):=(M9.out.row (i:=0) rfl).cell 4
 obtain ⟨u9,hu9⟩:∃ u,cu[9]? = some u:=by
  have h1:=HCU.out;have h2:=CL12.out;rw [← h1,List.length_take] at h2;exact ⟨_,List.getElem?_eq_getElem (by omega)⟩
 have k9:w9.cell? ⟨gH,9,none⟩=some u9:=((M9.out.row (i:=1) rfl).cell 9).trans hu9;have f9:w9.frozen? ⟨gH,9,none⟩=false:=(M9.out.row (i:=1) rfl).frozen 9
 have ms:(strOfNums m).size≤4000000:=by rw [zaq];exact (ydo MO.out).2
 have E8:=kd (zxl m);clear hu9 CL12;go_upto_region 7 with (fail);rw [E8.out];have M10:=kd (M9.out.setCell (i:=1) (off:=9) (.string (strOfNums (56::32::m))) rfl rfl);clear k4 k9 f9 E8 M9;generalize w9.setCell ⟨gH,9,none⟩ (.string (strOfNums (56::32::m)))=w10 at *
 have MQ:=kd (show MArg w10 (enM C m) (some ⟨gH,0,none⟩) from by
  have s:=ybx MO.out C;have hr:=M10.out.row (i:=1) rfl;refine ⟨fun _=>⟨gH,0,rfl,hr.lt,fun j u hj => ?_⟩,s.1,s.2.1,s.2.2.1,s.2.2.2.1,s.2.2.2.2⟩;rw [Nat.zero_add,hr.cell];rw [← ydz,← HCU.out] at hj
  have hj12:j<12:=by
   have:=(List.getElem?_eq_some_iff.1 hj).1;rw [List.length_set,List.length_take] at this;omega
  rw [List.getElem?_set] at hj ⊢
  split at hj
  · rename_i e
    subst e;rw [if_pos rfl]
    split at hj
    · rename_i h1
      rw [if_pos (by rw [List.length_take] at h1;omega)];exact hj
    · cases hj
  · rename_i e
    rw [if_neg e];rw [List.getElem?_take,if_pos hj12] at hj
    exact hj)
 clear HCU;have M11:=kd (M10.out.less (FS':=[fun W=>Rds W W.heap.size A7 (strs (enD m 2).rs)]) (fun F hF=>hF));clear M10;have EQ1:=kd (ybv MO.out C1 C2);have EQ2:=kd (yec MO.out C1);have EQ3:=kd (yed MO.out);obtain ⟨ov,hov⟩:∃ b,ztd m C=b:=⟨_,rfl⟩;rw [hov] at EQ1
 obtain ⟨D3,hD3⟩:∃ d,enD m (if ov=true then 3 else 2)=d:=⟨_,rfl⟩;rw [hD3] at EQ1;have D3E:=kd hD3;clear hD3;have OV:=kd hov;clear hov;have HE:=kd (ybx MO.out C)
 have RX:=kd (show Row w10 g12 31 [.string ⟨#[]⟩,.string ⟨#[]⟩,.int .i64 C,.string ⟨#[82]⟩,.slice (some ⟨gH,0,none⟩) (6+0) cH,.slice none 0 0] from M11.out.row (i:=0) rfl);have RY:=kd (show Row w10 b1 25 (dgC (enD m 2) A7 c7) from M11.out.row (i:=2) rfl)
 go_wp2_with (first
  | (refine zab rfl 25 (.tmp 8) rfl RY.out rfl Tryz.underlying25 rfl (zae _ _ _ _ _ _ _ _ _ _ _ _) ?_)
  | (refine zab rfl 31 (.tmp 12) rfl RX.out rfl Tryz.underlying31 rfl zaw ?_))
 refine (zfu (enD m 2) A7 c7 (enM C m) (some ⟨gH,0,none⟩) none cH 0 0 w10 ⟨SFC.out.nil,SFC.out.cap,M11.out.fact (i:=0) rfl,zo3 m 2⟩ MQ.out (GH.out _ M11.out.bw)).mono ?_;intro e w11 hx;rw [EQ1.out] at hx;obtain ⟨A13,c13,rfl,hb,sf⟩:=hx;have SFD:=kd sf;have MQ2:=kd (MQ.out.step hb)
 have M12:=kd ((M11.out.call hb).add (F:=fun W=>Rds W W.heap.size A13 (strs D3.rs)) (za9 sf.r (fun b o s e=>M11.out.fresh (sf.fresh b o s e).1)));clear sf hb RX RY M11 MQ
 go_upto_region 8 with (refine zak rfl 25 (.tmp 13) (.tmp 55) rfl Z12 (dgC D3 A13 c13) rfl rfl za6 (zae _ _ _ _ _ _ _ _ _ _ _ _) zat ?_;intro w13 R13 S13);have M13:=kd (M12.out.join S13.out zNr R13.out);have MQ3:=kd (MQ2.out.step S13.out);generalize w11.heap.size=g13 at *
 clear R13 S13 M12 MQ2;go_upto_region 10 with (fail)
 go_cut [15] (fun v wx=>v = .bool ov∧wx=w13)
 case first =>
  have OQ:=OV.out;unfold ztd at OQ;have PB:=m4_bye MO.out;clear EQ1 EQ2 EQ3 HE M13 MQ3 SFD FIN WK GH
  by_cases h1:m=BYET
  · have p1:((strOfNums m).toList == [66,89,69])=true:=PB.trans (by simp [h1])
    have q1:(m == BYET)=true:=by simp [h1]
    rw [q1] at OQ;clear h1 PB q1
    by_cases h2:200≤C
    · have e1:decide (C ≥ 200)=true:=by simpa using h2
      have e1':decide (200≤C)=true:=by simpa using h2
      have N:=kd (show ov=true by rw [← OQ,e1'];rfl);clear OQ;go_wp2_with fail;go_meet
      exact ⟨by rw [N.out]<;>rfl,rfl⟩
    · have e1:decide (C ≥ 200)=false:=by simpa using h2
      have e1':decide (200≤C)=false:=by simpa using h2
      have h3:¬ C=408:=by omega
      have h4:¬ C=481:=by omega
      have p3:(C == 408)=false:=by simpa using h3
      have p4:(C == 481)=false:=by simpa using h4
      have N:=kd (show ov=false by rw [← OQ,e1',p3,p4];rfl);clear OQ;go_wp2_with fail;go_meet
      exact ⟨by rw [N.out]<;>rfl,rfl⟩
  · have p1:((strOfNums m).toList == [66,89,69])=false:=PB.trans (by simpa using h1)
    have q1:(m == BYET)=false:=by simpa using h1
    rw [q1] at OQ;clear h1 PB q1
    by_cases h3:C=408
    · have p3:(C == 408)=true:=by simpa using h3
      have N:=kd (show ov=true by rw [← OQ,p3];simp);clear OQ h3;go_wp2_with fail;go_meet
      exact ⟨by rw [N.out]<;>rfl,rfl⟩
    have p3:(C == 408)=false:=by simpa using h3
    by_cases h4:C=481
    · have p4:(C == 481)=true:=by simpa using h4
      have N:=kd (show ov=true by rw [← OQ,p4];simp);clear OQ h3 h4;go_wp2_with fail;go_meet
      exact ⟨by rw [N.out]<;>rfl,rfl⟩
    have p4:(C == 481)=false:=by simpa using h4
    have N:=kd (show ov=false by rw [← OQ,p3,p4];simp);clear OQ h3 h4;go_wp2_with fail;go_meet
    exact ⟨by rw [N.out]<;>rfl,rfl⟩
 case rest =>
 obtain ⟨rfl,rfl⟩:=hcut;clear OV EQ1
 cases ov with
 | true =>
   obtain rfl:D3=enD m 3:=by rw [← D3E.out];rfl
   clear D3E
   have M14:=kd (show Mine w wc [(g13,25,dgC (enD m 3) A13 c13),(g12,31,[.string ⟨#[]⟩,.string ⟨#[]⟩,.int .i64 C,.string ⟨#[82]⟩,.slice (some ⟨gH,0,none⟩) (6+0) cH,.slice none 0 0])] [fun W=>Rds W W.heap.size A13 (strs (enD m 3).rs)] from ((M13.out.sub (L':=[(g13,25,dgC (enD m 3) A13 c13),(g12,31,[.string ⟨#[]⟩,.string ⟨#[]⟩,.int .i64 C,.string ⟨#[82]⟩,.slice (some ⟨gH,0,none⟩) (6+0) cH,.slice none 0 0])]) (fun r hr=>by
    rcases List.mem_cons.1 hr with rfl|hr
    · exact List.mem_cons_self ..
    · rcases List.mem_cons.1 hr with rfl|hr
      · exact List.mem_cons_of_mem _ (List.mem_cons_self ..)
      · cases hr) (show [g13,g12].Nodup from List.Nodup.sublist (show [g13,g12].Sublist [g13,g12,gH,b1,g5] from List.Sublist.cons_cons _ (List.Sublist.cons_cons _ (List.nil_sublist _))) M13.out.nd)).less (fun F hF=>by
    rcases List.mem_cons.1 hF with rfl|hF
    · exact List.mem_cons_self ..
    · cases hF)))
   clear M13;have x0:wc.cell? ⟨g13,0,none⟩=some (.int .u8 3):=(M14.out.row (i:=0) rfl).cell 0;go_upto_region 13 with (fail);clear x0;have RB:=kd (show Row wc g13 25 (dgC (enD m 3) A13 c13) from M14.out.row (i:=0) rfl)
   have RQ:=kd (fun W (hb:Below wc.heap.size wc W)=>show Calls Tryz.prog 11 #[.agg (dgC (enD m 3) A13 c13).toArray,.string ⟨#[73,78,70,79]⟩,.string (strOfNums VIA2)] W (fun e W2=>e = .returned (.tuple #[.agg (Z12:List Value).toArray,.agg (Z6m:List Value).toArray,.int .u8 9])∧Below W.heap.size W W2∧(9:Int)≠0) from by
    have hm:=M14.out.call hb;have h:=zfb (enD m 3) A13 c13 INFOT VIA2 W ⟨SFD.out.nil,SFD.out.cap,hm.fact (i:=0) rfl,zo3 m 3⟩ ⟨byD rfl,by decide⟩ ⟨byD rfl,by decide⟩ (GH.out _ hm.bw);rw [EQ3.out.2] at h
    exact h)
   refine yc6 13 87 88 89 86 90 91 92 16 17 18 (.const (.string (⟨#[73,78,70,79]⟩))) (by kernel_rfl) (by kernel_rfl) (by kernel_rfl) rfl ⟨⟨_,rfl,rfl,rfl,rfl,rfl⟩,⟨_,rfl,rfl,rfl,rfl,rfl⟩,⟨_,rfl,rfl,rfl,rfl,rfl⟩,⟨_,rfl,rfl,rfl,rfl,rfl⟩,⟨_,rfl,rfl,rfl,rfl,rfl⟩,⟨_,rfl,rfl,rfl,rfl,rfl⟩,⟨_,rfl,rfl,rfl,rfl,rfl⟩,⟨_,rfl,rfl,rfl,rfl,rfl⟩,⟨_,rfl,rfl,rfl,rfl,rfl⟩,⟨_,rfl,rfl,rfl,rfl,rfl⟩,⟨_,rfl,rfl,rfl,rfl,rfl⟩,⟨_,rfl,rfl,rfl,rfl,rfl⟩⟩ (by kernel_rfl) (.error 9) DZ QZ 9 rfl rfl rfl (⟨#[73,78,70,79]⟩) (fun _=>rfl) (gb:=g13) rfl rfl RB RQ ?_
   intro va0 va1 va2 va3 va4 va5 va6 va7 va8 W b1 b2 A7 c7 A8 c8 hx;have BWX:=kd hx.bw;have GE1:=kd hx.g1;have GE2:=kd hx.g2;have NE:=kd hx.ne;have RX1:=kd hx.r1;have RX2:=kd hx.r2;clear hx;simp only [putL,Act.put,List.setIfInBounds_toArray,List.set_cons_zero,List.set_cons_succ]
   have M15:=kd (M14.out.call BWX.out);have MQ4:=kd (MQ3.out.step BWX.out);clear M14 MQ3 RB RQ NE GE1 GE2 BWX RX1 RX2;go_upto_region 14 with (fail)
   have RX:=kd (show Row W g12 31 [.string ⟨#[]⟩,.string ⟨#[]⟩,.int .i64 C,.string ⟨#[82]⟩,.slice (some ⟨gH,0,none⟩) (6+0) cH,.slice none 0 0] from M15.out.row (i:=1) rfl);have RY:=kd (show Row W g13 25 (dgC (enD m 3) A13 c13) from M15.out.row (i:=0) rfl)
   go_wp2_with (first
    | (refine zab rfl 25 (.tmp 13) rfl RY.out rfl Tryz.underlying25 rfl (zae _ _ _ _ _ _ _ _ _ _ _ _) ?_)
    | (refine zab rfl 31 (.tmp 12) rfl RX.out rfl Tryz.underlying31 rfl zaw ?_))
   refine (zfu (enD m 3) A13 c13 (enM C m) (some ⟨gH,0,none⟩) none cH 0 0 W ⟨SFD.out.nil,SFD.out.cap,M15.out.fact (i:=0) rfl,zo3 m 3⟩ MQ4.out (GH.out _ M15.out.bw)).mono ?_;intro e w17 hx;rw [EQ2.out] at hx;obtain ⟨rfl,hb,_⟩:=hx;have B17:=kd (zao M15.out.bw hb);clear hb RX RY
   go_upto_region 15 with (refine zak rfl 25 (.tmp 19) (.tmp 97) rfl Z12 Z12 rfl rfl za6 (zae _ _ _ _ _ _ _ _ _ _ _ _) zat ?_;intro w18 R18 S18);have B18:=kd (zao B17.out S18.out);clear R18 S18 B17;go_wp2_with fail;refine (WK.out _ B18.out).mono ?_;rintro _ wz ⟨rfl,hbz⟩
   have BZ:=kd (zao B18.out hbz);go_wp2_with fail
   first|exact FIN.out _ BZ.out|(go_ret;exact FIN.out _ BZ.out)

 | false =>
   obtain rfl:D3=enD m 2:=by rw [← D3E.out];rfl
   clear D3E
   have M14:=kd (show Mine w wc [(g13,25,dgC (enD m 2) A13 c13),(g12,31,[.string ⟨#[]⟩,.string ⟨#[]⟩,.int .i64 C,.string ⟨#[82]⟩,.slice (some ⟨gH,0,none⟩) (6+0) cH,.slice none 0 0])] [fun W=>Rds W W.heap.size A13 (strs (enD m 2).rs)] from ((M13.out.sub (L':=[(g13,25,dgC (enD m 2) A13 c13),(g12,31,[.string ⟨#[]⟩,.string ⟨#[]⟩,.int .i64 C,.string ⟨#[82]⟩,.slice (some ⟨gH,0,none⟩) (6+0) cH,.slice none 0 0])]) (fun r hr=>by
    rcases List.mem_cons.1 hr with rfl|hr
    · exact List.mem_cons_self ..
    · rcases List.mem_cons.1 hr with rfl|hr
      · exact List.mem_cons_of_mem _ (List.mem_cons_self ..)
      · cases hr) (show [g13,g12].Nodup from List.Nodup.sublist (show [g13,g12].Sublist [g13,g12,gH,b1,g5] from List.Sublist.cons_cons _ (List.Sublist.cons_cons _ (List.nil_sublist _))) M13.out.nd)).less (fun F hF=>by
    rcases List.mem_cons.1 hF with rfl|hF
    · exact List.mem_cons_self ..
    · cases hF)))
   clear M13;have x0:wc.cell? ⟨g13,0,none⟩=some (.int .u8 2):=(M14.out.row (i:=0) rfl).cell 0;go_upto_region 13 with (fail);clear x0;have RB:=kd (show Row wc g13 25 (dgC (enD m 2) A13 c13) from M14.out.row (i:=0) rfl);obtain ⟨d9,q9,h9⟩:=EQ3.out.1
   have RQ:=kd (fun W (hb:Below wc.heap.size wc W)=>show Calls Tryz.prog 11 #[.agg (dgC (enD m 2) A13 c13).toArray,.string ⟨#[73,78,70,79]⟩,.string (strOfNums VIA2)] W (RqP W (.ok (d9,q9))) from by
    have hm:=M14.out.call hb;have h:=zfb (enD m 2) A13 c13 INFOT VIA2 W ⟨SFD.out.nil,SFD.out.cap,hm.fact (i:=0) rfl,zo3 m 2⟩ ⟨byD rfl,by decide⟩ ⟨byD rfl,by decide⟩ (GH.out _ hm.bw);rw [h9] at h
    exact h)
   clear h9
   refine yc6 13 87 88 89 86 90 91 92 16 17 18 (.const (.string (⟨#[73,78,70,79]⟩))) (by kernel_rfl) (by kernel_rfl) (by kernel_rfl) rfl ⟨⟨_,rfl,rfl,rfl,rfl,rfl⟩,⟨_,rfl,rfl,rfl,rfl,rfl⟩,⟨_,rfl,rfl,rfl,rfl,rfl⟩,⟨_,rfl,rfl,rfl,rfl,rfl⟩,⟨_,rfl,rfl,rfl,rfl,rfl⟩,⟨_,rfl,rfl,rfl,rfl,rfl⟩,⟨_,rfl,rfl,rfl,rfl,rfl⟩,⟨_,rfl,rfl,rfl,rfl,rfl⟩,⟨_,rfl,rfl,rfl,rfl,rfl⟩,⟨_,rfl,rfl,rfl,rfl,rfl⟩,⟨_,rfl,rfl,rfl,rfl,rfl⟩,⟨_,rfl,rfl,rfl,rfl,rfl⟩⟩ (by kernel_rfl) (.ok (d9,q9)) d9 q9 0 rfl rfl rfl (⟨#[73,78,70,79]⟩) (fun _=>rfl) (gb:=g13) rfl rfl RB RQ ?_
   intro va0 va1 va2 va3 va4 va5 va6 va7 va8 W b1 b2 A7 c7 A8 c8 hx;have BWX:=kd hx.bw;have GE1:=kd hx.g1;have GE2:=kd hx.g2;have NE:=kd hx.ne;have RX1:=kd hx.r1;have RX2:=kd hx.r2
   have VA1:=kd hx.va1;have VA2:=kd hx.va2;have VB1:=kd hx.vb1;have VB2:=kd hx.vb2;have SD:=kd hx.sd;have SM:=kd hx.sm;have SQ:=kd hx.sq;clear hx;simp only [putL,Act.put,List.setIfInBounds_toArray,List.set_cons_zero,List.set_cons_succ];have M15:=kd (M14.out.call BWX.out)
   have MQ4:=kd (MQ3.out.step BWX.out);clear M14 MQ3 RB RQ NE GE1 GE2 BWX RX1 RX2;go_upto_region 14 with (fail);have RX:=kd (show Row W g12 31 [.string ⟨#[]⟩,.string ⟨#[]⟩,.int .i64 C,.string ⟨#[82]⟩,.slice (some ⟨gH,0,none⟩) (6+0) cH,.slice none 0 0] from M15.out.row (i:=1) rfl)
   have RY:=kd (show Row W g13 25 (dgC (enD m 2) A13 c13) from M15.out.row (i:=0) rfl)
   go_wp2_with (first
    | (refine zab rfl 25 (.tmp 13) rfl RY.out rfl Tryz.underlying25 rfl (zae _ _ _ _ _ _ _ _ _ _ _ _) ?_)
    | (refine zab rfl 31 (.tmp 12) rfl RX.out rfl Tryz.underlying31 rfl zaw ?_))
   refine (zfu (enD m 2) A13 c13 (enM C m) (some ⟨gH,0,none⟩) none cH 0 0 W ⟨SFD.out.nil,SFD.out.cap,M15.out.fact (i:=0) rfl,zo3 m 2⟩ MQ4.out (GH.out _ M15.out.bw)).mono ?_;intro e w17 hx;obtain ⟨d10,h10⟩:∃ d,zbi (enD m 2) (enM C m) = .ok d:=⟨_,ybv MO.out C1 C2⟩;rw [h10] at hx
   obtain ⟨A17,c17,rfl,hb,_⟩:=hx;have B17:=kd (zao M15.out.bw hb);clear hb RX RY h10;go_upto_region 15 with (refine zak rfl 25 (.tmp 19) (.tmp 97) rfl Z12 (dgC d10 A17 c17) rfl rfl za6 (zae _ _ _ _ _ _ _ _ _ _ _ _) zat ?_;intro w18 R18 S18);have B18:=kd (zao B17.out S18.out)
   clear R18 S18 B17;go_wp2_with fail;refine (WK.out _ B18.out).mono ?_;rintro _ wz ⟨rfl,hbz⟩;have BZ:=kd (zao B18.out hbz);go_wp2_with fail
   first|exact FIN.out _ BZ.out|(go_ret;exact FIN.out _ BZ.out)
end Go.Proofs.YtfnmkedncfdceaaGreatDoor
