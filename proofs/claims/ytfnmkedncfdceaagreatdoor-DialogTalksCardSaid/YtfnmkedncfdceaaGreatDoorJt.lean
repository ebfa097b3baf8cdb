/- The law DialogTalks. -/
import Derived.Test.YtfnmkedncfdceaaGreatDoorJn
set_option linter.unusedVariables false
set_option linter.unusedSimpArgs false
namespace Go.Proofs.YtfnmkedncfdceaaGreatDoor
open Go.RowKit

def mtL (x:Nat):List Int:=[INVT,UPDT,INFOT,ACKT].getD (x / 2 % 4) []
theorem mtL_ok (x:Nat):MT (mtL x):=by
 unfold mtL MT
 have h:x / 2 % 4=0∨x / 2 % 4=1∨x / 2 % 4=2∨x / 2 % 4=3:=by omega
 rcases h with h|h|h|h<;>rw [h]<;>simp
def kB (x:Nat):Bool:=decide (x % 2=1)
set_option maxRecDepth 100000 in
set_option maxHeartbeats 16000000 in
theorem yf3 (A:Option Addr) (n c:Nat) (w:World) (HA:∀ j,j<n→∃ (a:Addr) (x:Nat),A=some a∧a.block<w.heap.size∧x≤255∧w.cell? (a.add j)=some (.int .u8 (x:Int))) (G:GW w):Calls Tryz.prog 5 #[.slice A n c] w fun e w'=>e = .returned (.bool true)∧Below w.heap.size w w':=by
 have GH:=kd (fun W (hb:Below w.heap.size w W)=>G.below hb);have WK:=kd (fun W (hb:Below w.heap.size w W)=>znk W (G.below hb));have M0:=kd (Mine.refl w)
 have FIN:=kd (fun W (hb:Below w.heap.size w W)=>show (fun (e:Ending) (w':World)=>e = .returned (.bool true)∧Below w.heap.size w w') (.returned (.bool true)) W from ⟨rfl,hb⟩);generalize (fun (e:Ending) (w':World)=>e = .returned (.bool true)∧Below w.heap.size w w')=PO at *
 have HX:=kd HA;clear G HA;have WA:=kd (show zdh (zaz [SP2,SP3]) (zay 200 [SP2,SP3]) = .ok (tkD false 0 7 0) from zl2 _ (by decide) (by decide) ye4.ok (by decide))
 have WB:=kd (show zc6 (zaz [SP2,SP3]) (zay 200 [SP2,SP3]) = .ok (tkD true 7 0 7) from zih _ (by decide) (by decide) ye4.ok (by decide))
 go_enter Tryz.func5,Tryz.ntmps5
 have RL2:=kd (Row.new w 9 [.string ⟨#[115,105,112,58,112,50,46,101,120,97,109,112,108,101,59,108,114]⟩,.string ⟨#[115,105,112,58,112,51,46,101,120,97,109,112,108,101]⟩])
 have BL2:=kd ((Below.refl w.heap.size w).alloc zNr (.cells ([.string ⟨#[115,105,112,58,112,50,46,101,120,97,109,112,108,101,59,108,114]⟩,.string ⟨#[115,105,112,58,112,51,46,101,120,97,109,112,108,101]⟩]:List Value).toArray 9));go_wp2_with fail
 generalize w.alloc (.cells #[.string ⟨#[115,105,112,58,112,50,46,101,120,97,109,112,108,101,59,108,114]⟩,.string ⟨#[115,105,112,58,112,51,46,101,120,97,109,112,108,101]⟩] 9)=wa2 at *;have Ma2:=kd (M0.out.call BL2.out)
 refine (ze3 [SP2,SP3] (some ⟨w.heap.size,0,none⟩) 2 2 wa2 rfl (by decide) (fun r hr=>(zfn (ye4 r hr)).2.1) (fun b o s e=>by cases e;rfl) (zfc RL2.out)).mono ?_;rintro _ w2 ⟨v2,rfl,X⟩;obtain ⟨A2,c2,rfl,F,HM⟩:=VX.msg (m:=zaz [SP2,SP3]) X rfl (invS ye4 (by decide))
 have M2:=kd (Ma2.out.call X.bw);have B2:=kd (zao BL2.out X.bw);have H2:=kd HM;clear X F HM RL2 BL2 Ma2
 have RL4:=kd (Row.new w2 9 [.string ⟨#[115,105,112,58,112,50,46,101,120,97,109,112,108,101,59,108,114]⟩,.string ⟨#[115,105,112,58,112,51,46,101,120,97,109,112,108,101]⟩])
 have BL4:=kd ((Below.refl w2.heap.size w2).alloc zNr (.cells ([.string ⟨#[115,105,112,58,112,50,46,101,120,97,109,112,108,101,59,108,114]⟩,.string ⟨#[115,105,112,58,112,51,46,101,120,97,109,112,108,101]⟩]:List Value).toArray 9));go_wp2_with fail
 generalize w2.alloc (.cells #[.string ⟨#[115,105,112,58,112,50,46,101,120,97,109,112,108,101,59,108,114]⟩,.string ⟨#[115,105,112,58,112,51,46,101,120,97,109,112,108,101]⟩] 9)=wa4 at *;have Ma4:=kd (M2.out.call BL4.out)
 refine (zek 200 [SP2,SP3] (some ⟨w2.heap.size,0,none⟩) 2 2 wa4 rfl (by decide) (fun r hr=>(zfn (ye4 r hr)).2.1) (fun b o s e=>by cases e;rfl) (zfc RL4.out)).mono ?_;rintro _ w4 ⟨v4,rfl,X⟩;obtain ⟨A4,c4,rfl,F,HM⟩:=VX.msg (m:=zay 200 [SP2,SP3]) X rfl (ansS ye4 (by decide))
 have M4:=kd (Ma4.out.call X.bw);have B24:=kd (zao BL4.out X.bw);have H4:=kd HM;clear X F HM RL4 BL4 Ma4;go_wp2_with fail;refine (zkp (zaz [SP2,SP3]) (zay 200 [SP2,SP3]) A2 none A4 none c2 0 0 c4 0 0 w4 (H2.out.step B24.out) H4.out (GH.out _ M4.out.bw)).mono ?_;intro e w5 hx
 rw [WA.out] at hx;obtain ⟨A5,c5,rfl,hb,sf⟩:=hx;have SFA:=kd sf;have M5:=kd ((M4.out.call hb).add (F:=fun W=>Rds W W.heap.size A5 (strs (tkD false 0 7 0).rs)) (za9 sf.r (fun b o s e=>M4.out.fresh (sf.fresh b o s e).1)));clear sf hb
 go_upto_region 2 with (refine zak rfl 25 (.tmp 3) (.tmp 27) rfl Z12 (dgC (tkD false 0 7 0) A5 c5) rfl rfl za6 (zae _ _ _ _ _ _ _ _ _ _ _ _) zat ?_;intro w6 R6 S6);have M6:=kd (M5.out.join S6.out zNr R6.out);generalize w5.heap.size=g3 at *;clear R6 S6 M5 M4 M2 H2 H4 B24
 have RL7:=kd (Row.new w6 9 [.string ⟨#[115,105,112,58,112,50,46,101,120,97,109,112,108,101,59,108,114]⟩,.string ⟨#[115,105,112,58,112,51,46,101,120,97,109,112,108,101]⟩])
 have BL7:=kd ((Below.refl w6.heap.size w6).alloc zNr (.cells ([.string ⟨#[115,105,112,58,112,50,46,101,120,97,109,112,108,101,59,108,114]⟩,.string ⟨#[115,105,112,58,112,51,46,101,120,97,109,112,108,101]⟩]:List Value).toArray 9));go_wp2_with fail
 generalize w6.alloc (.cells #[.string ⟨#[115,105,112,58,112,50,46,101,120,97,109,112,108,101,59,108,114]⟩,.string ⟨#[115,105,112,58,112,51,46,101,120,97,109,112,108,101]⟩] 9)=wa7 at *;have Ma7:=kd (M6.out.call BL7.out)
 refine (ze3 [SP2,SP3] (some ⟨w6.heap.size,0,none⟩) 2 2 wa7 rfl (by decide) (fun r hr=>(zfn (ye4 r hr)).2.1) (fun b o s e=>by cases e;rfl) (zfc RL7.out)).mono ?_;rintro _ w7 ⟨v7,rfl,X⟩;obtain ⟨A7,c7,rfl,F,HM⟩:=VX.msg (m:=zaz [SP2,SP3]) X rfl (invS ye4 (by decide))
 have M7:=kd (Ma7.out.call X.bw);have B67:=kd (zao BL7.out X.bw);have H7:=kd HM;clear X F HM RL7 BL7 Ma7
 have RL9:=kd (Row.new w7 9 [.string ⟨#[115,105,112,58,112,50,46,101,120,97,109,112,108,101,59,108,114]⟩,.string ⟨#[115,105,112,58,112,51,46,101,120,97,109,112,108,101]⟩])
 have BL9:=kd ((Below.refl w7.heap.size w7).alloc zNr (.cells ([.string ⟨#[115,105,112,58,112,50,46,101,120,97,109,112,108,101,59,108,114]⟩,.string ⟨#[115,105,112,58,112,51,46,101,120,97,109,112,108,101]⟩]:List Value).toArray 9));go_wp2_with fail
 generalize w7.alloc (.cells #[.string ⟨#[115,105,112,58,112,50,46,101,120,97,109,112,108,101,59,108,114]⟩,.string ⟨#[115,105,112,58,112,51,46,101,120,97,109,112,108,101]⟩] 9)=wa9 at *;have Ma9:=kd (M7.out.call BL9.out)
 refine (zek 200 [SP2,SP3] (some ⟨w7.heap.size,0,none⟩) 2 2 wa9 rfl (by decide) (fun r hr=>(zfn (ye4 r hr)).2.1) (fun b o s e=>by cases e;rfl) (zfc RL9.out)).mono ?_;rintro _ w9 ⟨v9,rfl,X⟩;obtain ⟨A9,c9,rfl,F,HM⟩:=VX.msg (m:=zay 200 [SP2,SP3]) X rfl (ansS ye4 (by decide))
 have M9:=kd (Ma9.out.call X.bw);have B79:=kd (zao BL9.out X.bw);have H9:=kd HM;clear X F HM RL9 BL9 Ma9;go_wp2_with fail;refine (zgw (zaz [SP2,SP3]) (zay 200 [SP2,SP3]) A7 none A9 none c7 0 0 c9 0 0 w9 (H7.out.step (B79.out)) H9.out (GH.out _ M9.out.bw)).mono ?_;intro e w10 hx
 rw [WB.out] at hx;obtain ⟨A10,c10,rfl,hb,sf⟩:=hx;have SFB:=kd sf;have M10:=kd ((M9.out.call hb).add (F:=fun W=>Rds W W.heap.size A10 (strs (tkD true 7 0 7).rs)) (za9 sf.r (fun b o s e=>M9.out.fresh (sf.fresh b o s e).1)));clear sf hb
 go_upto_region 3 with (refine zak rfl 25 (.tmp 5) (.tmp 35) rfl Z12 (dgC (tkD true 7 0 7) A10 c10) rfl rfl za6 (zae _ _ _ _ _ _ _ _ _ _ _ _) zat ?_;intro w11 R11 S11);have M11:=kd (M10.out.join S11.out zNr R11.out);generalize w10.heap.size=g5 at *;clear R11 S11 M10 M9 M7 H7 H9 B79 M6 WA WB
 have R3:=kd (M11.out.row (i:=1) rfl);have R5:=kd (M11.out.row (i:=0) rfl);dsimp only [dgC,tkD] at R3 R5
 obtain ⟨s0,hs0⟩:∃ s:TS,(⟨fun b=>if b=true then 7 else 0,fun b=>if b=true then 7 else 0,fun b=>if b=true then A10 else A5,fun b=>if b=true then c10 else c5⟩:TS)=s:=⟨_,rfl⟩
 have EC:=kd (show tsC s0=dgC (tkD false 0 7 0) A5 c5++dgC (tkD true 7 0 7) A10 c10 by rw [← hs0];rfl);have EF:=kd (show tsF s0=[fun W=>Rds W W.heap.size A10 (strs (tkD true 7 0 7).rs),fun W=>Rds W W.heap.size A5 (strs (tkD false 0 7 0).rs)] by rw [← hs0];rfl)
 have ES:=kd (show tsS s0 by rw [← hs0];intro k;cases k;exact ⟨SFA.out.nil,SFA.out.cap⟩;exact ⟨SFB.out.nil,SFB.out.cap⟩);have EN:=kd (show s0.n false=0∧s0.n true=7∧s0.i false=0∧s0.i true=7 by rw [← hs0];exact ⟨rfl,rfl,rfl,rfl⟩);clear hs0;go_upto_region 5 with (fail)
 go_upto_region 6 with (first
  | (refine zab rfl 25 (.tmp 3) rfl R3.out rfl Tryz.underlying25 rfl (zae _ _ _ _ _ _ _ _ _ _ _ _) ?_)
  | (refine zab rfl 25 (.tmp 5) rfl R5.out rfl Tryz.underlying25 rfl (zae _ _ _ _ _ _ _ _ _ _ _ _) ?_)
  | (refine zak rfl 45 (.tmp 7) (.tmp 45) rfl [.int .u8 0,.bool false,.string ⟨#[]⟩,.string ⟨#[]⟩,.string ⟨#[]⟩,.string ⟨#[]⟩,.string ⟨#[]⟩,.string ⟨#[]⟩,.slice none 0 0,.int .i64 0,.int .i64 0,.int .i64 0,.int .u8 0,.bool false,.string ⟨#[]⟩,.string ⟨#[]⟩,.string ⟨#[]⟩,.string ⟨#[]⟩,.string ⟨#[]⟩,.string ⟨#[]⟩,.slice none 0 0,.int .i64 0,.int .i64 0,.int .i64 0] (dgC (tkD false 0 7 0) A5 c5++dgC (tkD true 7 0 7) A10 c10) rfl rfl rfl (show (Tryz.prog.info? 45).map (·.size)=some 24 by kernel_rfl) (dg_two (tkD false 0 7 0) (tkD true 7 0 7) A5 A10 c5 c10) ?_;intro w12 R12 S12))
 have M12:=kd (M11.out.join S12.out zNr R12.out);generalize w11.heap.size=gs at *;clear R12 S12 M11 R3 R5
 go_upto_region 7 with (refine zak rfl 46 (.tmp 8) (.tmp 46) rfl [.int .i64 0,.int .i64 0] [.int .i64 0,.int .i64 7] rfl rfl rfl (show (Tryz.prog.info? 46).map (·.size)=some 2 by kernel_rfl) (by intro u hu;simp at hu;rcases hu with rfl|rfl<;>rfl) ?_;intro w13 R13 S13)
 have M13:=kd (M12.out.join S13.out zNr R13.out);generalize w12.heap.size=gn at *;clear R13 S13 M12
 have MT0:=kd (show Mine w w13 (tsL gs gn s0) (tsF s0) from by
  have h:=M13.out.sub (L':=[(gs,45,dgC (tkD false 0 7 0) A5 c5++dgC (tkD true 7 0 7) A10 c10),(gn,46,[.int .i64 0,.int .i64 7])]) (fun r hr=>by simp only [List.mem_cons,List.not_mem_nil,or_false] at hr ⊢;rcases hr with rfl|rfl<;>simp) (by have:=M13.out.nd;simp at this ⊢;omega)
  unfold tsL;rw [EC.out,EF.out,EN.out.1,EN.out.2.1]
  exact h)
 clear M13 SFA SFB EC EF;go_wp2_with fail
 go_loopw [9] (fun v9 wr => ∃ (j:Nat) (s:TS),j≤40∧j≤n∧(∀ b,s.n b≤7+j)∧(∀ b,s.i b≤7+j)∧s.i true≠0∧v9 = .int .i64 j∧Hid (tsS s)∧Hid (Mine w wr (tsL gs gn s) (tsF s))) (fun v9 _=>40 - (intOf v9).toNat)
 case atStart=>exact ⟨0,s0,by omega,by omega,(fun b=>by cases b<;>(have:=EN.out;omega)),(fun b=>by cases b<;>(have:=EN.out;omega)),(by have:=EN.out;omega),rfl,ES,MT0⟩
 case round =>
  clear MT0 ES EN;obtain ⟨j,s,hj,hjn,hbn,hbi,hi1,rfl,TSS,MJ⟩:=hrel
  by_cases hlt:j<n∧j<40
  · obtain ⟨hl1,hl2⟩:=hlt
    have hd1:decide ((j:Int)<(n:Int))=true:=by simp;omega
    have hd2:decide ((j:Int)<40)=true:=by simp;omega
    obtain ⟨ad,x,ea,hba,hx,hc⟩:=HX.out j hl1;subst ea;have hcx:wr.cell? (ad.add j)=some (.int .u8 (x:Int)):=(MJ.out.bw.cell (p:=ad.add j) (by rw [yfb];exact hba)).trans hc;obtain ⟨k,hk⟩:∃ k,kB x=k:=⟨_,rfl⟩;obtain ⟨m,hm⟩:∃ m,mtL x=m:=⟨_,rfl⟩;have MD:=kd hm
    have KD:=kd hk;have MO:=kd (show MT m by rw [← hm];exact mtL_ok x);clear hm hk hc hba;go_upto_region 10 with (fail)
    go_cut [10] (fun v10 wx=>v10 = .int .i64 (kI k)∧wx=wr)
    case first=>as_aux_lemma =>
     have k2:x % 2=0∨x % 2=1:=by omega
     clear WK FIN GH HX MJ TSS MO MD hbn hbi hi1
     rcases k2 with k2|k2
     · have e2:(x:Int) % 2=0:=by omega
       obtain rfl:k=false:=by rw [← KD.out];unfold kB;rw [k2];rfl
       clear k2;go_wp2_with fail;go_meet;exact ⟨rfl,rfl⟩
     · have e2:(x:Int) % 2=1:=by omega
       obtain rfl:k=true:=by rw [← KD.out];unfold kB;rw [k2];rfl
       clear k2;go_wp2_with fail;go_meet;exact ⟨rfl,rfl⟩
    case rest =>
    obtain ⟨rfl,rfl⟩:=hcut;clear KD;go_upto_region 11 with (fail)
    go_cut [11] (fun v11 wx=>v11 = .string (strOfNums m)∧wx=wc)
    case first=>as_aux_lemma =>
     have k4:x / 2 % 4=0∨x / 2 % 4=1∨x / 2 % 4=2∨x / 2 % 4=3:=by omega
     clear WK FIN GH HX MJ TSS MO hbn hbi hi1
     rcases k4 with k4|k4|k4|k4
     · have IX:=fun w=>(show (Instr.index 47 (.agg #[.string ⟨#[73,78,86,73,84,69]⟩,.string ⟨#[85,80,68,65,84,69]⟩,.string ⟨#[73,78,70,79]⟩,.string ⟨#[65,67,75]⟩]) (.int .u8 0)).run Tryz.prog w = .ok (.string ⟨#[73,78,86,73,84,69]⟩) w by kernel_rfl)
       have e4:(x:Int) / 2 % 4=0:=by omega
       obtain rfl:m=INVT:=by rw [← MD.out];unfold mtL;rw [k4];rfl
       clear k4;go_wp2_with fail;go_meet;exact ⟨rfl,rfl⟩
     · have IX:=fun w=>(show (Instr.index 47 (.agg #[.string ⟨#[73,78,86,73,84,69]⟩,.string ⟨#[85,80,68,65,84,69]⟩,.string ⟨#[73,78,70,79]⟩,.string ⟨#[65,67,75]⟩]) (.int .u8 1)).run Tryz.prog w = .ok (.string ⟨#[85,80,68,65,84,69]⟩) w by kernel_rfl)
       have e4:(x:Int) / 2 % 4=1:=by omega
       obtain rfl:m=UPDT:=by rw [← MD.out];unfold mtL;rw [k4];rfl
       clear k4;go_wp2_with fail;go_meet;exact ⟨rfl,rfl⟩
     · have IX:=fun w=>(show (Instr.index 47 (.agg #[.string ⟨#[73,78,86,73,84,69]⟩,.string ⟨#[85,80,68,65,84,69]⟩,.string ⟨#[73,78,70,79]⟩,.string ⟨#[65,67,75]⟩]) (.int .u8 2)).run Tryz.prog w = .ok (.string ⟨#[73,78,70,79]⟩) w by kernel_rfl)
       have e4:(x:Int) / 2 % 4=2:=by omega
       obtain rfl:m=INFOT:=by rw [← MD.out];unfold mtL;rw [k4];rfl
       clear k4;go_wp2_with fail;go_meet;exact ⟨rfl,rfl⟩
     · have IX:=fun w=>(show (Instr.index 47 (.agg #[.string ⟨#[73,78,86,73,84,69]⟩,.string ⟨#[85,80,68,65,84,69]⟩,.string ⟨#[73,78,70,79]⟩,.string ⟨#[65,67,75]⟩]) (.int .u8 3)).run Tryz.prog w = .ok (.string ⟨#[65,67,75]⟩) w by kernel_rfl)
       have e4:(x:Int) / 2 % 4=3:=by omega
       obtain rfl:m=ACKT:=by rw [← MD.out];unfold mtL;rw [k4];rfl
       clear k4;go_wp2_with fail;go_meet;exact ⟨rfl,rfl⟩
    case rest =>
    obtain ⟨rfl,rfl⟩:=hcut;clear MD hcx hx;obtain ⟨R,hR⟩:∃ R,zcb (tsD s k) m VIA2=R:=⟨_,rfl⟩;have HR:=kd hR
    have RQ:=kd (fun W (hb:Below wc.heap.size wc W)=>show Calls Tryz.prog 11 #[.agg (tsC1 s k).toArray,.string (strOfNums m),.string (strOfNums VIA2)] W (RqP W R) from by
     have hm:=MJ.out.call hb;have h:=zfb (tsD s k) (s.A k) (s.c k) m VIA2 W (yfh hm (fun F h=>h) TSS.out k) ⟨(ye3 MO.out).2.1,by have:=(ye3 MO.out).2.2.2.2;omega⟩ ⟨by unfold By;decide,by decide⟩ (GH.out _ hm.bw);rw [hR] at h
     exact h)
    clear hR;obtain ⟨d2,hd2⟩:∃ x,rqD R=x:=⟨_,rfl⟩;obtain ⟨q,hq⟩:∃ x,rqQ R=x:=⟨_,rfl⟩;obtain ⟨er,her⟩:∃ x,rqE R=x:=⟨_,rfl⟩;have HD:=kd hd2;have HQ:=kd hq;have HE:=kd her;clear hd2 hq her
    have RL:=kd (fun W (hb:Below wc.heap.size wc W)=>yf8 (s:=s) ((MJ.out.call hb).row (i:=0) rfl) k);go_upto_region 12 with (fail)
    refine zjz (by kernel_rfl) (by kernel_rfl) (fun (i:Nat) (W:World) (v:Value)=>match i with
     | 0=>v = .int .i64 (kI k)
     | 1=>v = .pointer (some ⟨gs,ofB k,none⟩)
     | 2=>v = .agg (tsC1 s k).toArray
     | 3=>v = .string (strOfNums m)
     | 4=>v = .string (strOfNums VIA2)
     | 5=>AT wc d2 q er W v
     | 6=>AT wc d2 q er W v
     | 7=>AD wc d2 W v
     | 8=>AM wc q W v
     | 9=>v = .int .u8 er
     | 14=>v = .int .u8 er
     | _=>True) (fun (i:Nat) (v:Value) (b:Nat)=>match i with
     | 5=>VT d2 q er v b
     | 6=>VT d2 q er v b
     | 7=>VD d2 v b
     | 8=>VM q v b
     | _=>True) [⟨10,12,7,12,78,25,Z12⟩,⟨11,13,8,13,79,31,Z6m⟩] (by kernel_rfl) ?hK ?hkk ?hpo ?hAb ?hAs ?hAn ?hval ?hstep ?hend
    case hK =>
     intro κ hκ;simp only [List.mem_cons,List.not_mem_nil,or_false] at hκ
     rcases hκ with rfl|rfl
     · exact ⟨⟨_,rfl,rfl,rfl,rfl⟩,⟨_,rfl,rfl⟩,⟨_,rfl,rfl,rfl,rfl,by kernel_rfl,by kernel_rfl⟩,by kernel_rfl,by kernel_rfl⟩
     · exact ⟨⟨_,rfl,rfl,rfl,rfl⟩,⟨_,rfl,rfl⟩,⟨_,rfl,rfl,rfl,rfl,by kernel_rfl,by kernel_rfl⟩,by kernel_rfl,by kernel_rfl⟩
    case hkk =>
     intro x hx y hy h;simp only [List.mem_cons,List.not_mem_nil,or_false] at hx hy
     rcases hx with rfl|rfl<;>rcases hy with rfl|rfl
     · rfl
     · exact absurd h (by decide)
     · exact absurd h (by decide)
     · rfl
    case hpo =>
     intro κ hκ;simp only [List.mem_cons,List.not_mem_nil,or_false] at hκ
     rcases hκ with rfl|rfl<;>rfl
    case hAb =>
     intro i v W W' hb h
     rcases i with _|_|_|_|_|_|_|_|_|_|_|_|_|_|_|i
     all_goals first
      | exact h
      | exact AT.below h hb
      | exact AD.below h hb
      | exact AM.below h hb
      | exact AC.below h hb
    case hAs =>
     intro i v W W' b h hv hs hh
     rcases i with _|_|_|_|_|_|_|_|_|_|_|_|_|_|_|i
     all_goals first
      | exact h
      | exact AT.off h hv hs hh
      | exact AD.off h hv hs hh
      | exact AM.off h hv hs hh
      | exact AC.off h hv hs hh
    case hAn =>
     intro i v W h
     rcases i with _|_|_|_|_|_|_|_|_|_|_|_|_|_|_|i
     all_goals first
      | exact trivial
      | exact AT.new h
      | exact AD.new h
      | exact AM.new h
      | exact AC.new h
    case hval =>
     intro κ hκ W v h;simp only [List.mem_cons,List.not_mem_nil,or_false] at hκ
     rcases hκ with rfl|rfl
     · obtain ⟨A0,c0,rfl,_⟩:=(show AD wc d2 W v from h)
       exact ⟨_,rfl,rfl,zat⟩
     · obtain ⟨A0,c0,rfl,_⟩:=(show AM wc q W v from h)
       exact ⟨_,rfl,rfl,zg8⟩
    case hstep=>as_aux_lemma =>
     intro i o hp ho a' W hB hF hD _
     match i,ho,hp with
     | 0,ho,hp =>
       obtain rfl:=zSi ho;exact (zaf ho rfl (zb5 (.tmp 10) (.inl rfl) ⟨_,rfl,Below.refl _ _,fun _ _=>⟨(show a'.eval (.tmp 10) = .int .i64 (kI k) from ((zap hF (by kernel_rfl)).trans rfl)),fun _ _ _=>trivial⟩⟩))
     | 1,ho,hp =>
       obtain rfl:=zSi ho;exact (zaf ho rfl (ye7 45 (.tmp 7) (.tmp 72) rfl (p := .pointer (some ⟨gs,0,none⟩)) (z := .int .i64 (kI k)) ((zap hF (by kernel_rfl)).trans rfl) ((zai hD 0 (by kernel_rfl) rfl rfl) rfl) (ye2 k gs W) ⟨_,rfl,Below.refl _ _,fun _ _=>⟨rfl,fun _ _ _=>trivial⟩⟩))
     | 2,ho,hp =>
       obtain rfl:=zSi ho;exact (zaf ho rfl (zf4 25 (.tmp 73) rfl gs (ofB k) (tsC1 s k) _ ((zai hD 1 (by kernel_rfl) rfl rfl) rfl) (RL.out W hB) Tryz.underlying25 rfl (zae _ _ _ _ _ _ _ _ _ _ _ _) ⟨_,rfl,Below.refl _ _,fun _ _=>⟨rfl,fun _ _ _=>trivial⟩⟩))
     | 3,ho,hp =>
       obtain rfl:=zSi ho;exact (zaf ho rfl (zb5 (.tmp 11) (.inl rfl) ⟨_,rfl,Below.refl _ _,fun _ _=>⟨(show a'.eval (.tmp 11) = .string (strOfNums m) from ((zap hF (by kernel_rfl)).trans rfl)),fun _ _ _=>trivial⟩⟩))
     | 4,ho,hp =>
       obtain rfl:=zSi ho;exact (zaf ho rfl (zc3 20 _ _ rfl #[] (by simp only [List.map_toArray,List.map_nil]) (enters_of Tryz.func20 (by kernel_rfl) rfl) ((zrc W).mono fun e W2 ⟨he,hb⟩=>⟨_,he,_,rfl,hb,fun _ _=>⟨rfl,fun _ _ _=>trivial⟩⟩)))
     | 5,ho,hp =>
       obtain rfl:=zSi ho;have hx0:a'.eval (.tmp 74) = .agg (tsC1 s k).toArray:=((zai hD 2 (by kernel_rfl) rfl rfl) rfl);have hx1:a'.eval (.tmp 75) = .string (strOfNums m):=((zai hD 3 (by kernel_rfl) rfl rfl) rfl)
       have hx2:a'.eval (.tmp 76) = .string (strOfNums VIA2):=((zai hD 4 (by kernel_rfl) rfl rfl) rfl)
       exact (zaf ho rfl (zc3 11 _ _ rfl #[.agg (tsC1 s k).toArray,.string (strOfNums m),.string (strOfNums VIA2)] (by simp only [List.map_toArray,List.map_cons,List.map_nil,hx0,hx1,hx2]) (enters_of Tryz.func11 (by kernel_rfl) rfl) ((RQ.out W hB).mono fun e W2 h=>by
        obtain ⟨v,he,hb,ha,hv⟩:=RqP.at h hB HD.out HQ.out HE.out
        exact ⟨v,he,v,rfl,hb,fun _ _=>⟨ha,fun b hlt _=>hv b hlt⟩⟩)))
     | 6,ho,hp =>
       obtain rfl:=zSi ho;exact (zaf ho rfl (zb5 (.tmp 77) (.inl rfl) ⟨_,rfl,Below.refl _ _,fun _ _=>⟨((zai hD 5 (by kernel_rfl) rfl rfl) rfl),fun b _ hd=>((zai hd 5 (by kernel_rfl) rfl rfl) rfl)⟩⟩))
     | 7,ho,hp =>
       obtain rfl:=zSi ho;obtain ⟨A0,c0,A02,c02,e0,s0',f0,r0⟩:=(show AT wc d2 q er W (a'.eval (.tmp 71)) from ((zai hD 6 (by kernel_rfl) rfl rfl) rfl))
       exact (zaf ho rfl (zle (.tmp 71) 0 rfl e0 _ rfl ⟨_,rfl,Below.refl _ _,fun _ _=>⟨⟨A0,c0,rfl,s0'⟩,fun b _ hd B e' he=>by
        have hvt:VT d2 q er (a'.eval (.tmp 71)) b:=((zai hd 6 (by kernel_rfl) rfl rfl) rfl);rw [← zkv he]
        exact (hvt A0 c0 A02 c02 e0).1⟩⟩))
     | 8,ho,hp =>
       obtain rfl:=zSi ho;obtain ⟨A0,c0,A02,c02,e0,s0',f0,r0⟩:=(show AT wc d2 q er W (a'.eval (.tmp 71)) from ((zai hD 6 (by kernel_rfl) rfl rfl) rfl))
       exact (zaf ho rfl (zle (.tmp 71) 1 rfl e0 _ rfl ⟨_,rfl,Below.refl _ _,fun _ _=>⟨⟨A02,c02,rfl,f0,r0⟩,fun b _ hd B e' he=>by
        have hvt:VT d2 q er (a'.eval (.tmp 71)) b:=((zai hd 6 (by kernel_rfl) rfl rfl) rfl);rw [← zof he]
        exact (hvt A0 c0 A02 c02 e0).2⟩⟩))
     | 9,ho,hp =>
       obtain rfl:=zSi ho;obtain ⟨A0,c0,A02,c02,e0,s0',f0,r0⟩:=(show AT wc d2 q er W (a'.eval (.tmp 71)) from ((zai hD 6 (by kernel_rfl) rfl rfl) rfl));exact (zaf ho rfl (zle (.tmp 71) 2 rfl e0 _ rfl ⟨_,rfl,Below.refl _ _,fun _ _=>⟨rfl,fun _ _ _=>trivial⟩⟩))
     | 10,ho,hp =>
       obtain rfl:=zSi ho;exact absurd hp (by decide)
     | 11,ho,hp =>
       obtain rfl:=zSi ho;exact absurd hp (by decide)
     | 12,ho,hp =>
       obtain rfl:=zSi ho;exact absurd hp (by decide)
     | 13,ho,hp =>
       obtain rfl:=zSi ho;exact absurd hp (by decide)
     | 14,ho,hp =>
       obtain rfl:=zSi ho;exact (zaf ho rfl (zb5 (.tmp 80) (.inr rfl) ⟨_,rfl,Below.refl _ _,fun _ _=>⟨(show a'.eval (.tmp 80) = .int .u8 er from ((zai hD 9 (by kernel_rfl) rfl rfl) rfl)),fun _ _ _=>trivial⟩⟩))
     | i+15,ho,hp=>exact absurd ho (by simp)
    case hend=>as_aux_lemma =>
    intro vs w12 hBW hlen hall hkv
    obtain ⟨v0,v1,v2,v3,v4,v5,v6,v7,v8,v9,v10,v11,v12,v13,v14,rfl⟩:∃ v0 v1 v2 v3 v4 v5 v6 v7 v8 v9 v10 v11 v12 v13 v14,vs=[v0,v1,v2,v3,v4,v5,v6,v7,v8,v9,v10,v11,v12,v13,v14]:=by
     match vs,hlen with
     | [v0,v1,v2,v3,v4,v5,v6,v7,v8,v9,v10,v11,v12,v13,v14],_=>exact ⟨_,_,_,_,_,_,_,_,_,_,_,_,_,_,_,rfl⟩
    obtain rfl:v14 = .int .u8 er:=hall 14 _ 14 v14 (by decide) rfl rfl rfl;obtain ⟨b1,us1,k1,g1,k3,R1,y1⟩:=hkv ⟨10,12,7,12,78,25,Z12⟩ (by simp);obtain ⟨b2,us2,k2,g2,k4,R2,y2⟩:=hkv ⟨11,13,8,13,79,31,Z6m⟩ (by simp)
    obtain rfl:v10 = .pointer (some ⟨b1,0,none⟩):=by simpa using k1
    obtain rfl:v11 = .pointer (some ⟨b2,0,none⟩):=by simpa using k2
    obtain ⟨A7,c7,e7,s7⟩:=(show AD wc d2 w12 v7 from hall 7 _ 78 v7 (by decide) rfl rfl rfl);obtain ⟨A8,c8,e8,f8,s8⟩:=(show AM wc q w12 v8 from hall 8 _ 79 v8 (by decide) rfl rfl rfl)
    obtain rfl:us1=dgC d2 A7 c7:=by
     have h1:v7 = .agg us1.toArray:=by simpa using k3
     rw [e7] at h1
     injection h1 with h1
     exact (List.toArray_inj h1).symm
    obtain rfl:us2=mC q A8 none c8 0 0:=by
     have h1:v8 = .agg us2.toArray:=by simpa using k4
     rw [e8] at h1
     injection h1 with h1
     exact (List.toArray_inj h1).symm
    have VA1:=(show VD d2 v7 b1 from y1 7 _ 78 v7 (by decide) rfl rfl rfl) A7 c7 e7;have VA2:=(show VD d2 v7 b2 from y2 7 _ 78 v7 (by decide) rfl rfl rfl) A7 c7 e7;have VB1:=(show VM q v8 b1 from y1 8 _ 79 v8 (by decide) rfl rfl rfl) A8 c8 e8
    have VB2:=(show VM q v8 b2 from y2 8 _ 79 v8 (by decide) rfl rfl rfl) A8 c8 e8
    have M12:=kd (((zrs MJ.out hBW g1 g2 (zft R1 R2 (by decide)) (show Row w12 b1 25 (dgC d2 A7 c7) from R1) (show Row w12 b2 31 (mC q A8 none c8 0 0) from R2)).add (F:=fun W=>Rds W W.heap.size A7 (strs d2.rs)) (znw s7.r (fun hn b o x e hm=>by
     rw [List.map_cons,List.map_cons,List.mem_cons,List.mem_cons] at hm
     rcases hm with h|h|h
     · exact VA2 hn b o x e h
     · exact VA1 hn b o x e h
     · exact MJ.out.fresh (s7.fresh b o x e).1 h))).add (F:=fun W=>Rds W W.heap.size A8 (hds q.hs)) (znw s8 (fun hn b o x e hm=>by
     rw [List.map_cons,List.map_cons,List.mem_cons,List.mem_cons] at hm
     rcases hm with h|h|h
     · exact VB2 hn b o x e h
     · exact VB1 hn b o x e h
     · exact MJ.out.fresh (f8 b o x e) h)))
    have S7:=kd s7;have F8:=kd f8;clear hall hkv hlen k1 k2 k3 k4 g1 g2 R1 R2 y1 y2 hBW e7 e8 s7 s8 f8 VA1 VA2 VB1 VB2 MJ RQ RL;simp only [putL,Act.put,List.setIfInBounds_toArray,List.set_cons_zero,List.set_cons_succ];have LM:=kd (zdg (ye3 MO.out).2.1 [65,67,75] ACKT rfl)
    go_upto_region 13 with (fail)
    go_cut [92] (fun v92 wx=>v92 = .bool (decide (m=ACKT∧k=false∧s.i false=0))∧wx=w12)
    case first=>as_aux_lemma =>
     have xi:w12.cell? ⟨gs,11,none⟩=some (.int .i64 (s.i false:Nat)):=(M12.out.row (i:=2) rfl).cell 11;clear WK FIN GH HX TSS hbn hbi hi1 HR HD HQ HE S7 F8 M12
     by_cases ha:m=ACKT
     · have lm:((strOfNums m).toList == [65,67,75])=true:=LM.out.trans (by rw [ha];simp)
       clear LM MO;generalize strOfNums m=ms at *
       cases k
       · have kz:(kI false == 0)=true:=rfl
         by_cases hz:s.i false=0
         · have z0:((s.i false:Nat):Int)=0:=by omega
           rw [z0] at xi;have HZ:=kd hz;have HA:=kd ha;clear hz z0 ha;go_wp2_with fail;go_meet;exact ⟨by simp [HA.out,HZ.out],rfl⟩
         · obtain ⟨iz,hiz⟩:∃ z:Int,((s.i false:Nat):Int)=z:=⟨_,rfl⟩
           have z0:(iz == 0)=false:=by rw [beq_eq_false_iff_ne];omega
           rw [hiz] at xi;have HZ:=kd hz;have HA:=kd ha;clear hz ha hiz;go_wp2_with fail;go_meet;exact ⟨by simp [HZ.out],rfl⟩
       · have kz:(kI true == 0)=false:=rfl
         have HA:=kd ha;clear ha;go_wp2_with fail;go_meet;exact ⟨by simp,rfl⟩
     · have lm:((strOfNums m).toList == [65,67,75])=false:=LM.out.trans (by simpa using ha)
       have HA:=kd ha;clear ha LM MO;generalize strOfNums m=ms at *;go_wp2_with fail;go_meet;exact ⟨by simp [HA.out],rfl⟩
    case rest =>
    obtain ⟨rfl,rfl⟩:=hcut;have TQ:=kd (ygd (s:=s) (k:=k) MO.out (by have:=hbn k;omega) (by have:=hbi k;omega) (fun _=>none) (fun _=>0))
    by_cases hE:m=ACKT∧k=false∧s.i false=0
    · have vd:decide (m=ACKT∧k=false∧s.i false=0)=true:=by simp [hE]
      obtain rfl:er=9:=by rw [← HE.out,← HR.out,TQ.out,if_pos ⟨hE.1,by rw [hE.2.1];exact hE.2.2⟩];rfl
      rw [vd];have MZ:=kd ((M12.out.tail.tail).less (FS':=tsF s) (fun F hF=>List.mem_cons_of_mem _ (List.mem_cons_of_mem _ hF)));clear vd hE TQ LM HR HD HQ HE S7 F8 M12;go_wp2_with fail;go_roundw
      case rel=>exact ⟨j+1,s,by omega,by omega,(fun b=>by have:=hbn b;omega),(fun b=>by have:=hbi b;omega),hi1,by go_num,TSS,MZ⟩
      case measure=>simp [intOf];omega
    have vd:decide (m=ACKT∧k=false∧s.i false=0)=false:=by simpa using hE
    have hN:¬ (m=ACKT∧s.i k=0):=fun h=>by
     cases k
     · exact hE ⟨h.1,rfl,h.2⟩
     · exact hi1 h.2
    have TQ:=kd (TQ.out.trans (if_neg hN))
    obtain rfl:er=0:=by rw [← HE.out,← HR.out,TQ.out];rfl
    obtain rfl:d2=tsD (tsN s k m (fun _=>none) (fun _=>0)) k:=by rw [← HD.out,← HR.out,TQ.out];rfl
    obtain rfl:q=tsM s k m:=by rw [← HQ.out,← HR.out,TQ.out];rfl
    rw [vd];clear vd hE hN TQ HR HD HQ HE;go_upto_region 16 with (fail)
    have N1:s.n k≤1000:=by have:=hbn k;omega
    have N2:s.i k≤1000:=by have:=hbi k;omega
    have QO:=kd (tsM_ok (s:=s) (k:=k) MO.out N1 N2);have SQ:=kd (ygc (s:=s) (k:=k) MO.out N1 N2);have RC:=kd (yge (s:=s) (k:=k) MO.out N1 N2 (fun _=>none) (fun _=>0));have RG:=kd (yft (s:=s) (k:=k) MO.out N1 N2 (fun _=>none) (fun _=>0));have BL:=kd (ygf s k m)
    clear N1 N2;have QK:=kd (show MArg wc (tsM s k m) A8 from ⟨M12.out.fact (i:=0) rfl,QO.out.1,QO.out.2.1,QO.out.2.2.1,QO.out.2.2.2.1,QO.out.2.2.2.2⟩);have RM:=kd (show Row wc b2 31 (mC (tsM s k m) A8 none c8 0 0) from M12.out.row (i:=0) rfl)
    go_wp2_with (refine zab rfl 31 (.tmp 13) rfl RM.out rfl Tryz.underlying31 rfl zaw ?_);refine (zn0 (tsM s k m) A8 none c8 0 0 wc QK.out (GH.out _ M12.out.bw)).mono ?_;rintro _ w17 ⟨rfl,hb⟩;rw [SQ.out];dsimp only;have M17:=kd (M12.out.call hb);have QK:=kd (QK.out.step hb);clear hb RM M12 SQ
    go_upto_region 17 with (fail);obtain ⟨d3,hd3⟩:∃ x,tsD (tsN s k m (fun _=>none) (fun _=>0)) (!k)=x:=⟨_,rfl⟩;have D3:=kd hd3;rw [hd3] at RC RG;clear hd3
    refine zjz (by kernel_rfl) (by kernel_rfl) (fun (i:Nat) (W:World) (v:Value)=>match i with
     | 0=>v = .int .i64 (kI k)
     | 1=>v = .int .i64 (kI (!k))
     | 2=>v = .pointer (some ⟨gs,ofB (!k),none⟩)
     | 3=>v = .agg (tsC1 s (!k)).toArray
     | 4=>v = .agg (mC (tsM s k m) A8 none c8 0 0).toArray
     | 5=>AC w17 d3 W v
     | 6=>AC w17 d3 W v
     | 7=>AD w17 d3 W v
     | 8=>v = .int .u8 0
     | 11=>v = .int .u8 0
     | _=>True) (fun (i:Nat) (v:Value) (b:Nat)=>match i with
     | 5=>VC d3 v b
     | 6=>VC d3 v b
     | 7=>VD d3 v b
     | _=>True) [⟨9,10,7,17,107,25,Z12⟩] (by kernel_rfl) ?hK ?hkk ?hpo ?hAb ?hAs ?hAn ?hval ?hstep ?hend
    case hK =>
     intro κ hκ;obtain rfl:=List.mem_singleton.1 hκ;exact ⟨⟨_,rfl,rfl,rfl,rfl⟩,⟨_,rfl,rfl⟩,⟨_,rfl,rfl,rfl,rfl,by kernel_rfl,by kernel_rfl⟩,by kernel_rfl,by kernel_rfl⟩
    case hkk =>
     intro x hx y hy h;rw [List.mem_singleton.1 hx,List.mem_singleton.1 hy]
    case hpo =>
     intro κ hκ;obtain rfl:=List.mem_singleton.1 hκ
     rfl
    case hAb =>
     intro i v W W' hb h
     rcases i with _|_|_|_|_|_|_|_|_|_|_|_|i
     all_goals first
      | exact h
      | exact AT.below h hb
      | exact AD.below h hb
      | exact AM.below h hb
      | exact AC.below h hb
    case hAs =>
     intro i v W W' b h hv hs hh
     rcases i with _|_|_|_|_|_|_|_|_|_|_|_|i
     all_goals first
      | exact h
      | exact AT.off h hv hs hh
      | exact AD.off h hv hs hh
      | exact AM.off h hv hs hh
      | exact AC.off h hv hs hh
    case hAn =>
     intro i v W h
     rcases i with _|_|_|_|_|_|_|_|_|_|_|_|i
     all_goals first
      | exact trivial
      | exact AT.new h
      | exact AD.new h
      | exact AM.new h
      | exact AC.new h
    case hval =>
     intro κ hκ W v h;obtain rfl:=List.mem_singleton.1 hκ;obtain ⟨A0,c0,rfl,_⟩:=(show AD w17 d3 W v from h);exact ⟨_,rfl,rfl,zat⟩
    case hstep=>as_aux_lemma =>
     intro i o hp ho a' W hB hF hD _
     match i,ho,hp with
     | 0,ho,hp =>
       obtain rfl:=zSi ho;exact (zaf ho rfl (zb5 (.tmp 10) (.inl rfl) ⟨_,rfl,Below.refl _ _,fun _ _=>⟨(show a'.eval (.tmp 10) = .int .i64 (kI k) from ((zap hF (by kernel_rfl)).trans rfl)),fun _ _ _=>trivial⟩⟩))
     | 1,ho,hp =>
       obtain rfl:=zSi ho
       exact (zaf ho rfl (zjn .sub 3 (.const (.int .i64 1)) (.tmp 101) 3 rfl (.int .i64 1) (.int .i64 (kI k)) (.int .i64 (kI (!k))) rfl ((zai hD 0 (by kernel_rfl) rfl rfl) rfl) (fun w=>yfg _ _ _ _ w) (fun w=>yfe 1 (kI k) _ (yf4 k) w) ⟨_,rfl,Below.refl _ _,fun _ _=>⟨rfl,fun _ _ _=>trivial⟩⟩))
     | 2,ho,hp =>
       obtain rfl:=zSi ho
       exact (zaf ho rfl (ye7 45 (.tmp 7) (.tmp 102) rfl (p := .pointer (some ⟨gs,0,none⟩)) (z := .int .i64 (kI (!k))) ((zap hF (by kernel_rfl)).trans rfl) ((zai hD 1 (by kernel_rfl) rfl rfl) rfl) (ye2 (!k) gs W) ⟨_,rfl,Below.refl _ _,fun _ _=>⟨rfl,fun _ _ _=>trivial⟩⟩))
     | 3,ho,hp =>
       obtain rfl:=zSi ho
       exact (zaf ho rfl (zf4 25 (.tmp 103) rfl gs (ofB (!k)) (tsC1 s (!k)) _ ((zai hD 2 (by kernel_rfl) rfl rfl) rfl) (yf8 (s:=s) ((M17.out.call hB).row (i:=2) rfl) (!k)) Tryz.underlying25 rfl (zae _ _ _ _ _ _ _ _ _ _ _ _) ⟨_,rfl,Below.refl _ _,fun _ _=>⟨rfl,fun _ _ _=>trivial⟩⟩))
     | 4,ho,hp =>
       obtain rfl:=zSi ho;exact (zaf ho rfl (zf4 31 (.tmp 13) rfl b2 0 (mC (tsM s k m) A8 none c8 0 0) _ ((zap hF (by kernel_rfl)).trans rfl) (((M17.out.call hB).row (i:=0) rfl).range) Tryz.underlying31 rfl zaw ⟨_,rfl,Below.refl _ _,fun _ _=>⟨rfl,fun _ _ _=>trivial⟩⟩))
     | 5,ho,hp =>
       obtain rfl:=zSi ho;have hx0:a'.eval (.tmp 104) = .agg (tsC1 s (!k)).toArray:=((zai hD 3 (by kernel_rfl) rfl rfl) rfl);have hx1:a'.eval (.tmp 105) = .agg (mC (tsM s k m) A8 none c8 0 0).toArray:=((zai hD 4 (by kernel_rfl) rfl rfl) rfl);have hm:=M17.out.call hB
       exact (zaf ho rfl (zc3 22 _ _ rfl #[.agg (tsC1 s (!k)).toArray,.agg (mC (tsM s k m) A8 none c8 0 0).toArray] (by simp only [List.map_toArray,List.map_cons,List.map_nil,hx0,hx1]) (enters_of Tryz.func22 (by kernel_rfl) rfl) ((zj1 (tsD s (!k)) (s.A (!k)) (s.c (!k)) (tsM s k m) A8 none c8 0 0 W (yfh hm (fun F h=>List.mem_cons_of_mem _ (List.mem_cons_of_mem _ h)) TSS.out (!k)) (QK.out.step hB) (GH.out _ hm.bw)).mono fun e W2 h=>by
        obtain ⟨v,he,hb,ha,hv⟩:=CrP.at RC.out h hB
        exact ⟨v,he,v,rfl,hb,fun _ _=>⟨ha,fun b hlt _=>hv b hlt⟩⟩)))
     | 6,ho,hp =>
       obtain rfl:=zSi ho;exact (zaf ho rfl (zb5 (.tmp 106) (.inl rfl) ⟨_,rfl,Below.refl _ _,fun _ _=>⟨((zai hD 5 (by kernel_rfl) rfl rfl) rfl),fun b _ hd=>((zai hd 5 (by kernel_rfl) rfl rfl) rfl)⟩⟩))
     | 7,ho,hp =>
       obtain rfl:=zSi ho;obtain ⟨A0,c0,e0,s0'⟩:=(show AC w17 d3 W (a'.eval (.tmp 100)) from ((zai hD 6 (by kernel_rfl) rfl rfl) rfl))
       exact (zaf ho rfl (zle (.tmp 100) 0 rfl e0 _ rfl ⟨_,rfl,Below.refl _ _,fun _ _=>⟨⟨A0,c0,rfl,s0'⟩,fun b _ hd B e' he=>by
        have hvt:VC d3 (a'.eval (.tmp 100)) b:=((zai hd 6 (by kernel_rfl) rfl rfl) rfl);rw [← zkv he]
        exact hvt A0 c0 e0⟩⟩))
     | 8,ho,hp =>
       obtain rfl:=zSi ho;obtain ⟨A0,c0,e0,s0'⟩:=(show AC w17 d3 W (a'.eval (.tmp 100)) from ((zai hD 6 (by kernel_rfl) rfl rfl) rfl));exact (zaf ho rfl (zle (.tmp 100) 1 rfl e0 _ rfl ⟨_,rfl,Below.refl _ _,fun _ _=>⟨rfl,fun _ _ _=>trivial⟩⟩))
     | 9,ho,hp =>
       obtain rfl:=zSi ho;exact absurd hp (by decide)
     | 10,ho,hp =>
       obtain rfl:=zSi ho;exact absurd hp (by decide)
     | 11,ho,hp =>
       obtain rfl:=zSi ho;exact (zaf ho rfl (zb5 (.tmp 108) (.inr rfl) ⟨_,rfl,Below.refl _ _,fun _ _=>⟨(show a'.eval (.tmp 108) = .int .u8 0 from ((zai hD 8 (by kernel_rfl) rfl rfl) rfl)),fun _ _ _=>trivial⟩⟩))
     | i+12,ho,hp=>exact absurd ho (by simp)
    case hend=>as_aux_lemma =>
    intro vs w18 hBW hlen hall hkv
    obtain ⟨v0,v1,v2,v3,v4,v5,v6,v7,v8,v9,v10,v11,rfl⟩:∃ v0 v1 v2 v3 v4 v5 v6 v7 v8 v9 v10 v11,vs=[v0,v1,v2,v3,v4,v5,v6,v7,v8,v9,v10,v11]:=by
     match vs,hlen with
     | [v0,v1,v2,v3,v4,v5,v6,v7,v8,v9,v10,v11],_=>exact ⟨_,_,_,_,_,_,_,_,_,_,_,_,rfl⟩
    obtain rfl:v11 = .int .u8 0:=hall 11 _ 18 v11 (by decide) rfl rfl rfl;obtain ⟨b3,us1,k1,g1,k3,R1,y1⟩:=hkv ⟨9,10,7,17,107,25,Z12⟩ (by simp)
    obtain rfl:v9 = .pointer (some ⟨b3,0,none⟩):=by simpa using k1
    obtain ⟨A9,c9,e7,s9⟩:=(show AD w17 d3 w18 v7 from hall 7 _ 107 v7 (by decide) rfl rfl rfl)
    obtain rfl:us1=dgC d3 A9 c9:=by
     have h1:v7 = .agg us1.toArray:=by simpa using k3
     rw [e7] at h1
     injection h1 with h1
     exact (List.toArray_inj h1).symm
    have VA1:=(show VD d3 v7 b3 from y1 7 _ 107 v7 (by decide) rfl rfl rfl) A9 c9 e7
    have M18:=kd ((M17.out.join hBW g1 (show Row w18 b3 25 (dgC d3 A9 c9) from R1)).add (F:=fun W=>Rds W W.heap.size A9 (strs d3.rs)) (znw s9.r (fun hn b o x e hm=>by
     rw [List.map_cons,List.mem_cons] at hm
     rcases hm with h|h
     · exact VA1 hn b o x e h
     · exact M17.out.fresh (s9.fresh b o x e).1 h)))
    have S9:=kd s9;have QK:=kd (QK.out.step hBW);clear hall hkv hlen k1 k3 g1 R1 y1 hBW e7 s9 VA1 M17 RC;simp only [putL,Act.put,List.setIfInBounds_toArray,List.set_cons_zero,List.set_cons_succ];go_upto_region 18 with (fail)
    refine yff (by kernel_rfl) (by kernel_rfl) (fun (i:Nat) (W:World) (v:Value)=>match i with
     | 0=>v=(.int .u8 0)
     | 1=>v=(.bool false)
     | 2=>v=(.bool false)
     | 3=>v=(.int .u8 0)
     | 4=>v=(.bool false)
     | 5=>v=(.bool false)
     | 6=>v=(.bool false)
     | 7=>v=(.string (strOfNums m))
     | 8=>v=(.string (strOfNums m))
     | 9=>v=(.bool false)
     | 10=>v=(.bool false)
     | 11=>v=(.bool false)
     | 12=>v=(.int .i64 (kI k))
     | 13=>v=(.int .i64 (kI (!k)))
     | 14=>v=(.pointer (some ⟨gs,ofB (!k),none⟩))
     | 15=>v=(.agg (tsC1 s (!k)).toArray)
     | 16=>v=(.agg (mC (tsM s k m) A8 none c8 0 0).toArray)
     | 17=>v=(.bool true)
     | 18=>v=(.bool false)
     | 19=>v=(.bool false)
     | 20=>v=(.bool false)
     | 21=>v=(.int .i64 (kI k))
     | 22=>v=(.pointer (some ⟨gs,ofB k,none⟩))
     | 23=>v=(.agg (tsC1 s k).toArray)
     | 24=>v=(.agg (mC (tsM s k m) A8 none c8 0 0).toArray)
     | 25=>v=(.bool false)
     | 26=>v=(.bool false)
     | _=>True) (by kernel_rfl) ?hAm ?hstep ?hend
    case hAm =>
     intro i v W W' hb h
     rcases i with _|_|_|_|_|_|_|_|_|_|_|_|_|_|_|_|_|_|_|_|_|_|_|_|_|_|_|i
     all_goals exact h
    case hstep=>as_aux_lemma =>
     intro i o ho a' W hB hF hD
     match i,ho with
     | 0,ho =>
       obtain rfl:=zSi ho;exact (zaf ho rfl (zb5 (.tmp 14) (.inl rfl) ⟨_,rfl,Below.refl _ _,fun _ _=>(show a'.eval (.tmp 14) = .int .u8 0 from ((zap hF (by kernel_rfl)).trans rfl))⟩))
     | 1,ho =>
       obtain rfl:=zSi ho;have hx:a'.eval (.tmp 109) = .int .u8 0:=(zai hD 0 (by kernel_rfl) rfl rfl);have hy:a'.eval (.const (.int .u8 0)) = .int .u8 0:=rfl
       exact (zaf ho rfl (zjn _ _ _ _ _ rfl _ _ (.bool false) hx hy (fun w=>yfq _ _ _ _ _ _ _ _) (fun w=>yfn _ _ _ _ _) ⟨_,rfl,Below.refl _ _,fun _ _=>rfl⟩))
     | 2,ho =>
       obtain rfl:=zSi ho;exact (zaf ho rfl (zb5 (.tmp 110) (.inl rfl) ⟨_,rfl,Below.refl _ _,fun _ _=>(show a'.eval (.tmp 110) = .bool false from (zai hD 1 (by kernel_rfl) rfl rfl))⟩))
     | 3,ho =>
       obtain rfl:=zSi ho;exact (ye0 (b:=false) ho rfl (og:=_) rfl rfl (zai hD 2 (by kernel_rfl) rfl rfl) (zb5 (.tmp 18) (.inl rfl) ⟨_,rfl,Below.refl _ _,fun _ _=>(show a'.eval (.tmp 18) = .int .u8 0 from ((zap hF (by kernel_rfl)).trans rfl))⟩))
     | 4,ho =>
       obtain rfl:=zSi ho;have hx:a'.eval (.tmp 112) = .int .u8 0:=(zai hD 3 (by kernel_rfl) rfl rfl);have hy:a'.eval (.const (.int .u8 0)) = .int .u8 0:=rfl
       exact (ye0 (b:=false) ho rfl (og:=_) rfl rfl (zai hD 2 (by kernel_rfl) rfl rfl) (zjn _ _ _ _ _ rfl _ _ (.bool false) hx hy (fun w=>yfq _ _ _ _ _ _ _ _) (fun w=>yfn _ _ _ _ _) ⟨_,rfl,Below.refl _ _,fun _ _=>rfl⟩))
     | 5,ho =>
       obtain rfl:=zSi ho;exact (zaf ho rfl (ye5 (.tmp 111) _ (.tmp 113) rfl (zai hD 2 (by kernel_rfl) rfl rfl) ⟨_,rfl,Below.refl _ _,fun _ _=>(show a'.eval (.tmp 113) = .bool false from (zai hD 4 (by kernel_rfl) rfl rfl))⟩))
     | 6,ho =>
       obtain rfl:=zSi ho;exact (zaf ho rfl (zb5 (.tmp 114) (.inl rfl) ⟨_,rfl,Below.refl _ _,fun _ _=>(show a'.eval (.tmp 114) = .bool false from (zai hD 5 (by kernel_rfl) rfl rfl))⟩))
     | 7,ho =>
       obtain rfl:=zSi ho;exact (ye0 (b:=false) ho rfl (og:=_) rfl rfl (zai hD 6 (by kernel_rfl) rfl rfl) (zb5 (.tmp 16) (.inl rfl) ⟨_,rfl,Below.refl _ _,fun _ _=>(show a'.eval (.tmp 16) = .string (strOfNums m) from ((zap hF (by kernel_rfl)).trans rfl))⟩))
     | 8,ho =>
       obtain rfl:=zSi ho;exact (ye0 (b:=false) ho rfl (og:=_) rfl rfl (zai hD 6 (by kernel_rfl) rfl rfl) (zb5 (.tmp 11) (.inl rfl) ⟨_,rfl,Below.refl _ _,fun _ _=>(show a'.eval (.tmp 11) = .string (strOfNums m) from ((zap hF (by kernel_rfl)).trans rfl))⟩))
     | 9,ho =>
       obtain rfl:=zSi ho;have hx:a'.eval (.tmp 116) = .string (strOfNums m):=(zai hD 7 (by kernel_rfl) rfl rfl);have hy:a'.eval (.tmp 117) = .string (strOfNums m):=(zai hD 8 (by kernel_rfl) rfl rfl)
       exact (ye0 (b:=false) ho rfl (og:=_) rfl rfl (zai hD 6 (by kernel_rfl) rfl rfl) (zjn _ _ _ _ _ rfl _ _ (.bool false) hx hy (fun w=>ygi _ _ _ _ _ _ _) (fun w=>ygg _ _ _ _) ⟨_,rfl,Below.refl _ _,fun _ _=>rfl⟩))
     | 10,ho =>
       obtain rfl:=zSi ho;exact (zaf ho rfl (ye5 (.tmp 115) _ (.tmp 118) rfl (zai hD 6 (by kernel_rfl) rfl rfl) ⟨_,rfl,Below.refl _ _,fun _ _=>(show a'.eval (.tmp 118) = .bool false from (zai hD 9 (by kernel_rfl) rfl rfl))⟩))
     | 11,ho =>
       obtain rfl:=zSi ho;exact (zaf ho rfl (zb5 (.tmp 119) (.inl rfl) ⟨_,rfl,Below.refl _ _,fun _ _=>(show a'.eval (.tmp 119) = .bool false from (zai hD 10 (by kernel_rfl) rfl rfl))⟩))
     | 12,ho =>
       obtain rfl:=zSi ho;exact (ye0 (b:=false) ho rfl (og:=_) rfl rfl (zai hD 11 (by kernel_rfl) rfl rfl) (zb5 (.tmp 10) (.inl rfl) ⟨_,rfl,Below.refl _ _,fun _ _=>(show a'.eval (.tmp 10) = .int .i64 (kI k) from ((zap hF (by kernel_rfl)).trans rfl))⟩))
     | 13,ho =>
       obtain rfl:=zSi ho;have hx:a'.eval (.const (.int .i64 1)) = .int .i64 1:=rfl;have hy:a'.eval (.tmp 121) = .int .i64 (kI k):=(zai hD 12 (by kernel_rfl) rfl rfl)
       exact (ye0 (b:=false) ho rfl (og:=_) rfl rfl (zai hD 11 (by kernel_rfl) rfl rfl) (zjn _ _ _ _ _ rfl _ _ (.int .i64 (kI (!k))) hx hy (fun w=>yfg _ _ _ _ w) (fun w=>yfe 1 (kI k) _ (yf4 k) w) ⟨_,rfl,Below.refl _ _,fun _ _=>rfl⟩))
     | 14,ho =>
       obtain rfl:=zSi ho
       exact (ye0 (b:=false) ho rfl (og:=_) rfl rfl (zai hD 11 (by kernel_rfl) rfl rfl) (ye7 45 (.tmp 7) (.tmp 122) rfl (p := .pointer (some ⟨gs,0,none⟩)) (z := .int .i64 (kI (!k))) ((zap hF (by kernel_rfl)).trans rfl) (zai hD 13 (by kernel_rfl) rfl rfl) (ye2 (!k) gs W) ⟨_,rfl,Below.refl _ _,fun _ _=>rfl⟩))
     | 15,ho =>
       obtain rfl:=zSi ho
       exact (ye0 (b:=false) ho rfl (og:=_) rfl rfl (zai hD 11 (by kernel_rfl) rfl rfl) (zf4 25 (.tmp 123) rfl gs (ofB (!k)) (tsC1 s (!k)) _ (zai hD 14 (by kernel_rfl) rfl rfl) (yf8 (s:=s) ((M18.out.call hB).row (i:=3) rfl) (!k)) Tryz.underlying25 rfl (zae _ _ _ _ _ _ _ _ _ _ _ _) ⟨_,rfl,Below.refl _ _,fun _ _=>rfl⟩))
     | 16,ho =>
       obtain rfl:=zSi ho
       exact (ye0 (b:=false) ho rfl (og:=_) rfl rfl (zai hD 11 (by kernel_rfl) rfl rfl) (zf4 31 (.tmp 13) rfl b2 0 (mC (tsM s k m) A8 none c8 0 0) _ ((zap hF (by kernel_rfl)).trans rfl) (((M18.out.call hB).row (i:=1) rfl).range) Tryz.underlying31 rfl zaw ⟨_,rfl,Below.refl _ _,fun _ _=>rfl⟩))
     | 17,ho =>
       obtain rfl:=zSi ho;have hx0:a'.eval (.tmp 124) = .agg (tsC1 s (!k)).toArray:=(zai hD 15 (by kernel_rfl) rfl rfl);have hx1:a'.eval (.tmp 125) = .agg (mC (tsM s k m) A8 none c8 0 0).toArray:=(zai hD 16 (by kernel_rfl) rfl rfl);have hm:=M18.out.call hB
       exact (ye0 (b:=false) ho rfl (og:=_) rfl rfl (zai hD 11 (by kernel_rfl) rfl rfl) (zc3 23 _ _ rfl #[.agg (tsC1 s (!k)).toArray,.agg (mC (tsM s k m) A8 none c8 0 0).toArray] (by simp only [List.map_toArray,List.map_cons,List.map_nil,hx0,hx1]) (enters_of Tryz.func23 (by kernel_rfl) rfl) ((zk2 (tsD s (!k)) (s.A (!k)) (s.c (!k)) (tsM s k m) A8 none c8 0 0 W (yfh hm (fun F h=>List.mem_cons_of_mem _ (List.mem_cons_of_mem _ (List.mem_cons_of_mem _ h))) TSS.out (!k)) (QK.out.step hB) (GH.out _ hm.bw)).mono fun e W2 ⟨he,hb⟩=>⟨_,he,_,rfl,hb,fun _ _=>(show Value.bool (za4 (tsD s (!k)) (tsM s k m)) = .bool true by rw [BL.out.1])⟩)))
     | 18,ho =>
       obtain rfl:=zSi ho;exact (ye0 (b:=false) ho rfl (og:=_) rfl rfl (zai hD 11 (by kernel_rfl) rfl rfl) (ygn _ (.tmp 126) rfl true (zai hD 17 (by kernel_rfl) rfl rfl) ⟨_,rfl,Below.refl _ _,fun _ _=>rfl⟩))
     | 19,ho =>
       obtain rfl:=zSi ho;exact (zaf ho rfl (ye5 (.tmp 120) _ (.tmp 127) rfl (zai hD 11 (by kernel_rfl) rfl rfl) ⟨_,rfl,Below.refl _ _,fun _ _=>(show a'.eval (.tmp 127) = .bool false from (zai hD 18 (by kernel_rfl) rfl rfl))⟩))
     | 20,ho =>
       obtain rfl:=zSi ho;exact (zaf ho rfl (zb5 (.tmp 128) (.inl rfl) ⟨_,rfl,Below.refl _ _,fun _ _=>(show a'.eval (.tmp 128) = .bool false from (zai hD 19 (by kernel_rfl) rfl rfl))⟩))
     | 21,ho =>
       obtain rfl:=zSi ho;exact (ye0 (b:=false) ho rfl (og:=_) rfl rfl (zai hD 20 (by kernel_rfl) rfl rfl) (zb5 (.tmp 10) (.inl rfl) ⟨_,rfl,Below.refl _ _,fun _ _=>(show a'.eval (.tmp 10) = .int .i64 (kI k) from ((zap hF (by kernel_rfl)).trans rfl))⟩))
     | 22,ho =>
       obtain rfl:=zSi ho
       exact (ye0 (b:=false) ho rfl (og:=_) rfl rfl (zai hD 20 (by kernel_rfl) rfl rfl) (ye7 45 (.tmp 7) (.tmp 130) rfl (p := .pointer (some ⟨gs,0,none⟩)) (z := .int .i64 (kI k)) ((zap hF (by kernel_rfl)).trans rfl) (zai hD 21 (by kernel_rfl) rfl rfl) (ye2 k gs W) ⟨_,rfl,Below.refl _ _,fun _ _=>rfl⟩))
     | 23,ho =>
       obtain rfl:=zSi ho
       exact (ye0 (b:=false) ho rfl (og:=_) rfl rfl (zai hD 20 (by kernel_rfl) rfl rfl) (zf4 25 (.tmp 131) rfl gs (ofB k) (tsC1 s k) _ (zai hD 22 (by kernel_rfl) rfl rfl) (yf8 (s:=s) ((M18.out.call hB).row (i:=3) rfl) k) Tryz.underlying25 rfl (zae _ _ _ _ _ _ _ _ _ _ _ _) ⟨_,rfl,Below.refl _ _,fun _ _=>rfl⟩))
     | 24,ho =>
       obtain rfl:=zSi ho
       exact (ye0 (b:=false) ho rfl (og:=_) rfl rfl (zai hD 20 (by kernel_rfl) rfl rfl) (zf4 31 (.tmp 13) rfl b2 0 (mC (tsM s k m) A8 none c8 0 0) _ ((zap hF (by kernel_rfl)).trans rfl) (((M18.out.call hB).row (i:=1) rfl).range) Tryz.underlying31 rfl zaw ⟨_,rfl,Below.refl _ _,fun _ _=>rfl⟩))
     | 25,ho =>
       obtain rfl:=zSi ho;have hx0:a'.eval (.tmp 132) = .agg (tsC1 s k).toArray:=(zai hD 23 (by kernel_rfl) rfl rfl);have hx1:a'.eval (.tmp 133) = .agg (mC (tsM s k m) A8 none c8 0 0).toArray:=(zai hD 24 (by kernel_rfl) rfl rfl);have hm:=M18.out.call hB
       exact (ye0 (b:=false) ho rfl (og:=_) rfl rfl (zai hD 20 (by kernel_rfl) rfl rfl) (zc3 23 _ _ rfl #[.agg (tsC1 s k).toArray,.agg (mC (tsM s k m) A8 none c8 0 0).toArray] (by simp only [List.map_toArray,List.map_cons,List.map_nil,hx0,hx1]) (enters_of Tryz.func23 (by kernel_rfl) rfl) ((zk2 (tsD s k) (s.A k) (s.c k) (tsM s k m) A8 none c8 0 0 W (yfh hm (fun F h=>List.mem_cons_of_mem _ (List.mem_cons_of_mem _ (List.mem_cons_of_mem _ h))) TSS.out k) (QK.out.step hB) (GH.out _ hm.bw)).mono fun e W2 ⟨he,hb⟩=>⟨_,he,_,rfl,hb,fun _ _=>(show Value.bool (za4 (tsD s k) (tsM s k m)) = .bool false by rw [BL.out.2])⟩)))
     | 26,ho =>
       obtain rfl:=zSi ho;exact (zaf ho rfl (ye5 (.tmp 129) _ (.tmp 134) rfl (zai hD 20 (by kernel_rfl) rfl rfl) ⟨_,rfl,Below.refl _ _,fun _ _=>(show a'.eval (.tmp 134) = .bool false from (zai hD 25 (by kernel_rfl) rfl rfl))⟩))
     | j+27,ho=>exact absurd ho (by simp)
    case hend=>as_aux_lemma =>
    intro vs w19 hB19 hlen hall
    obtain ⟨v0,v1,v2,v3,v4,v5,v6,v7,v8,v9,v10,v11,v12,v13,v14,v15,v16,v17,v18,v19,v20,v21,v22,v23,v24,v25,v26,rfl⟩:∃ v0 v1 v2 v3 v4 v5 v6 v7 v8 v9 v10 v11 v12 v13 v14 v15 v16 v17 v18 v19 v20 v21 v22 v23 v24 v25 v26,vs=[v0,v1,v2,v3,v4,v5,v6,v7,v8,v9,v10,v11,v12,v13,v14,v15,v16,v17,v18,v19,v20,v21,v22,v23,v24,v25,v26]:=by
     match vs,hlen with
     | [v0,v1,v2,v3,v4,v5,v6,v7,v8,v9,v10,v11,v12,v13,v14,v15,v16,v17,v18,v19,v20,v21,v22,v23,v24,v25,v26],_=>exact ⟨_,_,_,_,_,_,_,_,_,_,_,_,_,_,_,_,_,_,_,_,_,_,_,_,_,_,_,rfl⟩
    obtain rfl:v26 = .bool false:=hall 26 _ 135 v26 rfl rfl rfl;have M19:=kd (M18.out.call hB19);have QK:=kd (QK.out.step hB19);clear hall hlen hB19 M18 BL;simp only [putL,Act.put,List.setIfInBounds_toArray,List.set_cons_zero,List.set_cons_succ];go_upto_region 20 with (fail)
    have R3:=kd (M19.out.row (i:=0) rfl);have RM:=kd (M19.out.row (i:=1) rfl)
    go_wp2_with (first
     | (refine zab rfl 25 (.tmp 17) rfl R3.out rfl Tryz.underlying25 rfl (zae _ _ _ _ _ _ _ _ _ _ _ _) ?_)
     | (refine zab rfl 31 (.tmp 13) rfl RM.out rfl Tryz.underlying31 rfl zaw ?_))
    refine (zj1 d3 A9 c9 (tsM s k m) A8 none c8 0 0 w19 ⟨S9.out.nil,S9.out.cap,M19.out.fact (i:=0) rfl,by rw [← D3.out];exact ygl _ _⟩ QK.out (GH.out _ M19.out.bw)).mono ?_;intro e w20 hx;rw [RG.out] at hx
    obtain ⟨us,er2,hul,huo,her,rfl,hb⟩:∃ (us:List Value) (er2:Int),us.length=12∧(∀ u∈us,u.oneCell'=true)∧er2=(if m=ACKT then 0 else 9)∧e = .returned (.tuple #[.agg us.toArray,.int .u8 er2])∧Below w19.heap.size w19 w20:=by
     by_cases ha:m=ACKT
     · rw [if_pos ha] at hx
       obtain ⟨A,c,he,hb,_⟩:=hx;exact ⟨dgC d3 A c,0,rfl,zat,(if_pos ha).symm,he,hb⟩
     · rw [if_neg ha] at hx
       obtain ⟨he,hb,_⟩:=hx;exact ⟨Z12,9,rfl,zat,(if_neg ha).symm,he,hb⟩
    have UL:=kd hul;have UO:=kd huo;have E2:=kd her;have M20:=kd (M19.out.call hb);clear hul huo her hb hx R3 RM M19 RG QK
    go_upto_region 21 with (refine zak rfl 25 (.tmp 19) (.tmp 140) rfl Z12 us rfl rfl (show 12=us.length from UL.out.symm) (by rw [UL.out];kernel_rfl) UO.out ?_;intro w21 R21 S21);have M21:=kd ((M20.out.join S21.out zNr R21.out).tail);generalize w20.heap.size=g19 at *;clear R21 S21 M20 UL UO
    have M22:=kd (show Mine w w21 [(gs,45,mixB k (tsC1 s k) (tsC1 s (!k))),(gn,46,[.int .i64 (s.n false),.int .i64 (s.n true)]),(b3,25,dgC d3 A9 c9),(b1,25,dgC (tsD (tsN s k m (fun _=>none) (fun _=>0)) k) A7 c7)] [fun W=>Rds W W.heap.size A9 (strs d3.rs),fun W=>Rds W W.heap.size A7 (strs (tsD (tsN s k m (fun _=>none) (fun _=>0)) k).rs)] from by
     rw [← ygt];refine (M21.out.sub (fun r hr => ?_) ?_).less fun F hF => ?_
     · simp only [tsL,List.mem_cons,List.not_mem_nil,or_false] at hr ⊢
       rcases hr with rfl|rfl|rfl|rfl<;>simp
     · have:=M21.out.nd
       simp [tsL] at this ⊢;omega
     · simp only [List.mem_cons,List.not_mem_nil,or_false] at hF ⊢
       rcases hF with rfl|rfl
       · exact .inl rfl
       · exact .inr (.inr (.inl rfl)))
    clear M21;go_upto_if 143 with (fail);obtain ⟨zk,hzk⟩:∃ z,kI k=z:=⟨_,rfl⟩;obtain ⟨zn,hzn⟩:∃ z:Int,((ye1 s k m:Nat):Int)=z:=⟨_,rfl⟩;obtain ⟨bm,hbm⟩:∃ b,((strOfNums m).toList == [65,67,75])=b:=⟨_,rfl⟩;simp only [hzk,hzn,hbm]
    have ZK:=kd hzk;have ZN:=kd hzn;have BM:=kd hbm;clear hzk hzn hbm
    go_cut [] (fun wx=>Hid (Mine w wx [(gs,45,mixB k (tsC1 s k) (tsC1 s (!k))),(gn,46,[.int .i64 ((tsN s k m (fun _=>none) (fun _=>0)).n false),.int .i64 ((tsN s k m (fun _=>none) (fun _=>0)).n true)]),(b3,25,dgC d3 A9 c9),(b1,25,dgC (tsD (tsN s k m (fun _=>none) (fun _=>0)) k) A7 c7)] [fun W=>Rds W W.heap.size A9 (strs d3.rs),fun W=>Rds W W.heap.size A7 (strs (tsD (tsN s k m (fun _=>none) (fun _=>0)) k).rs)]))
    case first=>as_aux_lemma =>
     have DR:=kd (show w21.cell? ⟨b3,10,none⟩=some (.int .i64 ((tsN s k m (fun _=>none) (fun _=>0)).n k:Nat)) from dl_rs (s:=(tsN s k m (fun _=>none) (fun _=>0))) (k:=k) (by rw [D3.out];exact M22.out.row (i:=2) rfl))
     have DL:=kd (show w21.cell? ⟨b1,9,none⟩=some (.int .i64 ((tsN s k m (fun _=>none) (fun _=>0)).n k:Nat)) from ygu (M22.out.row (i:=3) rfl));have HN1:=kd (show s.n k≤1000 by have:=hbn k;omega);clear WK FIN GH HX TSS hbn hbi hi1 S7 S9 F8 QO
     by_cases ha:m=ACKT
     · obtain rfl:bm=true:=BM.out.symm.trans (LM.out.trans (by rw [ha];simp))
       obtain rfl:er2=0:=by rw [E2.out,if_pos ha]
       have hnum:ye1 s k m=s.i k:=by unfold ye1;rw [if_pos ha]
       have hn1:(tsN s k m (fun _=>none) (fun _=>0)).n k=s.n k:=yfd ha k
       have MA:=kd (show Mine w w21 [(gs,45,mixB k (tsC1 s k) (tsC1 s (!k))),(gn,46,[.int .i64 ((tsN s k m (fun _=>none) (fun _=>0)).n false),.int .i64 ((tsN s k m (fun _=>none) (fun _=>0)).n true)]),(b3,25,dgC d3 A9 c9),(b1,25,dgC (tsD (tsN s k m (fun _=>none) (fun _=>0)) k) A7 c7)] [fun W=>Rds W W.heap.size A9 (strs d3.rs),fun W=>Rds W W.heap.size A7 (strs (tsD (tsN s k m (fun _=>none) (fun _=>0)) k).rs)] from by rw [yfd ha,yfd ha];exact M22.out)
       have DL:=kd (DL.out.trans (by rw [hn1]))
       obtain rfl:zn=((s.i k:Nat):Int):=by rw [← ZN.out,hnum]
       clear ZN BM LM MO E2 hnum hn1 ha DR D3 HN1;generalize strOfNums m=ms at *
       cases k
       · have xi:w21.cell? ⟨gs,11,none⟩=some (.int .i64 (s.i false:Nat)):=ts_iq (k:=false) (M22.out.row (i:=0) rfl)
         have xn:w21.cell? ⟨gn,0,none⟩=some (.int .i64 (s.n false:Nat)):=ye9 (M22.out.row (i:=1) rfl) false;have xl:=DL.out
         obtain rfl:zk=0:=by rw [← ZK.out];rfl
         clear ZK;clear DL M22;go_upto_region 22 with (fail)
         go_quiet (fail)
         go_wp2_with fail;go_meet;exact kd (MA.out.call (zam _ _))
       · have xi:w21.cell? ⟨gs,23,none⟩=some (.int .i64 (s.i true:Nat)):=ts_iq (k:=true) (M22.out.row (i:=0) rfl)
         have xn:w21.cell? ⟨gn,1,none⟩=some (.int .i64 (s.n true:Nat)):=ye9 (M22.out.row (i:=1) rfl) true;have xl:=DL.out
         obtain rfl:zk=1:=by rw [← ZK.out];rfl
         clear ZK;clear DL M22;go_upto_region 22 with (fail)
         go_quiet (fail)
         go_wp2_with fail;go_meet;exact kd (MA.out.call (zam _ _))
     · obtain rfl:bm=false:=BM.out.symm.trans (LM.out.trans (by simpa using ha))
       obtain rfl:er2=9:=by rw [E2.out,if_neg ha]
       have hnum:ye1 s k m=s.n k+1:=by unfold ye1;rw [if_neg ha]
       obtain ⟨z,hz⟩:∃ z:Int,((s.n k:Nat):Int)=z:=⟨_,rfl⟩;obtain ⟨y,hy⟩:∃ y:Int,((s.n k+1:Nat):Int)=y:=⟨_,rfl⟩
       have hw:IntKind.i64.wrap (z+1)=y:=by rw [← hz,← hy];exact yfw HN1.out
       have hn1:(tsN s k m (fun _=>none) (fun _=>0)).n k=s.n k+1:=yfc ha
       have NN:=kd (show [Value.int .i64 (s.n false),.int .i64 (s.n true)].set (kN k) (.int .i64 y)=[Value.int .i64 ((tsN s k m (fun _=>none) (fun _=>0)).n false),.int .i64 ((tsN s k m (fun _=>none) (fun _=>0)).n true)] by rw [← hy];exact yga ha)
       have DR2:=kd (fun (W:World) (h:Row W b3 25 (dgC d3 A9 c9))=>show W.cell? ⟨b3,10,none⟩=some (.int .i64 y) from (dl_rs (s:=(tsN s k m (fun _=>none) (fun _=>0))) (k:=k) (by rw [D3.out];exact h)).trans (by rw [hn1,hy]))
       obtain rfl:y=zn:=by rw [← ZN.out,hnum,hy]
       clear ZN BM LM MO E2 hnum ha DR DL D3 HN1;generalize strOfNums m=ms at *
       cases k
       · have xn:w21.cell? ⟨gn,0,none⟩=some (.int .i64 z):=(ye9 (M22.out.row (i:=1) rfl) false).trans (by rw [hz])
         have fn:w21.frozen? ⟨gn,0,none⟩=false:=(M22.out.row (i:=1) rfl).frozen 0
         obtain rfl:zk=0:=by rw [← ZK.out];rfl
         clear ZK;go_upto_region 25 with (fail)
         have MB:=kd (show Mine w (w21.setCell ⟨gn,0,none⟩ (.int .i64 y)) [(gs,45,mixB false (tsC1 s false) (tsC1 s (!false))),(gn,46,[.int .i64 ((tsN s false m (fun _=>none) (fun _=>0)).n false),.int .i64 ((tsN s false m (fun _=>none) (fun _=>0)).n true)]),(b3,25,dgC d3 A9 c9),(b1,25,dgC (tsD (tsN s false m (fun _=>none) (fun _=>0)) false) A7 c7)] [fun W=>Rds W W.heap.size A9 (strs d3.rs),fun W=>Rds W W.heap.size A7 (strs (tsD (tsN s false m (fun _=>none) (fun _=>0)) false).rs)] from by rw [← NN.out];exact M22.out.setCell (i:=1) (off:=0) (.int .i64 y) rfl rfl)
         generalize w21.setCell ⟨gn,0,none⟩ (.int .i64 y)=w23 at *;have x1:w23.cell? ⟨gn,0,none⟩=some (.int .i64 y):=(ye9 (s:=(tsN s false m (fun _=>none) (fun _=>0))) (MB.out.row (i:=1) rfl) false).trans (by rw [hn1,hy])
         have xl:w23.cell? ⟨b1,9,none⟩=some (.int .i64 y):=(ygu (MB.out.row (i:=3) rfl)).trans (by rw [hn1,hy]);have xr:w23.cell? ⟨b3,10,none⟩=some (.int .i64 y):=DR2.out w23 (MB.out.row (i:=2) rfl);clear xn fn hw hn1 hz hy NN DR2 M22;go_wp2_with fail;go_meet;exact MB
       · have xn:w21.cell? ⟨gn,1,none⟩=some (.int .i64 z):=(ye9 (M22.out.row (i:=1) rfl) true).trans (by rw [hz])
         have fn:w21.frozen? ⟨gn,1,none⟩=false:=(M22.out.row (i:=1) rfl).frozen 1
         obtain rfl:zk=1:=by rw [← ZK.out];rfl
         clear ZK;go_upto_region 25 with (fail)
         have MB:=kd (show Mine w (w21.setCell ⟨gn,1,none⟩ (.int .i64 y)) [(gs,45,mixB true (tsC1 s true) (tsC1 s (!true))),(gn,46,[.int .i64 ((tsN s true m (fun _=>none) (fun _=>0)).n false),.int .i64 ((tsN s true m (fun _=>none) (fun _=>0)).n true)]),(b3,25,dgC d3 A9 c9),(b1,25,dgC (tsD (tsN s true m (fun _=>none) (fun _=>0)) true) A7 c7)] [fun W=>Rds W W.heap.size A9 (strs d3.rs),fun W=>Rds W W.heap.size A7 (strs (tsD (tsN s true m (fun _=>none) (fun _=>0)) true).rs)] from by rw [← NN.out];exact M22.out.setCell (i:=1) (off:=1) (.int .i64 y) rfl rfl)
         generalize w21.setCell ⟨gn,1,none⟩ (.int .i64 y)=w23 at *;have x1:w23.cell? ⟨gn,1,none⟩=some (.int .i64 y):=(ye9 (s:=(tsN s true m (fun _=>none) (fun _=>0))) (MB.out.row (i:=1) rfl) true).trans (by rw [hn1,hy])
         have xl:w23.cell? ⟨b1,9,none⟩=some (.int .i64 y):=(ygu (MB.out.row (i:=3) rfl)).trans (by rw [hn1,hy]);have xr:w23.cell? ⟨b3,10,none⟩=some (.int .i64 y):=DR2.out w23 (MB.out.row (i:=2) rfl);clear xn fn hw hn1 hz hy NN DR2 M22;go_wp2_with fail;go_meet;exact MB
    case rest =>
    have M23:=hcut;obtain rfl:=ZK.out;clear hcut M22 E2 LM ZK ZN BM;go_upto_region 27 with (fail)
    refine yfu (by kernel_rfl) (by kernel_rfl) (fun (i:Nat) (_:World) (v:Value)=>match i with
     | 0=>v = .int .i64 (kI k)
     | 1=>v = .int .i64 (kI k)
     | 2=>v = .int .i64 (kI (!k))
     | 3=>v = .agg (dgC (tsD (tsN s k m (fun _=>none) (fun _=>0)) k) A7 c7).toArray
     | 4=>v = .agg (dgC d3 A9 c9).toArray
     | 5=>v = .pointer (some ⟨gs,ofB k,none⟩)
     | 7=>v = .pointer (some ⟨gs,ofB (!k),none⟩)
     | _=>True) k 6 3 5 8 4 7 193 191 194 192 gs 45 25 (dgC (tsD (tsN s k m (fun _=>none) (fun _=>0)) k) A7 c7) (dgC d3 A9 c9) (tsC1 s k) (tsC1 s (!k)) (by kernel_rfl) M23.out (yfi _ _) (yfi _ _) rfl rfl (by decide) _ _ _ _ _ _ rfl rfl rfl rfl (by kernel_rfl) (by kernel_rfl) rfl rfl rfl rfl rfl rfl rfl rfl (by kernel_rfl) (by kernel_rfl) rfl rfl rfl rfl (fun _ _ h=>h) (fun _ _ h=>h) (fun _ _ h=>h) (fun _ _ h=>h) (by kernel_rfl) zat zat ?hAm ?hstep ?hend
    case hAm =>
     intro i v W W' h;exact h
    case hstep=>as_aux_lemma =>
     intro i o h6 h8 ho a' W cs MW hF hD
     match i,ho,h6,h8 with
     | 0,ho,h6,h8 =>
       obtain rfl:=zSi ho;exact (zaf ho rfl (zb5 (.tmp 10) (.inl rfl) ⟨_,rfl,Below.refl _ _,fun _ _=>(show a'.eval (.tmp 10) = .int .i64 (kI k) from ((zap hF (by kernel_rfl)).trans rfl))⟩))
     | 1,ho,h6,h8 =>
       obtain rfl:=zSi ho;exact (zaf ho rfl (zb5 (.tmp 10) (.inl rfl) ⟨_,rfl,Below.refl _ _,fun _ _=>(show a'.eval (.tmp 10) = .int .i64 (kI k) from ((zap hF (by kernel_rfl)).trans rfl))⟩))
     | 2,ho,h6,h8 =>
       obtain rfl:=zSi ho;exact (zaf ho rfl (zjn .sub 3 (.const (.int .i64 1)) (.tmp 189) 3 rfl (.int .i64 1) (.int .i64 (kI k)) (.int .i64 (kI (!k))) rfl (zai hD 1 (by kernel_rfl) rfl rfl) (fun w=>yfg _ _ _ _ w) (fun w=>yfe 1 (kI k) _ (yf4 k) w) ⟨_,rfl,Below.refl _ _,fun _ _=>rfl⟩))
     | 3,ho,h6,h8 =>
       obtain rfl:=zSi ho;exact (zaf ho rfl (zf4 25 (.tmp 12) rfl b1 0 (dgC (tsD (tsN s k m (fun _=>none) (fun _=>0)) k) A7 c7) _ ((zap hF (by kernel_rfl)).trans rfl) ((MW.row (i:=3) rfl).range) Tryz.underlying25 rfl (zae _ _ _ _ _ _ _ _ _ _ _ _) ⟨_,rfl,Below.refl _ _,fun _ _=>rfl⟩))
     | 4,ho,h6,h8 =>
       obtain rfl:=zSi ho;exact (zaf ho rfl (zf4 25 (.tmp 17) rfl b3 0 (dgC d3 A9 c9) _ ((zap hF (by kernel_rfl)).trans rfl) ((MW.row (i:=2) rfl).range) Tryz.underlying25 rfl (zae _ _ _ _ _ _ _ _ _ _ _ _) ⟨_,rfl,Below.refl _ _,fun _ _=>rfl⟩))
     | 5,ho,h6,h8 =>
       obtain rfl:=zSi ho;exact (zaf ho rfl (ye7 45 (.tmp 7) (.tmp 188) rfl (p := .pointer (some ⟨gs,0,none⟩)) (z := .int .i64 (kI k)) ((zap hF (by kernel_rfl)).trans rfl) (zai hD 0 (by kernel_rfl) rfl rfl) (ye2 k gs W) ⟨_,rfl,Below.refl _ _,fun _ _=>rfl⟩))
     | 6,ho,h6,h8 =>
       obtain rfl:=zSi ho;exact absurd rfl h6
     | 7,ho,h6,h8 =>
       obtain rfl:=zSi ho;exact (zaf ho rfl (ye7 45 (.tmp 7) (.tmp 190) rfl (p := .pointer (some ⟨gs,0,none⟩)) (z := .int .i64 (kI (!k))) ((zap hF (by kernel_rfl)).trans rfl) (zai hD 2 (by kernel_rfl) rfl rfl) (ye2 (!k) gs W) ⟨_,rfl,Below.refl _ _,fun _ _=>rfl⟩))
     | 8,ho,h6,h8 =>
       obtain rfl:=zSi ho;exact absurd rfl h8
     | i+9,ho,_,_=>exact absurd ho (by simp)
    case hend=>as_aux_lemma =>
    intro vs w27 MZ hlen hall
    obtain ⟨v0,v1,v2,v3,v4,v5,v6,v7,v8,rfl⟩:∃ v0 v1 v2 v3 v4 v5 v6 v7 v8,vs=[v0,v1,v2,v3,v4,v5,v6,v7,v8]:=by
     match vs,hlen with
     | [v0,v1,v2,v3,v4,v5,v6,v7,v8],_=>exact ⟨_,_,_,_,_,_,_,_,_,rfl⟩
    simp only [putL,Act.put,List.setIfInBounds_toArray,List.set_cons_zero,List.set_cons_succ];have TS9:=kd (show tsS (tsN2 s k m A7 A9 c7 c9) from ygs (Af:=fun _=>none) (cf:=fun _=>0) ⟨S7.out.nil,S7.out.cap⟩ (by rw [D3.out];exact ⟨S9.out.nil,S9.out.cap⟩))
    have MT9:=kd (show Mine w w27 (tsL gs gn (tsN2 s k m A7 A9 c7 c9)) (tsF (tsN2 s k m A7 A9 c7 c9)) from by
     rw [← D3.out] at MZ;refine ((MZ.sub (L':=tsL gs gn (tsN2 s k m A7 A9 c7 c9)) (fun r hr => ?_) ?_).less fun F hF=>tsF_in F hF)
     · simp only [tsL,← ygh (Af:=fun _=>none) (cf:=fun _=>0),List.mem_cons,List.not_mem_nil,or_false] at hr ⊢
       rcases hr with rfl|rfl
       · exact .inl rfl
       · exact .inr (.inl rfl)
     · have:=MZ.nd
       simp [tsL] at this ⊢
       omega)
    clear hall hlen MZ M23 S7 S9 F8 D3 QO MO;go_wp2_with fail;go_roundw
    case rel=>exact ⟨j+1,tsN2 s k m A7 A9 c7 c9,by omega,by omega,(fun b=>by have:=(ygk (k:=k) (m:=m) (Af:=fun x=>if x=k then A7 else A9) (cf:=fun x=>if x=k then c7 else c9) hbn hbi).1 b;show (tsN2 s k m A7 A9 c7 c9).n b≤_;unfold tsN2;omega),(fun b=>by have:=(ygk (k:=k) (m:=m) (Af:=fun x=>if x=k then A7 else A9) (cf:=fun x=>if x=k then c7 else c9) hbn hbi).2 b;show (tsN2 s k m A7 A9 c7 c9).i b≤_;unfold tsN2;omega),tsN_i1 hi1,by go_num,TS9,MT9⟩
    case measure=>simp [intOf];omega
  · have hq:j=n∨j<n∧j=40:=by omega
    clear GH HX TSS hbn hbi hi1
    rcases hq with hq|⟨hq,hq2⟩
    · subst hq
      have hd1:decide ((j:Int)<(j:Int))=false:=by simp
      clear hlt;have x0:wr.cell? ⟨gs,0,none⟩=some (.int .u8 2):=(MJ.out.row (i:=0) rfl).cell 0;have x12:wr.cell? ⟨gs,12,none⟩=some (.int .u8 2):=(MJ.out.row (i:=0) rfl).cell 12;go_wp2_with fail;refine (WK.out _ MJ.out.bw).mono ?_;rintro _ wz ⟨rfl,hbz⟩
      have BZ:=kd (zao MJ.out.bw hbz);go_wp2_with fail
      first|exact FIN.out _ BZ.out|(go_ret;exact FIN.out _ BZ.out)
    · have hd1:decide ((j:Int)<(n:Int))=true:=by simp;omega
      have hd2:decide ((j:Int)<40)=false:=by simp;omega
      have hd3:decide (j<40)=false:=by simp;omega
      have hl3:¬ j<40:=by omega
      clear hq2 hlt;have x0:wr.cell? ⟨gs,0,none⟩=some (.int .u8 2):=(MJ.out.row (i:=0) rfl).cell 0;have x12:wr.cell? ⟨gs,12,none⟩=some (.int .u8 2):=(MJ.out.row (i:=0) rfl).cell 12;go_wp2_with fail;refine (WK.out _ MJ.out.bw).mono ?_;rintro _ wz ⟨rfl,hbz⟩
      have BZ:=kd (zao MJ.out.bw hbz);go_wp2_with fail
      first|exact FIN.out _ BZ.out|(go_ret;exact FIN.out _ BZ.out)
end Go.Proofs.YtfnmkedncfdceaaGreatDoor
