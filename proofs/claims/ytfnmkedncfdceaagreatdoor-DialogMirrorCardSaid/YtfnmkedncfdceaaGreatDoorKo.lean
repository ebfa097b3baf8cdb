/- The law DialogMirror. -/
import Derived.Test.YtfnmkedncfdceaaGreatDoorYp
set_option linter.unusedVariables false
set_option linter.unusedSimpArgs false
namespace Go.Proofs.YtfnmkedncfdceaaGreatDoor
open Go.RowKit

def cycL (n:Nat):List (List Int):=(List.range n).map fun i=>([SP1,SP2,SP3].getD (i % 3) [])
theorem zm5 (k:Nat):cycL (k+1)=cycL k++[[SP1,SP2,SP3].getD (k % 3) []]:=by
 unfold cycL;rw [List.range_succ,List.map_append]
 rfl
theorem zm6 (k:Nat):(cycL k).length=k:=by unfold cycL;simp
theorem yej (k:Nat):SPs (cycL k):=fun r hr=>by
 unfold cycL at hr;obtain ⟨i,_,rfl⟩:=List.mem_map.1 hr
 have h:i % 3=0∨i % 3=1∨i % 3=2:=by omega
 rcases h with h|h|h<;>rw [h]<;>simp
theorem rev_at {l:List (List Int)} {k i:Nat} (hl:l.length=k) (hi:i<k):l.reverse[k - 1 - i]? = l[i]? := by
 rw [List.getElem?_reverse (by omega)]
 congr 1
 omega
set_option maxRecDepth 100000 in
set_option maxHeartbeats 8000000 in
theorem ztk (r c:Nat) (hr:r≤255) (hc:c≤255) (w:World) (G:GW w):Calls Tryz.prog 4 #[.int .u8 (r:Int),.int .u8 (c:Int)] w fun e w'=>e = .returned (.bool true)∧Below w.heap.size w w':=by
 have GH:=kd (fun W (hb:Below w.heap.size w W)=>G.below hb);have WK:=kd (fun W (hb:Below w.heap.size w W)=>znk W (G.below hb))
 have FIN:=kd (fun W (hb:Below w.heap.size w W)=>show (fun (e:Ending) (w':World)=>e = .returned (.bool true)∧Below w.heap.size w w') (.returned (.bool true)) W from ⟨rfl,hb⟩);generalize (fun (e:Ending) (w':World)=>e = .returned (.bool true)∧Below w.heap.size w w')=PO at *
 clear G;obtain ⟨N,hN⟩:∃ n,r % 17=n:=⟨_,rfl⟩
 have N16:N≤16:=by omega
 go_enter Tryz.func4,Tryz.ntmps4
 go_wp2_with fail
 go_loopw [5,6] (fun V v6 wr => ∃ k:Nat,k≤N∧v6 = .int .i64 k∧Hid (SXL w V (cycL k) wr)) (fun _ v6 _=>N - (intOf v6).toNat)
 case atStart=>exact ⟨0,Nat.zero_le _,rfl,kd (VX.nil _ _ _)⟩
 case round =>
  obtain ⟨k,hk,rfl,VH⟩:=hrel
  by_cases hlt:k<N
  · have hd:decide ((k:Int)<(r:Int) % 17)=true:=by simp;omega
    have k3:k % 3=0∨k % 3=1∨k % 3=2:=by omega
    rcases k3 with k3|k3|k3
    · have e3:(k:Int) % 3=0:=by omega
      have IX:=fun w=>(show (Instr.index 39 (.agg #[.string ⟨#[115,105,112,58,112,49,46,101,120,97,109,112,108,101,59,108,114]⟩,.string ⟨#[115,105,112,58,112,50,46,101,120,97,109,112,108,101,59,108,114]⟩,.string ⟨#[115,105,112,58,112,51,46,101,120,97,109,112,108,101]⟩]) (.int .i64 0)).run Tryz.prog w = .ok (.string ⟨#[115,105,112,58,112,49,46,101,120,97,109,112,108,101,59,108,114]⟩) w by kernel_rfl)
      have CN:=kd (show cycL (k+1)=cycL k++[SP1] by rw [zm5,k3];rfl);clear k3;go_wp2_with (refine zc8 rfl (.tmp 20) (.tmp 25) rfl _ _ rfl VH.out SP1 rfl (by rw [zm6];omega) ?_);intro v' w' hx;have XN:=kd (show SXL w v' (cycL (k+1)) w' by rw [CN.out];exact hx.out);clear hx CN VH
      go_wp2_with fail;go_roundw
      case rel=>exact ⟨k+1,by omega,by go_num,XN⟩
      case measure=>simp [intOf];omega
    · have e3:(k:Int) % 3=1:=by omega
      have IX:=fun w=>(show (Instr.index 39 (.agg #[.string ⟨#[115,105,112,58,112,49,46,101,120,97,109,112,108,101,59,108,114]⟩,.string ⟨#[115,105,112,58,112,50,46,101,120,97,109,112,108,101,59,108,114]⟩,.string ⟨#[115,105,112,58,112,51,46,101,120,97,109,112,108,101]⟩]) (.int .i64 1)).run Tryz.prog w = .ok (.string ⟨#[115,105,112,58,112,50,46,101,120,97,109,112,108,101,59,108,114]⟩) w by kernel_rfl)
      have CN:=kd (show cycL (k+1)=cycL k++[SP2] by rw [zm5,k3];rfl);clear k3;go_wp2_with (refine zc8 rfl (.tmp 20) (.tmp 25) rfl _ _ rfl VH.out SP2 rfl (by rw [zm6];omega) ?_);intro v' w' hx;have XN:=kd (show SXL w v' (cycL (k+1)) w' by rw [CN.out];exact hx.out);clear hx CN VH
      go_wp2_with fail;go_roundw
      case rel=>exact ⟨k+1,by omega,by go_num,XN⟩
      case measure=>simp [intOf];omega
    · have e3:(k:Int) % 3=2:=by omega
      have IX:=fun w=>(show (Instr.index 39 (.agg #[.string ⟨#[115,105,112,58,112,49,46,101,120,97,109,112,108,101,59,108,114]⟩,.string ⟨#[115,105,112,58,112,50,46,101,120,97,109,112,108,101,59,108,114]⟩,.string ⟨#[115,105,112,58,112,51,46,101,120,97,109,112,108,101]⟩]) (.int .i64 2)).run Tryz.prog w = .ok (.string ⟨#[115,105,112,58,112,51,46,101,120,97,109,112,108,101]⟩) w by kernel_rfl)
      have CN:=kd (show cycL (k+1)=cycL k++[SP3] by rw [zm5,k3];rfl);clear k3;go_wp2_with (refine zc8 rfl (.tmp 20) (.tmp 25) rfl _ _ rfl VH.out SP3 rfl (by rw [zm6];omega) ?_);intro v' w' hx;have XN:=kd (show SXL w v' (cycL (k+1)) w' by rw [CN.out];exact hx.out);clear hx CN VH
      go_wp2_with fail;go_roundw
      case rel=>exact ⟨k+1,by omega,by go_num,XN⟩
      case measure=>simp [intOf];omega
  · obtain rfl:k=N:=by omega
    have hd:decide ((k:Int)<(r:Int) % 17)=false:=by simp;omega
    have HL:=kd (zm6 k);have HS:=kd (yej k);obtain ⟨AL,cl,hv,sf⟩:=VH.out.sf;have SFL:=kd sf;have M1:=kd ((((Mine.refl w).call VH.out.bw).add (F:=fun W=>Rds W W.heap.size AL (strs (cycL k))) (za9 sf.r (fun b o s e hm=>by cases hm))));have EV:=hv;rw [HL.out] at EV;clear sf VH hv
    subst EV;generalize cycL k=l at *;obtain ⟨C,hC⟩:∃ x:Int,101+(c:Int) % 199=x:=⟨_,rfl⟩
    have C1:101≤C:=by omega
    have C2:C≤299:=by omega
    obtain ⟨DA,hDA⟩:∃ x,zd0 C l=x:=⟨_,rfl⟩;obtain ⟨DB,hDB⟩:∃ x,zda C l=x:=⟨_,rfl⟩;have WA:=kd (show zdh (zaz l) (zay C l) = .ok DA by rw [← hDA];exact zl2 _ C1 C2 HS.out.ok (by rw [HL.out];exact N16))
    have WB:=kd (show zc6 (zaz l) (zay C l) = .ok DB by rw [← hDB];exact zih _ C1 C2 HS.out.ok (by rw [HL.out];exact N16))
    have ea1:DA.cl=false:=by rw [← hDA];rfl
    have eb1:DB.cl=true:=by rw [← hDB];rfl
    have LA:=kd (show DA.rs=l by rw [← hDA];rfl);have LB:=kd (show DB.rs=l.reverse by rw [← hDB];rfl)
    have p0:(DA.st != DB.st)=false:=by rw [← hDA,← hDB];simp [zd0,zda]
    have p1:(DA.st == 1)=decide (C<200):=by
     rw [← hDA];unfold zd0
     by_cases h:C<200<;>simp [h]
    have p2:(strOfNums DA.ci).toList=(strOfNums DB.ci).toList:=by rw [← hDA,← hDB];simp [zd0,zda]
    have p3:(strOfNums DA.lt).toList=(strOfNums DB.rt).toList:=by rw [← hDA,← hDB];simp [zd0,zda]
    have p4:(strOfNums DA.rt).toList=(strOfNums DB.lt).toList:=by rw [← hDA,← hDB];simp [zd0,zda]
    have p5:(strOfNums DA.lu).toList=(strOfNums DB.ru).toList:=by rw [← hDA,← hDB];simp [zd0,zda]
    have p6:(strOfNums DA.ru).toList=(strOfNums DB.lu).toList:=by rw [← hDA,← hDB];simp [zd0,zda]
    have p7:(DA.rq != DB.ls)=false:=by rw [← hDA,← hDB];rfl
    have pn:((k:Int) != (k:Int))=false:=by simp
    clear hDA hDB C1 C2;go_upto_region 7 with (fail)
    try rw [hC]
    clear hC;go_wp2_with fail;refine (ze3 l AL k cl wr HL.out (by omega) (fun r hr=>(zfn (HS.out r hr)).2.1) (fun b o s e=>(SFL.out.fresh b o s e).2) (M1.out.fact (i:=0) rfl)).mono ?_;rintro _ w2 ⟨v2,rfl,X⟩
    obtain ⟨A2,c2,rfl,FX,HM⟩:=VX.msg (m:=zaz l) X (by rw [show (zaz l).hs.length=6+l.length from by simp [zaz,zay,IH,AH];omega,HL.out]) (invS HS.out (by rw [HL.out];omega));have M2:=kd (M1.out.call X.bw);have B2:=kd X.bw;have H2:=kd HM;clear X FX HM;go_wp2_with fail
    refine (zek C l AL k cl w2 HL.out (by omega) (fun r hr=>(zfn (HS.out r hr)).2.1) (fun b o s e=>(SFL.out.fresh b o s e).2) (M2.out.fact (i:=0) rfl)).mono ?_;rintro _ w4 ⟨v4,rfl,X⟩
    obtain ⟨A4,c4,rfl,FX,HM⟩:=VX.msg (m:=zay C l) X (by rw [show (zay C l).hs.length=6+l.length from by simp [zaz,zay,IH,AH];omega,HL.out]) (ansS HS.out (by rw [HL.out];omega));have M4:=kd (M2.out.call X.bw);have B4:=kd X.bw;have H4:=kd HM;clear X FX HM;go_wp2_with fail
    refine (zkp (zaz l) (zay C l) A2 none A4 none c2 0 0 c4 0 0 w4 (H2.out.step B4.out) H4.out (GH.out _ M4.out.bw)).mono ?_;intro e w5 hx;rw [WA.out] at hx;obtain ⟨A5,c5,rfl,hb,sf⟩:=hx;have SFA:=kd sf
    have M5:=kd ((M4.out.call hb).add (F:=fun W=>Rds W W.heap.size A5 (strs DA.rs)) (za9 sf.r (fun b o s e=>M4.out.fresh (sf.fresh b o s e).1)));clear sf hb
    go_upto_region 8 with (refine zak rfl 25 (.tmp 8) (.tmp 38) rfl Z12 (dgC DA A5 c5) rfl rfl za6 (zae _ _ _ _ _ _ _ _ _ _ _ _) zat ?_;intro w6 R6 S6);have M6:=kd (M5.out.join S6.out zNr R6.out);generalize w5.heap.size=g8 at *;clear R6 S6 M5 M4 M2 H2 H4 B2 B4;go_wp2_with fail
    refine (ze3 l AL k cl w6 HL.out (by omega) (fun r hr=>(zfn (HS.out r hr)).2.1) (fun b o s e=>(SFL.out.fresh b o s e).2) (M6.out.fact (i:=1) rfl)).mono ?_;rintro _ w7 ⟨v7,rfl,X⟩
    obtain ⟨A7,c7,rfl,FX,HM⟩:=VX.msg (m:=zaz l) X (by rw [show (zaz l).hs.length=6+l.length from by simp [zaz,zay,IH,AH];omega,HL.out]) (invS HS.out (by rw [HL.out];omega));have M7:=kd (M6.out.call X.bw);have B7:=kd X.bw;have H7:=kd HM;clear X FX HM;go_wp2_with fail
    refine (zek C l AL k cl w7 HL.out (by omega) (fun r hr=>(zfn (HS.out r hr)).2.1) (fun b o s e=>(SFL.out.fresh b o s e).2) (M7.out.fact (i:=1) rfl)).mono ?_;rintro _ w9 ⟨v9,rfl,X⟩
    obtain ⟨A9,c9,rfl,FX,HM⟩:=VX.msg (m:=zay C l) X (by rw [show (zay C l).hs.length=6+l.length from by simp [zaz,zay,IH,AH];omega,HL.out]) (ansS HS.out (by rw [HL.out];omega));have M9:=kd (M7.out.call X.bw);have B9:=kd X.bw;have H9:=kd HM;clear X FX HM;go_wp2_with fail
    refine (zgw (zaz l) (zay C l) A7 none A9 none c7 0 0 c9 0 0 w9 (H7.out.step B9.out) H9.out (GH.out _ M9.out.bw)).mono ?_;intro e w10 hx;rw [WB.out] at hx;obtain ⟨A10,c10,rfl,hb,sf⟩:=hx;have SFB:=kd sf
    have M10:=kd ((M9.out.call hb).add (F:=fun W=>Rds W W.heap.size A10 (strs DB.rs)) (za9 sf.r (fun b o s e=>M9.out.fresh (sf.fresh b o s e).1)));clear sf hb;go_wp2_with (refine zak rfl 25 (.tmp 10) (.tmp 47) rfl Z12 (dgC DB A10 c10) rfl rfl za6 (zae _ _ _ _ _ _ _ _ _ _ _ _) zat ?_)
    intro w11 R11 S11;have M11:=kd (M10.out.join S11.out zNr R11.out);generalize w10.heap.size=g10 at *;clear R11 S11 M10 M9 M7 H7 H9 B7 B9 M6 WA WB
    have LNA:DA.rs.length=k:=by rw [LA.out];exact HL.out
    have LNB:DB.rs.length=k:=by rw [LB.out,List.length_reverse];exact HL.out
    have ka0:w11.cell? ⟨g8,0,none⟩=some (.int .u8 DA.st):=(M11.out.row (i:=1) rfl).cell 0;have ka2:w11.cell? ⟨g8,2,none⟩=some (.string (strOfNums DA.ci)):=(M11.out.row (i:=1) rfl).cell 2
    have ka3:w11.cell? ⟨g8,3,none⟩=some (.string (strOfNums DA.lt)):=(M11.out.row (i:=1) rfl).cell 3;have ka4:w11.cell? ⟨g8,4,none⟩=some (.string (strOfNums DA.rt)):=(M11.out.row (i:=1) rfl).cell 4
    have ka5:w11.cell? ⟨g8,5,none⟩=some (.string (strOfNums DA.lu)):=(M11.out.row (i:=1) rfl).cell 5;have ka6:w11.cell? ⟨g8,6,none⟩=some (.string (strOfNums DA.ru)):=(M11.out.row (i:=1) rfl).cell 6
    have ka10:w11.cell? ⟨g8,10,none⟩=some (.int .i64 DA.rq):=(M11.out.row (i:=1) rfl).cell 10;have kb0:w11.cell? ⟨g10,0,none⟩=some (.int .u8 DB.st):=(M11.out.row (i:=0) rfl).cell 0
    have kb2:w11.cell? ⟨g10,2,none⟩=some (.string (strOfNums DB.ci)):=(M11.out.row (i:=0) rfl).cell 2;have kb3:w11.cell? ⟨g10,3,none⟩=some (.string (strOfNums DB.lt)):=(M11.out.row (i:=0) rfl).cell 3
    have kb4:w11.cell? ⟨g10,4,none⟩=some (.string (strOfNums DB.rt)):=(M11.out.row (i:=0) rfl).cell 4;have kb5:w11.cell? ⟨g10,5,none⟩=some (.string (strOfNums DB.lu)):=(M11.out.row (i:=0) rfl).cell 5
    have kb6:w11.cell? ⟨g10,6,none⟩=some (.string (strOfNums DB.ru)):=(M11.out.row (i:=0) rfl).cell 6;have kb9:w11.cell? ⟨g10,9,none⟩=some (.int .i64 DB.ls):=(M11.out.row (i:=0) rfl).cell 9
    have ka1:w11.cell? ⟨g8,1,none⟩=some (.bool false):=by rw [← ea1];exact (M11.out.row (i:=1) rfl).cell 1
    have kb1:w11.cell? ⟨g10,1,none⟩=some (.bool true):=by rw [← eb1];exact (M11.out.row (i:=0) rfl).cell 1
    have ka8:w11.cell? ⟨g8,8,none⟩=some (.slice A5 k c5):=by rw [← LNA];exact (M11.out.row (i:=1) rfl).cell 8
    have kb8:w11.cell? ⟨g10,8,none⟩=some (.slice A10 k c10):=by rw [← LNB];exact (M11.out.row (i:=0) rfl).cell 8
    have HLA:=kd ea1;have HLB:=kd eb1;have HNA:=kd LNA;have HNB:=kd LNB;clear ea1 eb1 LNA LNB;go_upto_region 11 with (fail);clear ka0 ka1 ka2 ka3 ka4 ka5 ka6 ka10 kb0 kb1 kb2 kb3 kb4 kb5 kb6 kb9 ka8 kb8 p0 p1 p2 p3 p4 p5 p6 p7 pn hd;go_wp2_with fail
    go_loopw [12] (fun v12 wx => ∃ i:Nat,i≤k∧v12 = .int .i64 i∧Hid (Mine w wx [(g10,25,dgC DB A10 c10),(g8,25,dgC DA A5 c5)] [fun W=>Rds W W.heap.size A10 (strs DB.rs),fun W=>Rds W W.heap.size A5 (strs DA.rs),fun W=>Rds W W.heap.size AL (strs l)])) (fun v12 _=>k - (intOf v12).toNat)
    case atStart=>exact ⟨0,Nat.zero_le _,rfl,M11⟩
    case round =>
     clear M11;obtain ⟨i,hi,rfl,MI⟩:=hrel
     by_cases hli:i<k
     · have hd:decide ((i:Int)<(k:Int))=true:=by simp;omega
       obtain ⟨s,hs⟩:∃ s,l[i]? = some s:=⟨_,List.getElem?_eq_getElem (by rw [HL.out];exact hli)⟩;obtain ⟨bl,ol,e1,hb1,hc1⟩:=(show Rds wr wr.heap.size AL (strs l) from MI.out.fact (i:=2) rfl) (by rw [za8,HL.out];omega)
       obtain ⟨ba,oa,e2,hb2,hc2⟩:=(show Rds wr wr.heap.size A5 (strs DA.rs) from MI.out.fact (i:=1) rfl) (by rw [za8,HNA.out];omega);obtain ⟨bb,ob,e4,hb4,hc4⟩:=(show Rds wr wr.heap.size A10 (strs DB.rs) from MI.out.fact (i:=0) rfl) (by rw [za8,HNB.out];omega)
       obtain rfl:=(SFL.out.fresh bl ol none e1).2;obtain rfl:=(SFA.out.fresh ba oa none e2).2;obtain rfl:=(SFB.out.fresh bb ob none e4).2
       have x1:wr.cell? ⟨bl,i,none⟩=some (.string (strOfNums s)):=by have:=hc1 i _ (ze9 hs);rwa [Nat.zero_add] at this
       have x2:wr.cell? ⟨ba,i,none⟩=some (.string (strOfNums s)):=by have:=hc2 i _ (ze9 (by rw [LA.out];exact hs));rwa [Nat.zero_add] at this
       obtain ⟨j,hj⟩:∃ j:Nat,k - 1 - i=j:=⟨_,rfl⟩
       have x4:wr.cell? ⟨bb,j,none⟩=some (.string (strOfNums s)):=by have:=hc4 j _ (ze9 (t:=s) (by rw [LB.out,← hj,rev_at HL.out hli];exact hs));rwa [Nat.zero_add] at this
       have ej:(k:Int) - 1 - (i:Int)=(j:Int):=by omega
       have jk:j<k:=by omega
       have ka8:wr.cell? ⟨g8,8,none⟩=some (.slice (some ⟨ba,0,none⟩) k c5):=by rw [← e2,← HNA.out];exact (MI.out.row (i:=1) rfl).cell 8
       have kb8:wr.cell? ⟨g10,8,none⟩=some (.slice (some ⟨bb,0,none⟩) k c10):=by rw [← e4,← HNB.out];exact (MI.out.row (i:=0) rfl).cell 8
       have E1:=kd e1;have E2:=kd e2;have E4:=kd e4
       have pe:((strOfNums s).toList != (strOfNums s).toList)=false:=by simp
       generalize strOfNums s=ss at *;clear hc1 hc2 hc4 hb1 hb2 hb4 hs hj e2 e4;subst e1;go_upto_region 14 with (fail)
       go_quiet (fail)
       go_wp2_with fail;go_roundw
       case rel=>exact ⟨i+1,by omega,by go_num,kd (MI.out.call (zam _ _))⟩
       case measure=>simp [intOf];omega
     · obtain rfl:i=k:=by omega
       have hd:decide ((i:Int)<(i:Int))=false:=by simp
       go_wp2_with fail;refine (WK.out _ MI.out.bw).mono ?_;rintro _ wz ⟨rfl,hbz⟩;have BZ:=kd (zao MI.out.bw hbz);go_wp2_with fail
       first|exact FIN.out _ BZ.out|(go_ret;exact FIN.out _ BZ.out)
end Go.Proofs.YtfnmkedncfdceaaGreatDoor
