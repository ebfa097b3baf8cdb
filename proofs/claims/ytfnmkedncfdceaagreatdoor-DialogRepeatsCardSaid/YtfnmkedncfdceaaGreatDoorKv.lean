/- The law DialogRepeats. -/
import Derived.Test.YtfnmkedncfdceaaGreatDoorKw
import Derived.Test.YtfnmkedncfdceaaGreatDoorYp
import Derived.Lib.SmallJoins
set_option linter.unusedVariables false
set_option linter.unusedSimpArgs false
namespace Go.Proofs.YtfnmkedncfdceaaGreatDoor
open Go.RowKit

theorem one3n (x y z:Int):∀ u∈[Value.int .u8 x,.int .i64 y,.int .u8 z],u.oneCell'=true:=fun u hu=>by
 simp only [List.mem_cons,List.not_mem_nil,or_false] at hu
 rcases hu with rfl|rfl|rfl<;>rfl
theorem yfk (c:Int):(ye3 c).2.length≤1000:=by
 unfold ye3
 split<;>simp
theorem yfj (m:Mach) (k t:Int):(ye2 m k t).2.length≤1000:=by
 unfold ye2
 repeat' split
 all_goals simp
set_option maxRecDepth 100000 in
set_option maxHeartbeats 8000000 in
theorem yfh (cd:Int) (m:Mach) (k ic t:Int) (w:World) (G:GW w):Calls Tryz.prog 7 #[.int .i64 cd,mchV m,.agg #[.int .u8 k,.int .i64 ic,.int .u8 t]] w fun e w'=>e = .returned (.bool true)∧Below w.heap.size w w':=by
 have WK:=kd (fun W (hb:Below w.heap.size w W)=>znk W (G.below hb));have FIN:=kd (fun W (hb:Below w.heap.size w W)=>show (fun (e:Ending) (w':World)=>e = .returned (.bool true)∧Below w.heap.size w w') (.returned (.bool true)) W from ⟨rfl,hb⟩)
 generalize (fun (e:Ending) (w':World)=>e = .returned (.bool true)∧Below w.heap.size w w')=PO at *;clear G;obtain ⟨st,wt,co⟩:=m;have M0:=kd (zmf w 60 64 [.int .u8 st,.int .i64 wt,.int .i64 co] [.int .u8 k,.int .i64 ic,.int .u8 t])
 obtain ⟨⟨⟨sa,sw,sc⟩,al⟩,hal⟩:∃ r,ye3 cd=r:=⟨_,rfl⟩;have AP:=kd (fun w=>yfo cd w);have AR:=kd (fun w=>yfb cd w);rw [hal] at AP AR;have LA:=kd (show al.length≤1000 by have h:=yfk cd;rw [hal] at h;exact h);clear hal
 have SM:=kd (fun l A B c d w hA hB hl=>yfs l A B c d w hA hB hl);have RP:=kd (fun m k ic t w=>yfn m k ic t w);have RR:=kd (fun m k ic t w=>yfa m k ic t w);unfold mchV at RP RR ⊢;dsimp only at RP RR ⊢;obtain ⟨g,hg⟩:∃ b,w.heap.size=b:=⟨_,rfl⟩;rw [hg] at M0
 go_enter Tryz.func7,Tryz.ntmps7
 go_upto_region 1 with (fail)
 try rw [hg]
 clear hg;generalize (w.alloc (.cells #[.int .u8 st,.int .i64 wt,.int .i64 co] 60)).alloc (.cells #[.int .u8 k,.int .i64 ic,.int .u8 t] 64)=w1 at *;go_wp2_with fail;refine (AP.out _).mono ?_;rintro _ w2 ⟨A2,c2,rfl,hb,hf,hr⟩
 have M2:=kd ((M0.out.call hb).add (F:=fun W=>Rds W W.heap.size A2 (oCs al)) (za9 hr (fun b o s e=>M0.out.fresh (hf b o s e))));clear hb hf hr;unfold mchV;dsimp only
 go_wp2_with (refine zak rfl 60 (.tmp 7) (.tmp 22) rfl [.int .u8 0,.int .i64 0,.int .i64 0] [.int .u8 sa,.int .i64 sw,.int .i64 sc] rfl rfl (ye1 _ _ _ _ _ _) (ye0 _ _ _) (one3 _ _ _) ?_;intro w2b R2 S2);have M2b:=kd (M2.out.join S2.out zNr R2.out);generalize w2.heap.size=ga at *
 clear R2 S2 M2;refine (AR.out _).mono ?_;rintro _ w3 ⟨A3,c3,rfl,hb,hf,hr⟩;have M3:=kd ((M2b.out.call hb).add (F:=fun W=>Rds W W.heap.size A3 (oCs al)) (za9 hr (fun b o s e=>M2b.out.fresh (hf b o s e))));clear hb hf hr;unfold mchV;dsimp only
 go_upto_region 3 with (refine zak rfl 60 (.tmp 9) (.tmp 27) rfl [.int .u8 0,.int .i64 0,.int .i64 0] [.int .u8 sa,.int .i64 sw,.int .i64 sc] rfl rfl (ye1 _ _ _ _ _ _) (ye0 _ _ _) (one3 _ _ _) ?_;intro w3b R3 S3);have M3b:=kd (M3.out.join S3.out zNr R3.out);generalize w3.heap.size=gb at *
 clear R3 S3 M3;have RA:=kd (M3b.out.row (i:=1) rfl);have RB:=kd (M3b.out.row (i:=0) rfl)
 go_wp2_with (first
  | (with_reducible refine zab rfl 60 (.tmp 7) rfl RA.out rfl Tryz.underlying60 rfl (ye0 _ _ _) ?_)
  | (with_reducible refine zab rfl 60 (.tmp 9) rfl RB.out rfl Tryz.underlying60 rfl (ye0 _ _ _) ?_))
 refine (SM.out al A2 A3 c2 c3 _ (M3b.out.fact (i:=1) rfl) (M3b.out.fact (i:=0) rfl) LA.out).mono ?_;rintro _ w4 ⟨rfl,hb⟩;have M4:=kd (M3b.out.call hb);clear hb RA RB M3b M2b M0;have RM:=kd (M4.out.row (i:=3) rfl);have RA:=kd (M4.out.row (i:=1) rfl)
 have x1:w4.cell? ⟨g,1,none⟩=some (.int .i64 wt):=RM.out.cell 1;go_upto_region 5 with (fail)
 go_wp2_with (first
  | (with_reducible refine zab rfl 60 (.tmp 4) rfl RM.out rfl Tryz.underlying60 rfl (ye0 _ _ _) ?_)
  | (with_reducible refine zab rfl 60 (.tmp 7) rfl RA.out rfl Tryz.underlying60 rfl (ye0 _ _ _) ?_))
 generalize wrap64 (500*2 ^ min (IntKind.u64.wrap (bits BinOp.and IntKind.i64 wt 3)).toNat 64)=X at *;clear RM RA x1 AP AR LA
 have M5:=kd (show Mine w w4 [(g+1,64,[.int .u8 k,.int .i64 ic,.int .u8 t]),(g,60,[.int .u8 st,.int .i64 wt,.int .i64 co])] [] from (M4.out.tail.tail).less (fun F hF=>by cases hF));clear M4
 go_loopw [47] (fun v47 wr => ∃ j:Nat,j≤3∧v47 = .int .i64 j∧Hid (Mine w wr [(g+1,64,[.int .u8 k,.int .i64 ic,.int .u8 t]),(g,60,[.int .u8 st,.int .i64 wt,.int .i64 co])] [])) (fun v47 _=>3 - (intOf v47).toNat)
 case atStart=>exact ⟨0,by omega,rfl,M5⟩
 case round =>
  clear M5;obtain ⟨j,hj,rfl,MJ⟩:=hrel
  by_cases hlt:j<3
  · have hd:decide ((j:Int)<3)=true:=by simp;omega
    obtain ⟨xs,xw,xc,IX⟩:∃ xs xw xc,∀ w,(Instr.index 70 (.agg #[.int .u8 st,.int .i64 wt,.int .i64 co,.int .u8 sa,.int .i64 sw,.int .i64 sc,.int .u8 4,.int .i64 X,.int .i64 200]) (.int .i64 (j:Int))).run Tryz.prog w = .ok (.agg #[.int .u8 xs,.int .i64 xw,.int .i64 xc]) w:=by
     have h3:j=0∨j=1∨j=2:=by omega
     rcases h3 with rfl|rfl|rfl
     · exact ⟨st,wt,co,fun w=>by kernel_rfl⟩
     · exact ⟨sa,sw,sc,fun w=>by kernel_rfl⟩
     · exact ⟨4,X,200,fun w=>by kernel_rfl⟩
    go_upto_region 8 with (refine zak rfl 60 (.tmp 12) (.tmp 49) rfl [.int .u8 0,.int .i64 0,.int .i64 0] [.int .u8 xs,.int .i64 xw,.int .i64 xc] rfl rfl (ye1 _ _ _ _ _ _) (ye0 _ _ _) (one3 _ _ _) ?_;intro w6 R6 S6);have M6:=kd (MJ.out.join S6.out zNr R6.out);generalize wr.heap.size=gx at *
    clear R6 S6 MJ IX;have RI:=kd (M6.out.row (i:=1) rfl);go_upto_region 9 with (with_reducible refine zab rfl 64 (.tmp 5) rfl RI.out rfl Tryz.underlying64 rfl (yfl _ _ _) ?_);clear RI
    go_loopw [55] (fun v55 wx => ∃ i:Nat,i≤4∧v55 = .int .i64 i∧Hid (Mine w wx [(gx,60,[.int .u8 xs,.int .i64 xw,.int .i64 xc]),(g+1,64,[.int .u8 k,.int .i64 ic,.int .u8 t]),(g,60,[.int .u8 st,.int .i64 wt,.int .i64 co])] [])) (fun v55 _=>4 - (intOf v55).toNat)
    case atStart=>exact ⟨0,by omega,rfl,M6⟩
    case round =>
     clear M6;obtain ⟨i,hi,rfl,MK⟩:=hrel
     by_cases hli:i<4
     · have hd4:decide ((i:Int)<4)=true:=by simp;omega
       obtain ⟨yk,yc,yt,IY⟩:∃ yk yc yt,∀ w,(Instr.index 71 (.agg #[.int .u8 k,.int .i64 ic,.int .u8 t,.int .u8 3,.int .i64 0,.int .u8 0,.int .u8 5,.int .i64 0,.int .u8 7,.int .u8 5,.int .i64 0,.int .u8 8]) (.int .i64 (i:Int))).run Tryz.prog w = .ok (.agg #[.int .u8 yk,.int .i64 yc,.int .u8 yt]) w:=by
        have h4:i=0∨i=1∨i=2∨i=3:=by omega
        rcases h4 with rfl|rfl|rfl|rfl
        · exact ⟨k,ic,t,fun w=>by kernel_rfl⟩
        · exact ⟨3,0,0,fun w=>by kernel_rfl⟩
        · exact ⟨5,0,7,fun w=>by kernel_rfl⟩
        · exact ⟨5,0,8,fun w=>by kernel_rfl⟩
       obtain ⟨⟨⟨sa',sw',sc'⟩,rl⟩,hrl⟩:∃ r,ye2 ⟨xs,xw,xc⟩ yk yt=r:=⟨_,rfl⟩;have CP:=kd (fun w=>RP.out ⟨xs,xw,xc⟩ yk yc yt w);have CR:=kd (fun w=>RR.out ⟨xs,xw,xc⟩ yk yc yt w);have LR:=kd (show rl.length≤1000 by have h:=yfj ⟨xs,xw,xc⟩ yk yt;rw [hrl] at h;exact h)
       rw [hrl] at CP CR;dsimp only at CP CR;clear hrl;go_upto_region 11 with (refine zak rfl 64 (.tmp 14) (.tmp 57) rfl [.int .u8 0,.int .i64 0,.int .u8 0] [.int .u8 yk,.int .i64 yc,.int .u8 yt] rfl rfl (ye1 _ _ _ _ _ _) (yfl _ _ _) (one3n _ _ _) ?_;intro w7 R7 S7)
       have M7:=kd (MK.out.join S7.out zNr R7.out);generalize wr.heap.size=gy at *;clear R7 S7 MK IY;have RX:=kd (M7.out.row (i:=1) rfl);have RY:=kd (M7.out.row (i:=0) rfl)
       go_wp2_with (first
        | (with_reducible refine zab rfl 60 (.tmp 12) rfl RX.out rfl Tryz.underlying60 rfl (ye0 _ _ _) ?_)
        | (with_reducible refine zab rfl 64 (.tmp 14) rfl RY.out rfl Tryz.underlying64 rfl (yfl _ _ _) ?_))
       refine (CP.out _).mono ?_;rintro _ w8 ⟨A8,c8,rfl,hb,hf,hr⟩;have M8:=kd ((M7.out.call hb).add (F:=fun W=>Rds W W.heap.size A8 (oCs rl)) (za9 hr (fun b o s e=>M7.out.fresh (hf b o s e))));clear hb hf hr;unfold mchV;dsimp only
       go_upto_region 12 with (refine zak rfl 60 (.tmp 15) (.tmp 62) rfl [.int .u8 0,.int .i64 0,.int .i64 0] [.int .u8 sa',.int .i64 sw',.int .i64 sc'] rfl rfl (ye1 _ _ _ _ _ _) (ye0 _ _ _) (one3 _ _ _) ?_;intro w8b R8 S8);have M8b:=kd (M8.out.join S8.out zNr R8.out)
       generalize w8.heap.size=gc at *;clear R8 S8 M8;clear RX RY M7;have RX:=kd (M8b.out.row (i:=2) rfl);have RY:=kd (M8b.out.row (i:=1) rfl)
       go_wp2_with (first
        | (with_reducible refine zab rfl 60 (.tmp 12) rfl RX.out rfl Tryz.underlying60 rfl (ye0 _ _ _) ?_)
        | (with_reducible refine zab rfl 64 (.tmp 14) rfl RY.out rfl Tryz.underlying64 rfl (yfl _ _ _) ?_))
       refine (CR.out _).mono ?_;rintro _ w9 ⟨A9,c9,rfl,hb,hf,hr⟩;have M9:=kd ((M8b.out.call hb).add (F:=fun W=>Rds W W.heap.size A9 (oCs rl)) (za9 hr (fun b o s e=>M8b.out.fresh (hf b o s e))));clear hb hf hr;unfold mchV;dsimp only
       go_upto_region 13 with (refine zak rfl 60 (.tmp 17) (.tmp 68) rfl [.int .u8 0,.int .i64 0,.int .i64 0] [.int .u8 sa',.int .i64 sw',.int .i64 sc'] rfl rfl (ye1 _ _ _ _ _ _) (ye0 _ _ _) (one3 _ _ _) ?_;intro w9b R9 S9);have M9b:=kd (M9.out.join S9.out zNr R9.out)
       generalize w9.heap.size=ge at *;clear R9 S9 M9;clear RX RY M8b CP CR;have RA:=kd (M9b.out.row (i:=1) rfl);have RB:=kd (M9b.out.row (i:=0) rfl)
       go_wp2_with (first
        | (with_reducible refine zab rfl 60 (.tmp 15) rfl RA.out rfl Tryz.underlying60 rfl (ye0 _ _ _) ?_)
        | (with_reducible refine zab rfl 60 (.tmp 17) rfl RB.out rfl Tryz.underlying60 rfl (ye0 _ _ _) ?_))
       refine (SM.out rl A8 A9 c8 c9 _ (M9b.out.fact (i:=1) rfl) (M9b.out.fact (i:=0) rfl) LR.out).mono ?_;rintro _ w10 ⟨rfl,hb⟩;have MZ:=kd ((M9b.out.call hb).tail.tail.tail.less (FS':=[]) (fun F hF=>by cases hF));clear hb RA RB M9b;go_wp2_with fail;go_roundw
       case rel=>exact ⟨i+1,by omega,by go_num,MZ⟩
       case measure=>simp [intOf];omega
     · have hd4:decide ((i:Int)<4)=false:=by simp;omega
       have MZ:=kd MK.out.tail;clear MK;go_wp2_with fail;go_roundw
       case rel=>exact ⟨j+1,by omega,by go_num,MZ⟩
       case measure=>simp [intOf];omega
  · have hd:decide ((j:Int)<3)=false:=by simp;omega
    go_wp2_with fail;refine (WK.out _ MJ.out.bw).mono ?_;rintro _ wz ⟨rfl,hbz⟩;have BZ:=kd (zao MJ.out.bw hbz);go_wp2_with fail
    first|exact FIN.out _ BZ.out|(go_ret;exact FIN.out _ BZ.out)
end Go.Proofs.YtfnmkedncfdceaaGreatDoor
