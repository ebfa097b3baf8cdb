/- Contracts: the reference's Accept and Repeat. -/
import Derived.Test.YtfnmkedncfdceaaGreatDoorKt
set_option linter.unusedVariables false
set_option linter.unusedSimpArgs false
set_option maxRecDepth 100000
set_option maxHeartbeats 4000000
namespace Go.Proofs.YtfnmkedncfdceaaGreatDoor
open Go.RowKit

theorem yfb (c:Int) (w:World):Calls Tryz.prog 26 #[.int .i64 c] w (OutP w (ye3 c)):=by
 have AC:=kd (fun w=>yfm c 200 299 w);have TM:=kd (fun t a w=>ye8 t a w);have M0:=kd ((Mine.refl w).alloc 60 [.int .u8 0,.int .i64 0,.int .i64 0]);obtain ⟨R,hR⟩:∃ r,ye3 c=r:=⟨_,rfl⟩;rw [hR];have HR:=kd hR;clear hR
 have FIN0:=kd (fun (h:R=(⟨0,0,0⟩,[])) W (hb:Below w.heap.size w W)=>OutP.nil h hb)
 have FIN3:=kd (fun (h:R=(⟨4,500,c⟩,[⟨1,c,0,0⟩,⟨4,0,7,500⟩,⟨4,0,8,32000⟩])) W x (hb:Below w.heap.size w W) (hx:w.heap.size≤x) (hr:Row W x 109 [.int .u8 1,.int .i64 c,.int .u8 0,.int .i64 0,.int .u8 4,.int .i64 0,.int .u8 7,.int .i64 500,.int .u8 4,.int .i64 0,.int .u8 8,.int .i64 32000])=>OutP.rows (n:=3) h rfl hb hx hr)
 unfold ye3 at HR;generalize OutP w R=PO at *;obtain ⟨b,hb⟩:∃ b,w.heap.size=b:=⟨_,rfl⟩;rw [hb] at M0;unfold oC at TM;dsimp only at TM
 cases ha:accL c
 · have E:=kd (show R=(⟨0,0,0⟩,[]) by rw [← HR.out,ha];rfl)
   have AC:=kd (fun w=>(AC.out w).mono (R':=fun e w'=>e = .returned (.bool false)∧w=w') fun e w' h=>⟨by rw [h.1];first|rw [ha]|(unfold accL at ha;rw [ha]),h.2⟩);clear HR FIN3 TM ha
   go_enter Tryz.func26,Tryz.ntmps26
   go_upto_region 1 with (fail)
   try rw [hb]
   generalize w.alloc (.cells #[.int .u8 0,.int .i64 0,.int .i64 0] 60)=w1 at *;clear hb;go_wp2_with fail;refine (AC.out _).mono ?_;rintro _ _ ⟨rfl,rfl⟩
   go_wp2_with (with_reducible refine zad M0.out 0 rfl 60 (.tmp 2) (.tmp 7) rfl [.int .u8 0,.int .i64 0,.int .i64 0] _ rfl rfl rfl rfl ?hl ?hz ?h1 ?hh)
   case hl=>exact ye1 _ _ _ _ _ _
   case hz=>exact ye0 _ _ _
   case h1=>exact one3 _ _ _
   case hh =>
   intro w3 M3;go_wp2_with fail;exact bodyPost_ret (zah rfl _ _ _ b [.int .u8 0,.int .i64 0,.int .i64 0] _ rfl (M3.out.row (i:=0) rfl).range Tryz.underlying60 rfl (ye0 _ _ _)) rfl (by exact FIN0.out E.out _ M3.out.bw)
 · have E:=kd (show R=(⟨4,500,c⟩,[⟨1,c,0,0⟩,⟨4,0,7,500⟩,⟨4,0,8,32000⟩]) by rw [← HR.out,ha];rfl)
   have AC:=kd (fun w=>(AC.out w).mono (R':=fun e w'=>e = .returned (.bool true)∧w=w') fun e w' h=>⟨by rw [h.1];first|rw [ha]|(unfold accL at ha;rw [ha]),h.2⟩);clear HR FIN0 ha
   go_enter Tryz.func26,Tryz.ntmps26
   go_upto_region 1 with (fail)
   try rw [hb]
   generalize w.alloc (.cells #[.int .u8 0,.int .i64 0,.int .i64 0] 60)=w1 at *;clear hb;go_wp2_with fail;refine (AC.out _).mono ?_;rintro _ _ ⟨rfl,rfl⟩
   have R3:=kd (Row.new w1 109 [.int .u8 1,.int .i64 c,.int .u8 0,.int .i64 0,.int .u8 4,.int .i64 0,.int .u8 7,.int .i64 500,.int .u8 4,.int .i64 0,.int .u8 8,.int .i64 32000])
   have B3:=kd ((Below.refl w1.heap.size w1).alloc zNr (.cells #[.int .u8 1,.int .i64 c,.int .u8 0,.int .i64 0,.int .u8 4,.int .i64 0,.int .u8 7,.int .i64 500,.int .u8 4,.int .i64 0,.int .u8 8,.int .i64 32000] 109))
   go_wp2_with (with_reducible refine zad (M0.out.join B3.out zNr R3.out) 1 rfl 60 (.tmp 2) (.tmp 9) rfl [.int .u8 4,.int .i64 500,.int .i64 c] _ rfl rfl rfl rfl ?hl ?hz ?h1 ?hh)
   case hl=>exact ye1 _ _ _ _ _ _
   case hz=>exact ye0 _ _ _
   case h1=>exact one3 _ _ _
   case hh =>
   intro w3 M3;go_wp2_with fail;exact bodyPost_ret (zah rfl _ _ _ b [.int .u8 4,.int .i64 500,.int .i64 c] _ rfl (M3.out.row (i:=1) rfl).range Tryz.underlying60 rfl (ye0 _ _ _)) rfl (by exact FIN3.out E.out _ _ M3.out.bw (M3.out.ge (i:=0) rfl) (M3.out.row (i:=0) rfl))
theorem yfa (m:Mach) (k ic t:Int) (w:World):Calls Tryz.prog 29 #[mchV m,.agg #[.int .u8 k,.int .i64 ic,.int .u8 t]] w (OutP w (ye2 m k t)):=by
 have SH:=kd (fun w=>yff m w);have FR:=kd (fun w=>yfm m.co 200 299 w);obtain ⟨st,wt,co⟩:=m;have M0:=kd (ye9 w 60 64 60 [.int .u8 st,.int .i64 wt,.int .i64 co] [.int .u8 k,.int .i64 ic,.int .u8 t] [.int .u8 0,.int .i64 0,.int .i64 0])
 obtain ⟨R,hR⟩:∃ r,ye2 ⟨st,wt,co⟩ k t=r:=⟨_,rfl⟩;rw [hR];have HR:=kd hR;clear hR;have FIN0:=kd (fun a b c (h:R=(⟨a,b,c⟩,[])) W (hb:Below w.heap.size w W)=>OutP.nil h hb)
 have FIN1:=kd (fun a b c x (h:R=(⟨a,b,c⟩,[x])) W y (hb:Below w.heap.size w W) (hx:w.heap.size≤y) (hr:Row W y 109 (oCs [x]))=>OutP.rows (n:=1) h rfl hb hx hr)
 have FIN2:=kd (fun a b c x z (h:R=(⟨a,b,c⟩,[x,z])) W y (hb:Below w.heap.size w W) (hx:w.heap.size≤y) (hr:Row W y 109 (oCs [x,z]))=>OutP.rows (n:=2) h rfl hb hx hr);unfold ye2 at HR;dsimp only at HR;generalize OutP w R=PO at *
 obtain ⟨g,hg⟩:∃ b,w.heap.size=b:=⟨_,rfl⟩;obtain ⟨b,hb⟩:∃ b,g+1+1=b:=⟨_,rfl⟩;rw [hg,hb] at M0;unfold mchV at SH ⊢;dsimp only at SH FR ⊢;have RM:=kd (M0.out.row (i:=2) rfl);have z0:∀ w',Below w.heap.size w w'→True:=fun _ _=>trivial
 cases hr:yfe ⟨st,wt,co⟩
 · have E:=kd (show R=(⟨st,wt,co⟩,[]) by rw [← HR.out,hr];rfl)
   have MQ:=kd (fun w' (M':Mine w w' [(b,60,[.int .u8 0,.int .i64 0,.int .i64 0]),(g+1,64,[.int .u8 k,.int .i64 ic,.int .u8 t]),(g,60,[.int .u8 st,.int .i64 wt,.int .i64 co])] [])=>M');clear HR FIN1 FIN2
   by_cases h4:st=4
   · subst h4
     have p0:((4:Int) != 4)=false:=by decide
     cases hs:ye5 wt
     · rw [hs] at SH
       clear hr hs FR
       go_enter Tryz.func29,Tryz.ntmps29
       go_upto_region 1 with (fail)
       try rw [hg]
       try rw [hb]
       generalize ((w.alloc (.cells #[.int .u8 4,.int .i64 wt,.int .i64 co] 60)).alloc (.cells #[.int .u8 k,.int .i64 ic,.int .u8 t] 64)).alloc (.cells #[.int .u8 0,.int .i64 0,.int .i64 0] 60)=w1 at *;clear hg hb
       have x0:w1.cell? ⟨g,0,none⟩=some (.int .u8 4):=(M0.out.row (i:=2) rfl).cell 0;have x1:w1.cell? ⟨g,1,none⟩=some (.int .i64 wt):=(M0.out.row (i:=2) rfl).cell 1;have x2:w1.cell? ⟨g,2,none⟩=some (.int .i64 co):=(M0.out.row (i:=2) rfl).cell 2
       go_wp2_with (with_reducible refine zab rfl 60 (.tmp 2) rfl RM.out rfl Tryz.underlying60 rfl (ye0 _ _ _) ?_);refine (SH.out _).mono ?_;rintro _ w2 ⟨rfl,hb2⟩;have x2x:=x2;clear x2;have M2:=kd (M0.out.call hb2);have RM2:=kd (M2.out.row (i:=2) rfl);clear hb2 RM M0 x0 x1 x2x
       go_wp2_with (first
        | (with_reducible refine zab rfl 60 (.tmp 2) rfl RM2.out rfl Tryz.underlying60 rfl (ye0 _ _ _) ?_)
        | (with_reducible refine zad M2.out 0 rfl 60 (.tmp 4) (.tmp 21) rfl [.int .u8 4,.int .i64 wt,.int .i64 co] _ rfl rfl rfl rfl ?hl ?hz ?h1 ?hh))
       case hl=>exact ye1 _ _ _ _ _ _
       case hz=>exact ye0 _ _ _
       case h1=>exact one3 _ _ _
       case hh =>
       intro w3 M3;go_wp2_with fail;exact bodyPost_ret (zah rfl _ _ _ b [.int .u8 4,.int .i64 wt,.int .i64 co] _ rfl (M3.out.row (i:=0) rfl).range Tryz.underlying60 rfl (ye0 _ _ _)) rfl (by exact FIN0.out _ _ _ E.out _ M3.out.bw)
     · rw [hs] at SH
       have FR:=kd (fun w=>(FR.out w).mono (R':=fun e w'=>e = .returned (.bool false)∧w=w') fun e w' h=>⟨by rw [h.1];unfold yfe accL at hr;dsimp only at hr;rw [hs] at hr;simpa using hr,h.2⟩);clear hr hs
       go_enter Tryz.func29,Tryz.ntmps29
       go_upto_region 1 with (fail)
       try rw [hg]
       try rw [hb]
       generalize ((w.alloc (.cells #[.int .u8 4,.int .i64 wt,.int .i64 co] 60)).alloc (.cells #[.int .u8 k,.int .i64 ic,.int .u8 t] 64)).alloc (.cells #[.int .u8 0,.int .i64 0,.int .i64 0] 60)=w1 at *;clear hg hb
       have x0:w1.cell? ⟨g,0,none⟩=some (.int .u8 4):=(M0.out.row (i:=2) rfl).cell 0;have x1:w1.cell? ⟨g,1,none⟩=some (.int .i64 wt):=(M0.out.row (i:=2) rfl).cell 1;have x2:w1.cell? ⟨g,2,none⟩=some (.int .i64 co):=(M0.out.row (i:=2) rfl).cell 2
       go_wp2_with (with_reducible refine zab rfl 60 (.tmp 2) rfl RM.out rfl Tryz.underlying60 rfl (ye0 _ _ _) ?_);refine (SH.out _).mono ?_;rintro _ w2 ⟨rfl,hb2⟩;have x2x:=x2;clear x2;have M2:=kd (M0.out.call hb2);have RM2:=kd (M2.out.row (i:=2) rfl)
       have x2:w2.cell? ⟨g,2,none⟩=some (.int .i64 co):=RM2.out.cell 2;clear hb2 RM M0 x0 x1 x2x;go_wp2_with fail;refine (FR.out _).mono ?_;rintro _ _ ⟨rfl,rfl⟩;clear x2
       go_wp2_with (first
        | (with_reducible refine zab rfl 60 (.tmp 2) rfl RM2.out rfl Tryz.underlying60 rfl (ye0 _ _ _) ?_)
        | (with_reducible refine zad M2.out 0 rfl 60 (.tmp 4) (.tmp 21) rfl [.int .u8 4,.int .i64 wt,.int .i64 co] _ rfl rfl rfl rfl ?hl ?hz ?h1 ?hh))
       case hl=>exact ye1 _ _ _ _ _ _
       case hz=>exact ye0 _ _ _
       case h1=>exact one3 _ _ _
       case hh =>
       intro w3 M3;go_wp2_with fail;exact bodyPost_ret (zah rfl _ _ _ b [.int .u8 4,.int .i64 wt,.int .i64 co] _ rfl (M3.out.row (i:=0) rfl).range Tryz.underlying60 rfl (ye0 _ _ _)) rfl (by exact FIN0.out _ _ _ E.out _ M3.out.bw)
   · have p0:(st != 4)=true:=by simpa using h4
     clear hr SH FR
     go_enter Tryz.func29,Tryz.ntmps29
     go_upto_region 1 with (fail)
     try rw [hg]
     try rw [hb]
     generalize ((w.alloc (.cells #[.int .u8 st,.int .i64 wt,.int .i64 co] 60)).alloc (.cells #[.int .u8 k,.int .i64 ic,.int .u8 t] 64)).alloc (.cells #[.int .u8 0,.int .i64 0,.int .i64 0] 60)=w1 at *;clear hg hb
     have x0:w1.cell? ⟨g,0,none⟩=some (.int .u8 st):=(M0.out.row (i:=2) rfl).cell 0;have x1:w1.cell? ⟨g,1,none⟩=some (.int .i64 wt):=(M0.out.row (i:=2) rfl).cell 1;have x2:w1.cell? ⟨g,2,none⟩=some (.int .i64 co):=(M0.out.row (i:=2) rfl).cell 2
     go_wp2_with (first
      | (with_reducible refine zab rfl 60 (.tmp 2) rfl RM.out rfl Tryz.underlying60 rfl (ye0 _ _ _) ?_)
      | (with_reducible refine zad M0.out 0 rfl 60 (.tmp 4) (.tmp 21) rfl [.int .u8 st,.int .i64 wt,.int .i64 co] _ rfl rfl rfl rfl ?hl ?hz ?h1 ?hh))
     case hl=>exact ye1 _ _ _ _ _ _
     case hz=>exact ye0 _ _ _
     case h1=>exact one3 _ _ _
     case hh =>
     intro w3 M3;go_wp2_with fail;exact bodyPost_ret (zah rfl _ _ _ b [.int .u8 st,.int .i64 wt,.int .i64 co] _ rfl (M3.out.row (i:=0) rfl).range Tryz.underlying60 rfl (ye0 _ _ _)) rfl (by exact FIN0.out _ _ _ E.out _ M3.out.bw)
 have hr2:=hr;unfold yfe at hr2;dsimp only at hr2;rw [Bool.and_eq_true,Bool.and_eq_true,beq_iff_eq] at hr2;obtain ⟨⟨hs,rfl⟩,hac⟩:=hr2;rw [hr] at HR;rw [if_neg (by decide)] at HR;rw [hs] at SH
 have FR:=kd (fun w=>(FR.out w).mono (R':=fun e w'=>e = .returned (.bool true)∧w=w') fun e w' h=>⟨by rw [h.1];unfold accL at hac;rw [hac],h.2⟩)
 have p0:((4:Int) != 4)=false:=by decide
 clear hr hac
 go_enter Tryz.func29,Tryz.ntmps29
 go_upto_region 1 with (fail)
 try rw [hg]
 try rw [hb]
 generalize ((w.alloc (.cells #[.int .u8 4,.int .i64 wt,.int .i64 co] 60)).alloc (.cells #[.int .u8 k,.int .i64 ic,.int .u8 t] 64)).alloc (.cells #[.int .u8 0,.int .i64 0,.int .i64 0] 60)=w1 at *;clear hg hb
 have x0:w1.cell? ⟨g,0,none⟩=some (.int .u8 4):=(M0.out.row (i:=2) rfl).cell 0;have x1:w1.cell? ⟨g,1,none⟩=some (.int .i64 wt):=(M0.out.row (i:=2) rfl).cell 1;have x2:w1.cell? ⟨g,2,none⟩=some (.int .i64 co):=(M0.out.row (i:=2) rfl).cell 2
 go_wp2_with (with_reducible refine zab rfl 60 (.tmp 2) rfl RM.out rfl Tryz.underlying60 rfl (ye0 _ _ _) ?_);refine (SH.out _).mono ?_;rintro _ w2 ⟨rfl,hb2⟩;have x2x:=x2;clear x2;have M2:=kd (M0.out.call hb2);have RM2:=kd (M2.out.row (i:=2) rfl)
 have x2:w2.cell? ⟨g,2,none⟩=some (.int .i64 co):=RM2.out.cell 2;clear hb2 RM M0 x0 x1 x2x SH;go_wp2_with fail;refine (FR.out _).mono ?_;rintro _ _ ⟨rfl,rfl⟩;clear FR p0
 go_upto_region 4 with (refine zak rfl 60 (.tmp 6) (.tmp 24) rfl [.int .u8 0,.int .i64 0,.int .i64 0] [.int .u8 7,.int .i64 0,.int .i64 co] rfl rfl (ye1 _ _ _ _ _ _) (ye0 _ _ _) (one3 _ _ _) ?_;intro w5 R5 S5);have M5:=kd (M2.out.join S5.out zNr R5.out);generalize w2.heap.size=ge at *
 clear R5 S5 M2 RM2 x2
 have MB:=kd (show Mine w w5 [(b,60,[.int .u8 0,.int .i64 0,.int .i64 0]),(ge,60,[.int .u8 7,.int .i64 0,.int .i64 co]),(g+1,64,[.int .u8 k,.int .i64 ic,.int .u8 t]),(g,60,[.int .u8 4,.int .i64 wt,.int .i64 co])] [] from M5.out.sub (fun r hr=>by simp only [List.mem_cons,List.not_mem_nil,or_false] at hr ⊢;rcases hr with rfl|rfl|rfl|rfl<;>simp) (by have:=M5.out.nd;simp at this ⊢;omega))
 clear M5;have y0:w5.cell? ⟨g+1,0,none⟩=some (.int .u8 k):=(MB.out.row (i:=2) rfl).cell 0;have y2:w5.cell? ⟨g+1,2,none⟩=some (.int .u8 t):=(MB.out.row (i:=2) rfl).cell 2
 by_cases hk3:k=3
 · subst hk3
   have E:=kd (show R=(⟨7,0,co⟩,[⟨7,0,0,0⟩]) by rw [← HR.out];rfl);clear HR FIN0 FIN2 hs;have RE:=kd (MB.out.row (i:=1) rfl);have R7:=kd (Row.new w5 109 [.int .u8 7,.int .i64 0,.int .u8 0,.int .i64 0])
   have B7:=kd ((Below.refl w5.heap.size w5).alloc zNr (.cells #[.int .u8 7,.int .i64 0,.int .u8 0,.int .i64 0] 109));go_upto_region 10 with (fail);clear y0 y2
   go_wp2_with (first
    | (with_reducible refine zab rfl 60 (.tmp 6) rfl RE.out rfl Tryz.underlying60 rfl (ye0 _ _ _) ?_)
    | (with_reducible refine zad (MB.out.join B7.out zNr R7.out) 1 rfl 60 (.tmp 4) (.tmp 64) rfl [.int .u8 7,.int .i64 0,.int .i64 co] _ rfl rfl rfl rfl ?hl ?hz ?h1 ?hh))
   case hl=>exact ye1 _ _ _ _ _ _
   case hz=>exact ye0 _ _ _
   case h1=>exact one3 _ _ _
   case hh =>
   intro w7 M7;go_wp2_with fail;exact bodyPost_ret (zah rfl _ _ _ b [.int .u8 7,.int .i64 0,.int .i64 co] _ rfl (M7.out.row (i:=1) rfl).range Tryz.underlying60 rfl (ye0 _ _ _)) rfl (by exact FIN1.out _ _ _ _ E.out _ _ M7.out.bw (M7.out.ge (i:=0) rfl) (M7.out.row (i:=0) rfl))
 have hk3b:(k == 3)=false:=by simpa using hk3
 rw [if_neg hk3] at HR
 by_cases hk5:k=5
 · subst hk5
   by_cases ht7:t=7
   · subst ht7
     rw [if_pos ⟨rfl,rfl⟩] at HR;have x1:w5.cell? ⟨g,1,none⟩=some (.int .i64 wt):=(MB.out.row (i:=3) rfl).cell 1;have f1:w5.frozen? ⟨g,1,none⟩=false:=(MB.out.row (i:=3) rfl).frozen 1;obtain ⟨nw,hnw⟩:∃ x,min (2*wt) 4000=x:=⟨_,rfl⟩
     have E:=kd (show R=(⟨4,nw,co⟩,[⟨1,co,0,0⟩,⟨4,0,7,nw⟩]) by rw [← HR.out,hnw])
     have wb:500≤wt∧wt≤4000:=by rcases ye7 hs with rfl|rfl|rfl|rfl<;>omega
     obtain ⟨wb1,wb2⟩:=wb
     have ww:wrap64 (2*wt)=2*wt:=by unfold wrap64;omega
     clear HR FIN0 FIN1 hs;go_upto_region 5 with (fail);clear y0 y2;go_upto_region 6 with (fail)
     try rw [ww]
     try rw [hnw]
     have M8:=kd (MB.out.setCell (.int .i64 nw) (i:=3) (off:=1) rfl rfl);generalize w5.setCell ⟨g,1,none⟩ (.int .i64 nw)=w8 at *;clear x1 f1 MB hnw ww wb1 wb2
     refine ye4 (by kernel_rfl) (by kernel_rfl) (fun (i:Nat) (W:World) (v:Value)=>match i with
      | 0=>v=(.agg ([.int .u8 4,.int .i64 nw,.int .i64 co]:List Value).toArray)
      | 1=>v=(.pointer (some ⟨g,2,none⟩))
      | 2=>v=(.int .i64 co)
      | 3=>v=(.agg #[.int .u8 1,.int .i64 co,.int .u8 0,.int .i64 0])
      | 4=>v=(.pointer (some ⟨g,1,none⟩))
      | 5=>v=(.int .i64 nw)
      | 6=>v=(.agg #[.int .u8 4,.int .i64 0,.int .u8 7,.int .i64 nw])
      | 7=>SlO b w.heap.size [.int .u8 1,.int .i64 co,.int .u8 0,.int .i64 0,.int .u8 4,.int .i64 0,.int .u8 7,.int .i64 nw] 2 W v
      | 9=>SlO b w.heap.size [.int .u8 1,.int .i64 co,.int .u8 0,.int .i64 0,.int .u8 4,.int .i64 0,.int .u8 7,.int .i64 nw] 2 W v
      | _=>True) 8 0 4 39 b 60 [.int .u8 0,.int .i64 0,.int .i64 0] [.int .u8 4,.int .i64 nw,.int .i64 co] (by kernel_rfl) M8.out _ _ rfl rfl rfl rfl (by kernel_rfl) rfl rfl rfl (by kernel_rfl) (fun _ _ h=>h) rfl (ye0 _ _ _) (one3 _ _ _) ?hAm ?hAs ?hstep ?hend
     case hAm =>
      intro i v W W' hb h
      rcases i with _|_|_|_|_|_|_|_|_|_|i
      all_goals first
       | exact h
       | exact SlO.below h hb
     case hAs =>
      intro i v W h
      rcases i with _|_|_|_|_|_|_|_|_|_|i
      all_goals first
       | exact h
       | exact SlO.set h
     case hstep =>
      intro i o hne ho a' W cs MW hF hD
      match i,ho,hne with
       | 0,ho,hne =>
         obtain rfl:=zSi ho;exact (zaf ho rfl (zf4 60 (.tmp 2) rfl g 0 [.int .u8 4,.int .i64 nw,.int .i64 co] _ ((zap hF (by kernel_rfl)).trans rfl) ((MW.row (i:=3) rfl).range) Tryz.underlying60 rfl (ye0 _ _ _) ⟨_,rfl,Below.refl _ _,fun _ _=>rfl⟩))
       | 1,ho,hne =>
         obtain rfl:=zSi ho;exact (zaf ho rfl (zdm 60 (.tmp 2) 2 rfl g 2 ((zap hF (by kernel_rfl)).trans rfl) (fun w=>by kernel_rfl) ⟨_,rfl,Below.refl _ _,fun _ _=>rfl⟩))
       | 2,ho,hne =>
         obtain rfl:=zSi ho;exact (zaf ho rfl (zbu 3 (.tmp 40) rfl g 2 (.int .i64 co) (zai hD 1 (by kernel_rfl) rfl rfl) ((MW.row (i:=3) rfl).cell 2) _ Tryz.underlying3 rfl ⟨_,rfl,Below.refl _ _,fun _ _=>rfl⟩))
       | 3,ho,hne =>
         obtain rfl:=zSi ho;have hx0:a'.eval (.tmp 41) = .int .i64 co:=(zai hD 2 (by kernel_rfl) rfl rfl)
         exact (zaf ho rfl (zfq 109 _ rfl [(0,.int .u8 1),(1,.int .i64 co)] (by first|(simp only [List.map_toArray,List.map_cons,List.map_nil,hx0];rfl)|simp only [List.map_toArray,List.map_cons,List.map_nil,hx0]) #[.int .u8 1,.int .i64 co,.int .u8 0,.int .i64 0] (by kernel_rfl) ⟨_,rfl,Below.refl _ _,fun _ _=>rfl⟩))
       | 4,ho,hne =>
         obtain rfl:=zSi ho;exact (zaf ho rfl (zdm 60 (.tmp 2) 1 rfl g 1 ((zap hF (by kernel_rfl)).trans rfl) (fun w=>by kernel_rfl) ⟨_,rfl,Below.refl _ _,fun _ _=>rfl⟩))
       | 5,ho,hne =>
         obtain rfl:=zSi ho;exact (zaf ho rfl (zbu 3 (.tmp 43) rfl g 1 (.int .i64 nw) (zai hD 4 (by kernel_rfl) rfl rfl) ((MW.row (i:=3) rfl).cell 1) _ Tryz.underlying3 rfl ⟨_,rfl,Below.refl _ _,fun _ _=>rfl⟩))
       | 6,ho,hne =>
         obtain rfl:=zSi ho;have hx0:a'.eval (.tmp 44) = .int .i64 nw:=(zai hD 5 (by kernel_rfl) rfl rfl)
         exact (zaf ho rfl (zfq 109 _ rfl [(0,.int .u8 4),(2,.int .u8 7),(3,.int .i64 nw)] (by first|(simp only [List.map_toArray,List.map_cons,List.map_nil,hx0];rfl)|simp only [List.map_toArray,List.map_cons,List.map_nil,hx0]) #[.int .u8 4,.int .i64 0,.int .u8 7,.int .i64 nw] (by kernel_rfl) ⟨_,rfl,Below.refl _ _,fun _ _=>rfl⟩))
       | 7,ho,hne =>
         obtain rfl:=zSi ho;have hx0:a'.eval (.tmp 42) = .agg #[.int .u8 1,.int .i64 co,.int .u8 0,.int .i64 0]:=(zai hD 3 (by kernel_rfl) rfl rfl);have hx1:a'.eval (.tmp 45) = .agg #[.int .u8 4,.int .i64 0,.int .u8 7,.int .i64 nw]:=(zai hD 6 (by kernel_rfl) rfl rfl)
         exact (zaf ho rfl (yfg (.tmp 42) (.tmp 45) rfl _ _ _ _ _ _ _ _ hx0 hx1 fun hr=>⟨_,rfl,zBr.alloc zNr _,fun _ _=>⟨_,rfl,Nat.ne_of_gt (MW.row (i:=0) rfl).lt,MW.bw.size,hr⟩⟩))
       | 8,ho,hne=>exact absurd rfl hne
       | 9,ho,hne =>
         obtain rfl:=zSi ho;exact (zaf ho rfl (zb5 (.tmp 46) (.inr rfl) ⟨_,rfl,Below.refl _ _,fun _ _=>(zai hD 7 (by kernel_rfl) rfl rfl)⟩))
       | j+10,ho,hne=>exact absurd ho (by simp)
     case hend =>
     intro vs W MX hlen hall
     obtain ⟨u0,u1,u2,u3,u4,u5,u6,u7,u8,u9,rfl⟩:∃ u0 u1 u2 u3 u4 u5 u6 u7 u8 u9,vs=[u0,u1,u2,u3,u4,u5,u6,u7,u8,u9]:=by
      match vs,hlen with
      | [u0,u1,u2,u3,u4,u5,u6,u7,u8,u9],_=>exact ⟨_,_,_,_,_,_,_,_,_,_,rfl⟩
     obtain ⟨x,rfl,hxb,hxl,hxr⟩:=(show SlO b w.heap.size [.int .u8 1,.int .i64 co,.int .u8 0,.int .i64 0,.int .u8 4,.int .i64 0,.int .u8 7,.int .i64 nw] 2 W u9 from hall 9 _ 5 u9 rfl rfl rfl);have MX:=kd MX;have XL:=kd hxl;have XR:=kd hxr;clear hall hlen hxb hxl hxr
     simp only [putL,Act.put,List.setIfInBounds_toArray,List.set_cons_zero,List.set_cons_succ];go_wp2_with fail
     exact bodyPost_ret (zah rfl _ _ _ b [.int .u8 4,.int .i64 nw,.int .i64 co] _ rfl (MX.out.row (i:=0) rfl).range Tryz.underlying60 rfl (ye0 _ _ _)) rfl (by exact FIN2.out _ _ _ _ _ E.out _ _ MX.out.bw XL.out XR.out)
   · have ht7b:(t == 7)=false:=by simpa using ht7
     rw [if_neg (fun h=>ht7 h.2)] at HR
     by_cases ht8:t=8
     · subst ht8
       rw [if_pos ⟨rfl,rfl⟩] at HR;have E:=kd (show R=(⟨7,0,co⟩,[⟨5,0,0,0⟩,⟨7,0,0,0⟩]) by rw [← HR.out]);clear HR FIN0 FIN1 hs;have RE:=kd (MB.out.row (i:=1) rfl)
       have R7:=kd (Row.new w5 109 [.int .u8 5,.int .i64 0,.int .u8 0,.int .i64 0,.int .u8 7,.int .i64 0,.int .u8 0,.int .i64 0])
       have B7:=kd ((Below.refl w5.heap.size w5).alloc zNr (.cells #[.int .u8 5,.int .i64 0,.int .u8 0,.int .i64 0,.int .u8 7,.int .i64 0,.int .u8 0,.int .i64 0] 109));go_upto_region 8 with (fail);clear y0 y2
       go_wp2_with (first
        | (with_reducible refine zab rfl 60 (.tmp 6) rfl RE.out rfl Tryz.underlying60 rfl (ye0 _ _ _) ?_)
        | (with_reducible refine zad (MB.out.join B7.out zNr R7.out) 1 rfl 60 (.tmp 4) (.tmp 56) rfl [.int .u8 7,.int .i64 0,.int .i64 co] _ rfl rfl rfl rfl ?hl ?hz ?h1 ?hh))
       case hl=>exact ye1 _ _ _ _ _ _
       case hz=>exact ye0 _ _ _
       case h1=>exact one3 _ _ _
       case hh =>
       intro w7 M7;go_wp2_with fail;exact bodyPost_ret (zah rfl _ _ _ b [.int .u8 7,.int .i64 0,.int .i64 co] _ rfl (M7.out.row (i:=1) rfl).range Tryz.underlying60 rfl (ye0 _ _ _)) rfl (by exact FIN2.out _ _ _ _ _ E.out _ _ M7.out.bw (M7.out.ge (i:=0) rfl) (M7.out.row (i:=0) rfl))
     · have ht8b:(t == 8)=false:=by simpa using ht8
       have E:=kd (show R=(⟨4,wt,co⟩,[]) by rw [← HR.out];simp [*]);have RMB:=kd (MB.out.row (i:=3) rfl);clear HR FIN1 FIN2 hs;go_upto_region 11 with (fail);clear y0 y2
       go_wp2_with (first
        | (with_reducible refine zab rfl 60 (.tmp 2) rfl RMB.out rfl Tryz.underlying60 rfl (ye0 _ _ _) ?_)
        | (with_reducible refine zad MB.out 0 rfl 60 (.tmp 4) (.tmp 67) rfl [.int .u8 4,.int .i64 wt,.int .i64 co] _ rfl rfl rfl rfl ?hl ?hz ?h1 ?hh))
       case hl=>exact ye1 _ _ _ _ _ _
       case hz=>exact ye0 _ _ _
       case h1=>exact one3 _ _ _
       case hh =>
       intro w6 M6;go_wp2_with fail;exact bodyPost_ret (zah rfl _ _ _ b [.int .u8 4,.int .i64 wt,.int .i64 co] _ rfl (M6.out.row (i:=0) rfl).range Tryz.underlying60 rfl (ye0 _ _ _)) rfl (by exact FIN0.out _ _ _ E.out _ M6.out.bw)
 · have hk5b:(k == 5)=false:=by simpa using hk5
   have E:=kd (show R=(⟨4,wt,co⟩,[]) by rw [← HR.out];simp [*]);have RMB:=kd (MB.out.row (i:=3) rfl);clear HR FIN1 FIN2 hs;go_upto_region 11 with (fail);clear y0 y2
   go_wp2_with (first
    | (with_reducible refine zab rfl 60 (.tmp 2) rfl RMB.out rfl Tryz.underlying60 rfl (ye0 _ _ _) ?_)
    | (with_reducible refine zad MB.out 0 rfl 60 (.tmp 4) (.tmp 67) rfl [.int .u8 4,.int .i64 wt,.int .i64 co] _ rfl rfl rfl rfl ?hl ?hz ?h1 ?hh))
   case hl=>exact ye1 _ _ _ _ _ _
   case hz=>exact ye0 _ _ _
   case h1=>exact one3 _ _ _
   case hh =>
   intro w6 M6;go_wp2_with fail;exact bodyPost_ret (zah rfl _ _ _ b [.int .u8 4,.int .i64 wt,.int .i64 co] _ rfl (M6.out.row (i:=0) rfl).range Tryz.underlying60 rfl (ye0 _ _ _)) rfl (by exact FIN0.out _ _ _ E.out _ M6.out.bw)
end Go.Proofs.YtfnmkedncfdceaaGreatDoor
