/- Contract: a birth's dialog. -/
import Derived.Test.YtfnmkedncfdceaaGreatDoorIm
set_option linter.unusedVariables false
set_option linter.unusedSimpArgs false
set_option maxRecDepth 100000
set_option maxHeartbeats 8000000
namespace Go.Proofs.YtfnmkedncfdceaaGreatDoor
open Go.RowKit

def dgC (d:Dlg) (A:Option Addr) (c:Nat):List Value:=[.int .u8 d.st,.bool d.cl,.string (strOfNums d.ci),.string (strOfNums d.lt),.string (strOfNums d.rt),.string (strOfNums d.lu),.string (strOfNums d.ru),.string (strOfNums d.tg),.slice A d.rs.length c,.int .i64 d.ls,.int .i64 d.rq,.int .i64 d.iq]
theorem zae (a b c d e f g h i j k l:Value):(Tryz.prog.info? 25).map (·.size)=some [a,b,c,d,e,f,g,h,i,j,k,l].length:=show (Tryz.prog.info? 25).map (·.size)=some 12 by kernel_rfl
theorem za6 {a b c d e f g h i j k l a' b' c' d' e' f' g' h' i' j' k' l':Value}:[a,b,c,d,e,f,g,h,i,j,k,l].length=[a',b',c',d',e',f',g',h',i',j',k',l'].length:=rfl
theorem zat {x:Int} {b:Bool} {s1 s2 s3 s4 s5 s6:ByteArray} {A:Option Addr} {n c:Nat} {k l m:Int}:∀ u∈[Value.int .u8 x,.bool b,.string s1,.string s2,.string s3,.string s4,.string s5,.string s6,.slice A n c,.int .i64 k,.int .i64 l,.int .i64 m],u.oneCell'=true:=fun u hu=>by
 simp only [List.mem_cons,List.not_mem_nil,or_false] at hu
 rcases hu with rfl|rfl|rfl|rfl|rfl|rfl|rfl|rfl|rfl|rfl|rfl|rfl<;>rfl
theorem zqt (q r:Msg) (A1 B1 A2 B2:Option Addr) (c1 n1 d1 c2 n2 d2:Nat) (w:World) (HQ:MArg w q A1) (HR:MArg w r A2) (G:GW w) :
  Calls Tryz.prog 91 #[.agg #[.string (strOfNums q.me),.string (strOfNums q.ur),.int .i64 q.co,.string (strOfNums q.re),.slice A1 q.hs.length c1,.slice B1 n1 d1,.string (strOfNums r.me),.string (strOfNums r.ur),.int .i64 r.co,.string (strOfNums r.re),.slice A2 r.hs.length c2,.slice B2 n2 d2],.bool true] w fun e w'=>e = .returned (.tuple #[.agg (dgC (zdb q r true).1 none 0).toArray,.bool (zdb q r true).2])∧Below w.heap.size w w':=by
 have M0:=kd (show Mine w ((w.alloc (.cells ([.string (strOfNums q.me),.string (strOfNums q.ur),.int .i64 q.co,.string (strOfNums q.re),.slice A1 q.hs.length c1,.slice B1 n1 d1,.string (strOfNums r.me),.string (strOfNums r.ur),.int .i64 r.co,.string (strOfNums r.re),.slice A2 r.hs.length c2,.slice B2 n2 d2]:List Value).toArray 93)).alloc (.cells ([.int .u8 0,.bool false,.string ⟨#[]⟩,.string ⟨#[]⟩,.string ⟨#[]⟩,.string ⟨#[]⟩,.string ⟨#[]⟩,.string ⟨#[]⟩,.slice none 0 0,.int .i64 0,.int .i64 0,.int .i64 0]:List Value).toArray 25)) [(w.heap.size+1,25,[.int .u8 0,.bool false,.string ⟨#[]⟩,.string ⟨#[]⟩,.string ⟨#[]⟩,.string ⟨#[]⟩,.string ⟨#[]⟩,.string ⟨#[]⟩,.slice none 0 0,.int .i64 0,.int .i64 0,.int .i64 0]),(w.heap.size,93,[.string (strOfNums q.me),.string (strOfNums q.ur),.int .i64 q.co,.string (strOfNums q.re),.slice A1 q.hs.length c1,.slice B1 n1 d1,.string (strOfNums r.me),.string (strOfNums r.ur),.int .i64 r.co,.string (strOfNums r.re),.slice A2 r.hs.length c2,.slice B2 n2 d2])] [] from by
  have h:=((Mine.refl w).alloc 93 [.string (strOfNums q.me),.string (strOfNums q.ur),.int .i64 q.co,.string (strOfNums q.re),.slice A1 q.hs.length c1,.slice B1 n1 d1,.string (strOfNums r.me),.string (strOfNums r.ur),.int .i64 r.co,.string (strOfNums r.re),.slice A2 r.hs.length c2,.slice B2 n2 d2]).alloc 25 [.int .u8 0,.bool false,.string ⟨#[]⟩,.string ⟨#[]⟩,.string ⟨#[]⟩,.string ⟨#[]⟩,.string ⟨#[]⟩,.string ⟨#[]⟩,.slice none 0 0,.int .i64 0,.int .i64 0,.int .i64 0]
  rw [World.size_alloc] at h
  exact h)
 have GQ:=kd (fun w' (hb:Below w.heap.size w w')=>zeg q A1 B1 c1 n1 d1 ⟨#[67,97,108,108,45,73,68]⟩ w' (HQ.step hb) (by decide) (G.below hb).s);rw [show zaa ⟨#[67,97,108,108,45,73,68]⟩=za0 by rfl] at GQ
 have TQ:=kd (fun w' (hb:Below w.heap.size w w')=>zfi q r A1 B1 A2 B2 c1 n1 d1 c2 n2 d2 w' (HQ.step hb) (HR.step hb) (G.below hb));have TR:=kd (fun w' (hb:Below w.heap.size w w')=>zfj q r A1 B1 A2 B2 c1 n1 d1 c2 n2 d2 w' (HQ.step hb) (HR.step hb) (G.below hb))
 have UQ:=kd (fun w' (hb:Below w.heap.size w w')=>zhl q r A1 B1 A2 B2 c1 n1 d1 c2 n2 d2 w' (HQ.step hb) (HR.step hb) (G.below hb));have UT:=kd (fun w' (hb:Below w.heap.size w w')=>zhm q r A1 B1 A2 B2 c1 n1 d1 c2 n2 d2 w' (HQ.step hb) (HR.step hb) (G.below hb))
 have BE0:=kd (show zdb q r true=(⟨if r.co<200 then 1 else 2,true,val0 q.hs za0,(zby q.hs FROMN),(zby r.hs TON),(zdd q.hs FROMN).1,(zdd q.hs TON).1,[],[],0,0,0⟩,(zdd q.hs FROMN).2 && (zdd q.hs TON).2) from rfl);unfold mS at GQ;generalize zdb q r true=R at *
 generalize zby q.hs FROMN=tq at *;generalize zby r.hs TON=tr at *;generalize zdd q.hs FROMN=uf0 at *;generalize zdd q.hs TON=ut0 at *;obtain ⟨uf,bf⟩:=uf0;obtain ⟨ut,bt⟩:=ut0;generalize val0 q.hs za0=ci at *;generalize (valH q.hs za0).isSome=vb at *;dsimp only at *;clear HQ HR G
 go_enter Tryz.func91,Tryz.ntmps91
 go_upto_region 6 with (fail)
 generalize (w.alloc (.cells #[.string (strOfNums q.me),.string (strOfNums q.ur),.int .i64 q.co,.string (strOfNums q.re),.slice A1 q.hs.length c1,.slice B1 n1 d1,.string (strOfNums r.me),.string (strOfNums r.ur),.int .i64 r.co,.string (strOfNums r.re),.slice A2 r.hs.length c2,.slice B2 n2 d2] 93)).alloc (.cells #[.int .u8 0,.bool false,.string ⟨#[]⟩,.string ⟨#[]⟩,.string ⟨#[]⟩,.string ⟨#[]⟩,.string ⟨#[]⟩,.string ⟨#[]⟩,.slice none 0 0,.int .i64 0,.int .i64 0,.int .i64 0] 25)=w2 at *
 obtain ⟨g,hg⟩:∃ b,w.heap.size=b:=⟨_,rfl⟩;rw [hg] at M0 ⊢;clear hg;have RB:=kd (M0.out.row (i:=1) rfl);have E1:=kd (fun w' (hb:Below w2.heap.size w2 w')=>TQ.out w' (zao M0.out.bw hb));have E2:=kd (fun w' (hb:Below w2.heap.size w2 w')=>TR.out w' (zao M0.out.bw hb))
 refine zj0 (by kernel_rfl) (by kernel_rfl) (fun j v=>(([fun v=>v=(.bool true),fun v=>v=(.func (.func 141) #[] #[]),fun v=>v=(.agg ((bV q A1 c1 B1 n1 d1 r A2 c2 B2 n2 d2):List Value).toArray),fun v=>v=(.string (strOfNums tq)),fun v=>v=(.func (.func 140) #[] #[]),fun v=>v=(.agg ((bV q A1 c1 B1 n1 d1 r A2 c2 B2 n2 d2):List Value).toArray),fun v=>v=(.string (strOfNums tr)),fun v=>v=(.agg #[.int .u8 2,.bool true,.string ⟨#[]⟩,.string (strOfNums tq),.string (strOfNums tr),.string ⟨#[]⟩,.string ⟨#[]⟩,.string ⟨#[]⟩,.slice none 0 0,.int .i64 0,.int .i64 0,.int .i64 0]),fun _=>True,fun _=>True]:List (Value→Prop)).getD j (fun _=>True)) v) 8 7 9 25 Z12 [.int .u8 2,.bool true,.string ⟨#[]⟩,.string (strOfNums tq),.string (strOfNums tr),.string ⟨#[]⟩,.string ⟨#[]⟩,.string ⟨#[]⟩,.slice none 0 0,.int .i64 0,.int .i64 0,.int .i64 0] 10 25 (by kernel_rfl) (by kernel_rfl) (zae _ _ _ _ _ _ _ _ _ _ _ _) rfl zat _ _ _ rfl rfl rfl rfl rfl rfl (fun v h=>h) rfl rfl rfl rfl (by decide) (by kernel_rfl) rfl (fun _=>trivial) ?hstep ?hend
 case hstep =>
  intro j o nA nS ho a' W hB hF hD
  match j,ho with
  | 0,ho =>
    obtain rfl:=zSi ho;exact (zaf ho rfl (zb5 (.tmp 1) (.inl rfl) ⟨_,rfl,Below.refl _ _,fun _ _=>(show a'.eval (.tmp 1) = .bool true from ((zap hF (by kernel_rfl)).trans rfl))⟩))
  | 1,ho =>
    obtain rfl:=zSi ho;exact (zaf ho rfl (zb5 (.tmp 6) (.inl rfl) ⟨_,rfl,Below.refl _ _,fun _ _=>(show a'.eval (.tmp 6) = .func (.func 141) #[] #[] from ((zap hF (by kernel_rfl)).trans rfl))⟩))
  | 2,ho =>
    obtain rfl:=zSi ho;exact (zaf ho rfl (zf4 93 (.tmp 2) rfl g 0 (bV q A1 c1 B1 n1 d1 r A2 c2 B2 n2 d2) _ ((zap hF (by kernel_rfl)).trans rfl) ((RB.out.below hB).range) Tryz.underlying93 rfl zcy ⟨_,rfl,Below.refl _ _,fun _ _=>rfl⟩))
  | 3,ho =>
    obtain rfl:=zSi ho;have hx0:a'.eval (.tmp 20) = .agg ((bV q A1 c1 B1 n1 d1 r A2 c2 B2 n2 d2):List Value).toArray:=(zai hD 2 (by kernel_rfl) rfl rfl);have hc:a'.eval (.tmp 19) = .func (.func 141) #[] #[]:=(zai hD 1 (by kernel_rfl) rfl rfl)
    exact (zaf ho rfl (zjb 19 _ _ rfl 141 hc #[.agg ((bV q A1 c1 B1 n1 d1 r A2 c2 B2 n2 d2):List Value).toArray] (by simp only [List.map_toArray,List.map_cons,List.map_nil,hx0]) (enters_of Tryz.func141 (by kernel_rfl) rfl) ((E1.out W hB).mono fun e W2 ⟨he,hb⟩=>⟨_,he,_,rfl,hb,fun _ _=>rfl⟩)))
  | 4,ho =>
    obtain rfl:=zSi ho;exact (zaf ho rfl (zb5 (.tmp 7) (.inl rfl) ⟨_,rfl,Below.refl _ _,fun _ _=>(show a'.eval (.tmp 7) = .func (.func 140) #[] #[] from ((zap hF (by kernel_rfl)).trans rfl))⟩))
  | 5,ho =>
    obtain rfl:=zSi ho;exact (zaf ho rfl (zf4 93 (.tmp 2) rfl g 0 (bV q A1 c1 B1 n1 d1 r A2 c2 B2 n2 d2) _ ((zap hF (by kernel_rfl)).trans rfl) ((RB.out.below hB).range) Tryz.underlying93 rfl zcy ⟨_,rfl,Below.refl _ _,fun _ _=>rfl⟩))
  | 6,ho =>
    obtain rfl:=zSi ho;have hx0:a'.eval (.tmp 23) = .agg ((bV q A1 c1 B1 n1 d1 r A2 c2 B2 n2 d2):List Value).toArray:=(zai hD 5 (by kernel_rfl) rfl rfl);have hc:a'.eval (.tmp 22) = .func (.func 140) #[] #[]:=(zai hD 4 (by kernel_rfl) rfl rfl)
    exact (zaf ho rfl (zjb 22 _ _ rfl 140 hc #[.agg ((bV q A1 c1 B1 n1 d1 r A2 c2 B2 n2 d2):List Value).toArray] (by simp only [List.map_toArray,List.map_cons,List.map_nil,hx0]) (enters_of Tryz.func140 (by kernel_rfl) rfl) ((E2.out W hB).mono fun e W2 ⟨he,hb⟩=>⟨_,he,_,rfl,hb,fun _ _=>rfl⟩)))
  | 7,ho =>
    obtain rfl:=zSi ho;have hx0:a'.eval (.tmp 18) = .bool true:=(zai hD 0 (by kernel_rfl) rfl rfl);have hx1:a'.eval (.tmp 21) = .string (strOfNums tq):=(zai hD 3 (by kernel_rfl) rfl rfl);have hx2:a'.eval (.tmp 24) = .string (strOfNums tr):=(zai hD 6 (by kernel_rfl) rfl rfl)
    exact (zaf ho rfl (zfq 25 _ rfl [(0,.int .u8 2),(1,.bool true),(3,.string (strOfNums tq)),(4,.string (strOfNums tr))] (by simp only [List.map_toArray,List.map_cons,List.map_nil,hx0,hx1,hx2];rfl) #[.int .u8 2,.bool true,.string ⟨#[]⟩,.string (strOfNums tq),.string (strOfNums tr),.string ⟨#[]⟩,.string ⟨#[]⟩,.string ⟨#[]⟩,.slice none 0 0,.int .i64 0,.int .i64 0,.int .i64 0] (by kernel_rfl) ⟨_,rfl,Below.refl _ _,fun _ _=>rfl⟩))
  | 8,ho =>
    obtain rfl:=zSi ho;exact absurd rfl nA
  | 9,ho =>
    obtain rfl:=zSi ho;exact absurd rfl nS
  | j+10,ho=>exact absurd ho (by simp)
 case hend =>
 intro vs w4 gd hlen hv hp hge hrd hB;have M2:=kd (M0.out.join hB hge hrd)
 obtain ⟨v0,v1,v2,v3,v4,v5,v6,v7,v8,v9,rfl⟩:∃ v0 v1 v2 v3 v4 v5 v6 v7 v8 v9,vs=[v0,v1,v2,v3,v4,v5,v6,v7,v8,v9]:=by
  match vs,hlen with
  | [v0,v1,v2,v3,v4,v5,v6,v7,v8,v9],_=>exact ⟨_,_,_,_,_,_,_,_,_,_,rfl⟩
 obtain rfl:v0 = .bool true:=hv 0 _ _ v0 rfl rfl rfl;obtain rfl:v1 = .func (.func 141) #[] #[]:=hv 1 _ _ v1 rfl rfl rfl;obtain rfl:v2 = .agg ((bV q A1 c1 B1 n1 d1 r A2 c2 B2 n2 d2):List Value).toArray:=hv 2 _ _ v2 rfl rfl rfl
 obtain rfl:v3 = .string (strOfNums tq):=hv 3 _ _ v3 rfl rfl rfl;obtain rfl:v4 = .func (.func 140) #[] #[]:=hv 4 _ _ v4 rfl rfl rfl;obtain rfl:v5 = .agg ((bV q A1 c1 B1 n1 d1 r A2 c2 B2 n2 d2):List Value).toArray:=hv 5 _ _ v5 rfl rfl rfl
 obtain rfl:v6 = .string (strOfNums tr):=hv 6 _ _ v6 rfl rfl rfl
 obtain rfl:v7 = .agg #[.int .u8 2,.bool true,.string ⟨#[]⟩,.string (strOfNums tq),.string (strOfNums tr),.string ⟨#[]⟩,.string ⟨#[]⟩,.string ⟨#[]⟩,.slice none 0 0,.int .i64 0,.int .i64 0,.int .i64 0]:=hv 7 _ _ v7 rfl rfl rfl
 obtain rfl:v8 = .pointer (some ⟨gd,0,none⟩):=by simpa using hp
 clear hv hlen hp hge hrd hB E1 E2 RB M0 TQ TR;simp only [putL,Act.put,List.setIfInBounds_toArray,List.set_cons_zero,List.set_cons_succ];have k8:w4.cell? ⟨g,8,none⟩=some (.int .i64 r.co):=(M2.out.row (i:=2) rfl).cell 8
 by_cases hc:r.co<200
 · have d8:decide (r.co<200)=true:=by simpa using hc
   have m0:w4.cell? ⟨gd,0,none⟩=some (.int .u8 2):=(M2.out.row (i:=0) rfl).cell 0;have f0:w4.frozen? ⟨gd,0,none⟩=false:=(M2.out.row (i:=0) rfl).frozen 0;have BE:=kd (BE0.out.trans (by rw [if_pos hc]));go_upto_region 10 with (fail)
   have M3:=kd (show Mine w (w4.setCell ⟨gd,0,none⟩ (.int .u8 1)) [(gd,25,[.int .u8 1,.bool true,.string ⟨#[]⟩,.string (strOfNums tq),.string (strOfNums tr),.string ⟨#[]⟩,.string ⟨#[]⟩,.string ⟨#[]⟩,.slice none 0 0,.int .i64 0,.int .i64 0,.int .i64 0]),(g+1,25,Z12),(g,93,(bV q A1 c1 B1 n1 d1 r A2 c2 B2 n2 d2))] [] from M2.out.setCell (i:=0) (off:=0) _ rfl rfl)
   clear m0 f0 k8 d8 hc M2 BE0;generalize w4.setCell ⟨gd,0,none⟩ (.int .u8 1)=w5 at *;have G0:=kd (znd (M3.out.row (i:=2) rfl));go_wp2_with (with_reducible refine wpList_load_mid rfl 31 (.tmp 32) rfl g 0 rfl (mV q A1 c1 B1 n1 d1) _ G0.out Tryz.underlying31 rfl zaw ?_)
   refine (GQ.out _ M3.out.bw).mono ?_;rintro _ wx ⟨rfl,hb⟩;have MX:=kd (M3.out.call hb);clear hb GQ G0;have m2:wx.cell? ⟨gd,2,none⟩=some (.string ⟨#[]⟩):=(MX.out.row (i:=0) rfl).cell 2;have f2:wx.frozen? ⟨gd,2,none⟩=false:=(MX.out.row (i:=0) rfl).frozen 2
   go_upto_region 11 with (fail)
   replace MX:=kd (show Mine w (wx.setCell ⟨gd,2,none⟩ (.string (strOfNums ci))) [(gd,25,[.int .u8 1,.bool true,.string (strOfNums ci),.string (strOfNums tq),.string (strOfNums tr),.string ⟨#[]⟩,.string ⟨#[]⟩,.string ⟨#[]⟩,.slice none 0 0,.int .i64 0,.int .i64 0,.int .i64 0]),(g+1,25,Z12),(g,93,(bV q A1 c1 B1 n1 d1 r A2 c2 B2 n2 d2))] [] from MX.out.setCell (i:=0) (off:=2) _ rfl rfl)
   clear m2 f2;generalize wx.setCell ⟨gd,2,none⟩ (.string (strOfNums ci))=wy at *;clear wx;have RB:=kd (MX.out.row (i:=2) rfl);go_wp2_with (with_reducible refine zab rfl 93 (.tmp 2) rfl RB.out rfl Tryz.underlying93 rfl zcy ?_);refine (UQ.out _ MX.out.bw).mono ?_;rintro _ wx ⟨rfl,hb⟩
   replace MX:=kd (MX.out.call hb);clear hb UQ RB wy;have m5:wx.cell? ⟨gd,5,none⟩=some (.string ⟨#[]⟩):=(MX.out.row (i:=0) rfl).cell 5;have f5:wx.frozen? ⟨gd,5,none⟩=false:=(MX.out.row (i:=0) rfl).frozen 5;go_upto_region 12 with (fail)
   replace MX:=kd (show Mine w (wx.setCell ⟨gd,5,none⟩ (.string (strOfNums uf))) [(gd,25,[.int .u8 1,.bool true,.string (strOfNums ci),.string (strOfNums tq),.string (strOfNums tr),.string (strOfNums uf),.string ⟨#[]⟩,.string ⟨#[]⟩,.slice none 0 0,.int .i64 0,.int .i64 0,.int .i64 0]),(g+1,25,Z12),(g,93,(bV q A1 c1 B1 n1 d1 r A2 c2 B2 n2 d2))] [] from MX.out.setCell (i:=0) (off:=5) _ rfl rfl)
   clear m5 f5;generalize wx.setCell ⟨gd,5,none⟩ (.string (strOfNums uf))=wy at *;clear wx;have RB:=kd (MX.out.row (i:=2) rfl);go_wp2_with (with_reducible refine zab rfl 93 (.tmp 2) rfl RB.out rfl Tryz.underlying93 rfl zcy ?_);refine (UT.out _ MX.out.bw).mono ?_;rintro _ wx ⟨rfl,hb⟩
   replace MX:=kd (MX.out.call hb);clear hb UT RB wy;have m6:wx.cell? ⟨gd,6,none⟩=some (.string ⟨#[]⟩):=(MX.out.row (i:=0) rfl).cell 6;have f6:wx.frozen? ⟨gd,6,none⟩=false:=(MX.out.row (i:=0) rfl).frozen 6;go_upto_region 13 with (fail)
   replace MX:=kd (show Mine w (wx.setCell ⟨gd,6,none⟩ (.string (strOfNums ut))) [(gd,25,[.int .u8 1,.bool true,.string (strOfNums ci),.string (strOfNums tq),.string (strOfNums tr),.string (strOfNums uf),.string (strOfNums ut),.string ⟨#[]⟩,.slice none 0 0,.int .i64 0,.int .i64 0,.int .i64 0]),(g+1,25,Z12),(g,93,(bV q A1 c1 B1 n1 d1 r A2 c2 B2 n2 d2))] [] from MX.out.setCell (i:=0) (off:=6) _ rfl rfl)
   clear m6 f6;generalize wx.setCell ⟨gd,6,none⟩ (.string (strOfNums ut))=wy at *;clear wx;have RD:=kd (MX.out.row (i:=0) rfl)
   cases bf with
   | true =>
     go_wp2_with (first
      | (with_reducible refine zab rfl 25 (.tmp 10) rfl RD.out rfl Tryz.underlying25 rfl (zae _ _ _ _ _ _ _ _ _ _ _ _) ?_)
      | (with_reducible refine zad MX.out 1 rfl 25 (.tmp 4) (.tmp 52) rfl [.int .u8 1,.bool true,.string (strOfNums ci),.string (strOfNums tq),.string (strOfNums tr),.string (strOfNums uf),.string (strOfNums ut),.string ⟨#[]⟩,.slice none 0 0,.int .i64 0,.int .i64 0,.int .i64 0] _ rfl rfl rfl rfl za6 (zae _ _ _ _ _ _ _ _ _ _ _ _) zat ?_))
     intro w9 M9;have R9:=M9.out.row (i:=1) rfl;go_wp2_with fail
     exact bodyPost_ret (zah rfl _ _ _ (g+1) [.int .u8 1,.bool true,.string (strOfNums ci),.string (strOfNums tq),.string (strOfNums tr),.string (strOfNums uf),.string (strOfNums ut),.string ⟨#[]⟩,.slice none 0 0,.int .i64 0,.int .i64 0,.int .i64 0] _ rfl R9.range Tryz.underlying25 rfl (zae _ _ _ _ _ _ _ _ _ _ _ _)) rfl (by exact ⟨by rw [BE.out];rfl,M9.out.bw⟩)
   | false =>
     go_wp2_with (first
      | (with_reducible refine zab rfl 25 (.tmp 10) rfl RD.out rfl Tryz.underlying25 rfl (zae _ _ _ _ _ _ _ _ _ _ _ _) ?_)
      | (with_reducible refine zad MX.out 1 rfl 25 (.tmp 4) (.tmp 52) rfl [.int .u8 1,.bool true,.string (strOfNums ci),.string (strOfNums tq),.string (strOfNums tr),.string (strOfNums uf),.string (strOfNums ut),.string ⟨#[]⟩,.slice none 0 0,.int .i64 0,.int .i64 0,.int .i64 0] _ rfl rfl rfl rfl za6 (zae _ _ _ _ _ _ _ _ _ _ _ _) zat ?_))
     intro w9 M9;have R9:=M9.out.row (i:=1) rfl;go_wp2_with fail
     exact bodyPost_ret (zah rfl _ _ _ (g+1) [.int .u8 1,.bool true,.string (strOfNums ci),.string (strOfNums tq),.string (strOfNums tr),.string (strOfNums uf),.string (strOfNums ut),.string ⟨#[]⟩,.slice none 0 0,.int .i64 0,.int .i64 0,.int .i64 0] _ rfl R9.range Tryz.underlying25 rfl (zae _ _ _ _ _ _ _ _ _ _ _ _)) rfl (by exact ⟨by rw [BE.out];rfl,M9.out.bw⟩)
 · have d8:decide (r.co<200)=false:=by simpa using hc
   have BE:=kd (BE0.out.trans (by rw [if_neg hc]));go_upto_region 10 with (fail);clear k8 d8 hc BE0;have G0:=kd (znd (M2.out.row (i:=2) rfl));go_wp2_with (with_reducible refine wpList_load_mid rfl 31 (.tmp 32) rfl g 0 rfl (mV q A1 c1 B1 n1 d1) _ G0.out Tryz.underlying31 rfl zaw ?_)
   refine (GQ.out _ M2.out.bw).mono ?_;rintro _ wx ⟨rfl,hb⟩;have MX:=kd (M2.out.call hb);clear hb GQ G0;have m2:wx.cell? ⟨gd,2,none⟩=some (.string ⟨#[]⟩):=(MX.out.row (i:=0) rfl).cell 2;have f2:wx.frozen? ⟨gd,2,none⟩=false:=(MX.out.row (i:=0) rfl).frozen 2
   go_upto_region 11 with (fail)
   replace MX:=kd (show Mine w (wx.setCell ⟨gd,2,none⟩ (.string (strOfNums ci))) [(gd,25,[.int .u8 2,.bool true,.string (strOfNums ci),.string (strOfNums tq),.string (strOfNums tr),.string ⟨#[]⟩,.string ⟨#[]⟩,.string ⟨#[]⟩,.slice none 0 0,.int .i64 0,.int .i64 0,.int .i64 0]),(g+1,25,Z12),(g,93,(bV q A1 c1 B1 n1 d1 r A2 c2 B2 n2 d2))] [] from MX.out.setCell (i:=0) (off:=2) _ rfl rfl)
   clear m2 f2;generalize wx.setCell ⟨gd,2,none⟩ (.string (strOfNums ci))=wy at *;clear wx;have RB:=kd (MX.out.row (i:=2) rfl);go_wp2_with (with_reducible refine zab rfl 93 (.tmp 2) rfl RB.out rfl Tryz.underlying93 rfl zcy ?_);refine (UQ.out _ MX.out.bw).mono ?_;rintro _ wx ⟨rfl,hb⟩
   replace MX:=kd (MX.out.call hb);clear hb UQ RB wy;have m5:wx.cell? ⟨gd,5,none⟩=some (.string ⟨#[]⟩):=(MX.out.row (i:=0) rfl).cell 5;have f5:wx.frozen? ⟨gd,5,none⟩=false:=(MX.out.row (i:=0) rfl).frozen 5;go_upto_region 12 with (fail)
   replace MX:=kd (show Mine w (wx.setCell ⟨gd,5,none⟩ (.string (strOfNums uf))) [(gd,25,[.int .u8 2,.bool true,.string (strOfNums ci),.string (strOfNums tq),.string (strOfNums tr),.string (strOfNums uf),.string ⟨#[]⟩,.string ⟨#[]⟩,.slice none 0 0,.int .i64 0,.int .i64 0,.int .i64 0]),(g+1,25,Z12),(g,93,(bV q A1 c1 B1 n1 d1 r A2 c2 B2 n2 d2))] [] from MX.out.setCell (i:=0) (off:=5) _ rfl rfl)
   clear m5 f5;generalize wx.setCell ⟨gd,5,none⟩ (.string (strOfNums uf))=wy at *;clear wx;have RB:=kd (MX.out.row (i:=2) rfl);go_wp2_with (with_reducible refine zab rfl 93 (.tmp 2) rfl RB.out rfl Tryz.underlying93 rfl zcy ?_);refine (UT.out _ MX.out.bw).mono ?_;rintro _ wx ⟨rfl,hb⟩
   replace MX:=kd (MX.out.call hb);clear hb UT RB wy;have m6:wx.cell? ⟨gd,6,none⟩=some (.string ⟨#[]⟩):=(MX.out.row (i:=0) rfl).cell 6;have f6:wx.frozen? ⟨gd,6,none⟩=false:=(MX.out.row (i:=0) rfl).frozen 6;go_upto_region 13 with (fail)
   replace MX:=kd (show Mine w (wx.setCell ⟨gd,6,none⟩ (.string (strOfNums ut))) [(gd,25,[.int .u8 2,.bool true,.string (strOfNums ci),.string (strOfNums tq),.string (strOfNums tr),.string (strOfNums uf),.string (strOfNums ut),.string ⟨#[]⟩,.slice none 0 0,.int .i64 0,.int .i64 0,.int .i64 0]),(g+1,25,Z12),(g,93,(bV q A1 c1 B1 n1 d1 r A2 c2 B2 n2 d2))] [] from MX.out.setCell (i:=0) (off:=6) _ rfl rfl)
   clear m6 f6;generalize wx.setCell ⟨gd,6,none⟩ (.string (strOfNums ut))=wy at *;clear wx;have RD:=kd (MX.out.row (i:=0) rfl)
   cases bf with
   | true =>
     go_wp2_with (first
      | (with_reducible refine zab rfl 25 (.tmp 10) rfl RD.out rfl Tryz.underlying25 rfl (zae _ _ _ _ _ _ _ _ _ _ _ _) ?_)
      | (with_reducible refine zad MX.out 1 rfl 25 (.tmp 4) (.tmp 52) rfl [.int .u8 2,.bool true,.string (strOfNums ci),.string (strOfNums tq),.string (strOfNums tr),.string (strOfNums uf),.string (strOfNums ut),.string ⟨#[]⟩,.slice none 0 0,.int .i64 0,.int .i64 0,.int .i64 0] _ rfl rfl rfl rfl za6 (zae _ _ _ _ _ _ _ _ _ _ _ _) zat ?_))
     intro w9 M9;have R9:=M9.out.row (i:=1) rfl;go_wp2_with fail
     exact bodyPost_ret (zah rfl _ _ _ (g+1) [.int .u8 2,.bool true,.string (strOfNums ci),.string (strOfNums tq),.string (strOfNums tr),.string (strOfNums uf),.string (strOfNums ut),.string ⟨#[]⟩,.slice none 0 0,.int .i64 0,.int .i64 0,.int .i64 0] _ rfl R9.range Tryz.underlying25 rfl (zae _ _ _ _ _ _ _ _ _ _ _ _)) rfl (by exact ⟨by rw [BE.out];rfl,M9.out.bw⟩)
   | false =>
     go_wp2_with (first
      | (with_reducible refine zab rfl 25 (.tmp 10) rfl RD.out rfl Tryz.underlying25 rfl (zae _ _ _ _ _ _ _ _ _ _ _ _) ?_)
      | (with_reducible refine zad MX.out 1 rfl 25 (.tmp 4) (.tmp 52) rfl [.int .u8 2,.bool true,.string (strOfNums ci),.string (strOfNums tq),.string (strOfNums tr),.string (strOfNums uf),.string (strOfNums ut),.string ⟨#[]⟩,.slice none 0 0,.int .i64 0,.int .i64 0,.int .i64 0] _ rfl rfl rfl rfl za6 (zae _ _ _ _ _ _ _ _ _ _ _ _) zat ?_))
     intro w9 M9;have R9:=M9.out.row (i:=1) rfl;go_wp2_with fail
     exact bodyPost_ret (zah rfl _ _ _ (g+1) [.int .u8 2,.bool true,.string (strOfNums ci),.string (strOfNums tq),.string (strOfNums tr),.string (strOfNums uf),.string (strOfNums ut),.string ⟨#[]⟩,.slice none 0 0,.int .i64 0,.int .i64 0,.int .i64 0] _ rfl R9.range Tryz.underlying25 rfl (zae _ _ _ _ _ _ _ _ _ _ _ _)) rfl (by exact ⟨by rw [BE.out];rfl,M9.out.bw⟩)
theorem zo5 (q r:Msg) (A1 B1 A2 B2:Option Addr) (c1 n1 d1 c2 n2 d2:Nat) (w:World) (HQ:MArg w q A1) (HR:MArg w r A2) (G:GW w) :
  Calls Tryz.prog 91 #[.agg #[.string (strOfNums q.me),.string (strOfNums q.ur),.int .i64 q.co,.string (strOfNums q.re),.slice A1 q.hs.length c1,.slice B1 n1 d1,.string (strOfNums r.me),.string (strOfNums r.ur),.int .i64 r.co,.string (strOfNums r.re),.slice A2 r.hs.length c2,.slice B2 n2 d2],.bool false] w fun e w'=>e = .returned (.tuple #[.agg (dgC (zdb q r false).1 none 0).toArray,.bool (zdb q r false).2])∧Below w.heap.size w w':=by
 have M0:=kd (show Mine w ((w.alloc (.cells ([.string (strOfNums q.me),.string (strOfNums q.ur),.int .i64 q.co,.string (strOfNums q.re),.slice A1 q.hs.length c1,.slice B1 n1 d1,.string (strOfNums r.me),.string (strOfNums r.ur),.int .i64 r.co,.string (strOfNums r.re),.slice A2 r.hs.length c2,.slice B2 n2 d2]:List Value).toArray 93)).alloc (.cells ([.int .u8 0,.bool false,.string ⟨#[]⟩,.string ⟨#[]⟩,.string ⟨#[]⟩,.string ⟨#[]⟩,.string ⟨#[]⟩,.string ⟨#[]⟩,.slice none 0 0,.int .i64 0,.int .i64 0,.int .i64 0]:List Value).toArray 25)) [(w.heap.size+1,25,[.int .u8 0,.bool false,.string ⟨#[]⟩,.string ⟨#[]⟩,.string ⟨#[]⟩,.string ⟨#[]⟩,.string ⟨#[]⟩,.string ⟨#[]⟩,.slice none 0 0,.int .i64 0,.int .i64 0,.int .i64 0]),(w.heap.size,93,[.string (strOfNums q.me),.string (strOfNums q.ur),.int .i64 q.co,.string (strOfNums q.re),.slice A1 q.hs.length c1,.slice B1 n1 d1,.string (strOfNums r.me),.string (strOfNums r.ur),.int .i64 r.co,.string (strOfNums r.re),.slice A2 r.hs.length c2,.slice B2 n2 d2])] [] from by
  have h:=((Mine.refl w).alloc 93 [.string (strOfNums q.me),.string (strOfNums q.ur),.int .i64 q.co,.string (strOfNums q.re),.slice A1 q.hs.length c1,.slice B1 n1 d1,.string (strOfNums r.me),.string (strOfNums r.ur),.int .i64 r.co,.string (strOfNums r.re),.slice A2 r.hs.length c2,.slice B2 n2 d2]).alloc 25 [.int .u8 0,.bool false,.string ⟨#[]⟩,.string ⟨#[]⟩,.string ⟨#[]⟩,.string ⟨#[]⟩,.string ⟨#[]⟩,.string ⟨#[]⟩,.slice none 0 0,.int .i64 0,.int .i64 0,.int .i64 0]
  rw [World.size_alloc] at h
  exact h)
 have GQ:=kd (fun w' (hb:Below w.heap.size w w')=>zeg q A1 B1 c1 n1 d1 ⟨#[67,97,108,108,45,73,68]⟩ w' (HQ.step hb) (by decide) (G.below hb).s);rw [show zaa ⟨#[67,97,108,108,45,73,68]⟩=za0 by rfl] at GQ
 have TQ:=kd (fun w' (hb:Below w.heap.size w w')=>zfi q r A1 B1 A2 B2 c1 n1 d1 c2 n2 d2 w' (HQ.step hb) (HR.step hb) (G.below hb));have TR:=kd (fun w' (hb:Below w.heap.size w w')=>zfj q r A1 B1 A2 B2 c1 n1 d1 c2 n2 d2 w' (HQ.step hb) (HR.step hb) (G.below hb))
 have UQ:=kd (fun w' (hb:Below w.heap.size w w')=>zhl q r A1 B1 A2 B2 c1 n1 d1 c2 n2 d2 w' (HQ.step hb) (HR.step hb) (G.below hb));have UT:=kd (fun w' (hb:Below w.heap.size w w')=>zhm q r A1 B1 A2 B2 c1 n1 d1 c2 n2 d2 w' (HQ.step hb) (HR.step hb) (G.below hb))
 have BE0:=kd (show zdb q r false=(⟨if r.co<200 then 1 else 2,false,val0 q.hs za0,(zby r.hs TON),(zby q.hs FROMN),(zdd q.hs TON).1,(zdd q.hs FROMN).1,[],[],0,0,0⟩,(zdd q.hs TON).2 && (zdd q.hs FROMN).2) from (show _=((⟨if r.co<200 then 1 else 2,false,val0 q.hs za0,(zby r.hs TON),(zby q.hs FROMN),(zdd q.hs TON).1,(zdd q.hs FROMN).1,[],[],0,0,0⟩:Dlg),(zdd q.hs FROMN).2 && (zdd q.hs TON).2) from rfl).trans (by rw [Bool.and_comm]))
 unfold mS at GQ;generalize zdb q r false=R at *;generalize zby q.hs FROMN=tq at *;generalize zby r.hs TON=tr at *;generalize zdd q.hs FROMN=uf0 at *;generalize zdd q.hs TON=ut0 at *;obtain ⟨uf,bf⟩:=uf0;obtain ⟨ut,bt⟩:=ut0;generalize val0 q.hs za0=ci at *
 generalize (valH q.hs za0).isSome=vb at *;dsimp only at *;clear HQ HR G
 go_enter Tryz.func91,Tryz.ntmps91
 go_upto_region 6 with (fail)
 generalize (w.alloc (.cells #[.string (strOfNums q.me),.string (strOfNums q.ur),.int .i64 q.co,.string (strOfNums q.re),.slice A1 q.hs.length c1,.slice B1 n1 d1,.string (strOfNums r.me),.string (strOfNums r.ur),.int .i64 r.co,.string (strOfNums r.re),.slice A2 r.hs.length c2,.slice B2 n2 d2] 93)).alloc (.cells #[.int .u8 0,.bool false,.string ⟨#[]⟩,.string ⟨#[]⟩,.string ⟨#[]⟩,.string ⟨#[]⟩,.string ⟨#[]⟩,.string ⟨#[]⟩,.slice none 0 0,.int .i64 0,.int .i64 0,.int .i64 0] 25)=w2 at *
 obtain ⟨g,hg⟩:∃ b,w.heap.size=b:=⟨_,rfl⟩;rw [hg] at M0 ⊢;clear hg;have RB:=kd (M0.out.row (i:=1) rfl);have E1:=kd (fun w' (hb:Below w2.heap.size w2 w')=>TR.out w' (zao M0.out.bw hb));have E2:=kd (fun w' (hb:Below w2.heap.size w2 w')=>TQ.out w' (zao M0.out.bw hb))
 refine zj0 (by kernel_rfl) (by kernel_rfl) (fun j v=>(([fun v=>v=(.bool false),fun v=>v=(.func (.func 140) #[] #[]),fun v=>v=(.agg ((bV q A1 c1 B1 n1 d1 r A2 c2 B2 n2 d2):List Value).toArray),fun v=>v=(.string (strOfNums tr)),fun v=>v=(.func (.func 141) #[] #[]),fun v=>v=(.agg ((bV q A1 c1 B1 n1 d1 r A2 c2 B2 n2 d2):List Value).toArray),fun v=>v=(.string (strOfNums tq)),fun v=>v=(.agg #[.int .u8 2,.bool false,.string ⟨#[]⟩,.string (strOfNums tr),.string (strOfNums tq),.string ⟨#[]⟩,.string ⟨#[]⟩,.string ⟨#[]⟩,.slice none 0 0,.int .i64 0,.int .i64 0,.int .i64 0]),fun _=>True,fun _=>True]:List (Value→Prop)).getD j (fun _=>True)) v) 8 7 9 25 Z12 [.int .u8 2,.bool false,.string ⟨#[]⟩,.string (strOfNums tr),.string (strOfNums tq),.string ⟨#[]⟩,.string ⟨#[]⟩,.string ⟨#[]⟩,.slice none 0 0,.int .i64 0,.int .i64 0,.int .i64 0] 10 25 (by kernel_rfl) (by kernel_rfl) (zae _ _ _ _ _ _ _ _ _ _ _ _) rfl zat _ _ _ rfl rfl rfl rfl rfl rfl (fun v h=>h) rfl rfl rfl rfl (by decide) (by kernel_rfl) rfl (fun _=>trivial) ?hstep ?hend
 case hstep =>
  intro j o nA nS ho a' W hB hF hD
  match j,ho with
  | 0,ho =>
    obtain rfl:=zSi ho;exact (zaf ho rfl (zb5 (.tmp 1) (.inl rfl) ⟨_,rfl,Below.refl _ _,fun _ _=>(show a'.eval (.tmp 1) = .bool false from ((zap hF (by kernel_rfl)).trans rfl))⟩))
  | 1,ho =>
    obtain rfl:=zSi ho;exact (zaf ho rfl (zb5 (.tmp 6) (.inl rfl) ⟨_,rfl,Below.refl _ _,fun _ _=>(show a'.eval (.tmp 6) = .func (.func 140) #[] #[] from ((zap hF (by kernel_rfl)).trans rfl))⟩))
  | 2,ho =>
    obtain rfl:=zSi ho;exact (zaf ho rfl (zf4 93 (.tmp 2) rfl g 0 (bV q A1 c1 B1 n1 d1 r A2 c2 B2 n2 d2) _ ((zap hF (by kernel_rfl)).trans rfl) ((RB.out.below hB).range) Tryz.underlying93 rfl zcy ⟨_,rfl,Below.refl _ _,fun _ _=>rfl⟩))
  | 3,ho =>
    obtain rfl:=zSi ho;have hx0:a'.eval (.tmp 20) = .agg ((bV q A1 c1 B1 n1 d1 r A2 c2 B2 n2 d2):List Value).toArray:=(zai hD 2 (by kernel_rfl) rfl rfl);have hc:a'.eval (.tmp 19) = .func (.func 140) #[] #[]:=(zai hD 1 (by kernel_rfl) rfl rfl)
    exact (zaf ho rfl (zjb 19 _ _ rfl 140 hc #[.agg ((bV q A1 c1 B1 n1 d1 r A2 c2 B2 n2 d2):List Value).toArray] (by simp only [List.map_toArray,List.map_cons,List.map_nil,hx0]) (enters_of Tryz.func140 (by kernel_rfl) rfl) ((E1.out W hB).mono fun e W2 ⟨he,hb⟩=>⟨_,he,_,rfl,hb,fun _ _=>rfl⟩)))
  | 4,ho =>
    obtain rfl:=zSi ho;exact (zaf ho rfl (zb5 (.tmp 7) (.inl rfl) ⟨_,rfl,Below.refl _ _,fun _ _=>(show a'.eval (.tmp 7) = .func (.func 141) #[] #[] from ((zap hF (by kernel_rfl)).trans rfl))⟩))
  | 5,ho =>
    obtain rfl:=zSi ho;exact (zaf ho rfl (zf4 93 (.tmp 2) rfl g 0 (bV q A1 c1 B1 n1 d1 r A2 c2 B2 n2 d2) _ ((zap hF (by kernel_rfl)).trans rfl) ((RB.out.below hB).range) Tryz.underlying93 rfl zcy ⟨_,rfl,Below.refl _ _,fun _ _=>rfl⟩))
  | 6,ho =>
    obtain rfl:=zSi ho;have hx0:a'.eval (.tmp 23) = .agg ((bV q A1 c1 B1 n1 d1 r A2 c2 B2 n2 d2):List Value).toArray:=(zai hD 5 (by kernel_rfl) rfl rfl);have hc:a'.eval (.tmp 22) = .func (.func 141) #[] #[]:=(zai hD 4 (by kernel_rfl) rfl rfl)
    exact (zaf ho rfl (zjb 22 _ _ rfl 141 hc #[.agg ((bV q A1 c1 B1 n1 d1 r A2 c2 B2 n2 d2):List Value).toArray] (by simp only [List.map_toArray,List.map_cons,List.map_nil,hx0]) (enters_of Tryz.func141 (by kernel_rfl) rfl) ((E2.out W hB).mono fun e W2 ⟨he,hb⟩=>⟨_,he,_,rfl,hb,fun _ _=>rfl⟩)))
  | 7,ho =>
    obtain rfl:=zSi ho;have hx0:a'.eval (.tmp 18) = .bool false:=(zai hD 0 (by kernel_rfl) rfl rfl);have hx1:a'.eval (.tmp 21) = .string (strOfNums tr):=(zai hD 3 (by kernel_rfl) rfl rfl);have hx2:a'.eval (.tmp 24) = .string (strOfNums tq):=(zai hD 6 (by kernel_rfl) rfl rfl)
    exact (zaf ho rfl (zfq 25 _ rfl [(0,.int .u8 2),(1,.bool false),(3,.string (strOfNums tr)),(4,.string (strOfNums tq))] (by simp only [List.map_toArray,List.map_cons,List.map_nil,hx0,hx1,hx2];rfl) #[.int .u8 2,.bool false,.string ⟨#[]⟩,.string (strOfNums tr),.string (strOfNums tq),.string ⟨#[]⟩,.string ⟨#[]⟩,.string ⟨#[]⟩,.slice none 0 0,.int .i64 0,.int .i64 0,.int .i64 0] (by kernel_rfl) ⟨_,rfl,Below.refl _ _,fun _ _=>rfl⟩))
  | 8,ho =>
    obtain rfl:=zSi ho;exact absurd rfl nA
  | 9,ho =>
    obtain rfl:=zSi ho;exact absurd rfl nS
  | j+10,ho=>exact absurd ho (by simp)
 case hend =>
 intro vs w4 gd hlen hv hp hge hrd hB;have M2:=kd (M0.out.join hB hge hrd)
 obtain ⟨v0,v1,v2,v3,v4,v5,v6,v7,v8,v9,rfl⟩:∃ v0 v1 v2 v3 v4 v5 v6 v7 v8 v9,vs=[v0,v1,v2,v3,v4,v5,v6,v7,v8,v9]:=by
  match vs,hlen with
  | [v0,v1,v2,v3,v4,v5,v6,v7,v8,v9],_=>exact ⟨_,_,_,_,_,_,_,_,_,_,rfl⟩
 obtain rfl:v0 = .bool false:=hv 0 _ _ v0 rfl rfl rfl;obtain rfl:v1 = .func (.func 140) #[] #[]:=hv 1 _ _ v1 rfl rfl rfl;obtain rfl:v2 = .agg ((bV q A1 c1 B1 n1 d1 r A2 c2 B2 n2 d2):List Value).toArray:=hv 2 _ _ v2 rfl rfl rfl
 obtain rfl:v3 = .string (strOfNums tr):=hv 3 _ _ v3 rfl rfl rfl;obtain rfl:v4 = .func (.func 141) #[] #[]:=hv 4 _ _ v4 rfl rfl rfl;obtain rfl:v5 = .agg ((bV q A1 c1 B1 n1 d1 r A2 c2 B2 n2 d2):List Value).toArray:=hv 5 _ _ v5 rfl rfl rfl
 obtain rfl:v6 = .string (strOfNums tq):=hv 6 _ _ v6 rfl rfl rfl
 obtain rfl:v7 = .agg #[.int .u8 2,.bool false,.string ⟨#[]⟩,.string (strOfNums tr),.string (strOfNums tq),.string ⟨#[]⟩,.string ⟨#[]⟩,.string ⟨#[]⟩,.slice none 0 0,.int .i64 0,.int .i64 0,.int .i64 0]:=hv 7 _ _ v7 rfl rfl rfl
 obtain rfl:v8 = .pointer (some ⟨gd,0,none⟩):=by simpa using hp
 clear hv hlen hp hge hrd hB E1 E2 RB M0 TQ TR;simp only [putL,Act.put,List.setIfInBounds_toArray,List.set_cons_zero,List.set_cons_succ];have k8:w4.cell? ⟨g,8,none⟩=some (.int .i64 r.co):=(M2.out.row (i:=2) rfl).cell 8
 by_cases hc:r.co<200
 · have d8:decide (r.co<200)=true:=by simpa using hc
   have m0:w4.cell? ⟨gd,0,none⟩=some (.int .u8 2):=(M2.out.row (i:=0) rfl).cell 0;have f0:w4.frozen? ⟨gd,0,none⟩=false:=(M2.out.row (i:=0) rfl).frozen 0;have BE:=kd (BE0.out.trans (by rw [if_pos hc]));go_upto_region 10 with (fail)
   have M3:=kd (show Mine w (w4.setCell ⟨gd,0,none⟩ (.int .u8 1)) [(gd,25,[.int .u8 1,.bool false,.string ⟨#[]⟩,.string (strOfNums tr),.string (strOfNums tq),.string ⟨#[]⟩,.string ⟨#[]⟩,.string ⟨#[]⟩,.slice none 0 0,.int .i64 0,.int .i64 0,.int .i64 0]),(g+1,25,Z12),(g,93,(bV q A1 c1 B1 n1 d1 r A2 c2 B2 n2 d2))] [] from M2.out.setCell (i:=0) (off:=0) _ rfl rfl)
   clear m0 f0 k8 d8 hc M2 BE0;generalize w4.setCell ⟨gd,0,none⟩ (.int .u8 1)=w5 at *;have G0:=kd (znd (M3.out.row (i:=2) rfl));go_wp2_with (with_reducible refine wpList_load_mid rfl 31 (.tmp 32) rfl g 0 rfl (mV q A1 c1 B1 n1 d1) _ G0.out Tryz.underlying31 rfl zaw ?_)
   refine (GQ.out _ M3.out.bw).mono ?_;rintro _ wx ⟨rfl,hb⟩;have MX:=kd (M3.out.call hb);clear hb GQ G0;have m2:wx.cell? ⟨gd,2,none⟩=some (.string ⟨#[]⟩):=(MX.out.row (i:=0) rfl).cell 2;have f2:wx.frozen? ⟨gd,2,none⟩=false:=(MX.out.row (i:=0) rfl).frozen 2
   go_upto_region 11 with (fail)
   replace MX:=kd (show Mine w (wx.setCell ⟨gd,2,none⟩ (.string (strOfNums ci))) [(gd,25,[.int .u8 1,.bool false,.string (strOfNums ci),.string (strOfNums tr),.string (strOfNums tq),.string ⟨#[]⟩,.string ⟨#[]⟩,.string ⟨#[]⟩,.slice none 0 0,.int .i64 0,.int .i64 0,.int .i64 0]),(g+1,25,Z12),(g,93,(bV q A1 c1 B1 n1 d1 r A2 c2 B2 n2 d2))] [] from MX.out.setCell (i:=0) (off:=2) _ rfl rfl)
   clear m2 f2;generalize wx.setCell ⟨gd,2,none⟩ (.string (strOfNums ci))=wy at *;clear wx;have RB:=kd (MX.out.row (i:=2) rfl);go_wp2_with (with_reducible refine zab rfl 93 (.tmp 2) rfl RB.out rfl Tryz.underlying93 rfl zcy ?_);refine (UT.out _ MX.out.bw).mono ?_;rintro _ wx ⟨rfl,hb⟩
   replace MX:=kd (MX.out.call hb);clear hb UT RB wy;have m5:wx.cell? ⟨gd,5,none⟩=some (.string ⟨#[]⟩):=(MX.out.row (i:=0) rfl).cell 5;have f5:wx.frozen? ⟨gd,5,none⟩=false:=(MX.out.row (i:=0) rfl).frozen 5;go_upto_region 12 with (fail)
   replace MX:=kd (show Mine w (wx.setCell ⟨gd,5,none⟩ (.string (strOfNums ut))) [(gd,25,[.int .u8 1,.bool false,.string (strOfNums ci),.string (strOfNums tr),.string (strOfNums tq),.string (strOfNums ut),.string ⟨#[]⟩,.string ⟨#[]⟩,.slice none 0 0,.int .i64 0,.int .i64 0,.int .i64 0]),(g+1,25,Z12),(g,93,(bV q A1 c1 B1 n1 d1 r A2 c2 B2 n2 d2))] [] from MX.out.setCell (i:=0) (off:=5) _ rfl rfl)
   clear m5 f5;generalize wx.setCell ⟨gd,5,none⟩ (.string (strOfNums ut))=wy at *;clear wx;have RB:=kd (MX.out.row (i:=2) rfl);go_wp2_with (with_reducible refine zab rfl 93 (.tmp 2) rfl RB.out rfl Tryz.underlying93 rfl zcy ?_);refine (UQ.out _ MX.out.bw).mono ?_;rintro _ wx ⟨rfl,hb⟩
   replace MX:=kd (MX.out.call hb);clear hb UQ RB wy;have m6:wx.cell? ⟨gd,6,none⟩=some (.string ⟨#[]⟩):=(MX.out.row (i:=0) rfl).cell 6;have f6:wx.frozen? ⟨gd,6,none⟩=false:=(MX.out.row (i:=0) rfl).frozen 6;go_upto_region 13 with (fail)
   replace MX:=kd (show Mine w (wx.setCell ⟨gd,6,none⟩ (.string (strOfNums uf))) [(gd,25,[.int .u8 1,.bool false,.string (strOfNums ci),.string (strOfNums tr),.string (strOfNums tq),.string (strOfNums ut),.string (strOfNums uf),.string ⟨#[]⟩,.slice none 0 0,.int .i64 0,.int .i64 0,.int .i64 0]),(g+1,25,Z12),(g,93,(bV q A1 c1 B1 n1 d1 r A2 c2 B2 n2 d2))] [] from MX.out.setCell (i:=0) (off:=6) _ rfl rfl)
   clear m6 f6;generalize wx.setCell ⟨gd,6,none⟩ (.string (strOfNums uf))=wy at *;clear wx;have RD:=kd (MX.out.row (i:=0) rfl)
   cases bt with
   | true =>
     go_wp2_with (first
      | (with_reducible refine zab rfl 25 (.tmp 10) rfl RD.out rfl Tryz.underlying25 rfl (zae _ _ _ _ _ _ _ _ _ _ _ _) ?_)
      | (with_reducible refine zad MX.out 1 rfl 25 (.tmp 4) (.tmp 52) rfl [.int .u8 1,.bool false,.string (strOfNums ci),.string (strOfNums tr),.string (strOfNums tq),.string (strOfNums ut),.string (strOfNums uf),.string ⟨#[]⟩,.slice none 0 0,.int .i64 0,.int .i64 0,.int .i64 0] _ rfl rfl rfl rfl za6 (zae _ _ _ _ _ _ _ _ _ _ _ _) zat ?_))
     intro w9 M9;have R9:=M9.out.row (i:=1) rfl;go_wp2_with fail
     exact bodyPost_ret (zah rfl _ _ _ (g+1) [.int .u8 1,.bool false,.string (strOfNums ci),.string (strOfNums tr),.string (strOfNums tq),.string (strOfNums ut),.string (strOfNums uf),.string ⟨#[]⟩,.slice none 0 0,.int .i64 0,.int .i64 0,.int .i64 0] _ rfl R9.range Tryz.underlying25 rfl (zae _ _ _ _ _ _ _ _ _ _ _ _)) rfl (by exact ⟨by rw [BE.out];rfl,M9.out.bw⟩)
   | false =>
     go_wp2_with (first
      | (with_reducible refine zab rfl 25 (.tmp 10) rfl RD.out rfl Tryz.underlying25 rfl (zae _ _ _ _ _ _ _ _ _ _ _ _) ?_)
      | (with_reducible refine zad MX.out 1 rfl 25 (.tmp 4) (.tmp 52) rfl [.int .u8 1,.bool false,.string (strOfNums ci),.string (strOfNums tr),.string (strOfNums tq),.string (strOfNums ut),.string (strOfNums uf),.string ⟨#[]⟩,.slice none 0 0,.int .i64 0,.int .i64 0,.int .i64 0] _ rfl rfl rfl rfl za6 (zae _ _ _ _ _ _ _ _ _ _ _ _) zat ?_))
     intro w9 M9;have R9:=M9.out.row (i:=1) rfl;go_wp2_with fail
     exact bodyPost_ret (zah rfl _ _ _ (g+1) [.int .u8 1,.bool false,.string (strOfNums ci),.string (strOfNums tr),.string (strOfNums tq),.string (strOfNums ut),.string (strOfNums uf),.string ⟨#[]⟩,.slice none 0 0,.int .i64 0,.int .i64 0,.int .i64 0] _ rfl R9.range Tryz.underlying25 rfl (zae _ _ _ _ _ _ _ _ _ _ _ _)) rfl (by exact ⟨by rw [BE.out];rfl,M9.out.bw⟩)
 · have d8:decide (r.co<200)=false:=by simpa using hc
   have BE:=kd (BE0.out.trans (by rw [if_neg hc]));go_upto_region 10 with (fail);clear k8 d8 hc BE0;have G0:=kd (znd (M2.out.row (i:=2) rfl));go_wp2_with (with_reducible refine wpList_load_mid rfl 31 (.tmp 32) rfl g 0 rfl (mV q A1 c1 B1 n1 d1) _ G0.out Tryz.underlying31 rfl zaw ?_)
   refine (GQ.out _ M2.out.bw).mono ?_;rintro _ wx ⟨rfl,hb⟩;have MX:=kd (M2.out.call hb);clear hb GQ G0;have m2:wx.cell? ⟨gd,2,none⟩=some (.string ⟨#[]⟩):=(MX.out.row (i:=0) rfl).cell 2;have f2:wx.frozen? ⟨gd,2,none⟩=false:=(MX.out.row (i:=0) rfl).frozen 2
   go_upto_region 11 with (fail)
   replace MX:=kd (show Mine w (wx.setCell ⟨gd,2,none⟩ (.string (strOfNums ci))) [(gd,25,[.int .u8 2,.bool false,.string (strOfNums ci),.string (strOfNums tr),.string (strOfNums tq),.string ⟨#[]⟩,.string ⟨#[]⟩,.string ⟨#[]⟩,.slice none 0 0,.int .i64 0,.int .i64 0,.int .i64 0]),(g+1,25,Z12),(g,93,(bV q A1 c1 B1 n1 d1 r A2 c2 B2 n2 d2))] [] from MX.out.setCell (i:=0) (off:=2) _ rfl rfl)
   clear m2 f2;generalize wx.setCell ⟨gd,2,none⟩ (.string (strOfNums ci))=wy at *;clear wx;have RB:=kd (MX.out.row (i:=2) rfl);go_wp2_with (with_reducible refine zab rfl 93 (.tmp 2) rfl RB.out rfl Tryz.underlying93 rfl zcy ?_);refine (UT.out _ MX.out.bw).mono ?_;rintro _ wx ⟨rfl,hb⟩
   replace MX:=kd (MX.out.call hb);clear hb UT RB wy;have m5:wx.cell? ⟨gd,5,none⟩=some (.string ⟨#[]⟩):=(MX.out.row (i:=0) rfl).cell 5;have f5:wx.frozen? ⟨gd,5,none⟩=false:=(MX.out.row (i:=0) rfl).frozen 5;go_upto_region 12 with (fail)
   replace MX:=kd (show Mine w (wx.setCell ⟨gd,5,none⟩ (.string (strOfNums ut))) [(gd,25,[.int .u8 2,.bool false,.string (strOfNums ci),.string (strOfNums tr),.string (strOfNums tq),.string (strOfNums ut),.string ⟨#[]⟩,.string ⟨#[]⟩,.slice none 0 0,.int .i64 0,.int .i64 0,.int .i64 0]),(g+1,25,Z12),(g,93,(bV q A1 c1 B1 n1 d1 r A2 c2 B2 n2 d2))] [] from MX.out.setCell (i:=0) (off:=5) _ rfl rfl)
   clear m5 f5;generalize wx.setCell ⟨gd,5,none⟩ (.string (strOfNums ut))=wy at *;clear wx;have RB:=kd (MX.out.row (i:=2) rfl);go_wp2_with (with_reducible refine zab rfl 93 (.tmp 2) rfl RB.out rfl Tryz.underlying93 rfl zcy ?_);refine (UQ.out _ MX.out.bw).mono ?_;rintro _ wx ⟨rfl,hb⟩
   replace MX:=kd (MX.out.call hb);clear hb UQ RB wy;have m6:wx.cell? ⟨gd,6,none⟩=some (.string ⟨#[]⟩):=(MX.out.row (i:=0) rfl).cell 6;have f6:wx.frozen? ⟨gd,6,none⟩=false:=(MX.out.row (i:=0) rfl).frozen 6;go_upto_region 13 with (fail)
   replace MX:=kd (show Mine w (wx.setCell ⟨gd,6,none⟩ (.string (strOfNums uf))) [(gd,25,[.int .u8 2,.bool false,.string (strOfNums ci),.string (strOfNums tr),.string (strOfNums tq),.string (strOfNums ut),.string (strOfNums uf),.string ⟨#[]⟩,.slice none 0 0,.int .i64 0,.int .i64 0,.int .i64 0]),(g+1,25,Z12),(g,93,(bV q A1 c1 B1 n1 d1 r A2 c2 B2 n2 d2))] [] from MX.out.setCell (i:=0) (off:=6) _ rfl rfl)
   clear m6 f6;generalize wx.setCell ⟨gd,6,none⟩ (.string (strOfNums uf))=wy at *;clear wx;have RD:=kd (MX.out.row (i:=0) rfl)
   cases bt with
   | true =>
     go_wp2_with (first
      | (with_reducible refine zab rfl 25 (.tmp 10) rfl RD.out rfl Tryz.underlying25 rfl (zae _ _ _ _ _ _ _ _ _ _ _ _) ?_)
      | (with_reducible refine zad MX.out 1 rfl 25 (.tmp 4) (.tmp 52) rfl [.int .u8 2,.bool false,.string (strOfNums ci),.string (strOfNums tr),.string (strOfNums tq),.string (strOfNums ut),.string (strOfNums uf),.string ⟨#[]⟩,.slice none 0 0,.int .i64 0,.int .i64 0,.int .i64 0] _ rfl rfl rfl rfl za6 (zae _ _ _ _ _ _ _ _ _ _ _ _) zat ?_))
     intro w9 M9;have R9:=M9.out.row (i:=1) rfl;go_wp2_with fail
     exact bodyPost_ret (zah rfl _ _ _ (g+1) [.int .u8 2,.bool false,.string (strOfNums ci),.string (strOfNums tr),.string (strOfNums tq),.string (strOfNums ut),.string (strOfNums uf),.string ⟨#[]⟩,.slice none 0 0,.int .i64 0,.int .i64 0,.int .i64 0] _ rfl R9.range Tryz.underlying25 rfl (zae _ _ _ _ _ _ _ _ _ _ _ _)) rfl (by exact ⟨by rw [BE.out];rfl,M9.out.bw⟩)
   | false =>
     go_wp2_with (first
      | (with_reducible refine zab rfl 25 (.tmp 10) rfl RD.out rfl Tryz.underlying25 rfl (zae _ _ _ _ _ _ _ _ _ _ _ _) ?_)
      | (with_reducible refine zad MX.out 1 rfl 25 (.tmp 4) (.tmp 52) rfl [.int .u8 2,.bool false,.string (strOfNums ci),.string (strOfNums tr),.string (strOfNums tq),.string (strOfNums ut),.string (strOfNums uf),.string ⟨#[]⟩,.slice none 0 0,.int .i64 0,.int .i64 0,.int .i64 0] _ rfl rfl rfl rfl za6 (zae _ _ _ _ _ _ _ _ _ _ _ _) zat ?_))
     intro w9 M9;have R9:=M9.out.row (i:=1) rfl;go_wp2_with fail
     exact bodyPost_ret (zah rfl _ _ _ (g+1) [.int .u8 2,.bool false,.string (strOfNums ci),.string (strOfNums tr),.string (strOfNums tq),.string (strOfNums ut),.string (strOfNums uf),.string ⟨#[]⟩,.slice none 0 0,.int .i64 0,.int .i64 0,.int .i64 0] _ rfl R9.range Tryz.underlying25 rfl (zae _ _ _ _ _ _ _ _ _ _ _ _)) rfl (by exact ⟨by rw [BE.out];rfl,M9.out.bw⟩)
end Go.Proofs.YtfnmkedncfdceaaGreatDoor
