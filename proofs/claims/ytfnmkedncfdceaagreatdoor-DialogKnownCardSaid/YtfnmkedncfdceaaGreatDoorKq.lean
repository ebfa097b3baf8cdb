/- What 'd, e := dialog.Receive(..)', or Response, leaves in a drawn region that makes a variable. And what stands behind it. -/
import Derived.Test.YtfnmkedncfdceaaGreatDoorYp
import Derived.Test.YtfnmkedncfdceaaGreatDoorKf
import Derived.Test.YtfnmkedncfdceaaGreatDoorKt
set_option linter.unusedVariables false
set_option linter.unusedSimpArgs false
namespace Go.Proofs.YtfnmkedncfdceaaGreatDoor
open Go.RowKit

def AC (w0:World) (d:Dlg) (W:World) (v:Value):Prop := ∃ A c,v = .tuple #[.agg (dgC d A c).toArray,.int .u8 0]∧SF w0 A c d.rs W
def VC (d:Dlg) (v:Value) (b:Nat):Prop := ∀ A c,v = .tuple #[.agg (dgC d A c).toArray,.int .u8 0]→VS (strs d.rs).length A b
def SlT (cs:List Value) (n:Nat) (W:World) (v:Value):Prop := ∃ x,v = .slice (some ⟨x,0,none⟩) n n∧Row W x 9 cs
def VSl (n:Nat) (v:Value) (b:Nat):Prop := ∀ x,v = .slice (some ⟨x,0,none⟩) n n→x≠b
section
variable {w0 : World} {d : Dlg} {W W' : World} {v : Value} {b n : Nat} {cs : List Value}
theorem AC.below (h:AC w0 d W v) (hb:Below W.heap.size W W'):AC w0 d W' v:=by
 obtain ⟨A,c,rfl,s⟩:=h;exact ⟨A,c,rfl,s.step hb⟩
theorem AC.off (h:AC w0 d W v) (hv:VC d v b) (hs:W.heap.size≤W'.heap.size) (hh:∀ b',b'≠b→W'.heap[b']? = W.heap[b']?):AC w0 d W' v:=by
 obtain ⟨A,c,rfl,s⟩:=h;exact ⟨A,c,rfl,s.nil,s.fresh,s.cap,zmq s.r (hv A c rfl) hs hh⟩
theorem AC.inj {A B:Option Addr} {c e:Nat} (he:(.tuple #[.agg (dgC d A c).toArray,.int .u8 0]:Value) = .tuple #[.agg (dgC d B e).toArray,.int .u8 0]):A=B:=by
 injection he with he
 injection he with he
 injection he with h1 h2
 exact zkv h1
theorem AC.new (h:AC w0 d W v):VC d v W.heap.size:=by
 obtain ⟨A,c,rfl,s⟩:=h;intro B e he;obtain rfl:=AC.inj he;exact zq9 s.r
theorem CrP.at {w W2:World} {e:Ending} {R:Except Int Dlg} (hR:R = .ok d) (h:CrP W R e W2) (hb:Below w.heap.size w W):∃ v,e = .returned v∧Below W.heap.size W W2∧AC w d W2 v∧∀ b,b<W.heap.size→VC d v b:=by
 subst hR;obtain ⟨A,c,rfl,hB,s⟩:=h;refine ⟨_,rfl,hB,⟨A,c,rfl,s.base hb⟩,fun b hlt B e he => ?_⟩;obtain rfl:=AC.inj he;exact zra (fun b o x e=>(s.fresh b o x e).1) hlt
theorem SlT.below (h:SlT cs n W v) (hb:Below W.heap.size W W'):SlT cs n W' v:=by
 obtain ⟨x,rfl,s⟩:=h;exact ⟨x,rfl,s.below hb⟩
theorem SlT.off (h:SlT cs n W v) (hv:VSl n v b) (hh:∀ b',b'≠b→W'.heap[b']? = W.heap[b']?):SlT cs n W' v:=by
 obtain ⟨x,rfl,s⟩:=h;exact ⟨x,rfl,s.heap (hh x (hv x rfl))⟩
theorem SlT.new (h:SlT cs n W v):VSl n v W.heap.size:=by
 obtain ⟨x,rfl,s⟩:=h;intro y he
 injection he with he
 injection he with he
 injection he with he
 have:=s.lt;omega
end
theorem yfu {o:Oper} {a:Act} {W:World} {next:Act→World→Prop} {Q:Exit→Act→World→Prop} (s t:ByteArray) (ho:o.op = .buildSlice 23 2 #[(0,.const (.string s)),(1,.const (.string t))])
  (hn:Row (W.alloc (.cells #[.string s,.string t] 9)) W.heap.size 9 [.string s,.string t]→next (a.put o.dst (.slice (some ⟨W.heap.size,0,none⟩) 2 2)) (W.alloc (.cells #[.string s,.string t] 9))):o.wp Tryz.prog a W next Q:=by
 have hr:(execOp a.eval o).run Tryz.prog W = .ok (.value (.slice (some ⟨W.heap.size,0,none⟩) 2 2)) (W.alloc (.cells #[.string s,.string t] 9)):=by
  unfold execOp;rw [ho];dsimp only [List.map_toArray,List.map_cons,List.map_nil,Act.eval]
  kernel_rfl
 unfold Oper.wp;rw [hr];exact hn (Row.new W 9 [.string s,.string t])

theorem yfe {w0 w:World} {L:List Blk} {FS:List (World→Prop)} (M:Mine w0 w L FS) (T1 T2:TypeId) (x y:List Value):Mine w0 ((w.alloc (.cells x.toArray T1)).alloc (.cells y.toArray T2)) ((w.heap.size+1,T2,y)::(w.heap.size,T1,x)::L) FS:=by
 have h:=(M.alloc T1 x).alloc T2 y;rw [World.size_alloc] at h;exact h
theorem ye2:HOK (zpx (zda 200 [SP2,SP1]) ACKT VIA2 7)∧By ACKT∧By [115,105,112,58,98,64,53,46,54,46,55,46,56]∧ACKT.length≤4000000∧([115,105,112,58,98,64,53,46,54,46,55,46,56]:List Int).length≤4000000:=⟨⟨by decide +kernel,by decide +kernel,by decide +kernel⟩,(byD rfl:By ACKT),byD rfl,(by decide:ACKT.length≤4000000),(by decide:([115,105,112,58,98,64,53,46,54,46,55,46,56]:List Int).length≤4000000)⟩
theorem ye1:HOK (zpx (zd0 200 [SP3,SP1]) INFOT VIA2 1)∧By INFOT∧By SP3∧INFOT.length≤4000000∧SP3.length≤4000000:=⟨⟨by decide +kernel,by decide +kernel,by decide +kernel⟩,(byD rfl:By INFOT),byD rfl,(by decide:INFOT.length≤4000000),(by decide:SP3.length≤4000000)⟩
set_option maxRecDepth 100000 in
set_option maxHeartbeats 16000000 in
theorem yff (w:World) (G:GW w):Calls Tryz.prog 9 #[] w fun e w'=>e = .returned (.bool true)∧Below w.heap.size w w':=by
 have GH:=kd (fun W (hb:Below w.heap.size w W)=>G.below hb);have WK:=kd (fun W (hb:Below w.heap.size w W)=>znk W (G.below hb));have M0:=kd (Mine.refl w)
 have FIN:=kd (fun W (hb:Below w.heap.size w W)=>show (fun (e:Ending) (w':World)=>e = .returned (.bool true)∧Below w.heap.size w w') (.returned (.bool true)) W from ⟨rfl,hb⟩);generalize (fun (e:Ending) (w':World)=>e = .returned (.bool true)∧Below w.heap.size w w')=PO at *
 clear G
 go_enter Tryz.func9,Tryz.ntmps9
 have RL1:=kd (Row.new w 9 [.string ⟨#[115,105,112,58,112,50,46,101,120,97,109,112,108,101,59,108,114]⟩,.string ⟨#[115,105,112,58,112,49,46,101,120,97,109,112,108,101,59,108,114]⟩])
 have BL1:=kd ((Below.refl w.heap.size w).alloc zNr (.cells ([.string ⟨#[115,105,112,58,112,50,46,101,120,97,109,112,108,101,59,108,114]⟩,.string ⟨#[115,105,112,58,112,49,46,101,120,97,109,112,108,101,59,108,114]⟩]:List Value).toArray 9));go_wp2_with fail
 generalize w.alloc (.cells #[.string ⟨#[115,105,112,58,112,50,46,101,120,97,109,112,108,101,59,108,114]⟩,.string ⟨#[115,105,112,58,112,49,46,101,120,97,109,112,108,101,59,108,114]⟩] 9)=wa1 at *;have Ma1:=kd (M0.out.call BL1.out)
 refine (ze3 [SP2,SP1] (some ⟨w.heap.size,0,none⟩) 2 2 wa1 rfl (by decide) (fun r hr=>(zfn (zh0 r hr)).2.1) (fun b o s e=>by cases e;rfl) (zfc RL1.out)).mono ?_;rintro _ w1 ⟨v1,rfl,X⟩;obtain ⟨A1,c1,rfl,F,HM⟩:=VX.msg (m:=zaz [SP2,SP1]) X rfl (invS zh0 (by decide))
 have M1:=kd (Ma1.out.call X.bw);have B1:=kd (zao BL1.out X.bw);have H1:=kd HM;clear X F HM RL1 BL1 Ma1
 have RL2:=kd (Row.new w1 9 [.string ⟨#[115,105,112,58,112,50,46,101,120,97,109,112,108,101,59,108,114]⟩,.string ⟨#[115,105,112,58,112,49,46,101,120,97,109,112,108,101,59,108,114]⟩])
 have BL2:=kd ((Below.refl w1.heap.size w1).alloc zNr (.cells ([.string ⟨#[115,105,112,58,112,50,46,101,120,97,109,112,108,101,59,108,114]⟩,.string ⟨#[115,105,112,58,112,49,46,101,120,97,109,112,108,101,59,108,114]⟩]:List Value).toArray 9));go_wp2_with fail
 generalize w1.alloc (.cells #[.string ⟨#[115,105,112,58,112,50,46,101,120,97,109,112,108,101,59,108,114]⟩,.string ⟨#[115,105,112,58,112,49,46,101,120,97,109,112,108,101,59,108,114]⟩] 9)=wa2 at *;have Ma2:=kd (M1.out.call BL2.out)
 refine (zek 200 [SP2,SP1] (some ⟨w1.heap.size,0,none⟩) 2 2 wa2 rfl (by decide) (fun r hr=>(zfn (zh0 r hr)).2.1) (fun b o s e=>by cases e;rfl) (zfc RL2.out)).mono ?_;rintro _ w2 ⟨v2,rfl,X⟩;obtain ⟨A2,c2,rfl,F,HM⟩:=VX.msg (m:=zay 200 [SP2,SP1]) X rfl (ansS zh0 (by decide))
 have M2:=kd (Ma2.out.call X.bw);have B12:=kd (zao BL2.out X.bw);have H2:=kd HM;clear X F HM RL2 BL2 Ma2;go_wp2_with fail;refine (zgw (zaz [SP2,SP1]) (zay 200 [SP2,SP1]) A1 none A2 none c1 0 0 c2 0 0 w2 (H1.out.step B12.out) H2.out (GH.out _ M2.out.bw)).mono ?_;intro e w3 hx;rw [wk_b] at hx
 obtain ⟨AD3,cD3,rfl,hb,sf⟩:=hx;have SF3:=kd sf;have M3:=kd ((M2.out.call hb).add (F:=fun W=>Rds W W.heap.size AD3 (strs (zda 200 [SP2,SP1]).rs)) (za9 sf.r (fun b o s e=>M2.out.fresh (sf.fresh b o s e).1)));clear sf hb
 have OD3:=kd (show DOK (zda 200 [SP2,SP1]) by exact zku zh0 (by decide));go_upto_region 2 with (refine zak rfl 25 (.tmp 1) (.tmp 53) rfl Z12 (dgC (zda 200 [SP2,SP1]) AD3 cD3) rfl rfl za6 (zae _ _ _ _ _ _ _ _ _ _ _ _) zat ?_;intro w3b R S);have M3b:=kd (M3.out.join S.out zNr R.out)
 generalize w3.heap.size=g1 at *;clear R S M3 M0 M1 H1 H2 B12;have RB4:=kd (show Row w3b g1 25 (dgC (zda 200 [SP2,SP1]) AD3 cD3) from M3b.out.row (i:=0) rfl)
 have RQ4:=kd (fun W (hb:Below w3b.heap.size w3b W)=>show Calls Tryz.prog 11 #[.agg (dgC (zda 200 [SP2,SP1]) AD3 cD3).toArray,.string ⟨#[65,67,75]⟩,.string (strOfNums VIA2)] W (RqP W (.ok ((zda 200 [SP2,SP1]),(⟨ACKT,[115,105,112,58,98,64,53,46,54,46,55,46,56],0,[],zpx (zda 200 [SP2,SP1]) ACKT VIA2 7⟩)))) from by
  have hm:=M3b.out.call hb;have h:=zfb (zda 200 [SP2,SP1]) AD3 cD3 ACKT VIA2 W ⟨SF3.out.nil,SF3.out.cap,hm.fact (i:=0) rfl,OD3.out⟩ ⟨by unfold By;decide,by decide⟩ ⟨by unfold By;decide,by decide⟩ (GH.out _ hm.bw);rw [kn_ack] at h
  exact h)
 refine yc6 1 56 57 58 55 59 60 61 3 4 5 (.const (.string (⟨#[65,67,75]⟩))) (by kernel_rfl) (by kernel_rfl) (by kernel_rfl) rfl ⟨⟨_,rfl,rfl,rfl,rfl,rfl⟩,⟨_,rfl,rfl,rfl,rfl,rfl⟩,⟨_,rfl,rfl,rfl,rfl,rfl⟩,⟨_,rfl,rfl,rfl,rfl,rfl⟩,⟨_,rfl,rfl,rfl,rfl,rfl⟩,⟨_,rfl,rfl,rfl,rfl,rfl⟩,⟨_,rfl,rfl,rfl,rfl,rfl⟩,⟨_,rfl,rfl,rfl,rfl,rfl⟩,⟨_,rfl,rfl,rfl,rfl,rfl⟩,⟨_,rfl,rfl,rfl,rfl,rfl⟩,⟨_,rfl,rfl,rfl,rfl,rfl⟩,⟨_,rfl,rfl,rfl,rfl,rfl⟩⟩ (by kernel_rfl) (.ok ((zda 200 [SP2,SP1]),(⟨ACKT,[115,105,112,58,98,64,53,46,54,46,55,46,56],0,[],zpx (zda 200 [SP2,SP1]) ACKT VIA2 7⟩))) (zda 200 [SP2,SP1]) (⟨ACKT,[115,105,112,58,98,64,53,46,54,46,55,46,56],0,[],zpx (zda 200 [SP2,SP1]) ACKT VIA2 7⟩) 0 rfl rfl rfl (⟨#[65,67,75]⟩) (fun _=>rfl) (gb:=g1) rfl rfl RB4 RQ4 ?_
 intro va0 va1 va2 va3 va4 va5 va6 va7 va8 w4 b1 b2 A7 c7 A8 c8 hx;have BWX:=kd hx.bw;have GE1:=kd hx.g1;have GE2:=kd hx.g2;have NE:=kd hx.ne;have RX1:=kd hx.r1;have RX2:=kd hx.r2
 have VA1:=kd hx.va1;have VA2:=kd hx.va2;have VB1:=kd hx.vb1;have VB2:=kd hx.vb2;have SD:=kd hx.sd;have SM:=kd hx.sm;have SQ:=kd hx.sq;clear hx;simp only [putL,Act.put,List.setIfInBounds_toArray,List.set_cons_zero,List.set_cons_succ]
 have M4:=kd ((M3b.out.join BWX.out GE2.out RX2.out).add (F:=fun W=>Rds W W.heap.size A8 (hds (((⟨ACKT,[115,105,112,58,98,64,53,46,54,46,55,46,56],0,[],zpx (zda 200 [SP2,SP1]) ACKT VIA2 7⟩):Msg)).hs)) (znw SM.out (fun hn b o s e hm=>by
  rw [List.map_cons,List.mem_cons] at hm
  rcases hm with h|h
  · exact VB2.out hn b o s e h
  · exact M3b.out.fresh (SQ.out b o s e) h)))
 clear M3b BWX GE1 GE2 NE RX1 RX2 RQ4 RB4 VA1 VA2 VB1 VB2 SD SM SQ;have QK:=kd (show MArg w4 (⟨ACKT,[115,105,112,58,98,64,53,46,54,46,55,46,56],0,[],zpx (zda 200 [SP2,SP1]) ACKT VIA2 7⟩) A8 from ⟨M4.out.fact (i:=0) rfl,ye2.1,ye2.2.1,ye2.2.2.1,ye2.2.2.2.1,ye2.2.2.2.2⟩)
 have RM:=kd (show Row w4 b2 31 (mC (⟨ACKT,[115,105,112,58,98,64,53,46,54,46,55,46,56],0,[],zpx (zda 200 [SP2,SP1]) ACKT VIA2 7⟩) A8 none c8 0 0) from M4.out.row (i:=0) rfl);go_upto_region 3 with (fail)
 go_wp2_with (refine zab rfl 31 (.tmp 4) rfl RM.out rfl Tryz.underlying31 rfl zaw ?_);refine (zn0 (⟨ACKT,[115,105,112,58,98,64,53,46,54,46,55,46,56],0,[],zpx (zda 200 [SP2,SP1]) ACKT VIA2 7⟩) A8 none c8 0 0 w4 QK.out (GH.out _ M4.out.bw)).mono ?_;rintro _ w5 ⟨rfl,hb⟩
 rw [show zan ((⟨ACKT,[115,105,112,58,98,64,53,46,54,46,55,46,56],0,[],zpx (zda 200 [SP2,SP1]) ACKT VIA2 7⟩:Msg).hs)=(7,ACKT,true) from yfp];dsimp only;have M5:=kd (M4.out.call hb);clear hb RM QK M4;go_upto_region 4 with (fail);go_wp2_with fail
 refine (ze3 [] none 0 0 w5 rfl (by decide) (fun r hr=>by cases hr) (fun b o s e=>by cases e) (fun h=>absurd h (by decide))).mono ?_;rintro _ w6 ⟨v6,rfl,X⟩;obtain ⟨A6,c6,rfl,F,HM⟩:=VX.msg (m:=zaz []) X rfl (invS (fun r hr=>by cases hr) (by decide));have M6:=kd (M5.out.call X.bw)
 have B56:=kd X.bw;have H6:=kd HM;clear X F HM;go_wp2_with fail;refine (zek 180 [] none 0 0 w6 rfl (by decide) (fun r hr=>by cases hr) (fun b o s e=>by cases e) (fun h=>absurd h (by decide))).mono ?_;rintro _ w7 ⟨v7,rfl,X⟩
 obtain ⟨A7,c7,rfl,F,HM⟩:=VX.msg (m:=zay 180 []) X rfl (ansS (fun r hr=>by cases hr) (by decide));have M7:=kd (M6.out.call X.bw);have B67:=kd X.bw;have H7:=kd HM;clear X F HM;go_wp2_with fail
 refine (zkp (zaz []) (zay 180 []) A6 none A7 none c6 0 0 c7 0 0 w7 (H6.out.step B67.out) H7.out (GH.out _ M7.out.bw)).mono ?_;intro e w8 hx;rw [yfr] at hx;obtain ⟨AD8,cD8,rfl,hb,sf⟩:=hx;have SF8:=kd sf
 have M8:=kd ((M7.out.call hb).add (F:=fun W=>Rds W W.heap.size AD8 (strs (zd0 180 []).rs)) (za9 sf.r (fun b o s e=>M7.out.fresh (sf.fresh b o s e).1)));clear sf hb;have OD8:=kd (show DOK (zd0 180 []) by exact zo4 (fun r hr=>by cases hr) (by decide))
 go_upto_region 5 with (refine zak rfl 25 (.tmp 8) (.tmp 71) rfl Z12 (dgC (zd0 180 []) AD8 cD8) rfl rfl za6 (zae _ _ _ _ _ _ _ _ _ _ _ _) zat ?_;intro w8b R S);have M8b:=kd (M8.out.join S.out zNr R.out);generalize w8.heap.size=g8 at *;clear R S M8 M5 M6 H6 H7 B67
 have RB9:=kd (show Row w8b g8 25 (dgC (zd0 180 []) AD8 cD8) from M8b.out.row (i:=0) rfl)
 have RQ9:=kd (fun W (hb:Below w8b.heap.size w8b W)=>show Calls Tryz.prog 11 #[.agg (dgC (zd0 180 []) AD8 cD8).toArray,.string ⟨#[66,89,69]⟩,.string (strOfNums VIA2)] W (RqP W (.error 9)) from by
  have hm:=M8b.out.call hb;have h:=zfb (zd0 180 []) AD8 cD8 BYET VIA2 W ⟨SF8.out.nil,SF8.out.cap,hm.fact (i:=0) rfl,OD8.out⟩ ⟨by unfold By;decide,by decide⟩ ⟨by unfold By;decide,by decide⟩ (GH.out _ hm.bw);rw [kn_bye] at h
  exact h)
 refine yc6 8 74 75 76 73 77 78 79 10 11 12 (.const (.string (⟨#[66,89,69]⟩))) (by kernel_rfl) (by kernel_rfl) (by kernel_rfl) rfl ⟨⟨_,rfl,rfl,rfl,rfl,rfl⟩,⟨_,rfl,rfl,rfl,rfl,rfl⟩,⟨_,rfl,rfl,rfl,rfl,rfl⟩,⟨_,rfl,rfl,rfl,rfl,rfl⟩,⟨_,rfl,rfl,rfl,rfl,rfl⟩,⟨_,rfl,rfl,rfl,rfl,rfl⟩,⟨_,rfl,rfl,rfl,rfl,rfl⟩,⟨_,rfl,rfl,rfl,rfl,rfl⟩,⟨_,rfl,rfl,rfl,rfl,rfl⟩,⟨_,rfl,rfl,rfl,rfl,rfl⟩,⟨_,rfl,rfl,rfl,rfl,rfl⟩,⟨_,rfl,rfl,rfl,rfl,rfl⟩⟩ (by kernel_rfl) (.error 9) DZ QZ 9 rfl rfl rfl (⟨#[66,89,69]⟩) (fun _=>rfl) (gb:=g8) rfl rfl RB9 RQ9 ?_
 intro va0 va1 va2 va3 va4 va5 va6 va7 va8 w9 b1 b2 A7 c7 A8 c8 hx;have BWX:=kd hx.bw;have GE1:=kd hx.g1;have GE2:=kd hx.g2;have NE:=kd hx.ne;have RX1:=kd hx.r1;have RX2:=kd hx.r2;clear hx;simp only [putL,Act.put,List.setIfInBounds_toArray,List.set_cons_zero,List.set_cons_succ]
 have M9:=kd (M8b.out.call BWX.out);clear M8b BWX GE1 GE2 NE RX1 RX2 RQ9 RB9;go_upto_region 6 with (fail);have RB10:=kd (show Row w9 g8 25 (dgC (zd0 180 []) AD8 cD8) from M9.out.row (i:=0) rfl)
 have RQ10:=kd (fun W (hb:Below w9.heap.size w9 W)=>show Calls Tryz.prog 11 #[.agg (dgC (zd0 180 []) AD8 cD8).toArray,.string ⟨#[85,80,68,65,84,69]⟩,.string (strOfNums VIA2)] W (RqP W (.ok ((zvu (zd0 180 []) UPDT),⟨UPDT,(wayL (zd0 180 [])).1,0,[],zpx (zd0 180 []) UPDT VIA2 1⟩))) from by
  have hm:=M9.out.call hb;have h:=zfb (zd0 180 []) AD8 cD8 UPDT VIA2 W ⟨SF8.out.nil,SF8.out.cap,hm.fact (i:=0) rfl,OD8.out⟩ ⟨by unfold By;decide,by decide⟩ ⟨by unfold By;decide,by decide⟩ (GH.out _ hm.bw);rw [kn_upd] at h
  exact h)
 refine yc6 8 81 82 83 80 84 85 86 13 14 15 (.const (.string (⟨#[85,80,68,65,84,69]⟩))) (by kernel_rfl) (by kernel_rfl) (by kernel_rfl) rfl ⟨⟨_,rfl,rfl,rfl,rfl,rfl⟩,⟨_,rfl,rfl,rfl,rfl,rfl⟩,⟨_,rfl,rfl,rfl,rfl,rfl⟩,⟨_,rfl,rfl,rfl,rfl,rfl⟩,⟨_,rfl,rfl,rfl,rfl,rfl⟩,⟨_,rfl,rfl,rfl,rfl,rfl⟩,⟨_,rfl,rfl,rfl,rfl,rfl⟩,⟨_,rfl,rfl,rfl,rfl,rfl⟩,⟨_,rfl,rfl,rfl,rfl,rfl⟩,⟨_,rfl,rfl,rfl,rfl,rfl⟩,⟨_,rfl,rfl,rfl,rfl,rfl⟩,⟨_,rfl,rfl,rfl,rfl,rfl⟩⟩ (by kernel_rfl) (.ok ((zvu (zd0 180 []) UPDT),⟨UPDT,(wayL (zd0 180 [])).1,0,[],zpx (zd0 180 []) UPDT VIA2 1⟩)) (zvu (zd0 180 []) UPDT) ⟨UPDT,(wayL (zd0 180 [])).1,0,[],zpx (zd0 180 []) UPDT VIA2 1⟩ 0 rfl rfl rfl (⟨#[85,80,68,65,84,69]⟩) (fun _=>rfl) (gb:=g8) rfl rfl RB10 RQ10 ?_
 intro va0 va1 va2 va3 va4 va5 va6 va7 va8 w10 b1 b2 A7 c7 A8 c8 hx;have BWX:=kd hx.bw;have GE1:=kd hx.g1;have GE2:=kd hx.g2;have NE:=kd hx.ne;have RX1:=kd hx.r1;have RX2:=kd hx.r2
 have VA1:=kd hx.va1;have VA2:=kd hx.va2;have VB1:=kd hx.vb1;have VB2:=kd hx.vb2;have SD:=kd hx.sd;have SM:=kd hx.sm;have SQ:=kd hx.sq;clear hx;simp only [putL,Act.put,List.setIfInBounds_toArray,List.set_cons_zero,List.set_cons_succ];have M10:=kd (M9.out.call BWX.out)
 clear M9 BWX GE1 GE2 NE RX1 RX2 RQ10 RB10 VA1 VA2 VB1 VB2 SD SM SQ;go_upto_region 7 with (fail);go_wp2_with fail;refine (ze3 [] none 0 0 w10 rfl (by decide) (fun r hr=>by cases hr) (fun b o s e=>by cases e) (fun h=>absurd h (by decide))).mono ?_;rintro _ w11 ⟨v11,rfl,X⟩
 obtain ⟨A11,c11,rfl,F,HM⟩:=VX.msg (m:=zaz []) X rfl (invS (fun r hr=>by cases hr) (by decide));have M11:=kd (M10.out.call X.bw);have B1011:=kd X.bw;have H11:=kd HM;clear X F HM;go_wp2_with fail
 refine (zek 300 [] none 0 0 w11 rfl (by decide) (fun r hr=>by cases hr) (fun b o s e=>by cases e) (fun h=>absurd h (by decide))).mono ?_;rintro _ w12 ⟨v12,rfl,X⟩;obtain ⟨A12,c12,rfl,F,HM⟩:=VX.msg (m:=zay 300 []) X rfl (ansS (fun r hr=>by cases hr) (by decide))
 have M12:=kd (M11.out.call X.bw);have B1112:=kd X.bw;have H12:=kd HM;clear X F HM;go_wp2_with fail;refine (zkp (zaz []) (zay 300 []) A11 none A12 none c11 0 0 c12 0 0 w12 (H11.out.step B1112.out) H12.out (GH.out _ M12.out.bw)).mono ?_;intro e w13 hx;rw [kn_300] at hx;obtain ⟨rfl,hb,_⟩:=hx
 have M13:=kd (M12.out.call hb);clear hb;go_upto_region 8 with (refine zak rfl 25 (.tmp 16) (.tmp 91) rfl Z12 Z12 rfl rfl za6 (zae _ _ _ _ _ _ _ _ _ _ _ _) zat ?_;intro w13b R S);have M13b:=kd (M13.out.call S.out);clear R S M13 M10 M11 H11 H12 B1112;go_wp2_with fail
 refine (ze3 [] none 0 0 w13b rfl (by decide) (fun r hr=>by cases hr) (fun b o s e=>by cases e) (fun h=>absurd h (by decide))).mono ?_;rintro _ w14 ⟨v14,rfl,X⟩;obtain ⟨A14,c14,rfl,F,HM⟩:=VX.msg (m:=zaz []) X rfl (invS (fun r hr=>by cases hr) (by decide))
 have M14:=kd (M13b.out.call X.bw);have B13b14:=kd X.bw;have H14:=kd HM;clear X F HM;go_wp2_with fail;refine (zek 100 [] none 0 0 w14 rfl (by decide) (fun r hr=>by cases hr) (fun b o s e=>by cases e) (fun h=>absurd h (by decide))).mono ?_;rintro _ w15 ⟨v15,rfl,X⟩
 obtain ⟨A15,c15,rfl,F,HM⟩:=VX.msg (m:=zay 100 []) X rfl (ansS (fun r hr=>by cases hr) (by decide));have M15:=kd (M14.out.call X.bw);have B1415:=kd X.bw;have H15:=kd HM;clear X F HM;go_wp2_with fail
 refine (zkp (zaz []) (zay 100 []) A14 none A15 none c14 0 0 c15 0 0 w15 (H14.out.step B1415.out) H15.out (GH.out _ M15.out.bw)).mono ?_;intro e w16 hx;rw [kn_100] at hx;obtain ⟨rfl,hb,_⟩:=hx;have M16:=kd (M15.out.call hb);clear hb
 go_upto_region 9 with (refine zak rfl 25 (.tmp 18) (.tmp 97) rfl Z12 Z12 rfl rfl za6 (zae _ _ _ _ _ _ _ _ _ _ _ _) zat ?_;intro w16b R S);have M16b:=kd (M16.out.call S.out);clear R S M16 M13b M14 H14 H15 B1415
 have x8:w16b.cell? ⟨g8,0,none⟩=some (.int .u8 1):=(M16b.out.row (i:=0) rfl).cell 0;have pk:(strOfNums ACKT).toList=[65,67,75]:=zoj (by unfold By;decide) _ rfl;go_upto_region 11 with (fail);clear x8 pk
 have RL17:=kd (Row.new w16b 9 [.string ⟨#[115,105,112,58,112,51,46,101,120,97,109,112,108,101]⟩,.string ⟨#[115,105,112,58,112,49,46,101,120,97,109,112,108,101,59,108,114]⟩])
 have BL17:=kd ((Below.refl w16b.heap.size w16b).alloc zNr (.cells ([.string ⟨#[115,105,112,58,112,51,46,101,120,97,109,112,108,101]⟩,.string ⟨#[115,105,112,58,112,49,46,101,120,97,109,112,108,101,59,108,114]⟩]:List Value).toArray 9));go_wp2_with fail
 generalize w16b.alloc (.cells #[.string ⟨#[115,105,112,58,112,51,46,101,120,97,109,112,108,101]⟩,.string ⟨#[115,105,112,58,112,49,46,101,120,97,109,112,108,101,59,108,114]⟩] 9)=wa17 at *;have Ma17:=kd (M16b.out.call BL17.out)
 refine (ze3 [SP3,SP1] (some ⟨w16b.heap.size,0,none⟩) 2 2 wa17 rfl (by decide) (fun r hr=>(zfn (yfq r hr)).2.1) (fun b o s e=>by cases e;rfl) (zfc RL17.out)).mono ?_;rintro _ w17 ⟨v17,rfl,X⟩;obtain ⟨A17,c17,rfl,F,HM⟩:=VX.msg (m:=zaz [SP3,SP1]) X rfl (invS yfq (by decide))
 have M17:=kd (Ma17.out.call X.bw);have B16b17:=kd (zao BL17.out X.bw);have H17:=kd HM;clear X F HM RL17 BL17 Ma17;go_wp2_with fail;refine (zek 200 [] none 0 0 w17 rfl (by decide) (fun r hr=>by cases hr) (fun b o s e=>by cases e) (fun h=>absurd h (by decide))).mono ?_
 rintro _ w18 ⟨v18,rfl,X⟩;obtain ⟨A18,c18,rfl,F,HM⟩:=VX.msg (m:=zay 200 []) X rfl (ansS (fun r hr=>by cases hr) (by decide));have M18:=kd (M17.out.call X.bw);have B1718:=kd X.bw;have H18:=kd HM;clear X F HM;go_wp2_with fail
 refine (zkp (zaz [SP3,SP1]) (zay 200 []) A17 none A18 none c17 0 0 c18 0 0 w18 (H17.out.step B1718.out) H18.out (GH.out _ M18.out.bw)).mono ?_;intro e w19 hx;rw [yfo] at hx;obtain ⟨AD19,cD19,rfl,hb,sf⟩:=hx;have SF19:=kd sf
 have M19:=kd ((M18.out.call hb).add (F:=fun W=>Rds W W.heap.size AD19 (strs (zd0 200 [SP3,SP1]).rs)) (za9 sf.r (fun b o s e=>M18.out.fresh (sf.fresh b o s e).1)));clear sf hb;have OD19:=kd (show DOK (zd0 200 [SP3,SP1]) by exact zo4 yfq (by decide))
 go_upto_region 12 with (refine zak rfl 25 (.tmp 20) (.tmp 139) rfl Z12 (dgC (zd0 200 [SP3,SP1]) AD19 cD19) rfl rfl za6 (zae _ _ _ _ _ _ _ _ _ _ _ _) zat ?_;intro w19b R S);have M19b:=kd (M19.out.join S.out zNr R.out);generalize w19.heap.size=g20 at *;clear R S M19 M16b M17 H17 H18 B1718
 have RB20:=kd (show Row w19b g20 25 (dgC (zd0 200 [SP3,SP1]) AD19 cD19) from M19b.out.row (i:=0) rfl)
 have RQ20:=kd (fun W (hb:Below w19b.heap.size w19b W)=>show Calls Tryz.prog 11 #[.agg (dgC (zd0 200 [SP3,SP1]) AD19 cD19).toArray,.string ⟨#[73,78,70,79]⟩,.string (strOfNums VIA2)] W (RqP W (.ok ((zvu (zd0 200 [SP3,SP1]) INFOT),(⟨INFOT,SP3,0,[],zpx (zd0 200 [SP3,SP1]) INFOT VIA2 1⟩)))) from by
  have hm:=M19b.out.call hb;have h:=zfb (zd0 200 [SP3,SP1]) AD19 cD19 INFOT VIA2 W ⟨SF19.out.nil,SF19.out.cap,hm.fact (i:=0) rfl,OD19.out⟩ ⟨by unfold By;decide,by decide⟩ ⟨by unfold By;decide,by decide⟩ (GH.out _ hm.bw);rw [yfy] at h
  exact h)
 refine yc6 20 142 143 144 141 145 146 147 22 23 24 (.const (.string (⟨#[73,78,70,79]⟩))) (by kernel_rfl) (by kernel_rfl) (by kernel_rfl) rfl ⟨⟨_,rfl,rfl,rfl,rfl,rfl⟩,⟨_,rfl,rfl,rfl,rfl,rfl⟩,⟨_,rfl,rfl,rfl,rfl,rfl⟩,⟨_,rfl,rfl,rfl,rfl,rfl⟩,⟨_,rfl,rfl,rfl,rfl,rfl⟩,⟨_,rfl,rfl,rfl,rfl,rfl⟩,⟨_,rfl,rfl,rfl,rfl,rfl⟩,⟨_,rfl,rfl,rfl,rfl,rfl⟩,⟨_,rfl,rfl,rfl,rfl,rfl⟩,⟨_,rfl,rfl,rfl,rfl,rfl⟩,⟨_,rfl,rfl,rfl,rfl,rfl⟩,⟨_,rfl,rfl,rfl,rfl,rfl⟩⟩ (by kernel_rfl) (.ok ((zvu (zd0 200 [SP3,SP1]) INFOT),(⟨INFOT,SP3,0,[],zpx (zd0 200 [SP3,SP1]) INFOT VIA2 1⟩))) (zvu (zd0 200 [SP3,SP1]) INFOT) (⟨INFOT,SP3,0,[],zpx (zd0 200 [SP3,SP1]) INFOT VIA2 1⟩) 0 rfl rfl rfl (⟨#[73,78,70,79]⟩) (fun _=>rfl) (gb:=g20) rfl rfl RB20 RQ20 ?_
 intro va0 va1 va2 va3 va4 va5 va6 va7 va8 w20 b1 b2 A7 c7 A8 c8 hx;have BWX:=kd hx.bw;have GE1:=kd hx.g1;have GE2:=kd hx.g2;have NE:=kd hx.ne;have RX1:=kd hx.r1;have RX2:=kd hx.r2
 have VA1:=kd hx.va1;have VA2:=kd hx.va2;have VB1:=kd hx.vb1;have VB2:=kd hx.vb2;have SD:=kd hx.sd;have SM:=kd hx.sm;have SQ:=kd hx.sq;clear hx;simp only [putL,Act.put,List.setIfInBounds_toArray,List.set_cons_zero,List.set_cons_succ]
 have M20:=kd ((M19b.out.join BWX.out GE2.out RX2.out).add (F:=fun W=>Rds W W.heap.size A8 (hds (((⟨INFOT,SP3,0,[],zpx (zd0 200 [SP3,SP1]) INFOT VIA2 1⟩):Msg)).hs)) (znw SM.out (fun hn b o s e hm=>by
  rw [List.map_cons,List.mem_cons] at hm
  rcases hm with h|h
  · exact VB2.out hn b o s e h
  · exact M19b.out.fresh (SQ.out b o s e) h)))
 clear M19b BWX GE1 GE2 NE RX1 RX2 RQ20 RB20 VA1 VA2 VB1 VB2 SD SM SQ;have QK:=kd (show MArg w20 (⟨INFOT,SP3,0,[],zpx (zd0 200 [SP3,SP1]) INFOT VIA2 1⟩) A8 from ⟨M20.out.fact (i:=0) rfl,ye1.1,ye1.2.1,ye1.2.2.1,ye1.2.2.2.1,ye1.2.2.2.2⟩)
 have RM:=kd (show Row w20 b2 31 (mC (⟨INFOT,SP3,0,[],zpx (zd0 200 [SP3,SP1]) INFOT VIA2 1⟩) A8 none c8 0 0) from M20.out.row (i:=0) rfl);have km0:w20.cell? ⟨b2,0,none⟩=some (.string (strOfNums INFOT)):=RM.out.cell 0
 have km1:w20.cell? ⟨b2,1,none⟩=some (.string (strOfNums SP3)):=RM.out.cell 1;have km2:w20.cell? ⟨b2,2,none⟩=some (.int .i64 0):=RM.out.cell 2;have km3:w20.cell? ⟨b2,3,none⟩=some (.string (strOfNums [])):=RM.out.cell 3
 have km4:w20.cell? ⟨b2,4,none⟩=some (.slice A8 (zpx (zd0 200 [SP3,SP1]) INFOT VIA2 1).length c8):=RM.out.cell 4;have km5:w20.cell? ⟨b2,5,none⟩=some (.slice none 0 0):=RM.out.cell 5
 have pu:(strOfNums SP3).toList=[115,105,112,58,112,51,46,101,120,97,109,112,108,101]:=zoj (by unfold By;decide) _ rfl;go_upto_region 13 with (fail);go_wp2_with fail
 refine (znf (⟨INFOT,SP3,0,[],zpx (zd0 200 [SP3,SP1]) INFOT VIA2 1⟩) A8 none c8 0 0 ⟨#[82,111,117,116,101]⟩ w20 QK.out (by decide) (GH.out _ M20.out.bw).s (GH.out _ M20.out.bw).k).mono ?_;rintro _ w21 ⟨vr,rfl,X⟩
 rw [show allH ((⟨INFOT,SP3,0,[],zpx (zd0 200 [SP3,SP1]) INFOT VIA2 1⟩:Msg).hs) (zaa ⟨#[82,111,117,116,101]⟩)=[brak SP1,brak [115,105,112,58,97,64,49,46,50,46,51,46,52]] from kn_rt] at X;obtain ⟨AR,cR,rfl,sf⟩:=X.sf;have M21:=kd (M20.out.call X.bw);have SFR:=kd sf
 clear X sf M20 QK RM km0 km1 km2 km3 km4 km5 pu;have RL:=kd (Row.new w21 9 [.string ⟨#[60,115,105,112,58,112,49,46,101,120,97,109,112,108,101,59,108,114,62]⟩,.string ⟨#[60,115,105,112,58,97,64,49,46,50,46,51,46,52,62]⟩])
 have BL:=kd ((Below.refl w21.heap.size w21).alloc zNr (.cells ([.string ⟨#[60,115,105,112,58,112,49,46,101,120,97,109,112,108,101,59,108,114,62]⟩,.string ⟨#[60,115,105,112,58,97,64,49,46,50,46,51,46,52,62]⟩]:List Value).toArray 9));go_wp2_with fail
 generalize w21.alloc (.cells #[.string ⟨#[60,115,105,112,58,112,49,46,101,120,97,109,112,108,101,59,108,114,62]⟩,.string ⟨#[60,115,105,112,58,97,64,49,46,50,46,51,46,52,62]⟩] 9)=w22 at *;have M22:=kd (M21.out.call BL.out)
 refine (zjs [brak SP1,brak [115,105,112,58,97,64,49,46,50,46,51,46,52]] [brak SP1,brak [115,105,112,58,97,64,49,46,50,46,51,46,52]] AR (some ⟨w21.heap.size,0,none⟩) 2 cR 2 2 w22 rfl rfl (by decide) (fun b o s e=>(SFR.out.fresh b o s e).2) (fun b o s e=>by cases e;rfl) (SFR.out.step BL.out).r (zfc RL.out) (by unfold By;decide) (by unfold By;decide)).mono ?_
 rintro _ w23 ⟨rfl,hb⟩;rw [yak];have M23:=kd (M22.out.call hb);clear hb RL BL M21 M22 SFR;go_upto_region 15 with (fail);have RB25:=kd (show Row w23 g1 25 (dgC (zda 200 [SP2,SP1]) AD3 cD3) from M23.out.row (i:=4) rfl)
 have RQ25:=kd (fun W (hb:Below w23.heap.size w23 W)=>show Calls Tryz.prog 11 #[.agg (dgC (zda 200 [SP2,SP1]) AD3 cD3).toArray,.string ⟨#[67,65,78,67,69,76]⟩,.string (strOfNums VIA2)] W (RqP W (.error 2)) from by
  have hm:=M23.out.call hb;have h:=zfb (zda 200 [SP2,SP1]) AD3 cD3 zho VIA2 W ⟨SF3.out.nil,SF3.out.cap,hm.fact (i:=4) rfl,OD3.out⟩ ⟨by unfold By;decide,by decide⟩ ⟨by unfold By;decide,by decide⟩ (GH.out _ hm.bw);rw [kn_can] at h
  exact h)
 refine yc6 1 163 164 165 162 166 167 168 25 26 27 (.const (.string (⟨#[67,65,78,67,69,76]⟩))) (by kernel_rfl) (by kernel_rfl) (by kernel_rfl) rfl ⟨⟨_,rfl,rfl,rfl,rfl,rfl⟩,⟨_,rfl,rfl,rfl,rfl,rfl⟩,⟨_,rfl,rfl,rfl,rfl,rfl⟩,⟨_,rfl,rfl,rfl,rfl,rfl⟩,⟨_,rfl,rfl,rfl,rfl,rfl⟩,⟨_,rfl,rfl,rfl,rfl,rfl⟩,⟨_,rfl,rfl,rfl,rfl,rfl⟩,⟨_,rfl,rfl,rfl,rfl,rfl⟩,⟨_,rfl,rfl,rfl,rfl,rfl⟩,⟨_,rfl,rfl,rfl,rfl,rfl⟩,⟨_,rfl,rfl,rfl,rfl,rfl⟩,⟨_,rfl,rfl,rfl,rfl,rfl⟩⟩ (by kernel_rfl) (.error 2) DZ QZ 2 rfl rfl rfl (⟨#[67,65,78,67,69,76]⟩) (fun _=>rfl) (gb:=g1) rfl rfl RB25 RQ25 ?_
 intro va0 va1 va2 va3 va4 va5 va6 va7 va8 w25 b1 b2 A7 c7 A8 c8 hx;have BWX:=kd hx.bw;have GE1:=kd hx.g1;have GE2:=kd hx.g2;have NE:=kd hx.ne;have RX1:=kd hx.r1;have RX2:=kd hx.r2;clear hx;simp only [putL,Act.put,List.setIfInBounds_toArray,List.set_cons_zero,List.set_cons_succ]
 have M25:=kd (M23.out.call BWX.out);clear M23 BWX GE1 GE2 NE RX1 RX2 RQ25 RB25;go_upto_region 16 with (fail);have RB26:=kd (show Row w25 g1 25 (dgC (zda 200 [SP2,SP1]) AD3 cD3) from M25.out.row (i:=4) rfl)
 have RQ26:=kd (fun W (hb:Below w25.heap.size w25 W)=>show Calls Tryz.prog 11 #[.agg (dgC (zda 200 [SP2,SP1]) AD3 cD3).toArray,.string ⟨#[]⟩,.string (strOfNums VIA2)] W (RqP W (.error 2)) from by
  have hm:=M25.out.call hb;have h:=zfb (zda 200 [SP2,SP1]) AD3 cD3 [] VIA2 W ⟨SF3.out.nil,SF3.out.cap,hm.fact (i:=4) rfl,OD3.out⟩ ⟨by unfold By;decide,by decide⟩ ⟨by unfold By;decide,by decide⟩ (GH.out _ hm.bw);rw [kn_nil] at h
  exact h)
 refine yc6 1 170 171 172 169 173 174 175 28 29 30 (.const (.string (⟨#[]⟩))) (by kernel_rfl) (by kernel_rfl) (by kernel_rfl) rfl ⟨⟨_,rfl,rfl,rfl,rfl,rfl⟩,⟨_,rfl,rfl,rfl,rfl,rfl⟩,⟨_,rfl,rfl,rfl,rfl,rfl⟩,⟨_,rfl,rfl,rfl,rfl,rfl⟩,⟨_,rfl,rfl,rfl,rfl,rfl⟩,⟨_,rfl,rfl,rfl,rfl,rfl⟩,⟨_,rfl,rfl,rfl,rfl,rfl⟩,⟨_,rfl,rfl,rfl,rfl,rfl⟩,⟨_,rfl,rfl,rfl,rfl,rfl⟩,⟨_,rfl,rfl,rfl,rfl,rfl⟩,⟨_,rfl,rfl,rfl,rfl,rfl⟩,⟨_,rfl,rfl,rfl,rfl,rfl⟩⟩ (by kernel_rfl) (.error 2) DZ QZ 2 rfl rfl rfl (⟨#[]⟩) (fun _=>rfl) (gb:=g1) rfl rfl RB26 RQ26 ?_
 intro va0 va1 va2 va3 va4 va5 va6 va7 va8 w26 b1 b2 A7 c7 A8 c8 hx;have BWX:=kd hx.bw;have GE1:=kd hx.g1;have GE2:=kd hx.g2;have NE:=kd hx.ne;have RX1:=kd hx.r1;have RX2:=kd hx.r2;clear hx;simp only [putL,Act.put,List.setIfInBounds_toArray,List.set_cons_zero,List.set_cons_succ]
 have M26:=kd (M25.out.call BWX.out);clear M25 BWX GE1 GE2 NE RX1 RX2 RQ26 RB26;go_upto_region 17 with (fail);have RB:=kd (show Row w26 g1 25 (dgC (zda 200 [SP2,SP1]) AD3 cD3) from M26.out.row (i:=4) rfl)
 go_wp2_with (refine zab rfl 25 (.tmp 1) rfl RB.out rfl Tryz.underlying25 rfl (zae _ _ _ _ _ _ _ _ _ _ _ _) ?_)
 have HQ:=zfb (zda 200 [SP2,SP1]) AD3 cD3 INFOT [] w26 ⟨SF3.out.nil,SF3.out.cap,M26.out.fact (i:=4) rfl,OD3.out⟩ ⟨by unfold By;decide,by decide⟩ ⟨by unfold By;decide,by decide⟩ (GH.out _ M26.out.bw);rw [kn_via] at HQ;refine HQ.mono ?_;rintro _ w27 ⟨rfl,hb,_⟩
 have M27:=kd (M26.out.call hb);clear hb RB HQ M26;have MA:=kd (yfe M27.out 25 31 Z12 Z6m);go_upto_region 18 with (with_reducible refine zad MA.out 1 rfl 25 (.tmp 31) (.tmp 179) rfl Z12 _ rfl rfl rfl rfl ?hl ?hz ?h1 ?hh)
 case hl=>exact za6
 case hz=>exact zae _ _ _ _ _ _ _ _ _ _ _ _
 case h1=>exact zat
 case hh =>
 intro w27b M27b;clear MA M27;go_upto_region 18 with (with_reducible refine zad M27b.out 0 rfl 31 (.tmp 32) (.tmp 180) rfl Z6m _ rfl rfl rfl rfl ?hl ?hz ?h1 ?hh)
 case hl=>exact lenU
 case hz=>exact zaw
 case h1=>exact zg8
 case hh =>
 intro w27c M27c;clear M27b;go_upto_region 18 with (fail);have MB:=kd (show Mine w w27c [] [] from (M27c.out.sub (L':=[]) (fun r hr=>by cases hr) List.nodup_nil).less (fun F hF=>by cases hF));clear M27c;go_wp2_with fail
 go_loopw [34] (fun V wr => ∃ k:Nat,k≤17∧Hid (SXL w27c V (List.replicate k SP1) wr)) (fun V _=>17 - (match V with | .slice _ n _=>n|_=>0))
 case atStart=>exact ⟨0,Nat.zero_le _,kd (VX.nil _ _ _)⟩
 case round =>
  obtain ⟨k,hk,VH⟩:=hrel;obtain ⟨AL,cl,hv,sf⟩:=VH.out.sf;rw [List.length_replicate] at hv;subst hv
  by_cases hlt:k<17
  · have hd:decide ((k:Int)<17)=true:=by simp;omega
    have CN:=kd (show List.replicate (k+1) SP1=List.replicate k SP1++[SP1] from List.replicate_succ');clear sf;go_wp2_with (refine zc8 rfl (.tmp 185) (.tmp 186) rfl _ _ rfl VH.out SP1 rfl (by rw [List.length_replicate];omega) ?_);intro v' w' hx
    have XN:=kd (show SXL w27c v' (List.replicate (k+1) SP1) w' by rw [CN.out];exact hx.out);obtain ⟨A',c',hv',_⟩:=XN.out.sf;rw [List.length_replicate] at hv';subst hv';clear hx CN VH;go_wp2_with fail;go_roundw
    case rel=>exact ⟨k+1,by omega,XN⟩
    case measure=>dsimp only;omega
  have hk17:k=17:=by omega
  subst hk17;clear hlt hk;have M1:=kd ((MB.out.call VH.out.bw).add (F:=fun W=>Rds W W.heap.size AL (strs (List.replicate 17 SP1))) (za9 sf.r (fun b o s e=>MB.out.fresh (sf.fresh b o s e).1)));have SFL:=kd sf;clear sf VH MB;go_upto_region 21 with (fail);go_wp2_with fail
  refine (ze3 (List.replicate 17 SP1) AL 17 cl wr (by simp) (by decide) (fun r hr=>(zfn (yfv r hr)).2.1) (fun b o s e=>(SFL.out.fresh b o s e).2) (M1.out.fact (i:=0) rfl)).mono ?_;rintro _ w90 ⟨v90,rfl,X⟩
  obtain ⟨A90,c90,rfl,FX,HM⟩:=VX.msg (m:=zaz (List.replicate 17 SP1)) X (by kernel_rfl) (invS yfv (by decide));have M90:=kd (M1.out.call X.bw);have H90:=kd HM;clear X FX HM M1 SFL;go_wp2_with fail
  refine (zek 200 [] none 0 0 w90 rfl (by decide) (fun r hr=>by cases hr) (fun b o s e=>by cases e) (fun h=>absurd h (by decide))).mono ?_;rintro _ w28 ⟨v28,rfl,X⟩;obtain ⟨A28,c28,rfl,F,HM⟩:=VX.msg (m:=zay 200 []) X rfl (ansS (fun r hr=>by cases hr) (by decide))
  have M28:=kd (M90.out.call X.bw);have B9028:=kd X.bw;have H28:=kd HM;clear X F HM;go_wp2_with fail;refine (zkp (zaz (List.replicate 17 SP1)) (zay 200 []) A90 none A28 none c90 0 0 c28 0 0 w28 (H90.out.step B9028.out) H28.out (GH.out _ M28.out.bw)).mono ?_;intro e w29 hx;rw [yfx] at hx
  obtain ⟨rfl,hb,_⟩:=hx;have M29:=kd (M28.out.call hb);clear hb;go_upto_region 22 with (refine zak rfl 25 (.tmp 35) (.tmp 193) rfl Z12 Z12 rfl rfl za6 (zae _ _ _ _ _ _ _ _ _ _ _ _) zat ?_;intro w29b R S)
  have MC:=kd (show Mine w w29b [] [] from (M29.out.call S.out).less (fun F hF=>by cases hF));clear R S M29 M90 H90 H28 B9028 M28;have AC1:=kd (fun w=>show Calls Tryz.prog 25 #[.int .i64 200] w (OutP w (⟨4,500,200⟩,[⟨1,200,0,0⟩,⟨4,0,7,500⟩,⟨4,0,8,32000⟩])) from ye7 200 w)
  have AC2:=kd (fun w=>show Calls Tryz.prog 25 #[.int .i64 486] w (OutP w (⟨0,0,0⟩,[])) from ye7 486 w)
  have AC3:=kd (fun w=>show Calls Tryz.prog 28 #[.agg #[.int .u8 4,.int .i64 500,.int .i64 200],.agg #[.int .u8 3,.int .i64 0,.int .u8 0]] w (OutP w (⟨7,0,200⟩,[⟨7,0,0,0⟩])) from yfj ⟨4,500,200⟩ 3 0 0 w);go_wp2_with fail;refine (AC1.out _).mono ?_
  rintro _ w30 ⟨Ap,cp,rfl,hb,hf,hr⟩;have M30:=kd (MC.out.call hb);clear hb hf hr MC;dsimp only [mchV,List.length_cons,List.length_nil,Nat.zero_add]
  go_upto_region 23 with (refine zak rfl 60 (.tmp 37) (.tmp 197) rfl [.int .u8 0,.int .i64 0,.int .i64 0] [.int .u8 4,.int .i64 500,.int .i64 200] rfl rfl (ye8 _ _ _ _ _ _) (ye0 _ _ _) (one3 _ _ _) ?_;intro w30b R S);have M30b:=kd (M30.out.join S.out zNr R.out)
  generalize w30.heap.size=g37 at *;clear R S M30;go_wp2_with fail;refine (AC2.out _).mono ?_;rintro _ w31 ⟨Aq,cq,rfl,hb,hf,hr⟩;have M31:=kd (M30b.out.call hb);clear hb hf hr M30b;dsimp only [mchV,List.length_cons,List.length_nil,Nat.zero_add]
  go_upto_region 24 with (refine zak rfl 60 (.tmp 39) (.tmp 201) rfl [.int .u8 0,.int .i64 0,.int .i64 0] [.int .u8 0,.int .i64 0,.int .i64 0] rfl rfl (ye8 _ _ _ _ _ _) (ye0 _ _ _) (one3 _ _ _) ?_;intro w31b R S);have M31b:=kd (M31.out.join S.out zNr R.out);generalize w31.heap.size=g39 at *
  clear R S M31;have RM:=kd (M31b.out.row (i:=1) rfl);go_wp2_with (with_reducible refine zab rfl 60 (.tmp 37) rfl RM.out rfl Tryz.underlying60 rfl (ye0 _ _ _) ?_);refine (AC3.out _).mono ?_;rintro _ w32 ⟨Ar,cr,rfl,hb,hf,hr⟩;have M32:=kd (M31b.out.call hb);clear hb hf hr M31b
  dsimp only [mchV,List.length_cons,List.length_nil,Nat.zero_add];go_upto_region 25 with (refine zak rfl 60 (.tmp 41) (.tmp 207) rfl [.int .u8 0,.int .i64 0,.int .i64 0] [.int .u8 7,.int .i64 0,.int .i64 200] rfl rfl (ye8 _ _ _ _ _ _) (ye0 _ _ _) (one3 _ _ _) ?_;intro w32b R S)
  have M32b:=kd (M32.out.join S.out zNr R.out);generalize w32.heap.size=g41 at *;clear R S M32;clear RM AC1 AC2 AC3;have RL33:=kd (Row.new w32b 9 [.string ⟨#[115,105,112,58,112,50,46,101,120,97,109,112,108,101,59,108,114]⟩])
  have BL33:=kd ((Below.refl w32b.heap.size w32b).alloc zNr (.cells ([.string ⟨#[115,105,112,58,112,50,46,101,120,97,109,112,108,101,59,108,114]⟩]:List Value).toArray 9));go_wp2_with fail
  generalize w32b.alloc (.cells #[.string ⟨#[115,105,112,58,112,50,46,101,120,97,109,112,108,101,59,108,114]⟩] 9)=wa33 at *;have Ma33:=kd (M32b.out.call BL33.out)
  refine (ze3 [SP2] (some ⟨w32b.heap.size,0,none⟩) 1 1 wa33 rfl (by decide) (fun r hr=>(zfn (sps2 r hr)).2.1) (fun b o s e=>by cases e;rfl) (zfc RL33.out)).mono ?_;rintro _ w33 ⟨v33,rfl,X⟩;obtain ⟨A33,c33,rfl,F,HM⟩:=VX.msg (m:=zaz [SP2]) X rfl (invS sps2 (by decide))
  have M33:=kd (Ma33.out.call X.bw);have B32b33:=kd (zao BL33.out X.bw);have H33:=kd HM;clear X F HM RL33 BL33 Ma33;have RL34:=kd (Row.new w33 9 [.string ⟨#[115,105,112,58,112,50,46,101,120,97,109,112,108,101,59,108,114]⟩])
  have BL34:=kd ((Below.refl w33.heap.size w33).alloc zNr (.cells ([.string ⟨#[115,105,112,58,112,50,46,101,120,97,109,112,108,101,59,108,114]⟩]:List Value).toArray 9));go_wp2_with fail
  generalize w33.alloc (.cells #[.string ⟨#[115,105,112,58,112,50,46,101,120,97,109,112,108,101,59,108,114]⟩] 9)=wa34 at *;have Ma34:=kd (M33.out.call BL34.out)
  refine (zek 180 [SP2] (some ⟨w33.heap.size,0,none⟩) 1 1 wa34 rfl (by decide) (fun r hr=>(zfn (sps2 r hr)).2.1) (fun b o s e=>by cases e;rfl) (zfc RL34.out)).mono ?_;rintro _ w34 ⟨v34,rfl,X⟩;obtain ⟨A34,c34,rfl,F,HM⟩:=VX.msg (m:=zay 180 [SP2]) X rfl (ansS sps2 (by decide))
  have M34:=kd (Ma34.out.call X.bw);have B3334:=kd (zao BL34.out X.bw);have H34:=kd HM;clear X F HM RL34 BL34 Ma34;go_wp2_with fail;refine (zgw (zaz [SP2]) (zay 180 [SP2]) A33 none A34 none c33 0 0 c34 0 0 w34 (H33.out.step B3334.out) H34.out (GH.out _ M34.out.bw)).mono ?_;intro e w35 hx
  rw [kn_w] at hx;obtain ⟨AD35,cD35,rfl,hb,sf⟩:=hx;have SF35:=kd sf;have M35:=kd ((M34.out.call hb).add (F:=fun W=>Rds W W.heap.size AD35 (strs (zda 180 [SP2]).rs)) (za9 sf.r (fun b o s e=>M34.out.fresh (sf.fresh b o s e).1)));clear sf hb
  have OD35:=kd (show DOK (zda 180 [SP2]) by exact zku sps2 (by decide));go_upto_region 26 with (refine zak rfl 25 (.tmp 43) (.tmp 215) rfl Z12 (dgC (zda 180 [SP2]) AD35 cD35) rfl rfl za6 (zae _ _ _ _ _ _ _ _ _ _ _ _) zat ?_;intro w35b R S);have M35b:=kd (M35.out.join S.out zNr R.out)
  generalize w35.heap.size=g43 at *;clear R S M35 M32b M33 H33 H34 B3334;obtain ⟨D2,hD2⟩:∃ x,({ zda 180 [SP2] with st:=2,rs:=[SP2,SP1] }:Dlg)=x:=⟨_,rfl⟩;have KY:=kd (show zbi (zda 180 [SP2]) (zay 200 [SP1,SP2]) = .ok D2 by rw [← hD2];exact kn_y)
  have D2S:=kd (show D2.st=2 by rw [← hD2]);have D2R:=kd (show D2.rs=[SP2,SP1] by rw [← hD2]);clear hD2;have RB:=kd (show Row w35b g43 25 (dgC (zda 180 [SP2]) AD35 cD35) from M35b.out.row (i:=0) rfl)
  refine zjz (by kernel_rfl) (by kernel_rfl) (fun (i:Nat) (W:World) (v:Value)=>match i with
   | 0=>v = .agg (dgC (zda 180 [SP2]) AD35 cD35).toArray
   | 1=>SlT [.string ⟨#[115,105,112,58,112,49,46,101,120,97,109,112,108,101,59,108,114]⟩,.string ⟨#[115,105,112,58,112,50,46,101,120,97,109,112,108,101,59,108,114]⟩] 2 W v
   | 2=>AM w35b (zay 200 [SP1,SP2]) W v
   | 3=>AC w35b D2 W v
   | 4=>AC w35b D2 W v
   | 5=>AD w35b D2 W v
   | 6=>v = .int .u8 0
   | 9=>v = .int .u8 0
   | _=>True) (fun (i:Nat) (v:Value) (b:Nat)=>match i with
   | 1=>VSl 2 v b
   | 2=>VM (zay 200 [SP1,SP2]) v b
   | 3=>VC D2 v b
   | 4=>VC D2 v b
   | 5=>VD D2 v b
   | _=>True) [⟨7,8,5,45,222,25,Z12⟩] (by kernel_rfl) ?hK ?hkk ?hpo ?hAb ?hAs ?hAn ?hval ?hstep ?hend
  case hK =>
   intro κ hκ;obtain rfl:=List.mem_singleton.1 hκ;exact ⟨⟨_,rfl,rfl,rfl,rfl⟩,⟨_,rfl,rfl⟩,⟨_,rfl,rfl,rfl,rfl,by kernel_rfl,by kernel_rfl⟩,by kernel_rfl,by kernel_rfl⟩
  case hkk =>
   intro x hx y hy h;rw [List.mem_singleton.1 hx,List.mem_singleton.1 hy]
  case hpo =>
   intro κ hκ;obtain rfl:=List.mem_singleton.1 hκ
   rfl
  case hAb =>
   intro i v W W' hb h
   rcases i with _|_|_|_|_|_|_|_|_|_|i
   all_goals first
    | exact h
    | exact AC.below h hb
    | exact AD.below h hb
    | exact AM.below h hb
    | exact SlT.below h hb
  case hAs =>
   intro i v W W' b h hv hs hh
   rcases i with _|_|_|_|_|_|_|_|_|_|i
   all_goals first
    | exact h
    | exact AC.off h hv hs hh
    | exact AD.off h hv hs hh
    | exact AM.off h hv hs hh
    | exact SlT.off h hv hh
  case hAn =>
   intro i v W h
   rcases i with _|_|_|_|_|_|_|_|_|_|i
   all_goals first
    | exact trivial
    | exact AC.new h
    | exact AD.new h
    | exact AM.new h
    | exact SlT.new h
  case hval =>
   intro κ hκ W v h;obtain rfl:=List.mem_singleton.1 hκ;obtain ⟨A0,c0,rfl,_⟩:=(show AD w35b D2 W v from h);exact ⟨_,rfl,rfl,zat⟩
  case hstep =>
   intro i o hp ho a' W hB hF hD _
   match i,ho,hp with
   | 0,ho,hp =>
     obtain rfl:=zSi ho;exact (zaf ho rfl (zf4 25 (.tmp 43) rfl g43 0 (dgC (zda 180 [SP2]) AD35 cD35) _ ((zap hF (by kernel_rfl)).trans rfl) ((RB.out.below hB).range) Tryz.underlying25 rfl (zae _ _ _ _ _ _ _ _ _ _ _ _) ⟨_,rfl,Below.refl _ _,fun _ _=>⟨rfl,fun _ _ _=>trivial⟩⟩))
   | 1,ho,hp =>
     obtain rfl:=zSi ho;exact (zaf ho rfl (yfu _ _ rfl fun hr=>⟨_,rfl,zBr.alloc zNr _,fun _ _=>⟨⟨_,rfl,hr⟩,fun b hlt _ x e=>by cases e;omega⟩⟩))
   | 2,ho,hp =>
     obtain rfl:=zSi ho
     obtain ⟨x,ex,hx⟩:=(show SlT [.string ⟨#[115,105,112,58,112,49,46,101,120,97,109,112,108,101,59,108,114]⟩,.string ⟨#[115,105,112,58,112,50,46,101,120,97,109,112,108,101,59,108,114]⟩] 2 W (a'.eval (.tmp 219)) from ((zai hD 1 (by kernel_rfl) rfl rfl) rfl))
     exact (zaf ho rfl (zc3 18 _ _ rfl #[.int .i64 200,.slice (some ⟨x,0,none⟩) 2 2] (by simp only [List.map_toArray,List.map_cons,List.map_nil,ex];rfl) (enters_of Tryz.func18 (by kernel_rfl) rfl) ((zek 200 [SP1,SP2] (some ⟨x,0,none⟩) 2 2 W rfl (by decide) (fun r hr=>(zfn (yfw r hr)).2.1) (fun b o s e=>by cases e;rfl) (zfc hx)).mono fun e W2 h=>by
      obtain ⟨v,rfl,X⟩:=h;obtain ⟨A,c,rfl,F,HM⟩:=VX.msg (m:=zay 200 [SP1,SP2]) X rfl (ansS yfw (by decide))
      exact ⟨_,rfl,_,rfl,X.bw,fun _ _=>⟨⟨A,c,rfl,fun b o s e=>Nat.le_trans hB.size (F b o s e),HM.r⟩,fun b hlt _ B e he=>by rw [← zof (q:=zay 200 [SP1,SP2]) (A:=A) (c:=c) he];exact zra F hlt⟩⟩)))
   | 3,ho,hp =>
     obtain rfl:=zSi ho;obtain ⟨A2,c2,e2,f2,r2⟩:=(show AM w35b (zay 200 [SP1,SP2]) W (a'.eval (.tmp 220)) from ((zai hD 2 (by kernel_rfl) rfl rfl) rfl));have hx0:a'.eval (.tmp 218) = .agg (dgC (zda 180 [SP2]) AD35 cD35).toArray:=((zai hD 0 (by kernel_rfl) rfl rfl) rfl)
     have hm:=M35b.out.call hB;have hS:=ansS (c:=200) yfw (by decide)
     exact (zaf ho rfl (zc3 24 _ _ rfl #[.agg (dgC (zda 180 [SP2]) AD35 cD35).toArray,.agg (mC (zay 200 [SP1,SP2]) A2 none c2 0 0).toArray] (by simp only [List.map_toArray,List.map_cons,List.map_nil,hx0,e2]) (enters_of Tryz.func24 (by kernel_rfl) rfl) ((zfu (zda 180 [SP2]) AD35 cD35 (zay 200 [SP1,SP2]) A2 none c2 0 0 W ⟨SF35.out.nil,SF35.out.cap,hm.fact (i:=0) rfl,OD35.out⟩ ⟨r2,hS.1,hS.2.1,hS.2.2.1,hS.2.2.2.1,hS.2.2.2.2⟩ (GH.out _ hm.bw)).mono fun e W2 h=>by
      obtain ⟨v,he,hb,ha,hv⟩:=CrP.at KY.out h hB
      exact ⟨v,he,v,rfl,hb,fun _ _=>⟨ha,fun b hlt _=>hv b hlt⟩⟩)))
   | 4,ho,hp =>
     obtain rfl:=zSi ho;exact (zaf ho rfl (zb5 (.tmp 221) (.inl rfl) ⟨_,rfl,Below.refl _ _,fun _ _=>⟨((zai hD 3 (by kernel_rfl) rfl rfl) rfl),fun b _ hd=>((zai hd 3 (by kernel_rfl) rfl rfl) rfl)⟩⟩))
   | 5,ho,hp =>
     obtain rfl:=zSi ho;obtain ⟨A0,c0,e0,s0⟩:=(show AC w35b D2 W (a'.eval (.tmp 217)) from ((zai hD 4 (by kernel_rfl) rfl rfl) rfl))
     exact (zaf ho rfl (zle (.tmp 217) 0 rfl e0 _ rfl ⟨_,rfl,Below.refl _ _,fun _ _=>⟨⟨A0,c0,rfl,s0⟩,fun b _ hd B e' he=>by
      have hvt:VC D2 (a'.eval (.tmp 217)) b:=((zai hd 4 (by kernel_rfl) rfl rfl) rfl);rw [← zkv he]
      exact hvt A0 c0 e0⟩⟩))
   | 6,ho,hp =>
     obtain rfl:=zSi ho;obtain ⟨A0,c0,e0,s0⟩:=(show AC w35b D2 W (a'.eval (.tmp 217)) from ((zai hD 4 (by kernel_rfl) rfl rfl) rfl));exact (zaf ho rfl (zle (.tmp 217) 1 rfl e0 _ rfl ⟨_,rfl,Below.refl _ _,fun _ _=>⟨rfl,fun _ _ _=>trivial⟩⟩))
   | 7,ho,hp =>
     obtain rfl:=zSi ho;exact absurd hp (by decide)
   | 8,ho,hp =>
     obtain rfl:=zSi ho;exact absurd hp (by decide)
   | 9,ho,hp =>
     obtain rfl:=zSi ho;exact (zaf ho rfl (zb5 (.tmp 223) (.inr rfl) ⟨_,rfl,Below.refl _ _,fun _ _=>⟨(show a'.eval (.tmp 223) = .int .u8 0 from ((zai hD 6 (by kernel_rfl) rfl rfl) rfl)),fun _ _ _=>trivial⟩⟩))
   | i+10,ho,hp=>exact absurd ho (by simp)
  case hend =>
  intro vs w36 hBW hlen hall hkv
  obtain ⟨v0,v1,v2,v3,v4,v5,v6,v7,v8,v9,rfl⟩:∃ v0 v1 v2 v3 v4 v5 v6 v7 v8 v9,vs=[v0,v1,v2,v3,v4,v5,v6,v7,v8,v9]:=by
   match vs,hlen with
   | [v0,v1,v2,v3,v4,v5,v6,v7,v8,v9],_=>exact ⟨_,_,_,_,_,_,_,_,_,_,rfl⟩
  obtain rfl:v9 = .int .u8 0:=hall 9 _ 46 v9 (by decide) rfl rfl rfl;obtain ⟨b1,us1,k1,hg1,k3,R1,y1⟩:=hkv ⟨7,8,5,45,222,25,Z12⟩ (by simp)
  obtain rfl:v7 = .pointer (some ⟨b1,0,none⟩):=by simpa using k1
  obtain ⟨A7,c7,e7,s7⟩:=(show AD w35b D2 w36 v5 from hall 5 _ 222 v5 (by decide) rfl rfl rfl)
  obtain rfl:us1=dgC D2 A7 c7:=by
   have h1:v5 = .agg us1.toArray:=by simpa using k3
   rw [e7] at h1
   injection h1 with h1
   exact (List.toArray_inj h1).symm
  have VA1:=(show VD D2 v5 b1 from y1 5 _ 222 v5 (by decide) rfl rfl rfl) A7 c7 e7
  have M36:=kd ((M35b.out.join hBW hg1 R1).add (F:=fun W=>Rds W W.heap.size A7 (strs D2.rs)) (znw s7.r (fun hn b o s e hm=>by
   rw [List.map_cons,List.mem_cons] at hm
   rcases hm with h|h
   · exact VA1 hn b o s e h
   · exact M35b.out.fresh (s7.fresh b o s e).1 h)))
  have S7:=kd s7;clear hall hkv hlen k1 k3 hg1 R1 y1 hBW e7 s7 VA1 M35b RB KY;simp only [putL,Act.put,List.setIfInBounds_toArray,List.set_cons_zero,List.set_cons_succ];go_upto_region 27 with (fail);have xg370:w36.cell? ⟨g37,0,none⟩=some (.int .u8 4):=(M36.out.row (i:=4) rfl).cell 0
  have xg371:w36.cell? ⟨g37,1,none⟩=some (.int .i64 500):=(M36.out.row (i:=4) rfl).cell 1;have xg372:w36.cell? ⟨g37,2,none⟩=some (.int .i64 200):=(M36.out.row (i:=4) rfl).cell 2;have xg390:w36.cell? ⟨g39,0,none⟩=some (.int .u8 0):=(M36.out.row (i:=3) rfl).cell 0
  have xg391:w36.cell? ⟨g39,1,none⟩=some (.int .i64 0):=(M36.out.row (i:=3) rfl).cell 1;have xg392:w36.cell? ⟨g39,2,none⟩=some (.int .i64 0):=(M36.out.row (i:=3) rfl).cell 2;have xg410:w36.cell? ⟨g41,0,none⟩=some (.int .u8 7):=(M36.out.row (i:=2) rfl).cell 0
  have xg411:w36.cell? ⟨g41,1,none⟩=some (.int .i64 0):=(M36.out.row (i:=2) rfl).cell 1;have xg412:w36.cell? ⟨g41,2,none⟩=some (.int .i64 200):=(M36.out.row (i:=2) rfl).cell 2
  have kb0:w36.cell? ⟨b1,0,none⟩=some (.int .u8 2):=by rw [← D2S.out];exact (M36.out.row (i:=0) rfl).cell 0
  have kb8:w36.cell? ⟨b1,8,none⟩=some (.slice A7 2 c7):=by rw [show (2:Nat)=D2.rs.length by rw [D2R.out];rfl];exact (M36.out.row (i:=0) rfl).cell 8
  have RL:=kd (Row.new w36 9 [.string ⟨#[115,105,112,58,112,50,46,101,120,97,109,112,108,101,59,108,114]⟩,.string ⟨#[115,105,112,58,112,49,46,101,120,97,109,112,108,101,59,108,114]⟩])
  have BL:=kd ((Below.refl w36.heap.size w36).alloc zNr (.cells ([.string ⟨#[115,105,112,58,112,50,46,101,120,97,109,112,108,101,59,108,114]⟩,.string ⟨#[115,105,112,58,112,49,46,101,120,97,109,112,108,101,59,108,114]⟩]:List Value).toArray 9));go_wp2_with fail
  generalize w36.alloc (.cells #[.string ⟨#[115,105,112,58,112,50,46,101,120,97,109,112,108,101,59,108,114]⟩,.string ⟨#[115,105,112,58,112,49,46,101,120,97,109,112,108,101,59,108,114]⟩] 9)=w37 at *;have M37:=kd (M36.out.call BL.out)
  refine (zjs [SP2,SP1] [SP2,SP1] A7 (some ⟨w36.heap.size,0,none⟩) 2 c7 2 2 w37 rfl rfl (by decide) (fun b o s e=>(S7.out.fresh b o s e).2) (fun b o s e=>by cases e;rfl) (by rw [← D2R.out];exact M37.out.fact (i:=0) rfl) (zfc RL.out) (by unfold By;decide) (by unfold By;decide)).mono ?_
  rintro _ w38 ⟨rfl,hb⟩;rw [yak];have M38:=kd (M37.out.call hb);clear hb RL BL M37 kb0 kb8 xg370 xg371 xg372 xg390 xg391 xg392 xg410 xg411 xg412 M36;go_wp2_with fail;refine (WK.out _ M38.out.bw).mono ?_;rintro _ wz ⟨rfl,hbz⟩;have BZ:=kd (zao M38.out.bw hbz);go_wp2_with fail
  first|exact FIN.out _ BZ.out|(go_ret;exact FIN.out _ BZ.out)
end Go.Proofs.YtfnmkedncfdceaaGreatDoor
