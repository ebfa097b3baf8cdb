/- Contracts: dialog.open, copyOf, Belongs. -/
import Derived.Test.YtfnmkedncfdceaaGreatDoorJa
set_option linter.unusedVariables false
set_option linter.unusedSimpArgs false
set_option maxRecDepth 100000
namespace Go.Proofs.YtfnmkedncfdceaaGreatDoor
open Go.RowKit

def Tx (l:List Int):Prop:=By l∧l.length≤4000000
structure DOK (d:Dlg):Prop where
 ci:Tx d.ci
 lt:Tx d.lt
 rt:Tx d.rt
 lu:Tx d.lu
 ru:Tx d.ru
 tg:Tx d.tg
 rs:∀ t∈d.rs,Tx t
 n:d.rs.length≤2000000
structure DArg (w:World) (d:Dlg) (A:Option Addr) (c:Nat):Prop where
 nil:A=none→d.rs.length=0∧c=0
 cap:d.rs.length≤c
 r:Rds w w.heap.size A (strs d.rs)
 ok:DOK d
theorem DArg.step {w w':World} {d:Dlg} {A:Option Addr} {c:Nat} (h:DArg w d A c) (hb:Below w.heap.size w w'):DArg w' d A c:={ h with r:=(h.r.below hb).up hb.size }
theorem zmu (d:Dlg) (A:Option Addr) (c:Nat) (w:World) :
  Calls Tryz.prog 56 #[.agg (dgC d A c).toArray] w fun e w'=>e = .returned (.bool (zdw d))∧Below w.heap.size w w':=by
 have R1:=kd (Row.new w 25 [.int .u8 d.st,.bool d.cl,.string (strOfNums d.ci),.string (strOfNums d.lt),.string (strOfNums d.rt),.string (strOfNums d.lu),.string (strOfNums d.ru),.string (strOfNums d.tg),.slice A d.rs.length c,.int .i64 d.ls,.int .i64 d.rq,.int .i64 d.iq])
 have K0:=kd ((Below.refl w.heap.size w).alloc zNr (.cells ([.int .u8 d.st,.bool d.cl,.string (strOfNums d.ci),.string (strOfNums d.lt),.string (strOfNums d.rt),.string (strOfNums d.lu),.string (strOfNums d.ru),.string (strOfNums d.tg),.slice A d.rs.length c,.int .i64 d.ls,.int .i64 d.rq,.int .i64 d.iq]:List Value).toArray 25))
 have FIN:=kd (fun (b:Bool) w' (hb:Below w.heap.size w w') (h:zdw d=b)=>show (fun (e:Ending) (w':World)=>e = .returned (.bool (zdw d))∧Below w.heap.size w w') (.returned (.bool b)) w' from ⟨by rw [h],hb⟩)
 have E1:=kd (fun (h:d.st=1)=>show zdw d=true by unfold zdw;simp [h]);have E2:=kd (fun (h:d.st≠1) (h2:d.st=2)=>show zdw d=true by unfold zdw;simp [h2]);have E3:=kd (fun (h:d.st≠1) (h2:d.st≠2)=>show zdw d=false by unfold zdw;simp [h,h2])
 generalize (fun (e:Ending) (w':World)=>e = .returned (.bool (zdw d))∧Below w.heap.size w w')=PP at *;generalize zdw d=R at *;unfold dgC
 go_enter Tryz.func56,Tryz.ntmps56
 go_upto_region 1 with (fail)
 generalize w.alloc (.cells #[.int .u8 d.st,.bool d.cl,.string (strOfNums d.ci),.string (strOfNums d.lt),.string (strOfNums d.rt),.string (strOfNums d.lu),.string (strOfNums d.ru),.string (strOfNums d.tg),.slice A d.rs.length c,.int .i64 d.ls,.int .i64 d.rq,.int .i64 d.iq] 25)=w1 at *
 obtain ⟨g,hg⟩:∃ b,w.heap.size=b:=⟨_,rfl⟩;rw [hg] at R1 ⊢;clear hg;have f0:w1.cell? ⟨g,0,none⟩=some (.int .u8 d.st):=R1.out.cell 0
 by_cases h1:d.st=1
 · have p1:(d.st == 1)=true:=by simpa using h1
   have N:=kd (E1.out h1);go_wp2_with fail
   first|exact FIN.out _ _ K0.out (N.out)|(go_ret;exact FIN.out _ _ K0.out (N.out))
 · have p1:(d.st == 1)=false:=by simpa using h1
   by_cases h2:d.st=2
   · have p2:(d.st == 2)=true:=by simpa using h2
     have N:=kd (E2.out h1 h2);go_wp2_with fail
     first|exact FIN.out _ _ K0.out (N.out)|(go_ret;exact FIN.out _ _ K0.out (N.out))
   · have p2:(d.st == 2)=false:=by simpa using h2
     have N:=kd (E3.out h1 h2);go_wp2_with fail
     first|exact FIN.out _ _ K0.out (N.out)|(go_ret;exact FIN.out _ _ K0.out (N.out))
theorem zmf (w:World) (T1 T2:TypeId) (x y:List Value):Mine w ((w.alloc (.cells x.toArray T1)).alloc (.cells y.toArray T2)) [(w.heap.size+1,T2,y),(w.heap.size,T1,x)] []:=by
 have h:=((Mine.refl w).alloc T1 x).alloc T2 y;rw [World.size_alloc] at h;exact h
theorem zik (d:Dlg) (A:Option Addr) (c:Nat) (w:World) (H:DArg w d A c) :
  Calls Tryz.prog 37 #[.agg (dgC d A c).toArray] w fun e w' => ∃ A5 c5,e = .returned (.agg (dgC d A5 c5).toArray)∧Below w.heap.size w w'∧SF w A5 c5 d.rs w':=by
 have M0:=kd (zmf w 25 25 [.int .u8 d.st,.bool d.cl,.string (strOfNums d.ci),.string (strOfNums d.lt),.string (strOfNums d.rt),.string (strOfNums d.lu),.string (strOfNums d.ru),.string (strOfNums d.tg),.slice A d.rs.length c,.int .i64 d.ls,.int .i64 d.rq,.int .i64 d.iq] [.int .u8 0,.bool false,.string ⟨#[]⟩,.string ⟨#[]⟩,.string ⟨#[]⟩,.string ⟨#[]⟩,.string ⟨#[]⟩,.string ⟨#[]⟩,.slice none 0 0,.int .i64 0,.int .i64 0,.int .i64 0])
 have HC:=kd (fun w' (hb:Below w.heap.size w w')=>zil A d.rs.length c d.rs w' rfl (H.step hb).r H.nil H.ok.n);clear H
 have FIN:=kd (fun A5 c5 w' (hb:Below w.heap.size w w') (h:SF w A5 c5 d.rs w')=>show (fun (e:Ending) (w':World) => ∃ A5 c5,e = .returned (.agg (dgC d A5 c5).toArray)∧Below w.heap.size w w'∧SF w A5 c5 d.rs w') (.returned (.agg (dgC d A5 c5).toArray)) w' from ⟨_,_,rfl,hb,h⟩)
 generalize (fun (e:Ending) (w':World) => ∃ A5 c5,e = .returned (.agg (dgC d A5 c5).toArray)∧Below w.heap.size w w'∧SF w A5 c5 d.rs w')=PP at *;unfold dgC at FIN ⊢
 go_enter Tryz.func37,Tryz.ntmps37
 go_upto_region 1 with (fail)
 generalize (w.alloc (.cells #[.int .u8 d.st,.bool d.cl,.string (strOfNums d.ci),.string (strOfNums d.lt),.string (strOfNums d.rt),.string (strOfNums d.lu),.string (strOfNums d.ru),.string (strOfNums d.tg),.slice A d.rs.length c,.int .i64 d.ls,.int .i64 d.rq,.int .i64 d.iq] 25)).alloc (.cells #[.int .u8 0,.bool false,.string ⟨#[]⟩,.string ⟨#[]⟩,.string ⟨#[]⟩,.string ⟨#[]⟩,.string ⟨#[]⟩,.string ⟨#[]⟩,.slice none 0 0,.int .i64 0,.int .i64 0,.int .i64 0] 25)=w1 at *
 obtain ⟨g,hg⟩:∃ b,w.heap.size=b:=⟨_,rfl⟩;rw [hg] at M0 ⊢;clear hg;have m8:w1.cell? ⟨g,8,none⟩=some (.slice A d.rs.length c):=(M0.out.row (i:=1) rfl).cell 8;have f8:w1.frozen? ⟨g,8,none⟩=false:=(M0.out.row (i:=1) rfl).frozen 8;go_wp2_with fail
 refine (HC.out _ M0.out.bw).mono ?_;rintro _ w4 ⟨v,rfl,hx⟩;obtain ⟨A5,c5,rfl,sf⟩:=hx.sf;have SFH:=kd (sf.base M0.out.bw);have M4:=kd ((M0.out.call hx.bw).add (F:=fun W=>Rds W W.heap.size A5 (strs d.rs)) (za9 sf.r (fun b o s e=>M0.out.fresh (sf.fresh b o s e).1)))
 clear hx sf M0 m8 f8 HC;have m8:w4.cell? ⟨g,8,none⟩=some (.slice A d.rs.length c):=(M4.out.row (i:=1) rfl).cell 8;have f8:w4.frozen? ⟨g,8,none⟩=false:=(M4.out.row (i:=1) rfl).frozen 8;go_upto_region 2 with (fail)
 have M5:=kd (show Mine w (w4.setCell ⟨g,8,none⟩ (.slice A5 d.rs.length c5)) [(g+1,25,Z12),(g,25,(dV d A5 c5))] [fun W=>Rds W W.heap.size A5 (strs d.rs)] from M4.out.setCell (i:=1) (off:=8) _ rfl rfl);clear m8 f8 M4
 generalize w4.setCell ⟨g,8,none⟩ (.slice A5 d.rs.length c5)=w5 at *;have RD:=kd (M5.out.row (i:=1) rfl)
 go_wp2_with (first
  | (with_reducible refine zab rfl 25 (.tmp 1) rfl RD.out rfl Tryz.underlying25 rfl (zae _ _ _ _ _ _ _ _ _ _ _ _) ?_)
  | (with_reducible refine zad M5.out 0 rfl 25 (.tmp 2) (.tmp 7) rfl (dV d A5 c5) _ rfl rfl rfl rfl za6 (zae _ _ _ _ _ _ _ _ _ _ _ _) zat ?_))
 intro w9 M9;have R9:=M9.out.row (i:=0) rfl;go_wp2_with fail;exact bodyPost_ret (zdv rfl _ _ _ (g+1) (dV d A5 c5) _ rfl R9.range Tryz.underlying25 rfl (zae _ _ _ _ _ _ _ _ _ _ _ _)) rfl (by exact FIN.out _ _ _ M9.out.bw ⟨SFH.out.nil,SFH.out.fresh,SFH.out.cap,M9.out.fact (i:=0) rfl⟩)
theorem ycu {v:List Int} (h:By v):By (tagL v):=by
 unfold tagL
 split
 · rename_i a ha
   exact zz2 (fun p hp=>(zng (h.sub (zcn _)) ha).2.1 p hp)
 · exact fun x hx=>by cases hx
theorem zre (l:List Hd) (nm:List Int):By (zby l nm):=ycu (zhr l nm)
theorem zul {d:Dlg} {m:Msg} (h:valH m.hs za0=none):za4 d m=false:=by unfold za4;rw [h]
theorem zuk {d:Dlg} {m:Msg} {a:List Int} (h:valH m.hs za0=some a) (hn:a≠d.ci):za4 d m=false:=by unfold za4;rw [h];exact if_pos hn
theorem zuj {d:Dlg} {m:Msg} {a:List Int} (h:valH m.hs za0=some a) (hn:a=d.ci) (h0:m.co=0):za4 d m=(zby m.hs FROMN == d.rt && zby m.hs TON == d.lt):=by unfold za4;rw [h];dsimp only;rw [if_neg (by simp [hn]),if_pos h0]
theorem zmb {d:Dlg} {m:Msg} {a:List Int} (h:valH m.hs za0=some a) (hn:a=d.ci) (h0:m.co≠0):za4 d m=(zby m.hs FROMN == d.lt && zby m.hs TON == d.rt):=by unfold za4;rw [h];dsimp only;rw [if_neg (by simp [hn]),if_neg h0]
set_option maxHeartbeats 8000000 in
theorem zk2 (d:Dlg) (A:Option Addr) (c:Nat) (m:Msg) (A2 B2:Option Addr) (c2 n2 d2:Nat) (w:World) (H:DArg w d A c) (HM:MArg w m A2) (G:GW w) :
  Calls Tryz.prog 23 #[.agg (dgC d A c).toArray,.agg #[.string (strOfNums m.me),.string (strOfNums m.ur),.int .i64 m.co,.string (strOfNums m.re),.slice A2 m.hs.length c2,.slice B2 n2 d2]] w fun e w'=>e = .returned (.bool (za4 d m))∧Below w.heap.size w w':=by
 have M0:=kd (zmf w 25 31 [.int .u8 d.st,.bool d.cl,.string (strOfNums d.ci),.string (strOfNums d.lt),.string (strOfNums d.rt),.string (strOfNums d.lu),.string (strOfNums d.ru),.string (strOfNums d.tg),.slice A d.rs.length c,.int .i64 d.ls,.int .i64 d.rq,.int .i64 d.iq] [.string (strOfNums m.me),.string (strOfNums m.ur),.int .i64 m.co,.string (strOfNums m.re),.slice A2 m.hs.length c2,.slice B2 n2 d2])
 have OK:=kd H.ok;have GM:=kd (fun w' (hb:Below w.heap.size w w')=>zeg m A2 B2 c2 n2 d2 ⟨#[67,97,108,108,45,73,68]⟩ w' (HM.step hb) (by decide) (G.below hb).s);rw [show zaa ⟨#[67,97,108,108,45,73,68]⟩=za0 by rfl] at GM
 have TF:=kd (fun w' (hb:Below w.heap.size w w')=>zg2 m A2 B2 c2 n2 d2 ⟨#[70,114,111,109]⟩ w' (HM.step hb) (by decide) (G.below hb));rw [show zaa ⟨#[70,114,111,109]⟩=FROMN by rfl] at TF
 have TT:=kd (fun w' (hb:Below w.heap.size w w')=>zg2 m A2 B2 c2 n2 d2 ⟨#[84,111]⟩ w' (HM.step hb) (by decide) (G.below hb));rw [show zaa ⟨#[84,111]⟩=TON by rfl] at TT;have TFB:=kd (zre m.hs FROMN);have TTB:=kd (zre m.hs TON);have E1:=kd (fun h=>zul (d:=d) (m:=m) h)
 have E2:=kd (fun a h h2=>zuk (d:=d) (m:=m) (a:=a) h h2);have E3:=kd (fun a h h2 h3=>zuj (d:=d) (m:=m) (a:=a) h h2 h3);have E4:=kd (fun a h h2 h3=>zmb (d:=d) (m:=m) (a:=a) h h2 h3)
 have VQ:=kd (fun a (h:valH m.hs za0=some a)=>show val0 m.hs za0=a∧By a from ⟨by unfold val0;rw [h];rfl,zme h⟩)
 have FIN:=kd (fun (b:Bool) w' (hb:Below w.heap.size w w') (h:za4 d m=b)=>show (fun (e:Ending) (w':World)=>e = .returned (.bool (za4 d m))∧Below w.heap.size w w') (.returned (.bool b)) w' from ⟨by rw [h],hb⟩)
 generalize (fun (e:Ending) (w':World)=>e = .returned (.bool (za4 d m))∧Below w.heap.size w w')=PP at *;generalize za4 d m=R at *;generalize zby m.hs FROMN=tf at *;generalize zby m.hs TON=tt at *;generalize val0 m.hs za0=zq at *;generalize valH m.hs za0=vq at *
 unfold mS at GM TF TT;unfold dgC;clear H HM G
 go_enter Tryz.func23,Tryz.ntmps23
 go_upto_region 1 with (fail)
 generalize (w.alloc (.cells #[.int .u8 d.st,.bool d.cl,.string (strOfNums d.ci),.string (strOfNums d.lt),.string (strOfNums d.rt),.string (strOfNums d.lu),.string (strOfNums d.ru),.string (strOfNums d.tg),.slice A d.rs.length c,.int .i64 d.ls,.int .i64 d.rq,.int .i64 d.iq] 25)).alloc (.cells #[.string (strOfNums m.me),.string (strOfNums m.ur),.int .i64 m.co,.string (strOfNums m.re),.slice A2 m.hs.length c2,.slice B2 n2 d2] 31)=w1 at *
 obtain ⟨g,hg⟩:∃ b,w.heap.size=b:=⟨_,rfl⟩;rw [hg] at M0 ⊢;clear hg;have R3:=kd (M0.out.row (i:=0) rfl);go_wp2_with (with_reducible refine zab rfl 31 (.tmp 3) rfl R3.out rfl Tryz.underlying31 rfl zaw ?_);refine (GM.out _ M0.out.bw).mono ?_;rintro _ w3 ⟨rfl,hb3⟩
 have M3:=kd (M0.out.call hb3);clear hb3 GM M0 R3;have x2:w3.cell? ⟨g,2,none⟩=some (.string (strOfNums d.ci)):=(M3.out.row (i:=1) rfl).cell 2;have x3:w3.cell? ⟨g,3,none⟩=some (.string (strOfNums d.lt)):=(M3.out.row (i:=1) rfl).cell 3
 have x4:w3.cell? ⟨g,4,none⟩=some (.string (strOfNums d.rt)):=(M3.out.row (i:=1) rfl).cell 4;have y2:w3.cell? ⟨g+1,2,none⟩=some (.int .i64 m.co):=(M3.out.row (i:=0) rfl).cell 2
 cases vq with
 | none =>
   have N:=kd (E1.out rfl);clear E1 E2 E3 E4 VQ;go_wp2_with fail
   first|exact FIN.out _ _ M3.out.bw (N.out)|(go_ret;exact FIN.out _ _ M3.out.bw (N.out))
 | some a =>
 obtain ⟨rfl,ab⟩:=VQ.out a rfl;have AB:=zb7 ab OK.out.ci.1;clear E1 VQ
 by_cases h5:zq=d.ci
 case neg =>
  have p5:((strOfNums zq).toList == (strOfNums d.ci).toList)=false:=AB.trans (by simpa using h5)
  have p5':((strOfNums zq).toList != (strOfNums d.ci).toList)=true:=by rw [bne,p5];rfl
  have N:=kd (E2.out _ rfl h5);clear E2 E3 E4 AB ab;go_wp2_with fail
  first|exact FIN.out _ _ M3.out.bw (N.out)|(go_ret;exact FIN.out _ _ M3.out.bw (N.out))
 have p5:((strOfNums zq).toList == (strOfNums d.ci).toList)=true:=AB.trans (by simpa using h5)
 have p5':((strOfNums zq).toList != (strOfNums d.ci).toList)=false:=by rw [bne,p5];rfl
 have H5:=kd h5;clear h5 AB ab E2;go_upto_region 4 with (fail);clear p5 p5' x2
 go_quiet (fail)
 have M3':=kd (M3.out.call (zam _ nq));clear x3 x4 y2 M3;generalize w3.drewN nq=w3' at *;have M3:=M3';clear M3';have y2:w3'.cell? ⟨g+1,2,none⟩=some (.int .i64 m.co):=(M3.out.row (i:=0) rfl).cell 2
 by_cases h0:m.co=0
 · have p0:(m.co != 0)=false:=by simpa using h0
   have EE:=kd (E3.out _ rfl H5.out h0);clear E3 E4 H5 h0;go_upto_region 7 with (fail);clear p0 y2;have R3:=kd (M3.out.row (i:=0) rfl);go_wp2_with (with_reducible refine zab rfl 31 (.tmp 3) rfl R3.out rfl Tryz.underlying31 rfl zaw ?_);refine (TF.out _ M3.out.bw).mono ?_;rintro _ w5 ⟨rfl,hb5⟩
   have M5:=kd (M3.out.call hb5);clear hb5 TF R3;have QF:=zb7 TFB.out OK.out.rt.1
   by_cases h7:tf=d.rt
   · have p7:((strOfNums tf).toList == (strOfNums d.rt).toList)=true:=QF.trans (by simpa using h7)
     clear QF;have H7:=kd h7;clear h7;have z0:w5.cell? ⟨g+1,0,none⟩=some (.string (strOfNums m.me)):=(M5.out.row (i:=0) rfl).cell 0;have z1:w5.cell? ⟨g+1,1,none⟩=some (.string (strOfNums m.ur)):=(M5.out.row (i:=0) rfl).cell 1
     have z2:w5.cell? ⟨g+1,2,none⟩=some (.int .i64 m.co):=(M5.out.row (i:=0) rfl).cell 2;have z3:w5.cell? ⟨g+1,3,none⟩=some (.string (strOfNums m.re)):=(M5.out.row (i:=0) rfl).cell 3
     have z4:w5.cell? ⟨g+1,4,none⟩=some (.slice A2 m.hs.length c2):=(M5.out.row (i:=0) rfl).cell 4;have z5:w5.cell? ⟨g+1,5,none⟩=some (.slice B2 n2 d2):=(M5.out.row (i:=0) rfl).cell 5;go_wp2_with fail;clear z0 z1 z2 z3 z4 z5;refine (TT.out _ M5.out.bw).mono ?_
     rintro _ w6 ⟨rfl,hb6⟩;have M6:=kd (M5.out.call hb6);clear hb6 TT;have h7:=H7.out;have QT:=zb7 TTB.out OK.out.lt.1
     by_cases h8:tt=d.lt
     · have p8:((strOfNums tt).toList == (strOfNums d.lt).toList)=true:=QT.trans (by simpa using h8)
       clear QT;have N:=kd (EE.out.trans (by simp [h7,h8]:_=true));go_wp2_with fail
       first|exact FIN.out _ _ M6.out.bw (N.out)|(go_ret;exact FIN.out _ _ M6.out.bw (N.out))
     · have p8:((strOfNums tt).toList == (strOfNums d.lt).toList)=false:=QT.trans (by simpa using h8)
       clear QT;have N:=kd (EE.out.trans (by simp [h8]:_=false));go_wp2_with fail
       first|exact FIN.out _ _ M6.out.bw (N.out)|(go_ret;exact FIN.out _ _ M6.out.bw (N.out))
   · have p7:((strOfNums tf).toList == (strOfNums d.rt).toList)=false:=QF.trans (by simpa using h7)
     clear QF;have N:=kd (EE.out.trans (by simp [h7]:_=false));go_wp2_with fail
     first|exact FIN.out _ _ M5.out.bw (N.out)|(go_ret;exact FIN.out _ _ M5.out.bw (N.out))
 · have p0:(m.co != 0)=true:=by simpa using h0
   have EE:=kd (E4.out _ rfl H5.out h0);clear E3 E4 H5 h0;go_upto_region 7 with (fail);clear p0 y2;have R3:=kd (M3.out.row (i:=0) rfl);go_wp2_with (with_reducible refine zab rfl 31 (.tmp 3) rfl R3.out rfl Tryz.underlying31 rfl zaw ?_);refine (TF.out _ M3.out.bw).mono ?_;rintro _ w5 ⟨rfl,hb5⟩
   have M5:=kd (M3.out.call hb5);clear hb5 TF R3;have QF:=zb7 TFB.out OK.out.lt.1
   by_cases h7:tf=d.lt
   · have p7:((strOfNums tf).toList == (strOfNums d.lt).toList)=true:=QF.trans (by simpa using h7)
     clear QF;have H7:=kd h7;clear h7;have z0:w5.cell? ⟨g+1,0,none⟩=some (.string (strOfNums m.me)):=(M5.out.row (i:=0) rfl).cell 0;have z1:w5.cell? ⟨g+1,1,none⟩=some (.string (strOfNums m.ur)):=(M5.out.row (i:=0) rfl).cell 1
     have z2:w5.cell? ⟨g+1,2,none⟩=some (.int .i64 m.co):=(M5.out.row (i:=0) rfl).cell 2;have z3:w5.cell? ⟨g+1,3,none⟩=some (.string (strOfNums m.re)):=(M5.out.row (i:=0) rfl).cell 3
     have z4:w5.cell? ⟨g+1,4,none⟩=some (.slice A2 m.hs.length c2):=(M5.out.row (i:=0) rfl).cell 4;have z5:w5.cell? ⟨g+1,5,none⟩=some (.slice B2 n2 d2):=(M5.out.row (i:=0) rfl).cell 5;go_wp2_with fail;clear z0 z1 z2 z3 z4 z5;refine (TT.out _ M5.out.bw).mono ?_
     rintro _ w6 ⟨rfl,hb6⟩;have M6:=kd (M5.out.call hb6);clear hb6 TT;have h7:=H7.out;have QT:=zb7 TTB.out OK.out.rt.1
     by_cases h8:tt=d.rt
     · have p8:((strOfNums tt).toList == (strOfNums d.rt).toList)=true:=QT.trans (by simpa using h8)
       clear QT;have N:=kd (EE.out.trans (by simp [h7,h8]:_=true));go_wp2_with fail
       first|exact FIN.out _ _ M6.out.bw (N.out)|(go_ret;exact FIN.out _ _ M6.out.bw (N.out))
     · have p8:((strOfNums tt).toList == (strOfNums d.rt).toList)=false:=QT.trans (by simpa using h8)
       clear QT;have N:=kd (EE.out.trans (by simp [h8]:_=false));go_wp2_with fail
       first|exact FIN.out _ _ M6.out.bw (N.out)|(go_ret;exact FIN.out _ _ M6.out.bw (N.out))
   · have p7:((strOfNums tf).toList == (strOfNums d.lt).toList)=false:=QF.trans (by simpa using h7)
     clear QF;have N:=kd (EE.out.trans (by simp [h7]:_=false));go_wp2_with fail
     first|exact FIN.out _ _ M5.out.bw (N.out)|(go_ret;exact FIN.out _ _ M5.out.bw (N.out))
end Go.Proofs.YtfnmkedncfdceaaGreatDoor
