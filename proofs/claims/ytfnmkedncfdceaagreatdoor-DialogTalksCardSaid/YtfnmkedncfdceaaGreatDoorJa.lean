/- Contract: dialog.create. And what stands behind it. -/
import Derived.Test.YtfnmkedncfdceaaGreatDoorIn
set_option linter.unusedVariables false
set_option linter.unusedSimpArgs false
set_option maxRecDepth 100000
namespace Go.Proofs.YtfnmkedncfdceaaGreatDoor
open Go.RowKit

structure SF (w:World) (A:Option Addr) (c:Nat) (l:List (List Int)) (w':World):Prop where
 nil:A=none→l.length=0∧c=0
 fresh:∀ b o s,A=some ⟨b,o,s⟩→w.heap.size≤b∧o=0
 cap:l.length≤c
 r:Rds w' w'.heap.size A (strs l)
theorem SXL.capl {w wr:World} {v:Value} {l:List (List Int)} {A:Option Addr} {c:Nat} (H:SXL w v l wr) (hv:v = .slice A l.length c):l.length≤c:=by
 rcases H.o.2 with ⟨h1,_⟩|⟨g,cap,cur,h1,_,_,hc,_⟩
 · rw [h1] at hv
   injection hv with e1 e2 e3
   omega
 · rw [h1] at hv
   injection hv with e1 e2 e3
   omega
theorem SXL.sf {w w':World} {v:Value} {l:List (List Int)} (H:SXL w v l w'):∃ A c,v = .slice A l.length c∧SF w A c l w':=by
 obtain ⟨A,c,h1,h2,h3,h4⟩:=H.form;exact ⟨A,c,h1,h2,h3,H.capl h1,h4⟩
theorem SF.step {w w1 w2:World} {A:Option Addr} {c:Nat} {l:List (List Int)} (h:SF w A c l w1) (hb:Below w1.heap.size w1 w2):SF w A c l w2:={ h with r:=(h.r.below hb).up hb.size }
theorem SF.base {w w0 w1:World} {A:Option Addr} {c:Nat} {l:List (List Int)} (h:SF w A c l w1) (hb:Below w0.heap.size w0 w):SF w0 A c l w1:={ h with fresh:=fun b o s e=>⟨Nat.le_trans hb.size (h.fresh b o s e).1,(h.fresh b o s e).2⟩ }
def CrP (w:World) (R:Except Int Dlg) (e:Ending) (w':World):Prop:=match R with
 | .error k=>e = .returned (.tuple #[.agg #[.int .u8 0,.bool false,.string ⟨#[]⟩,.string ⟨#[]⟩,.string ⟨#[]⟩,.string ⟨#[]⟩,.string ⟨#[]⟩,.string ⟨#[]⟩,.slice none 0 0,.int .i64 0,.int .i64 0,.int .i64 0],.int .u8 k])∧Below w.heap.size w w'∧k≠0
 | .ok d => ∃ A c,e = .returned (.tuple #[.agg (dgC d A c).toArray,.int .u8 0])∧Below w.heap.size w w'∧SF w A c d.rs w'
theorem CrP.bad {w w':World} {R:Except Int Dlg} {k:Int} (h:R = .error k) (hb:Below w.heap.size w w') (hk:k≠0):CrP w R (.returned (.tuple #[.agg #[.int .u8 0,.bool false,.string ⟨#[]⟩,.string ⟨#[]⟩,.string ⟨#[]⟩,.string ⟨#[]⟩,.string ⟨#[]⟩,.string ⟨#[]⟩,.slice none 0 0,.int .i64 0,.int .i64 0,.int .i64 0],.int .u8 k])) w':=by subst h;exact ⟨rfl,hb,hk⟩
theorem CrP.good {w w':World} {R:Except Int Dlg} {d:Dlg} {A:Option Addr} {c:Nat} (h:R = .ok d) (hb:Below w.heap.size w w') (hs:SF w A c d.rs w'):CrP w R (.returned (.tuple #[.agg (dgC d A c).toArray,.int .u8 0])) w':=by subst h;exact ⟨A,c,rfl,hb,hs⟩
theorem zxx {q r:Msg} {cl:Bool} {s:List Hd} (h:zd5 q r=false∨(zdb q r cl).2=false∨(zba s).2=false∨zbn s=none):zbt q r cl s = .error 2:=by
 unfold zbt
 cases hr:zbn s with
 | none=>rfl
 | some l =>
   dsimp only
   rw [if_pos (by
    rcases h with h|h|h|h
    · exact .inl h
    · exact .inr (.inl h)
    · exact .inr (.inr h)
    · rw [hr] at h;cases h)]
theorem zxw {q r:Msg} {cl:Bool} {s:List Hd} {l:List (List Int)} (h1:zd5 q r=true) (h2:(zdb q r cl).2=true) (h3:(zba s).2=true) (h4:zbn s=some l) (h5:16<l.length):zbt q r cl s = .error 4:=by
 unfold zbt;rw [h4];dsimp only;rw [h1,h2,h3,if_neg (by decide),if_pos h5]
theorem zxv {q r:Msg} {cl:Bool} {s:List Hd} {l:List (List Int)} (h1:zd5 q r=true) (h2:(zdb q r cl).2=true) (h3:(zba s).2=true) (h4:zbn s=some l) (h5:¬ 16<l.length):zbt q r cl s = .ok { (zdb q r cl).1 with tg:=(zba s).1,rs:=l }:=by
 unfold zbt;rw [h4];dsimp only;rw [h1,h2,h3,if_neg (by decide),if_neg h5]
theorem zub (q r:Msg) (A1 B1 A2 B2:Option Addr) (c1 n1 d1 c2 n2 d2:Nat) (w:World) (HQ:MArg w q A1) (HR:MArg w r A2) (G:GW w) (cl:Bool) :
  Calls Tryz.prog 91 #[.agg #[.string (strOfNums q.me),.string (strOfNums q.ur),.int .i64 q.co,.string (strOfNums q.re),.slice A1 q.hs.length c1,.slice B1 n1 d1,.string (strOfNums r.me),.string (strOfNums r.ur),.int .i64 r.co,.string (strOfNums r.re),.slice A2 r.hs.length c2,.slice B2 n2 d2],.bool cl] w fun e w'=>e = .returned (.tuple #[.agg (dgC (zdb q r cl).1 none 0).toArray,.bool (zdb q r cl).2])∧Below w.heap.size w w':=by
 cases cl with
 | true=>exact zqt q r A1 B1 A2 B2 c1 n1 d1 c2 n2 d2 w HQ HR G
 | false=>exact zo5 q r A1 B1 A2 B2 c1 n1 d1 c2 n2 d2 w HQ HR G
theorem zei (w:World) (T1 T2 T3:TypeId) (x y z:List Value):Mine w (((w.alloc (.cells x.toArray T1)).alloc (.cells y.toArray T2)).alloc (.cells z.toArray T3)) [(w.heap.size+1+1,T3,z),(w.heap.size+1,T2,y),(w.heap.size,T1,x)] []:=by
 have h:=(((Mine.refl w).alloc T1 x).alloc T2 y).alloc T3 z;rw [World.size_alloc,World.size_alloc] at h;exact h
set_option maxHeartbeats 16000000 in
theorem zl7 (q r s:Msg) (A1 B1 A2 B2 A3 B3:Option Addr) (c1 n1 d1 c2 n2 d2 c3 n3 d3:Nat) (cl:Bool) (w:World) (HQ:MArg w q A1) (HR:MArg w r A2) (HS:MArg w s A3) (G:GW w) :
  Calls Tryz.prog 50 #[.agg #[.string (strOfNums q.me),.string (strOfNums q.ur),.int .i64 q.co,.string (strOfNums q.re),.slice A1 q.hs.length c1,.slice B1 n1 d1,.string (strOfNums r.me),.string (strOfNums r.ur),.int .i64 r.co,.string (strOfNums r.re),.slice A2 r.hs.length c2,.slice B2 n2 d2],.bool cl,.agg #[.string (strOfNums s.me),.string (strOfNums s.ur),.int .i64 s.co,.string (strOfNums s.re),.slice A3 s.hs.length c3,.slice B3 n3 d3]] w (CrP w (zbt q r cl s.hs)):=by
 have M0:=kd (zei w 93 31 25 [.string (strOfNums q.me),.string (strOfNums q.ur),.int .i64 q.co,.string (strOfNums q.re),.slice A1 q.hs.length c1,.slice B1 n1 d1,.string (strOfNums r.me),.string (strOfNums r.ur),.int .i64 r.co,.string (strOfNums r.re),.slice A2 r.hs.length c2,.slice B2 n2 d2] [.string (strOfNums s.me),.string (strOfNums s.ur),.int .i64 s.co,.string (strOfNums s.re),.slice A3 s.hs.length c3,.slice B3 n3 d3] [.int .u8 0,.bool false,.string ⟨#[]⟩,.string ⟨#[]⟩,.string ⟨#[]⟩,.string ⟨#[]⟩,.string ⟨#[]⟩,.string ⟨#[]⟩,.slice none 0 0,.int .i64 0,.int .i64 0,.int .i64 0])
 have DL:=kd (fun w' (hb:Below w.heap.size w w')=>zub q r A1 B1 A2 B2 c1 n1 d1 c2 n2 d2 w' (HQ.step hb) (HR.step hb) (G.below hb) cl);have FT:=kd (fun w' (hb:Below w.heap.size w w')=>zz5 q r A1 B1 A2 B2 c1 n1 d1 c2 n2 d2 w' (HQ.step hb) (HR.step hb) (G.below hb) HQ.me)
 have CT:=kd (fun w' (hb:Below w.heap.size w w')=>zfh s A3 B3 c3 n3 d3 w' (HS.step hb) (G.below hb));have RT:=kd (fun w' (hb:Below w.heap.size w w')=>ziv s A3 B3 c3 n3 d3 w' (HS.step hb) (G.below hb));have E1:=kd (fun h=>zxx (q:=q) (r:=r) (cl:=cl) (s:=s.hs) h)
 have E2:=kd (fun l h1 h2 h3 h4 h5=>zxw (q:=q) (r:=r) (cl:=cl) (s:=s.hs) (l:=l) h1 h2 h3 h4 h5);have E3:=kd (fun l h1 h2 h3 h4 h5=>zxv (q:=q) (r:=r) (cl:=cl) (s:=s.hs) (l:=l) h1 h2 h3 h4 h5)
 have BAD:=kd (fun w' k h hb hk=>CrP.bad (w:=w) (w':=w') (R:=zbt q r cl s.hs) (k:=k) h hb hk);have GOOD:=kd (fun w' d A c h hb hs=>CrP.good (w:=w) (w':=w') (R:=zbt q r cl s.hs) (d:=d) (A:=A) (c:=c) h hb hs);unfold mS at CT RT;unfold dgC at DL GOOD
 generalize CrP w (zbt q r cl s.hs)=PP at *;generalize zbt q r cl s.hs=R at *;generalize zd5 q r=ft at *;generalize zdb q r cl=bd at *;generalize zba s.hs=ct at *;obtain ⟨dd,ok1⟩:=bd;obtain ⟨ctg,ok2⟩:=ct;dsimp only at *;clear HQ HR HS G
 go_enter Tryz.func50,Tryz.ntmps50
 go_upto_region 1 with (fail)
 generalize ((w.alloc (.cells #[.string (strOfNums q.me),.string (strOfNums q.ur),.int .i64 q.co,.string (strOfNums q.re),.slice A1 q.hs.length c1,.slice B1 n1 d1,.string (strOfNums r.me),.string (strOfNums r.ur),.int .i64 r.co,.string (strOfNums r.re),.slice A2 r.hs.length c2,.slice B2 n2 d2] 93)).alloc (.cells #[.string (strOfNums s.me),.string (strOfNums s.ur),.int .i64 s.co,.string (strOfNums s.re),.slice A3 s.hs.length c3,.slice B3 n3 d3] 31)).alloc (.cells #[.int .u8 0,.bool false,.string ⟨#[]⟩,.string ⟨#[]⟩,.string ⟨#[]⟩,.string ⟨#[]⟩,.string ⟨#[]⟩,.string ⟨#[]⟩,.slice none 0 0,.int .i64 0,.int .i64 0,.int .i64 0] 25)=w1 at *
 obtain ⟨g,hg⟩:∃ b,w.heap.size=b:=⟨_,rfl⟩;rw [hg] at M0 ⊢;clear hg;have RB:=kd (M0.out.row (i:=2) rfl);go_wp2_with (with_reducible refine zab rfl 93 (.tmp 3) rfl RB.out rfl Tryz.underlying93 rfl zcy ?_);refine (DL.out _ M0.out.bw).mono ?_;rintro _ w2 ⟨rfl,hb2⟩
 have M2:=kd (M0.out.call hb2);clear hb2 DL RB M0;go_upto_region 2 with (with_reducible refine zak rfl 25 (.tmp 8) (.tmp 18) rfl Z12 (dV dd none 0) rfl rfl za6 (zae _ _ _ _ _ _ _ _ _ _ _ _) zat ?_;intro w3 R3 S3);have M3:=kd (M2.out.join S3.out zNr R3.out);generalize w2.heap.size=gd at *
 clear R3 S3 M2;have RS:=kd (M3.out.row (i:=2) rfl);go_wp2_with (with_reducible refine zab rfl 31 (.tmp 5) rfl RS.out rfl Tryz.underlying31 rfl zaw ?_);refine (CT.out _ M3.out.bw).mono ?_;rintro _ w4 ⟨rfl,hb4⟩;have M4:=kd (M3.out.call hb4);clear hb4 CT RS M3
 have RS:=kd (M4.out.row (i:=2) rfl);go_wp2_with (with_reducible refine zab rfl 31 (.tmp 5) rfl RS.out rfl Tryz.underlying31 rfl zaw ?_);refine (RT.out _ M4.out.bw).mono ?_;intro e w5 h5;clear RT RS
 cases hr:zbn s.hs with
 | none =>
   rw [hr] at h5;obtain ⟨rfl,hb5⟩:=h5;have N4:=kd (E1.out (.inr (.inr (.inr hr))));have M5:=kd (M4.out.call hb5);clear hb5 M4 hr E2 E3;have RB:=kd (M5.out.row (i:=3) rfl);go_wp2_with (with_reducible refine zab rfl 93 (.tmp 3) rfl RB.out rfl Tryz.underlying93 rfl zcy ?_)
   refine (FT.out _ M5.out.bw).mono ?_;rintro _ w6 ⟨rfl,hb6⟩;have M6:=kd (M5.out.call hb6);clear hb6 FT RB
   cases ft with
   | false =>
     have N:=kd (E1.out (.inl rfl));go_wp2_with (with_reducible refine zad M6.out 1 rfl 25 (.tmp 6) (.tmp 45) rfl Z12 _ rfl rfl rfl rfl za6 (zae _ _ _ _ _ _ _ _ _ _ _ _) zat ?_);intro w9 M9;have R9:=M9.out.row (i:=1) rfl;go_wp2_with fail
     exact bodyPost_ret (zah rfl _ _ _ (g+1+1) Z12 _ rfl R9.range Tryz.underlying25 rfl (zae _ _ _ _ _ _ _ _ _ _ _ _)) rfl (by exact BAD.out _ _ (N.out) M9.out.bw (by decide))
   | true =>
   cases ok1 with
   | false =>
     have N:=kd (E1.out (.inr (.inl rfl)));go_wp2_with (with_reducible refine zad M6.out 1 rfl 25 (.tmp 6) (.tmp 45) rfl Z12 _ rfl rfl rfl rfl za6 (zae _ _ _ _ _ _ _ _ _ _ _ _) zat ?_);intro w9 M9;have R9:=M9.out.row (i:=1) rfl;go_wp2_with fail
     exact bodyPost_ret (zah rfl _ _ _ (g+1+1) Z12 _ rfl R9.range Tryz.underlying25 rfl (zae _ _ _ _ _ _ _ _ _ _ _ _)) rfl (by exact BAD.out _ _ (N.out) M9.out.bw (by decide))
   | true =>
   cases ok2 with
   | false =>
     have N:=kd (E1.out (.inr (.inr (.inl rfl))));go_wp2_with (with_reducible refine zad M6.out 1 rfl 25 (.tmp 6) (.tmp 45) rfl Z12 _ rfl rfl rfl rfl za6 (zae _ _ _ _ _ _ _ _ _ _ _ _) zat ?_);intro w9 M9;have R9:=M9.out.row (i:=1) rfl;go_wp2_with fail
     exact bodyPost_ret (zah rfl _ _ _ (g+1+1) Z12 _ rfl R9.range Tryz.underlying25 rfl (zae _ _ _ _ _ _ _ _ _ _ _ _)) rfl (by exact BAD.out _ _ (N.out) M9.out.bw (by decide))
   | true =>
   go_wp2_with (with_reducible refine zad M6.out 1 rfl 25 (.tmp 6) (.tmp 45) rfl Z12 _ rfl rfl rfl rfl za6 (zae _ _ _ _ _ _ _ _ _ _ _ _) zat ?_);intro w9 M9;have R9:=M9.out.row (i:=1) rfl;go_wp2_with fail
   exact bodyPost_ret (zah rfl _ _ _ (g+1+1) Z12 _ rfl R9.range Tryz.underlying25 rfl (zae _ _ _ _ _ _ _ _ _ _ _ _)) rfl (by exact BAD.out _ _ (N4.out) M9.out.bw (by decide))
 | some l =>
   rw [hr] at h5;obtain ⟨v,rfl,hx⟩:=h5;obtain ⟨A,c,rfl,sf⟩:=hx.sf;have SFH:=kd (sf.base M4.out.bw);have M5:=kd ((M4.out.call hx.bw).add (F:=fun W=>Rds W W.heap.size A (strs l)) (za9 sf.r (fun b o s e=>M4.out.fresh (sf.fresh b o s e).1)));have HR:=kd hr;clear hx sf M4 hr
   have RB:=kd (M5.out.row (i:=3) rfl);go_wp2_with (with_reducible refine zab rfl 93 (.tmp 3) rfl RB.out rfl Tryz.underlying93 rfl zcy ?_);refine (FT.out _ M5.out.bw).mono ?_;rintro _ w6 ⟨rfl,hb6⟩;have M6:=kd (M5.out.call hb6);clear hb6 FT RB
   cases ft with
   | false =>
     have N:=kd (E1.out (.inl rfl));go_wp2_with (with_reducible refine zad M6.out 1 rfl 25 (.tmp 6) (.tmp 45) rfl Z12 _ rfl rfl rfl rfl za6 (zae _ _ _ _ _ _ _ _ _ _ _ _) zat ?_);intro w9 M9;have R9:=M9.out.row (i:=1) rfl;go_wp2_with fail
     exact bodyPost_ret (zah rfl _ _ _ (g+1+1) Z12 _ rfl R9.range Tryz.underlying25 rfl (zae _ _ _ _ _ _ _ _ _ _ _ _)) rfl (by exact BAD.out _ _ (N.out) M9.out.bw (by decide))
   | true =>
   cases ok1 with
   | false =>
     have N:=kd (E1.out (.inr (.inl rfl)));go_wp2_with (with_reducible refine zad M6.out 1 rfl 25 (.tmp 6) (.tmp 45) rfl Z12 _ rfl rfl rfl rfl za6 (zae _ _ _ _ _ _ _ _ _ _ _ _) zat ?_);intro w9 M9;have R9:=M9.out.row (i:=1) rfl;go_wp2_with fail
     exact bodyPost_ret (zah rfl _ _ _ (g+1+1) Z12 _ rfl R9.range Tryz.underlying25 rfl (zae _ _ _ _ _ _ _ _ _ _ _ _)) rfl (by exact BAD.out _ _ (N.out) M9.out.bw (by decide))
   | true =>
   cases ok2 with
   | false =>
     have N:=kd (E1.out (.inr (.inr (.inl rfl))));go_wp2_with (with_reducible refine zad M6.out 1 rfl 25 (.tmp 6) (.tmp 45) rfl Z12 _ rfl rfl rfl rfl za6 (zae _ _ _ _ _ _ _ _ _ _ _ _) zat ?_);intro w9 M9;have R9:=M9.out.row (i:=1) rfl;go_wp2_with fail
     exact bodyPost_ret (zah rfl _ _ _ (g+1+1) Z12 _ rfl R9.range Tryz.underlying25 rfl (zae _ _ _ _ _ _ _ _ _ _ _ _)) rfl (by exact BAD.out _ _ (N.out) M9.out.bw (by decide))
   | true =>
   by_cases h16:16<l.length
   · have d16:decide ((16:Int)<(l.length:Int))=true:=by simp;omega
     have d16':(16:Int)<(l.length:Int):=by omega
     have N:=kd (E2.out l rfl rfl rfl HR.out h16);go_wp2_with (with_reducible refine zad M6.out 1 rfl 25 (.tmp 6) (.tmp 49) rfl Z12 _ rfl rfl rfl rfl za6 (zae _ _ _ _ _ _ _ _ _ _ _ _) zat ?_);intro w9 M9;have R9:=M9.out.row (i:=1) rfl;go_wp2_with fail
     exact bodyPost_ret (zah rfl _ _ _ (g+1+1) Z12 _ rfl R9.range Tryz.underlying25 rfl (zae _ _ _ _ _ _ _ _ _ _ _ _)) rfl (by exact BAD.out _ _ (N.out) M9.out.bw (by decide))
   have d16:decide ((16:Int)<(l.length:Int))=false:=by simp;omega
   have d16':¬ (16:Int)<(l.length:Int):=by omega
   have N:=kd (E3.out l rfl rfl rfl HR.out h16);have m7:w6.cell? ⟨gd,7,none⟩=some (.string (strOfNums dd.tg)):=(M6.out.row (i:=0) rfl).cell 7;have f7:w6.frozen? ⟨gd,7,none⟩=false:=(M6.out.row (i:=0) rfl).frozen 7;go_upto_region 9 with (fail)
   have M7:=kd (show Mine w (w6.setCell ⟨gd,7,none⟩ (.string (strOfNums ctg))) [(gd,25,[.int .u8 dd.st,.bool dd.cl,.string (strOfNums dd.ci),.string (strOfNums dd.lt),.string (strOfNums dd.rt),.string (strOfNums dd.lu),.string (strOfNums dd.ru),.string (strOfNums ctg),.slice none dd.rs.length 0,.int .i64 dd.ls,.int .i64 dd.rq,.int .i64 dd.iq]),(g+1+1,25,Z12),(g+1,31,(mV s A3 c3 B3 n3 d3)),(g,93,(bV q A1 c1 B1 n1 d1 r A2 c2 B2 n2 d2))] [fun W=>Rds W W.heap.size A (strs l)] from M6.out.setCell (i:=0) (off:=7) _ rfl rfl)
   clear m7 f7 M6;generalize w6.setCell ⟨gd,7,none⟩ (.string (strOfNums ctg))=w7 at *;have m8:w7.cell? ⟨gd,8,none⟩=some (.slice none dd.rs.length 0):=(M7.out.row (i:=0) rfl).cell 8;have f8:w7.frozen? ⟨gd,8,none⟩=false:=(M7.out.row (i:=0) rfl).frozen 8
   go_upto_region 10 with (fail)
   have M8:=kd (show Mine w (w7.setCell ⟨gd,8,none⟩ (.slice A l.length c)) [(gd,25,[.int .u8 dd.st,.bool dd.cl,.string (strOfNums dd.ci),.string (strOfNums dd.lt),.string (strOfNums dd.rt),.string (strOfNums dd.lu),.string (strOfNums dd.ru),.string (strOfNums ctg),.slice A l.length c,.int .i64 dd.ls,.int .i64 dd.rq,.int .i64 dd.iq]),(g+1+1,25,Z12),(g+1,31,(mV s A3 c3 B3 n3 d3)),(g,93,(bV q A1 c1 B1 n1 d1 r A2 c2 B2 n2 d2))] [fun W=>Rds W W.heap.size A (strs l)] from M7.out.setCell (i:=0) (off:=8) _ rfl rfl)
   clear m8 f8 M7;generalize w7.setCell ⟨gd,8,none⟩ (.slice A l.length c)=w8 at *;have RD:=kd (M8.out.row (i:=0) rfl)
   go_wp2_with (first
    | (with_reducible refine zab rfl 25 (.tmp 8) rfl RD.out rfl Tryz.underlying25 rfl (zae _ _ _ _ _ _ _ _ _ _ _ _) ?_)
    | (with_reducible refine zad M8.out 1 rfl 25 (.tmp 6) (.tmp 54) rfl [.int .u8 dd.st,.bool dd.cl,.string (strOfNums dd.ci),.string (strOfNums dd.lt),.string (strOfNums dd.rt),.string (strOfNums dd.lu),.string (strOfNums dd.ru),.string (strOfNums ctg),.slice A l.length c,.int .i64 dd.ls,.int .i64 dd.rq,.int .i64 dd.iq] _ rfl rfl rfl rfl za6 (zae _ _ _ _ _ _ _ _ _ _ _ _) zat ?_))
   intro w9 M9;have R9:=M9.out.row (i:=1) rfl;go_wp2_with fail
   exact bodyPost_ret (zah rfl _ _ _ (g+1+1) [.int .u8 dd.st,.bool dd.cl,.string (strOfNums dd.ci),.string (strOfNums dd.lt),.string (strOfNums dd.rt),.string (strOfNums dd.lu),.string (strOfNums dd.ru),.string (strOfNums ctg),.slice A l.length c,.int .i64 dd.ls,.int .i64 dd.rq,.int .i64 dd.iq] _ rfl R9.range Tryz.underlying25 rfl (zae _ _ _ _ _ _ _ _ _ _ _ _)) rfl (by exact GOOD.out _ _ _ _ N.out M9.out.bw ⟨SFH.out.nil,SFH.out.fresh,SFH.out.cap,M9.out.fact (i:=0) rfl⟩)

def zl8 (t:List Int):List UInt8:=t.map fun n=>UInt8.ofNat n.toNat
theorem zsa (l:List (List Int)):(l.map zl8).map encStr=strs l:=by
 unfold strs;rw [List.map_map]
 rfl
theorem zw1 {w:World} {b:Nat} {T:TypeId} {l:List (List Int)} (h:Row w b T (strs l)):Go.Sort.Holds encStr w b 0 (l.map zl8).toArray:=fun j hj=>by
 have hj2:j<(l.map zl8).length:=by simpa using hj
 refine ⟨?_,h.frozen _⟩;rw [Nat.zero_add,h.cell,← zsa,List.getElem?_map,List.getElem?_eq_getElem hj2];simp [getElem!_pos,hj2];rw [List.getElem?_eq_getElem (by simpa using hj2)]
 rfl
theorem zn3 (l:List (List Int)) (c:Array Value) (h:c.size=l.length):Go.Sort.putCells encStr 0 (l.map zl8).toArray c=(strs l).toArray:=by
 apply Array.ext
 · simp [Go.Sort.putCells,h,strs]
 · intro i h1 h2
   have hi:i<l.length:=by simpa [strs] using h2
   simp [Go.Sort.putCells,hi,← zsa,getElem!_pos]
theorem yc1 {w:World} {b k:Nat} {T:TypeId} {x:List Value} {l:List (List Int)} (h:Row w b T x) (hl:x.length=l.length):Row (Go.Sort.putRow encStr (Go.Sort.ahead w k) b 0 (l.map zl8).toArray) b T (strs l):=by
 have hb:(Go.Sort.ahead w k).heap[b]? = some (.cells x.toArray T (0,0)):=h;unfold Row Go.Sort.putRow Go.Sort.mapBlock;simp only [Array.getElem?_modify,if_true,hb,Option.map_some,Go.Sort.onCells];rw [zn3 l _ (by simpa using hl)]
theorem zui {w w':World} {B b k:Nat} {d:Array (List UInt8)} (h:Below B w w') (hb:B≤b):Below B w (Go.Sort.putRow encStr (Go.Sort.ahead w' k) b 0 d):=by
 refine ⟨h.os,h.tape,h.output,?_,fun i hi => ?_⟩
 · show w.heap.size≤(w'.heap.modify b _).size
   rw [Array.size_modify];exact h.size
 · show (w'.heap.modify b _)[i]? = _
   rw [Array.getElem?_modify,if_neg (by omega)];exact h.block i hi
def mkS (n:Nat):List Value:=(madeCells #[.string ⟨#[]⟩] (n*1)).toList
theorem zwa (n:Nat):(mkS n).length=n:=by unfold mkS;simp [size_madeCells]
theorem zt7 {ρ : Operand→Value} {op:Oper} {x y:Operand} {n:Nat} {w:World} (ho:op.op = .makeSlice 23 x y) (h1 : ρ x = .int .i64 (n:Nat)) (h2 : ρ y = .int .i64 (n:Nat)) (hc:n≤16000000) :
  (execOp ρ op).run Tryz.prog w = .ok (.value (.slice (some ⟨w.heap.size,0,none⟩) n n)) (w.alloc (.cells (mkS n).toArray 9)):=by
 obtain ⟨i,hi,hz,hs,hb⟩:=ztt;have hr:=run_make (P:=Tryz.prog) w 23 9 i _ Tryz.underlying23 hi hz .i64 .i64 n n (by omega) (by omega) (by rw [hb];omega) (by omega);unfold execOp;simp only [ho,h1,h2,Sem.run_bind,hr,Result.andThen_ok,Sem.run_pure,hs,Int.toNat_natCast]
 rfl
theorem zy2 (hb n:Nat) (l:List (List Int)) (W:World) (hl:l.length=n) (hR:Row W hb 9 (strs l)) (hN:n≤2000000) :
  Calls Tryz.prog 93 #[.slice (some ⟨hb,0,none⟩) n n] W fun e w'=>e = .returned (.tuple #[])∧Row w' hb 9 (strs l.reverse)∧∀ B w,Below B w W→B≤hb→Below B w w':=by
 have h:=Tryz.slices_Reverse_string hb 0 n (l.map zl8) W (zw1 hR) (by simp;omega);rw [List.length_map,hl] at h;refine h.mono ?_;rintro e w' ⟨rfl,k,rfl⟩;rw [← List.map_reverse];exact ⟨rfl,yc1 hR (by rw [za8,List.length_reverse]),fun B w hb h2=>zui hb h2⟩
theorem ziw (A:Option Addr) (n c:Nat) (l:List (List Int)) (w:World) (hn:l.length=n) (hA:Rds w w.heap.size A (strs l)) (hN:n≤2000000) :
  Calls Tryz.prog 53 #[.slice A n c] w fun e w' => ∃ v,e = .returned v∧SXL w v l.reverse w':=by
 have HA:=kd hA;have HN:=kd hn
 have CP:=kd (fun (W1:World) (hb:Nat) (hR:Row W1 hb 9 (mkS n)) (hA1:Rds W1 W1.heap.size A (strs l)) (ty:TypeId)=>zpv (P:=Tryz.prog) W1 23 23 ty 9 hb 0 n n c 1 A (strs l) Tryz.underlying23 (by kernel_rfl) (by rw [za8,HN.out,Nat.mul_one])
  (fun h0=>by
    obtain ⟨b,o,e,_,hc⟩:=hA1 (by rw [za8,HN.out];omega)
    exact ⟨_,e,fun j v hv=>by rw [Addr.add_mid];exact hc j v hv⟩)
  (fun j hj=>by rw [Nat.zero_add,hR.cell,List.getElem?_eq_getElem (by rw [zwa];rw [za8,HN.out] at hj;exact hj)];rfl) (fun j _=>hR.frozen _) (zrg l))
 have HN2:=kd hN;clear hA hn hN;have BA:=kd ((Below.refl w.heap.size w).alloc zNr (.cells (mkS n).toArray 9));have RA:=kd (Row.new w 9 (mkS n))
 go_enter Tryz.func53,Tryz.ntmps53
 go_upto_region 2 with (with_reducible refine zet rfl _ _ (zt7 (n:=n) rfl rfl rfl (by have:=HN2.out;omega)) ?_);obtain ⟨g,hg⟩:∃ b,w.heap.size=b:=⟨_,rfl⟩;have HW1:=kd ((HA.out.below BA.out).up BA.out.size);have GE:=kd (Nat.le_refl w.heap.size);rw [hg] at RA;rw [hg]
 generalize w.alloc (.cells (mkS n).toArray 9)=W1 at *;have CQ:=kd (CP.out W1 g RA.out HW1.out);clear CP;go_upto_region 3 with (with_reducible refine zet rfl _ _ (zxg (vd := .slice (some ⟨g,0,none⟩) n n) (vs := .slice A n c) rfl rfl rfl (CQ.out _)) ?_)
 have R2:=kd (show Row (W1.setCells g 0 (strs l)) g 9 (strs l) from RA.out.setAll (strs l) (by rw [zwa,za8,HN.out]));have B2:=kd (zbs (show w.heap.size≤g from Nat.le_of_eq hg) (strs l) 0 _ BA.out);clear CQ HW1 BA RA;generalize W1.setCells g 0 (strs l)=W2 at *;go_wp2_with fail
 refine (zy2 g n l W2 HN.out R2.out HN2.out).mono ?_;rintro _ w3 ⟨rfl,h3,h4⟩;have R3:=kd h3;have B3:=kd (h4 _ _ B2.out (Nat.le_of_eq hg));clear h3 h4 B2 R2;go_wp2_with fail;go_ret;refine ⟨_,rfl,?_⟩
 have h:=zuz (sz:=1) (n:=n) B3.out (Nat.le_of_eq hg) R3.out (by rw [za8,List.length_reverse,HN.out,Nat.mul_one]) (by have:=HN2.out;omega)
 have e:l.reverse.length=n:=by rw [List.length_reverse];exact HN.out
 show VX _ _ _ _ _ _ _;rw [e];exact h
end Go.Proofs.YtfnmkedncfdceaaGreatDoor
