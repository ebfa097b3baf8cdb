/- Plain law: what ends a dialog (DialogEnds), and the examples of DialogKnown. And what stands behind it. -/
import Derived.Test.YtfnmkedncfdceaaGreatDoorKa
set_option linter.unusedVariables false
set_option linter.unusedSimpArgs false
namespace Go.Proofs.YtfnmkedncfdceaaGreatDoor
open Go.RowKit
theorem yfs {c:Int} (h:c<101∨299<c) (rs qs:List (List Int)):zd5 (zaz rs) (zay c qs)=false:=zz6 (.inr (.inr h))
theorem yfb {c:Int} {rs:List (List Int)} (qs:List (List Int)) (h1:101≤c) (h2:c≤299) (h:∀ r∈rs,OkR r) (hl:16<rs.length):zdh (zaz rs) (zay c qs) = .error 4:=by
 unfold zdh zbt;rw [show zbn (zaz rs).hs=some rs from ztr h,zr7 h1 h2,zpc,show zba (zaz rs).hs=_ from zzv rs];dsimp only;rw [if_neg (by decide),if_pos (by omega)]
theorem ye5 {c:Int} {rs:List (List Int)} (qs:List (List Int)) (hc:c<101∨299<c) (h:∀ r∈rs,OkR r):zdh (zaz rs) (zay c qs) = .error 2:=by
 unfold zdh zbt;rw [show zbn (zaz rs).hs=some rs from ztr h,yfs hc];dsimp only;rw [if_pos (.inl rfl)]

def INFOT:List Int:=[73,78,70,79]
def EH (m:List Int):List Hd:=[hdL [86,105,97] [83,73,80,47,50,46,48,47,85,68,80,32,97,46,101,120,97,109,112,108,101,59,98,114,97,110,99,104,61,122,57,104,71,52,98,75,49],
 hdL [70,114,111,109] [60,115,105,112,58,97,64,97,46,101,120,97,109,112,108,101,62,59,116,97,103,61,120],
 hdL [84,111] [60,115,105,112,58,98,64,98,46,101,120,97,109,112,108,101,62,59,116,97,103,61,121],
 hdL [67,97,108,108,45,73,68] [99,49],
 hdL [67,83,101,113] (56::32::m),
 hdL [67,111,110,116,97,99,116] [60,115,105,112,58,98,64,53,46,54,46,55,46,56,62]]
def M4 (m:List Int):Prop:=m=BYET∨m=INVT∨m=INFOT∨m=UPDT
theorem kn_ack:zcb (zda 200 [SP2,SP1]) ACKT VIA2 = .ok (zda 200 [SP2,SP1],⟨ACKT,[115,105,112,58,98,64,53,46,54,46,55,46,56],0,[],zpx (zda 200 [SP2,SP1]) ACKT VIA2 7⟩):=by kernel_rfl
theorem yfp:zan (zpx (zda 200 [SP2,SP1]) ACKT VIA2 7)=(7,ACKT,true):=by kernel_rfl
theorem yfr:zdh (zaz []) (zay 180 []) = .ok (zd0 180 []):=zl2 _ (by decide) (by decide) (fun r hr=>by cases hr) (by decide)
theorem kn_bye:zcb (zd0 180 []) BYET VIA2 = .error 9:=by kernel_rfl
theorem kn_upd:zcb (zd0 180 []) UPDT VIA2 = .ok (zvu (zd0 180 []) UPDT,⟨UPDT,(wayL (zd0 180 [])).1,0,[],zpx (zd0 180 []) UPDT VIA2 1⟩):=by kernel_rfl
theorem kn_300:zdh (zaz []) (zay 300 []) = .error 2:=ye5 _ (by decide) (fun r hr=>by cases hr)
theorem kn_100:zdh (zaz []) (zay 100 []) = .error 2:=ye5 _ (by decide) (fun r hr=>by cases hr)
theorem yfq:SPs [SP3,SP1]:=fun r hr=>by simp at hr;rcases hr with rfl|rfl<;>simp
theorem yfo:zdh (zaz [SP3,SP1]) (zay 200 []) = .ok (zd0 200 [SP3,SP1]):=zl2 _ (by decide) (by decide) yfq.ok (by decide)
theorem yfy:zcb (zd0 200 [SP3,SP1]) INFOT VIA2 = .ok (zvu (zd0 200 [SP3,SP1]) INFOT,⟨INFOT,SP3,0,[],zpx (zd0 200 [SP3,SP1]) INFOT VIA2 1⟩):=by kernel_rfl
theorem kn_rt:allH (zpx (zd0 200 [SP3,SP1]) INFOT VIA2 1) zpk=[brak SP1,brak [115,105,112,58,97,64,49,46,50,46,51,46,52]]:=by kernel_rfl
theorem kn_can:zcb (zda 200 [SP2,SP1]) zho VIA2 = .error 2:=by kernel_rfl
theorem kn_nil:zcb (zda 200 [SP2,SP1]) [] VIA2 = .error 2:=by kernel_rfl
theorem kn_via:zcb (zda 200 [SP2,SP1]) INFOT [] = .error 2:=by kernel_rfl
theorem yfv:SPs (List.replicate 17 SP1):=fun r hr => .inl (List.eq_of_mem_replicate hr)
theorem yfx:zdh (zaz (List.replicate 17 SP1)) (zay 200 []) = .error 4:=yfb _ (by decide) (by decide) yfv.ok (by decide)
theorem sps2:SPs [SP2]:=fun r hr=>by simp at hr;subst hr;simp
theorem yfw:SPs [SP1,SP2]:=fun r hr=>by simp at hr;rcases hr with rfl|rfl<;>simp
theorem kn_w:zc6 (zaz [SP2]) (zay 180 [SP2]) = .ok (zda 180 [SP2]):=zih _ (by decide) (by decide) sps2.ok (by decide)
theorem kn_y:zbi (zda 180 [SP2]) (zay 200 [SP1,SP2]) = .ok { zda 180 [SP2] with st:=2,rs:=[SP2,SP1] }:=by kernel_rfl

def kept (d:Dlg) (l:List Hd):List (List Int):=match zbn l with
 | some l=>if l.length≤16 then l.reverse else d.rs
 | none=>d.rs
def r1L (d:Dlg) (m:Msg):Dlg:=if accL m.co=true∧(zan m.hs).2.1=INVT∧d.st=1 then { d with st:=2,rs:=kept d m.hs } else d
def r2L (d:Dlg) (m:Msg):Dlg:=if accL m.co=true∧((zan m.hs).2.1=INVT∨(zan m.hs).2.1=UPDT) then zgi d m.hs else d
def zoa (m:Msg):Prop:=((zan m.hs).2.1=BYET∧200≤m.co∧m.co≤699)∨m.co=408∨m.co=481
instance (m:Msg):Decidable (zoa m):=by unfold zoa;infer_instance
def r3L (d:Dlg) (m:Msg):Dlg:=if zoa m then { d with st:=3 } else d
section
variable {d : Dlg} {m : Msg}
theorem yc5 (h:m.co=0∨(zan m.hs).2.2=false):zbi d m = .error 2:=by unfold zbi;dsimp only;exact if_pos h
theorem yc4 (h1:m.co≠0) (h2:(zan m.hs).2.2=true) (h4:za4 d m=false):zbi d m = .error 8:=by
 unfold zbi;dsimp only;rw [if_neg (by rintro (h|h);exact h1 h;rw [h2] at h;cases h)];exact if_pos h4
theorem yc3 (h1:m.co≠0) (h2:(zan m.hs).2.2=true) (h4:za4 d m=true) (h5:zdw d=false):zbi d m = .error 9:=by
 unfold zbi;dsimp only;rw [if_neg (by rintro (h|h);exact h1 h;rw [h2] at h;cases h),if_neg (by rw [h4];decide)];exact if_pos h5
theorem yc2 (h1:m.co≠0) (h2:(zan m.hs).2.2=true) (h4:za4 d m=true) (h5:zdw d=true):zbi d m = .ok (r3L (r2L (r1L d m) m) m):=by
 unfold zbi;dsimp only;rw [if_neg (by rintro (h|h);exact h1 h;rw [h2] at h;cases h),if_neg (by rw [h4];decide),if_neg (by rw [h5];decide)];show (if zoa m then Except.ok { r2L (r1L d m) m with st:=3 } else Except.ok (r2L (r1L d m) m))=_;unfold r3L
 split<;>rfl
theorem r1_no (h:¬ (accL m.co=true∧(zan m.hs).2.1=INVT∧d.st=1)):r1L d m=d:=if_neg h
theorem r1_yes (h1:accL m.co=true) (h2:(zan m.hs).2.1=INVT) (h3:d.st=1):r1L d m={ d with st:=2,rs:=kept d m.hs }:=if_pos ⟨h1,h2,h3⟩
theorem yds (h:zbn m.hs=none):kept d m.hs=d.rs:=by unfold kept;rw [h]
theorem zws {l:List (List Int)} (h:zbn m.hs=some l) (h2:¬ l.length≤16):kept d m.hs=d.rs:=by unfold kept;rw [h];exact if_neg h2
theorem zzs {l:List (List Int)} (h:zbn m.hs=some l) (h2:l.length≤16):kept d m.hs=l.reverse:=by unfold kept;rw [h];exact if_pos h2
theorem r2_no (h:¬ (accL m.co=true∧((zan m.hs).2.1=INVT∨(zan m.hs).2.1=UPDT))):r2L d m=d:=if_neg h
theorem r2_yes (h1:accL m.co=true) (h2:(zan m.hs).2.1=INVT∨(zan m.hs).2.1=UPDT):r2L d m=zgi d m.hs:=if_pos ⟨h1,h2⟩
theorem r3_no (h:¬ zoa m):r3L d m=d:=if_neg h
theorem r3_yes (h:zoa m):r3L d m={ d with st:=3 }:=if_pos h
end

structure DNX (w:World) (gd g:Nat) (MM DV Z:List Value) (d:Dlg) (A:Option Addr) (c:Nat) (F:List (World→Prop)) (wx:World):Prop where
 m:Mine w wx [(gd,25,dgC d A c),(g+1+1,25,Z),(g+1,31,MM),(g,25,DV)] ((fun W=>Rds W W.heap.size A (strs d.rs))::F)
 nil:A=none→d.rs.length=0∧c=0
 fresh:∀ b o s,A=some ⟨b,o,s⟩→w.heap.size≤b∧o=0
 cap:d.rs.length≤c
set_option maxRecDepth 100000 in
set_option maxHeartbeats 16000000 in
theorem zfu (d:Dlg) (A:Option Addr) (c:Nat) (m:Msg) (A2 B2:Option Addr) (c2 n2 d2:Nat) (w:World) (H:DArg w d A c) (HM:MArg w m A2) (G:GW w) :
  Calls Tryz.prog 24 #[.agg (dgC d A c).toArray,.agg #[.string (strOfNums m.me),.string (strOfNums m.ur),.int .i64 m.co,.string (strOfNums m.re),.slice A2 m.hs.length c2,.slice B2 n2 d2]] w (CrP w (zbi d m)):=by
 have M0:=kd (zei w 25 31 25 [.int .u8 d.st,.bool d.cl,.string (strOfNums d.ci),.string (strOfNums d.lt),.string (strOfNums d.rt),.string (strOfNums d.lu),.string (strOfNums d.ru),.string (strOfNums d.tg),.slice A d.rs.length c,.int .i64 d.ls,.int .i64 d.rq,.int .i64 d.iq] [.string (strOfNums m.me),.string (strOfNums m.ur),.int .i64 m.co,.string (strOfNums m.re),.slice A2 m.hs.length c2,.slice B2 n2 d2] [.int .u8 0,.bool false,.string ⟨#[]⟩,.string ⟨#[]⟩,.string ⟨#[]⟩,.string ⟨#[]⟩,.string ⟨#[]⟩,.string ⟨#[]⟩,.slice none 0 0,.int .i64 0,.int .i64 0,.int .i64 0])
 have SQ:=kd (fun w' (hb:Below w.heap.size w w')=>zej m A2 B2 c2 n2 d2 w' (HM.step hb) (G.below hb));have BL:=kd (fun w' (hb:Below w.heap.size w w')=>zk2 d A c m A2 B2 c2 n2 d2 w' (H.step hb) (HM.step hb) (G.below hb));have OP:=kd (fun w'=>zmu d A c w')
 have CP:=kd (fun w' (hb:Below w.heap.size w w')=>zik d A c w' (H.step hb));have CT:=kd (fun w' (hb:Below w.heap.size w w')=>zfh m A2 B2 c2 n2 d2 w' (HM.step hb) (G.below hb));have RT:=kd (fun w' (hb:Below w.heap.size w w')=>ziv m A2 B2 c2 n2 d2 w' (HM.step hb) (G.below hb))
 have CQB:=kd (zm7 m.hs);have E1:=kd (fun h=>yc5 (d:=d) (m:=m) h);have E2:=kd (fun h1 h2 h4=>yc4 (d:=d) (m:=m) h1 h2 h4);have E3:=kd (fun h1 h2 h4 h5=>yc3 (d:=d) (m:=m) h1 h2 h4 h5);have K1:=kd (fun h1 h2 h4 h5=>yc2 (d:=d) (m:=m) h1 h2 h4 h5)
 have R1N:=kd (fun h=>r1_no (d:=d) (m:=m) h);have R1Y:=kd (fun h1 h2 h3=>r1_yes (d:=d) (m:=m) h1 h2 h3);have KN:=kd (fun h=>yds (d:=d) (m:=m) h);have KM:=kd (fun l h h2=>zws (d:=d) (m:=m) (l:=l) h h2);have KY:=kd (fun l h h2=>zzs (d:=d) (m:=m) (l:=l) h h2)
 have R2N:=kd (fun h=>r2_no (d:=r1L d m) (m:=m) h);have R2Y:=kd (fun h1 h2=>r2_yes (d:=r1L d m) (m:=m) h1 h2);have V1:=kd (fun h=>zoe (d:=r1L d m) (l:=m.hs) h);have V2:=kd (fun h=>zrr (d:=r1L d m) (l:=m.hs) h)
 have R3N:=kd (fun h=>r3_no (d:=r2L (r1L d m) m) (m:=m) h);have R3Y:=kd (fun h=>r3_yes (d:=r2L (r1L d m) m) (m:=m) h);have OV:=kd (show zoa m=(((zan m.hs).2.1=BYET∧200≤m.co∧m.co≤699)∨m.co=408∨m.co=481) from rfl)
 have BAD:=kd (fun w' k h hb hk=>CrP.bad (w:=w) (w':=w') (R:=zbi d m) (k:=k) h hb hk);have GOOD:=kd (fun w' d1 A c h hb hs=>CrP.good (w:=w) (w':=w') (R:=zbi d m) (d:=d1) (A:=A) (c:=c) h hb hs);unfold mS at SQ CT RT;unfold dgC at GOOD CP BL OP ⊢
 generalize CrP w (zbi d m)=PP at *;generalize zbi d m=R at *;generalize r3L (r2L (r1L d m) m) m=D3 at *;generalize r2L (r1L d m) m=D2 at *;generalize zgi (r1L d m) m.hs=mv at *;generalize r1L d m=D1 at *;generalize kept d m.hs=ks at *;generalize zoa m=OVR at *
 generalize zan m.hs=sq at *;generalize za4 d m=bo at *;generalize zdw d=op at *;generalize zba m.hs=ct at *;generalize zbn m.hs=rt at *;obtain ⟨qn,qm,qb⟩:=sq;obtain ⟨ctg,okc⟩:=ct;dsimp only at *;clear H HM G
 go_enter Tryz.func24,Tryz.ntmps24
 go_upto_region 1 with (fail)
 generalize ((w.alloc (.cells #[.int .u8 d.st,.bool d.cl,.string (strOfNums d.ci),.string (strOfNums d.lt),.string (strOfNums d.rt),.string (strOfNums d.lu),.string (strOfNums d.ru),.string (strOfNums d.tg),.slice A d.rs.length c,.int .i64 d.ls,.int .i64 d.rq,.int .i64 d.iq] 25)).alloc (.cells #[.string (strOfNums m.me),.string (strOfNums m.ur),.int .i64 m.co,.string (strOfNums m.re),.slice A2 m.hs.length c2,.slice B2 n2 d2] 31)).alloc (.cells #[.int .u8 0,.bool false,.string ⟨#[]⟩,.string ⟨#[]⟩,.string ⟨#[]⟩,.string ⟨#[]⟩,.string ⟨#[]⟩,.string ⟨#[]⟩,.slice none 0 0,.int .i64 0,.int .i64 0,.int .i64 0] 25)=w1 at *
 obtain ⟨g,hg⟩:∃ b,w.heap.size=b:=⟨_,rfl⟩;rw [hg] at M0 ⊢;clear hg;have RM:=kd (M0.out.row (i:=1) rfl);go_wp2_with (with_reducible refine zab rfl 31 (.tmp 3) rfl RM.out rfl Tryz.underlying31 rfl zaw ?_);refine (SQ.out _ M0.out.bw).mono ?_;rintro _ w2 ⟨rfl,hb2⟩
 have M2:=kd (M0.out.call hb2);clear hb2 SQ RM M0;have y2:w2.cell? ⟨g+1,2,none⟩=some (.int .i64 m.co):=(M2.out.row (i:=1) rfl).cell 2
 by_cases h1:m.co=0
 case pos =>
  have p1:(m.co == 0)=true:=by simpa using h1
  have N:=kd (E1.out (.inl h1));clear E1 E2 E3 K1 R1N R1Y KN KM KY R2N R2Y V1 V2 R3N R3Y OV GOOD h1;go_wp2_with (with_reducible refine zad M2.out 0 rfl 25 (.tmp 4) (.tmp 28) rfl Z12 _ rfl rfl rfl rfl za6 (zae _ _ _ _ _ _ _ _ _ _ _ _) zat ?_);intro w9 M9;have R9:=M9.out.row (i:=0) rfl
  go_wp2_with fail;exact bodyPost_ret (zah rfl _ _ _ (g+1+1) Z12 _ rfl R9.range Tryz.underlying25 rfl (zae _ _ _ _ _ _ _ _ _ _ _ _)) rfl (by exact BAD.out _ _ (N.out) M9.out.bw (by decide))
 have p1:(m.co == 0)=false:=by simpa using h1
 have H1:=kd h1;clear h1
 cases qb with
 | false =>
   have N:=kd (E1.out (.inr rfl));clear E1 E2 E3 K1 R1N R1Y KN KM KY R2N R2Y V1 V2 R3N R3Y OV GOOD;go_wp2_with (with_reducible refine zad M2.out 0 rfl 25 (.tmp 4) (.tmp 28) rfl Z12 _ rfl rfl rfl rfl za6 (zae _ _ _ _ _ _ _ _ _ _ _ _) zat ?_);intro w9 M9;have R9:=M9.out.row (i:=0) rfl
   go_wp2_with fail;exact bodyPost_ret (zah rfl _ _ _ (g+1+1) Z12 _ rfl R9.range Tryz.underlying25 rfl (zae _ _ _ _ _ _ _ _ _ _ _ _)) rfl (by exact BAD.out _ _ (N.out) M9.out.bw (by decide))
 | true =>
 clear E1;go_upto_region 4 with (fail);clear p1 y2;have RD:=kd (M2.out.row (i:=2) rfl);have RM:=kd (M2.out.row (i:=1) rfl)
 go_wp2_with (first
  | (with_reducible refine zab rfl 25 (.tmp 2) rfl RD.out rfl Tryz.underlying25 rfl (zae _ _ _ _ _ _ _ _ _ _ _ _) ?_)
  | (with_reducible refine zab rfl 31 (.tmp 3) rfl RM.out rfl Tryz.underlying31 rfl zaw ?_))
 refine (BL.out _ M2.out.bw).mono ?_;rintro _ w3 ⟨rfl,hb3⟩;have M3:=kd (M2.out.call hb3);clear hb3 BL RM RD M2
 cases bo with
 | false =>
   have N:=kd (E2.out H1.out (by simp) (by simp));clear E2 E3 K1 R1N R1Y KN KM KY R2N R2Y V1 V2 R3N R3Y OV GOOD;go_wp2_with (with_reducible refine zad M3.out 0 rfl 25 (.tmp 4) (.tmp 33) rfl Z12 _ rfl rfl rfl rfl za6 (zae _ _ _ _ _ _ _ _ _ _ _ _) zat ?_);intro w9 M9
   have R9:=M9.out.row (i:=0) rfl;go_wp2_with fail;exact bodyPost_ret (zah rfl _ _ _ (g+1+1) Z12 _ rfl R9.range Tryz.underlying25 rfl (zae _ _ _ _ _ _ _ _ _ _ _ _)) rfl (by exact BAD.out _ _ (N.out) M9.out.bw (by decide))
 | true =>
 have RD:=kd (M3.out.row (i:=2) rfl);go_wp2_with (with_reducible refine zab rfl 25 (.tmp 2) rfl RD.out rfl Tryz.underlying25 rfl (zae _ _ _ _ _ _ _ _ _ _ _ _) ?_);refine (OP.out _).mono ?_;rintro _ w4 ⟨rfl,hb4⟩;have M4:=kd (M3.out.call hb4);clear hb4 OP RD M3
 cases op with
 | false =>
   have N:=kd (E3.out H1.out (by simp) (by simp) (by simp));clear E2 E3 K1 R1N R1Y KN KM KY R2N R2Y V1 V2 R3N R3Y OV GOOD;go_wp2_with (with_reducible refine zad M4.out 0 rfl 25 (.tmp 4) (.tmp 37) rfl Z12 _ rfl rfl rfl rfl za6 (zae _ _ _ _ _ _ _ _ _ _ _ _) zat ?_);intro w9 M9
   have R9:=M9.out.row (i:=0) rfl;go_wp2_with fail;exact bodyPost_ret (zah rfl _ _ _ (g+1+1) Z12 _ rfl R9.range Tryz.underlying25 rfl (zae _ _ _ _ _ _ _ _ _ _ _ _)) rfl (by exact BAD.out _ _ (N.out) M9.out.bw (by decide))
 | true =>
 have KK:=kd (K1.out H1.out (by simp) (by simp) (by simp));have RD:=kd (M4.out.row (i:=2) rfl);go_wp2_with (with_reducible refine zab rfl 25 (.tmp 2) rfl RD.out rfl Tryz.underlying25 rfl (zae _ _ _ _ _ _ _ _ _ _ _ _) ?_);refine (CP.out _ M4.out.bw).mono ?_;rintro _ w5 ⟨A5,c5,rfl,hb5,sf⟩
 have SFH:=kd (sf.base M4.out.bw);have M5:=kd ((M4.out.call hb5).add (F:=fun W=>Rds W W.heap.size A5 (strs d.rs)) (za9 sf.r (fun b o s e=>M4.out.fresh (sf.fresh b o s e).1)));clear hb5 CP RD M4 sf E2 E3 K1 BAD H1
 go_upto_region 9 with (with_reducible refine zak rfl 25 (.tmp 9) (.tmp 39) rfl Z12 (dV d A5 c5) rfl rfl za6 (zae _ _ _ _ _ _ _ _ _ _ _ _) zat ?_;intro w6 R6 S6);have M6:=kd (M5.out.join S6.out zNr R6.out);generalize w5.heap.size=gd at *;clear R6 S6 M5
 have y2:w6.cell? ⟨g+1,2,none⟩=some (.int .i64 m.co):=(M6.out.row (i:=2) rfl).cell 2;have z0:w6.cell? ⟨g,0,none⟩=some (.int .u8 d.st):=(M6.out.row (i:=3) rfl).cell 0;obtain ⟨acc,hacc⟩:∃ b,accL m.co=b:=⟨_,rfl⟩;rw [hacc] at R1N R1Y R2N R2Y;have AC:=kd hacc;clear hacc
 go_frame
 go_cut [10] (fun v wx=>v = .bool acc∧wx=w6)
 case first =>
  have AQ:=AC.out;unfold accL at AQ;clear R1N R1Y R2N R2Y R3N R3Y KN KM KY V1 V2 OV KK GOOD
  by_cases a1:200≤m.co
  · have e1:decide (m.co ≥ 200)=true:=by simpa using a1
    have e1':decide (200≤m.co)=true:=by simpa using a1
    by_cases a2:m.co≤299
    · have e2:decide (m.co≤299)=true:=by simpa using a2
      have N:=kd (show acc=true by rw [← AQ,e1',e2];rfl);clear AQ;go_wp2_with fail;go_meet;exact ⟨by rw [N.out],rfl⟩
    · have e2:decide (m.co≤299)=false:=by simpa using a2
      have N:=kd (show acc=false by rw [← AQ,e1',e2];rfl);clear AQ;go_wp2_with fail;go_meet;exact ⟨by rw [N.out],rfl⟩
  · have e1:decide (m.co ≥ 200)=false:=by simpa using a1
    have e1':decide (200≤m.co)=false:=by simpa using a1
    have N:=kd (show acc=false by rw [← AQ,e1'];rfl);clear AQ;go_wp2_with fail;go_meet;exact ⟨by rw [N.out],rfl⟩
 case rest =>
 obtain ⟨rfl,rfl⟩:=hcut;have LI:=kd (zdg CQB.out [73,78,86,73,84,69] INVT rfl);have LU:=kd (zdg CQB.out [85,80,68,65,84,69] UPDT rfl);have LB:=kd (zdg CQB.out [66,89,69] BYET rfl);obtain ⟨k1,hk1⟩:∃ b,decide (acc=true∧qm=INVT∧d.st=1)=b:=⟨_,rfl⟩
 have C1:=kd hk1;clear hk1;go_upto_region 10 with (fail)
 go_cut [57] (fun v wx=>v = .bool k1∧wx=wc)
 case first =>
  clear R1N R1Y R2N R2Y R3N R3Y KN KM KY V1 V2 OV KK GOOD AC
  cases acc with
  | false =>
    have N:=kd (show k1=false by rw [← C1.out];simp);go_wp2_with fail;go_meet;exact ⟨by rw [N.out],rfl⟩
  | true =>
  by_cases h2:qm=INVT
  case neg =>
   have p2:((strOfNums qm).toList == [73,78,86,73,84,69])=false:=LI.out.trans (by simpa using h2);have N:=kd (show k1=false by rw [← C1.out];simp [h2]);clear h2;go_wp2_with fail;go_meet;exact ⟨by rw [N.out],rfl⟩
  have p2:((strOfNums qm).toList == [73,78,86,73,84,69])=true:=LI.out.trans (by simpa using h2)
  by_cases h3:d.st=1
  · have p3:(d.st == 1)=true:=by simpa using h3
    have N:=kd (show k1=true by rw [← C1.out];simp [h2,h3]);clear h2 h3;go_wp2_with fail;go_meet;exact ⟨by rw [N.out],rfl⟩
  · have p3:(d.st == 1)=false:=by simpa using h3
    have N:=kd (show k1=false by rw [← C1.out];simp [h3]);clear h2 h3;go_wp2_with fail;go_meet;exact ⟨by rw [N.out],rfl⟩
 case rest =>
 obtain ⟨rfl,rfl⟩:=hcut;clear z0;have SFX:=kd SFH.out;go_upto_if 57 with (fail)
 go_cut [11,12] (fun _ _ wx => ∃ AX cX FX,DNX w gd g (mV m A2 c2 B2 n2 d2) (dV d A c) Z12 D1 AX cX FX wx)
 case first =>
  clear R2N R2Y R3N R3Y V1 V2 OV KK GOOD AC CT
  cases k1 with
  | false =>
    have N:=kd (R1N.out (fun h=>by have:=C1.out;rw [decide_eq_true h] at this;cases this));clear R1N R1Y KN KM KY;go_wp2_with fail;go_meet;exact ⟨A5,c5,_,by rw [N.out];exact ⟨M6.out,SFX.out.nil,SFX.out.fresh,SFX.out.cap⟩⟩
  | true =>
  obtain ⟨ha,hq,hs⟩:=of_decide_eq_true C1.out;have N:=kd (R1Y.out ha hq hs);clear R1N R1Y ha hq hs;have m0:wc.cell? ⟨gd,0,none⟩=some (.int .u8 d.st):=(M6.out.row (i:=0) rfl).cell 0;have f0:wc.frozen? ⟨gd,0,none⟩=false:=(M6.out.row (i:=0) rfl).frozen 0
  go_upto_region 12 with (fail)
  have M7:=kd (show Mine w (wc.setCell ⟨gd,0,none⟩ (.int .u8 2)) [(gd,25,[.int .u8 2,.bool d.cl,.string (strOfNums d.ci),.string (strOfNums d.lt),.string (strOfNums d.rt),.string (strOfNums d.lu),.string (strOfNums d.ru),.string (strOfNums d.tg),.slice A5 d.rs.length c5,.int .i64 d.ls,.int .i64 d.rq,.int .i64 d.iq]),(g+1+1,25,Z12),(g+1,31,(mV m A2 c2 B2 n2 d2)),(g,25,(dV d A c))] [fun W=>Rds W W.heap.size A5 (strs d.rs)] from M6.out.setCell (i:=0) (off:=0) _ rfl rfl)
  clear m0 f0 M6 y2;generalize wc.setCell ⟨gd,0,none⟩ (.int .u8 2)=w7 at *;have RM:=kd (M7.out.row (i:=2) rfl);go_wp2_with (with_reducible refine zab rfl 31 (.tmp 3) rfl RM.out rfl Tryz.underlying31 rfl zaw ?_);refine (RT.out _ M7.out.bw).mono ?_;intro e8 w8 hx
  cases rt with
  | none =>
    obtain ⟨rfl,hb8⟩:=hx;have M8:=kd (M7.out.call hb8);have N2:=kd (KN.out rfl);clear hb8 RM M7 KN KM KY;go_wp2_with fail;go_meet;exact ⟨A5,c5,_,by rw [N.out,N2.out];exact ⟨M8.out,SFX.out.nil,SFX.out.fresh,SFX.out.cap⟩⟩
  | some l =>
    obtain ⟨v,rfl,hx⟩:=hx;obtain ⟨A7,c7,rfl,s7⟩:=hx.sf;have M8:=kd (M7.out.call hx.bw)
    by_cases h16:l.length≤16
    case neg =>
     have N2:=kd (KM.out l rfl h16)
     have p9:decide ((l.length:Int)≤16)=false:=by simp;omega
     clear hx s7 RM M7 KN KM KY h16;generalize l.length=n at *;go_wp2_with fail;go_meet;exact ⟨A5,c5,_,by rw [N.out,N2.out];exact ⟨M8.out,SFX.out.nil,SFX.out.fresh,SFX.out.cap⟩⟩
    have N2:=kd (KY.out l rfl h16)
    have p9:decide ((l.length:Int)≤16)=true:=by simp;omega
    have RV:=kd (ziw A7 l.length c7 l w8 rfl s7.r (by omega));clear hx s7 RM M7 KN KM KY h16;generalize l.length=n at *;go_wp2_with fail;refine (RV.out).mono ?_;rintro _ w9 ⟨v,rfl,hy⟩;obtain ⟨A8,c8,rfl,s8⟩:=hy.sf;have SF8:=kd (s8.base M8.out.bw)
    have M9:=kd ((M8.out.call hy.bw).add (F:=fun W=>Rds W W.heap.size A8 (strs l.reverse)) (za9 s8.r (fun b o s e=>M8.out.fresh (s8.fresh b o s e).1)));clear hy s8 M8 RV;have m8:w9.cell? ⟨gd,8,none⟩=some (.slice A5 d.rs.length c5):=(M9.out.row (i:=0) rfl).cell 8
    have f8:w9.frozen? ⟨gd,8,none⟩=false:=(M9.out.row (i:=0) rfl).frozen 8;go_wp2_with fail;have MX:=kd (M9.out.setCell (i:=0) (off:=8) (.slice A8 l.reverse.length c8) rfl rfl);go_meet;refine ⟨A8,c8,[fun W=>Rds W W.heap.size A5 (strs d.rs)],?_⟩;rw [N.out,N2.out]
    refine ⟨?_,SF8.out.nil,SF8.out.fresh,SF8.out.cap⟩;have h:=MX.out;rw [List.length_reverse] at h
    show Mine w _ [(gd,25,[.int .u8 2,.bool d.cl,.string (strOfNums d.ci),.string (strOfNums d.lt),.string (strOfNums d.rt),.string (strOfNums d.lu),.string (strOfNums d.ru),.string (strOfNums d.tg),.slice A8 l.reverse.length c8,.int .i64 d.ls,.int .i64 d.rq,.int .i64 d.iq]),(g+1+1,25,Z12),(g+1,31,(mV m A2 c2 B2 n2 d2)),(g,25,(dV d A c))] _
    rw [List.length_reverse];exact h
 case rest =>
 obtain ⟨A6,c6,FF,hn⟩:=hcut;have NH:=kd hn;have M6:=kd hn.m;clear hn SFX SFH y2 R1N R1Y KN KM KY RT C1;obtain ⟨k2,hk2⟩:∃ b,decide (acc=true∧(qm=INVT∨qm=UPDT))=b:=⟨_,rfl⟩;have C2:=kd hk2;clear hk2;go_upto_region 15 with (fail)
 go_cut [81] (fun v wx=>v = .bool k2∧wx=wc)
 case first =>
  clear R2N R2Y R3N R3Y V1 V2 OV KK GOOD AC
  cases acc with
  | false =>
    have N:=kd (show k2=false by rw [← C2.out];simp);go_wp2_with fail;go_meet;exact ⟨by rw [N.out],rfl⟩
  | true =>
  by_cases h2:qm=INVT
  case pos =>
   have p2:((strOfNums qm).toList == [73,78,86,73,84,69])=true:=LI.out.trans (by simpa using h2);have N:=kd (show k2=true by rw [← C2.out];simp [h2]);clear h2;go_wp2_with fail;go_meet;exact ⟨by rw [N.out],rfl⟩
  have p2:((strOfNums qm).toList == [73,78,86,73,84,69])=false:=LI.out.trans (by simpa using h2)
  by_cases h3:qm=UPDT
  · have p3:((strOfNums qm).toList == [85,80,68,65,84,69])=true:=LU.out.trans (by simpa using h3)
    have N:=kd (show k2=true by rw [← C2.out];simp [h3]);clear h2 h3;go_wp2_with fail;go_meet;exact ⟨by rw [N.out],rfl⟩
  · have p3:((strOfNums qm).toList == [85,80,68,65,84,69])=false:=LU.out.trans (by simpa using h3)
    have N:=kd (show k2=false by rw [← C2.out];simp [h2,h3]);clear h2 h3;go_wp2_with fail;go_meet;exact ⟨by rw [N.out],rfl⟩
 case rest =>
 obtain ⟨rfl,rfl⟩:=hcut;go_upto_if 81 with (fail)
 go_cut [13,14] (fun _ _ wx => ∃ AX cX FX,DNX w gd g (mV m A2 c2 B2 n2 d2) (dV d A c) Z12 D2 AX cX FX wx)
 case first =>
  clear R3N R3Y OV KK GOOD AC
  cases k2 with
  | false =>
    have N:=kd (R2N.out (fun h=>by have:=C2.out;rw [decide_eq_true h] at this;cases this));clear R2N R2Y V1 V2;go_wp2_with fail;go_meet;exact ⟨A6,c6,FF,by rw [N.out];exact NH.out⟩
  | true =>
  obtain ⟨ha,hq⟩:=of_decide_eq_true C2.out;have N:=kd (R2Y.out ha hq);clear R2N R2Y ha hq;have RM:=kd (M6.out.row (i:=2) rfl);go_wp2_with (with_reducible refine zab rfl 31 (.tmp 3) rfl RM.out rfl Tryz.underlying31 rfl zaw ?_);refine (CT.out _ M6.out.bw).mono ?_;rintro _ w8 ⟨rfl,hb8⟩
  have M8:=kd (M6.out.call hb8);clear hb8 RM
  cases okc with
  | false =>
    have N2:=kd (N.out.trans (V2.out rfl));clear N V1 V2;go_wp2_with fail;go_meet;exact ⟨A6,c6,FF,by rw [N2.out];exact ⟨M8.out,NH.out.nil,NH.out.fresh,NH.out.cap⟩⟩
  | true =>
    have N2:=kd (N.out.trans (V1.out rfl));clear N V1 V2;have m7:w8.cell? ⟨gd,7,none⟩=some (.string (strOfNums D1.tg)):=(M8.out.row (i:=0) rfl).cell 7;have f7:w8.frozen? ⟨gd,7,none⟩=false:=(M8.out.row (i:=0) rfl).frozen 7;go_wp2_with fail
    have MX:=kd (M8.out.setCell (i:=0) (off:=7) (.string (strOfNums ctg)) rfl rfl);go_meet;exact ⟨A6,c6,FF,by rw [N2.out];exact ⟨MX.out,NH.out.nil,NH.out.fresh,NH.out.cap⟩⟩
 case rest =>
 clear M6 NH C2 R2N R2Y V1 V2 CT;obtain ⟨A9,c9,F9,hn⟩:=hcut;have NH:=kd hn;have M6:=kd (show Mine w wc [(gd,25,(dV D2 A9 c9)),(g+1+1,25,Z12),(g+1,31,(mV m A2 c2 B2 n2 d2)),(g,25,(dV d A c))] ((fun W=>Rds W W.heap.size A9 (strs D2.rs))::F9) from hn.m);clear hn
 have y2:wc.cell? ⟨g+1,2,none⟩=some (.int .i64 m.co):=(M6.out.row (i:=2) rfl).cell 2;obtain ⟨k3,hk3⟩:∃ b,decide ((qm=BYET∧200≤m.co∧m.co≤699)∨m.co=408∨m.co=481)=b:=⟨_,rfl⟩;have C3:=kd hk3;clear hk3;go_upto_region 19 with (fail)
 go_cut [111] (fun v wx=>v = .bool k3∧wx=wc)
 case first =>
  clear R3N R3Y OV KK GOOD AC;have TAIL:∀ PB:Prop,PB=PB:=fun _=>rfl;clear TAIL
  by_cases h2:qm=BYET∧200≤m.co∧m.co≤699
  case pos =>
   obtain ⟨h2,h3,h4⟩:=h2;have p2:((strOfNums qm).toList == [66,89,69])=true:=LB.out.trans (by simpa using h2)
   have e1:decide (m.co ≥ 200)=true:=by simpa using h3
   have e1':decide (200≤m.co)=true:=by simpa using h3
   have e2:decide (m.co≤699)=true:=by simpa using h4
   have N:=kd (show k3=true by rw [← C3.out];simp [h2,h3,h4]);clear h2 h3 h4;go_wp2_with fail;go_meet;exact ⟨by rw [N.out],rfl⟩
  have HN:=kd h2;clear h2
  by_cases h2:qm=BYET
  case neg =>
   have p2:((strOfNums qm).toList == [66,89,69])=false:=LB.out.trans (by simpa using h2);clear h2
   by_cases h5:m.co=408
   · have p5:(m.co == 408)=true:=by simpa using h5
     have N:=kd (show k3=true by rw [← C3.out];exact decide_eq_true (.inr (.inl h5)));clear h5;go_wp2_with fail;go_meet;exact ⟨by rw [N.out],rfl⟩
   have p5:(m.co == 408)=false:=by simpa using h5
   by_cases h6:m.co=481
   · have p6:(m.co == 481)=true:=by simpa using h6
     have N:=kd (show k3=true by rw [← C3.out];exact decide_eq_true (.inr (.inr h6)));clear h5 h6;go_wp2_with fail;go_meet;exact ⟨by rw [N.out],rfl⟩
   have p6:(m.co == 481)=false:=by simpa using h6
   have N:=kd (show k3=false by rw [← C3.out];exact decide_eq_false (fun h=>h.elim HN.out (fun h=>h.elim h5 h6)));clear h5 h6;go_wp2_with fail;go_meet;exact ⟨by rw [N.out],rfl⟩
  have p2:((strOfNums qm).toList == [66,89,69])=true:=LB.out.trans (by simpa using h2)
  by_cases h3:200≤m.co
  case neg =>
   have e1:decide (m.co ≥ 200)=false:=by simpa using h3
   have e1':decide (200≤m.co)=false:=by simpa using h3
   clear h2
   by_cases h5:m.co=408
   · have p5:(m.co == 408)=true:=by simpa using h5
     have N:=kd (show k3=true by rw [← C3.out];exact decide_eq_true (.inr (.inl h5)));clear h5;go_wp2_with fail;go_meet;exact ⟨by rw [N.out],rfl⟩
   have p5:(m.co == 408)=false:=by simpa using h5
   by_cases h6:m.co=481
   · have p6:(m.co == 481)=true:=by simpa using h6
     have N:=kd (show k3=true by rw [← C3.out];exact decide_eq_true (.inr (.inr h6)));clear h5 h6;go_wp2_with fail;go_meet;exact ⟨by rw [N.out],rfl⟩
   have p6:(m.co == 481)=false:=by simpa using h6
   have N:=kd (show k3=false by rw [← C3.out];exact decide_eq_false (fun h=>h.elim HN.out (fun h=>h.elim h5 h6)));clear h5 h6;go_wp2_with fail;go_meet;exact ⟨by rw [N.out],rfl⟩
  have e1:decide (m.co ≥ 200)=true:=by simpa using h3
  have e1':decide (200≤m.co)=true:=by simpa using h3
  have e2:decide (m.co≤699)=false:=by
   have h4:¬ m.co≤699:=fun h4=>HN.out ⟨h2,h3,h4⟩
   simpa using h4
  clear h2
  by_cases h5:m.co=408
  · have p5:(m.co == 408)=true:=by simpa using h5
    have N:=kd (show k3=true by rw [← C3.out];exact decide_eq_true (.inr (.inl h5)));clear h5;go_wp2_with fail;go_meet;exact ⟨by rw [N.out],rfl⟩
  have p5:(m.co == 408)=false:=by simpa using h5
  by_cases h6:m.co=481
  · have p6:(m.co == 481)=true:=by simpa using h6
    have N:=kd (show k3=true by rw [← C3.out];exact decide_eq_true (.inr (.inr h6)));clear h5 h6;go_wp2_with fail;go_meet;exact ⟨by rw [N.out],rfl⟩
  have p6:(m.co == 481)=false:=by simpa using h6
  have N:=kd (show k3=false by rw [← C3.out];exact decide_eq_false (fun h=>h.elim HN.out (fun h=>h.elim h5 h6)));clear h5 h6;go_wp2_with fail;go_meet;exact ⟨by rw [N.out],rfl⟩
 case rest =>
 obtain ⟨rfl,rfl⟩:=hcut;clear y2
 cases k3 with
 | false =>
   have N:=kd (KK.out.trans (congrArg _ (R3N.out (fun h=>by have h2:=C3.out;rw [OV.out] at h;rw [decide_eq_true h] at h2;cases h2))));clear R3N R3Y OV KK C3;have RD:=kd (M6.out.row (i:=0) rfl)
   go_wp2_with (first
    | (with_reducible refine zab rfl 25 (.tmp 9) rfl RD.out rfl Tryz.underlying25 rfl (zae _ _ _ _ _ _ _ _ _ _ _ _) ?_)
    | (with_reducible refine zad M6.out 1 rfl 25 (.tmp 4) (.tmp 113) rfl (dV D2 A9 c9) _ rfl rfl rfl rfl za6 (zae _ _ _ _ _ _ _ _ _ _ _ _) zat ?_))
   intro w9 M9;have R9:=M9.out.row (i:=1) rfl;go_wp2_with fail
   exact bodyPost_ret (zah rfl _ _ _ (g+1+1) (dV D2 A9 c9) _ rfl R9.range Tryz.underlying25 rfl (zae _ _ _ _ _ _ _ _ _ _ _ _)) rfl (by exact GOOD.out _ _ _ _ (N.out) M9.out.bw ⟨NH.out.nil,NH.out.fresh,NH.out.cap,M9.out.fact (i:=0) rfl⟩)
 | true =>
   have N:=kd (KK.out.trans (congrArg _ (R3Y.out (by rw [OV.out];exact of_decide_eq_true C3.out))));clear R3N R3Y OV KK C3;have m0:wc.cell? ⟨gd,0,none⟩=some (.int .u8 D2.st):=(M6.out.row (i:=0) rfl).cell 0;have f0:wc.frozen? ⟨gd,0,none⟩=false:=(M6.out.row (i:=0) rfl).frozen 0
   go_upto_region 21 with (fail)
   have M7:=kd (show Mine w (wc.setCell ⟨gd,0,none⟩ (.int .u8 3)) [(gd,25,[.int .u8 3,.bool D2.cl,.string (strOfNums D2.ci),.string (strOfNums D2.lt),.string (strOfNums D2.rt),.string (strOfNums D2.lu),.string (strOfNums D2.ru),.string (strOfNums D2.tg),.slice A9 D2.rs.length c9,.int .i64 D2.ls,.int .i64 D2.rq,.int .i64 D2.iq]),(g+1+1,25,Z12),(g+1,31,(mV m A2 c2 B2 n2 d2)),(g,25,(dV d A c))] ((fun W=>Rds W W.heap.size A9 (strs D2.rs))::F9) from M6.out.setCell (i:=0) (off:=0) _ rfl rfl)
   clear m0 f0 M6;generalize wc.setCell ⟨gd,0,none⟩ (.int .u8 3)=w7 at *;have RD:=kd (M7.out.row (i:=0) rfl)
   go_wp2_with (first
    | (with_reducible refine zab rfl 25 (.tmp 9) rfl RD.out rfl Tryz.underlying25 rfl (zae _ _ _ _ _ _ _ _ _ _ _ _) ?_)
    | (with_reducible refine zad M7.out 1 rfl 25 (.tmp 4) (.tmp 113) rfl [.int .u8 3,.bool D2.cl,.string (strOfNums D2.ci),.string (strOfNums D2.lt),.string (strOfNums D2.rt),.string (strOfNums D2.lu),.string (strOfNums D2.ru),.string (strOfNums D2.tg),.slice A9 D2.rs.length c9,.int .i64 D2.ls,.int .i64 D2.rq,.int .i64 D2.iq] _ rfl rfl rfl rfl za6 (zae _ _ _ _ _ _ _ _ _ _ _ _) zat ?_))
   intro w9 M9;have R9:=M9.out.row (i:=1) rfl;go_wp2_with fail
   exact bodyPost_ret (zah rfl _ _ _ (g+1+1) [.int .u8 3,.bool D2.cl,.string (strOfNums D2.ci),.string (strOfNums D2.lt),.string (strOfNums D2.rt),.string (strOfNums D2.lu),.string (strOfNums D2.ru),.string (strOfNums D2.tg),.slice A9 D2.rs.length c9,.int .i64 D2.ls,.int .i64 D2.rq,.int .i64 D2.iq] _ rfl R9.range Tryz.underlying25 rfl (zae _ _ _ _ _ _ _ _ _ _ _ _)) rfl (by exact GOOD.out _ _ _ _ (N.out) M9.out.bw ⟨NH.out.nil,NH.out.fresh,NH.out.cap,M9.out.fact (i:=0) rfl⟩)
end Go.Proofs.YtfnmkedncfdceaaGreatDoor
