/- Contracts: header.Address, header.URI, header.Tag. And what stands behind it. -/
import Derived.Test.YtfnmkedncfdceaaGreatDoorWa
set_option linter.unusedVariables false
set_option linter.unusedSimpArgs false
set_option maxRecDepth 100000
set_option maxHeartbeats 2000000
namespace Go.Proofs.YtfnmkedncfdceaaGreatDoor
open Go.RowKit

def ZADR:Value := .agg #[.string ⟨#[]⟩,.string ⟨#[]⟩,.string ⟨#[]⟩,.string ⟨#[]⟩,.int .i64 0,.slice none 0 0,.slice none 0 0,.slice none 0 0]
def HadP (w:World) (R:Except (Nat × Int) Adr) (e:Ending) (w':World):Prop:=match R with
 | .error q=>e = .returned (.tuple #[ZADR,.int .u8 q.2])∧Below w.heap.size w w'∧q.2≠0
 | .ok a => ∃ A1 A2 A3 c1 c2 c3,e = .returned (.tuple #[.agg #[.string (strOfNums a.ds),.string (strOfNums a.u.sc),.string (strOfNums a.u.us),.string (strOfNums a.u.ho),.int .i64 a.u.po,.slice A1 a.u.ps.length c1,.slice A2 a.u.hs.length c2,.slice A3 a.ps.length c3],.int .u8 0])∧Below w.heap.size w w'∧Rds w' w'.heap.size A1 (pms a.u.ps)∧Rds w' w'.heap.size A2 (pms a.u.hs)∧Rds w' w'.heap.size A3 (pms a.ps)
theorem VX.fresh {w wr:World} {v:Value} {n:Nat} {cs:List Value} (H:VX 155 3 w v n cs wr):∃ (A:Option Addr) (c:Nat),v = .slice A n c∧(∀ b o s,A=some ⟨b,o,s⟩→w.heap.size≤b)∧Rds wr wr.heap.size A cs:=by
 obtain ⟨A,c,hv,hR⟩:=H.rdw;refine ⟨A,c,hv,fun b o s e => ?_,hR⟩;subst e
 rcases H.o.2 with ⟨e,_⟩|⟨g,cap,cur,e,h1,_⟩
 · rw [hv] at e;cases e
 · rw [hv] at e;cases e;exact h1
theorem zou (s:ByteArray) (w:World) (hs:s.size≤4000000) (hC:CLS w) (hG:GM w) (hP:PT w):Calls Tryz.prog 145 #[.string s] w (HadP w (adrL (zca (zaa s)))):=by
 have TR:=kd (fun w=>zig s w hs);have TB:By (zca (zaa s)):=(zas s).sub (zcn _);have PA:=kd (fun w' (hb:Below w.heap.size w w')=>zn9 (strOfNums (zca (zaa s))) w' (hC.below hb) (hG.below hb) (hP.below hb));rw [zal TB] at PA
 have R0:=kd (Row.new w 168 [.string ⟨#[]⟩,.string ⟨#[]⟩,.string ⟨#[]⟩,.string ⟨#[]⟩,.int .i64 0,.slice none 0 0,.slice none 0 0,.slice none 0 0])
 have B0:=kd ((Below.refl w.heap.size w).alloc zNr (.cells ([.string ⟨#[]⟩,.string ⟨#[]⟩,.string ⟨#[]⟩,.string ⟨#[]⟩,.int .i64 0,.slice none 0 0,.slice none 0 0,.slice none 0 0]:List Value).toArray 168));clear hs hC hG hP TB;generalize zca (zaa s)=t at *;generalize adrL t=R at *
 go_enter Tryz.func145,Tryz.ntmps145
 go_wp2_with fail;generalize w.alloc (.cells #[.string ⟨#[]⟩,.string ⟨#[]⟩,.string ⟨#[]⟩,.string ⟨#[]⟩,.int .i64 0,.slice none 0 0,.slice none 0 0,.slice none 0 0] 168)=W0 at *;refine (TR.out W0).mono ?_;rintro _ w1 ⟨rfl,hb1⟩;have B1:=kd (zao B0.out hb1);have R1:=kd (R0.out.below hb1)
 clear hb1 TR R0 B0;go_wp2_with fail;refine (PA.out _ B1.out).mono ?_;intro e w2 h
 cases R with
 | error q =>
   obtain ⟨rfl,hb2,hk⟩:=h;have B2:=kd (zao B1.out hb2);have R2:=kd (R1.out.below hb2);have HK:=kd hk;clear hb2 hk R1 B1 PA;obtain ⟨qp,qk⟩:=q;dsimp only at *
   go_upto_region 2 with (with_reducible refine zak rfl 168 (.tmp 4) (.tmp 11) rfl ZA8 ZA8 rfl rfl len8 zfa (zf3 _ _ _ _ _) ?_;intro w3 R3 S3);have B3:=kd (zao B2.out S3.out);have RR:=kd (R2.out.below S3.out)
   go_wp2_with (first
    | (with_reducible refine zab rfl 168 (.tmp 4) rfl R3.out rfl Tryz.underlying168 rfl zfa ?_)
    | (with_reducible refine zbx rfl 168 (.tmp 2) (.tmp 14) rfl RR.out ZA8 rfl rfl len8 zfa (zf3 _ _ _ _ _) B3.out zNr ?_))
   intro w9 R9 B9 H9;go_wp2_with fail;exact bodyPost_ret (zah rfl _ _ _ w.heap.size ZA8 _ rfl R9.out.range Tryz.underlying168 rfl zfa) rfl (by exact ⟨rfl,B9.out,HK.out⟩)
 | ok a =>
   obtain ⟨v1,v2,v3,rfl,x1,x2,x3⟩:=h;have hb2:=x1.bw;have hlt:=R1.out.lt;obtain ⟨A1,c1,rfl,f1,r1⟩:=x1.fresh;obtain ⟨A2,c2,rfl,f2,r2⟩:=x2.fresh;obtain ⟨A3,c3,rfl,f3,r3⟩:=x3.fresh;have B2:=kd (zao B1.out hb2);have R2:=kd (R1.out.below hb2)
   have X1:=kd r1;have X2:=kd r2;have X3:=kd r3;have F1:=kd (fun b o s e=>show b≠w.heap.size from fun h=>by have:=f1 b o s e;omega);have F2:=kd (fun b o s e=>show b≠w.heap.size from fun h=>by have:=f2 b o s e;omega)
   have F3:=kd (fun b o s e=>show b≠w.heap.size from fun h=>by have:=f3 b o s e;omega);clear hb2 r1 r2 r3 x1 x2 x3 f1 f2 f3 R1 B1 PA hlt
   go_upto_region 2 with (with_reducible refine zak rfl 168 (.tmp 4) (.tmp 11) rfl ZA8 [.string (strOfNums a.ds),.string (strOfNums a.u.sc),.string (strOfNums a.u.us),.string (strOfNums a.u.ho),.int .i64 a.u.po,.slice A1 a.u.ps.length c1,.slice A2 a.u.hs.length c2,.slice A3 a.ps.length c3] rfl rfl len8 zfa (zf3 _ _ _ _ _) ?_;intro w3 R3 S3)
   have B3:=kd (zao B2.out S3.out);have RR:=kd (R2.out.below S3.out)
   go_wp2_with (first
    | (with_reducible refine zab rfl 168 (.tmp 4) rfl R3.out rfl Tryz.underlying168 rfl zfa ?_)
    | (with_reducible refine zbx rfl 168 (.tmp 2) (.tmp 14) rfl RR.out [.string (strOfNums a.ds),.string (strOfNums a.u.sc),.string (strOfNums a.u.us),.string (strOfNums a.u.ho),.int .i64 a.u.po,.slice A1 a.u.ps.length c1,.slice A2 a.u.hs.length c2,.slice A3 a.ps.length c3] rfl rfl len8 zfa (zf3 _ _ _ _ _) B3.out zNr ?_))
   intro w9 R9 B9 H9;go_wp2_with fail
   exact bodyPost_ret (zah rfl _ _ _ w.heap.size [.string (strOfNums a.ds),.string (strOfNums a.u.sc),.string (strOfNums a.u.us),.string (strOfNums a.u.ho),.int .i64 a.u.po,.slice A1 a.u.ps.length c1,.slice A2 a.u.hs.length c2,.slice A3 a.ps.length c3] _ rfl R9.out.range Tryz.underlying168 rfl zfa) rfl (by exact ⟨A1,A2,A3,c1,c2,c3,rfl,B9.out,((X1.out.below S3.out).up S3.out.size).heapR F1.out H9.out.1 H9.out.2,((X2.out.below S3.out).up S3.out.size).heapR F2.out H9.out.1 H9.out.2,((X3.out.below S3.out).up S3.out.size).heapR F3.out H9.out.1 H9.out.2⟩)
theorem zj6 {X:List Int} (hX:By X):∀ (f a:Nat) (l m:List Pm),a≤X.length→(∀ p∈l,(By p.n∧By p.v)∧p.n.length≤X.length∧p.v.length≤X.length)→zfw X f a l = .ok m→∀ p∈m,(By p.n∧By p.v)∧p.n.length≤X.length∧p.v.length≤X.length
 | 0,a,l,m,_,hl,h=>by unfold zfw at h;injection h with h;subst h;exact hl
 | f+1,a,l,m,ha,hl,h=>by
   rw [zg6 rfl rfl] at h;have a0s:zag isBlank X a≤X.length:=za5 ha
   by_cases h1:X.length≤zag isBlank X a
   · rw [if_pos h1] at h;injection h with h;subst h;exact hl
   rw [if_neg h1] at h
   by_cases h2:X.getD (zag isBlank X a) 0≠59
   · rw [if_pos h2] at h;cases h
   rw [if_neg h2] at h;have a1s:zag isBlank X (zag isBlank X a+1)≤X.length:=za5 (by omega)
   cases hr:zd3 X (zag isBlank X (zag isBlank X a+1)) with
   | error e=>rw [hr] at h;cases h
   | ok q =>
     obtain ⟨p,a2⟩:=q;rw [hr] at h;dsimp only at h;obtain ⟨o1,o2,o3,o4,o5,o6⟩:=zib hX a1s hr
     by_cases h3:zbz l p.n≠0
     · rw [if_pos h3] at h;cases h
     · rw [if_neg h3] at h
       refine zj6 hX f a2 (l++[p]) m o6 (fun q hq => ?_) h
       rcases List.mem_append.1 hq with hq|hq
       · exact hl q hq
       · rw [List.mem_singleton] at hq;subst hq;exact ⟨⟨o1,o2⟩,o3,o4⟩
theorem zmm {w:World} {b:Nat} {T:TypeId} {pre cs post:List Value} (h:Row w b T (pre++cs++post)):w.rangeAt b pre.length cs:=fun j v hv=>by
 have hj:j<cs.length:=(List.getElem?_eq_some_iff.1 hv).1;rw [h.cell,List.append_assoc,List.getElem?_append_right (by omega),Nat.add_sub_cancel_left,List.getElem?_append_left hj,hv]
theorem zye {w:World} {b:Nat} {T:TypeId} {x0 x1 x2 x3 x4 x5 x6 x7:Value} (h:Row w b T [x0,x1,x2,x3,x4,x5,x6,x7]):w.rangeAt b 1 [x1,x2,x3,x4,x5,x6]:=zmm (pre:=[x0]) (cs:=[x1,x2,x3,x4,x5,x6]) (post:=[x7]) h
theorem ze8 (X:List Int) (i j:Nat):(subL X i j).Sublist X:=by
 unfold subL
 first
  | exact (List.drop_sublist _ _).trans (List.take_sublist _ _)
  | exact (List.take_sublist _ _).trans (List.drop_sublist _ _)
theorem zyd {X:List Int} {a:Adr} (h:adrL X = .ok a):(∃ Y:List Int,Y.Sublist X∧uriL Y = .ok a.u)∧(∃ b,zeo (X.drop b) = .ok a.ps)∧X.length≤1024:=by
 unfold adrL at h
 split at h
 · cases h
 rename_i hl
 split at h
 · cases h
 rename_i d i _
 split at h
 · cases h
 rename_i u b hm
 split at h
 · cases h
 rename_i l hp
 injection h with h
 subst h;refine ⟨?_,⟨b,hp⟩,by omega⟩;unfold aimL at hm;dsimp only at hm
 split at hm
 · split at hm
   · cases hm
   · split at hm
     · cases hm
     · rename_i hu
       injection hm with hm
       injection hm with hm1 _
       subst hm1;exact ⟨_,ze8 _ _ _,hu⟩
 · split at hm
   · cases hm
   · split at hm
     · cases hm
     · rename_i hu
       injection hm with hm
       injection hm with hm1 _
       subst hm1;exact ⟨_,ze8 _ _ _,hu⟩
theorem zng {X:List Int} {a:Adr} (hX:By X) (h:adrL X = .ok a):(∀ (w:World) (A1 A2:Option Addr),Rds w w.heap.size A1 (pms a.u.ps)→Rds w w.heap.size A2 (pms a.u.hs)→UArg w a.u A1 A2)∧(∀ p∈a.ps,pmSz p)∧a.ps.length≤16:=by
 obtain ⟨⟨Y,hY,hu⟩,⟨b,hp⟩,hl⟩:=zyd h;have hXb:By (X.drop b):=hX.sub (List.drop_sublist _ _);refine ⟨fun w A1 A2 r1 r2=>zjr (hX.sub hY) hu r1 r2,fun p hp2 => ?_,?_⟩
 · have:=zj6 hXb _ 0 [] _ zNz (fun p hp=>by cases hp) hp p hp2
   have hd:(X.drop b).length≤1024:=by rw [List.length_drop];omega
   exact ⟨this.1.1,this.1.2,by omega,by omega⟩
 · have:=zmt hXb ((X.drop b).length+1) 0 [] zNz zNz (fun p hp=>by cases hp)
   rw [show zfw (X.drop b) ((X.drop b).length+1) 0 [] = .ok a.ps from hp] at this;exact this.1
def uriV:Except Int (List Int)→Value
 | .ok t => .tuple #[.string (strOfNums t),.int .u8 0]
 | .error k => .tuple #[.string ⟨#[]⟩,.int .u8 k]
theorem zkk (s:ByteArray) (w:World) (hs:s.size≤4000000) (hC:CLS w) (hG:GM w) (hP:PT w):Calls Tryz.prog 97 #[.string s] w fun e w'=>e = .returned (uriV (uriT (zaa s)))∧Below w.heap.size w w':=by
 have AD:=kd (zou s w hs hC hG hP);have TB:By (zca (zaa s)):=(zas s).sub (zcn _);have UU:=kd (fun a (h:adrL (zca (zaa s)) = .ok a)=>(zng TB h).1)
 have UE:=kd (show uriT (zaa s)=match adrL (zca (zaa s)) with
  | .error e => .error e.2
  | .ok a=>match zfv a.u with
    | none => .error 2
    | some t => .ok t from rfl)
 have HC:=kd (fun w' (hb:Below w.heap.size w w')=>hC.below hb);have HG:=kd (fun w' (hb:Below w.heap.size w w')=>hG.below hb);have HP:=kd (fun w' (hb:Below w.heap.size w w')=>hP.below hb);generalize uriT (zaa s)=R at *;generalize adrL (zca (zaa s))=Q at *;clear hs hC hG hP TB
 cases Q with
 | error q =>
   have E:=kd (show R = .error q.2 from UE.out)
   go_enter Tryz.func97,Tryz.ntmps97
   go_wp2_with fail;refine AD.out.mono ?_;rintro _ w1 ⟨rfl,hb1,hk⟩;have B1:=kd hb1
   have hk2:(q.2 != 0)=true:=by simpa using hk
   clear hb1 hk AD UE UU;unfold ZADR;obtain ⟨qp,qk⟩:=q;dsimp only at *;go_wp2_with (with_reducible refine zak rfl 168 (.tmp 4) (.tmp 9) rfl ZA8 ZA8 rfl rfl len8 zfa (zf3 _ _ _ _ _) ?_);intro w2 R2 S2;have B2:=kd (zao B1.out S2.out);go_wp2_with fail
   go_ret2
   exact ⟨by rw [E.out];rfl,B2.out⟩
 | ok a =>
   have UA:=kd (UU.out a rfl)
   have E:=kd (show R=match zfv a.u with
    | none => .error 2
    | some t => .ok t from UE.out)
   clear UU UE
   go_enter Tryz.func97,Tryz.ntmps97
   go_wp2_with fail;refine AD.out.mono ?_;rintro _ w1 ⟨A1,A2,A3,c1,c2,c3,rfl,hb1,r1,r2,r3⟩;have B1:=kd hb1;have X1:=kd r1;have X2:=kd r2;clear hb1 r1 r2 r3 AD
   go_wp2_with (with_reducible refine zak rfl 168 (.tmp 4) (.tmp 9) rfl ZA8 [.string (strOfNums a.ds),.string (strOfNums a.u.sc),.string (strOfNums a.u.us),.string (strOfNums a.u.ho),.int .i64 a.u.po,.slice A1 a.u.ps.length c1,.slice A2 a.u.hs.length c2,.slice A3 a.ps.length c3] rfl rfl len8 zfa (zf3 _ _ _ _ _) ?_)
   intro w2 R2 S2;have B2:=kd (zao B1.out S2.out);have UX:=kd (UA.out w2 A1 A2 ((X1.out.below S2.out).up S2.out.size) ((X2.out.below S2.out).up S2.out.size));have PR:=kd (zvv a.u A1 A2 c1 c2 w2 UX.out (HC.out _ B2.out) (HG.out _ B2.out) (HP.out _ B2.out));generalize w1.heap.size=g at *
   have G2:=kd (zye R2.out);clear UA X1 X2 S2 UX R2 B1
   go_wp2_with (with_reducible refine wpList_load_mid rfl 117 (.tmp 14) rfl g 1 rfl [.string (strOfNums a.u.sc),.string (strOfNums a.u.us),.string (strOfNums a.u.ho),.int .i64 a.u.po,.slice A1 a.u.ps.length c1,.slice A2 a.u.hs.length c2] _ G2.out Tryz.underlying117 rfl zcv ?_)
   refine PR.out.mono ?_;intro e w3 h
   cases hp:zfv a.u with
   | none =>
     rw [hp] at h E;obtain ⟨hb3,rfl⟩:=h;have B3:=kd (zao B2.out hb3);clear hb3;go_wp2_with fail
     go_ret2
     exact ⟨by rw [E.out];rfl,B3.out⟩
   | some t =>
     rw [hp] at h E;obtain ⟨hb3,rfl⟩:=h;have B3:=kd (zao B2.out hb3);clear hb3;go_wp2_with fail
     go_ret2
     exact ⟨by rw [E.out];rfl,B3.out⟩
theorem zw5 (s:ByteArray) (w:World) (hs:s.size≤4000000) (hC:CLS w) (hG:GM w) (hP:PT w):Calls Tryz.prog 98 #[.string s] w fun e w'=>e = .returned (.string (strOfNums (tagL (zaa s))))∧Below w.heap.size w w':=by
 have AD:=kd (zou s w hs hC hG hP);have TB:By (zca (zaa s)):=(zas s).sub (zcn _);have UU:=kd (fun a (h:adrL (zca (zaa s)) = .ok a)=>(zng TB h).2)
 have UE:=kd (show tagL (zaa s)=match adrL (zca (zaa s)) with
  | .ok a=>(zd4 a.ps TAGN).getD []
  | .error _=>[] from rfl)
 generalize tagL (zaa s)=R at *;generalize adrL (zca (zaa s))=Q at *;clear hs hC hG hP TB
 cases Q with
 | error q =>
   have E:=kd (show R=[] from UE.out)
   go_enter Tryz.func98,Tryz.ntmps98
   go_wp2_with fail;refine AD.out.mono ?_;rintro _ w1 ⟨rfl,hb1,hk⟩;have B1:=kd hb1
   have hk2:(q.2 != 0)=true:=by simpa using hk
   clear hb1 hk AD UE UU;unfold ZADR;obtain ⟨qp,qk⟩:=q;dsimp only at *;go_wp2_with (with_reducible refine zak rfl 168 (.tmp 3) (.tmp 10) rfl ZA8 ZA8 rfl rfl len8 zfa (zf3 _ _ _ _ _) ?_);intro w2 R2 S2;have B2:=kd (zao B1.out S2.out);go_wp2_with fail;go_ret;exact ⟨by rw [E.out];rfl,B2.out⟩
 | ok a =>
   have UA:=kd (UU.out a rfl);have E:=kd (show R=(zd4 a.ps TAGN).getD [] from UE.out);clear UU UE
   go_enter Tryz.func98,Tryz.ntmps98
   go_wp2_with fail;refine AD.out.mono ?_;rintro _ w1 ⟨A1,A2,A3,c1,c2,c3,rfl,hb1,r1,r2,r3⟩;have B1:=kd hb1;have X3:=kd r3;clear hb1 r1 r2 r3 AD
   go_wp2_with (with_reducible refine zak rfl 168 (.tmp 3) (.tmp 10) rfl ZA8 [.string (strOfNums a.ds),.string (strOfNums a.u.sc),.string (strOfNums a.u.us),.string (strOfNums a.u.ho),.int .i64 a.u.po,.slice A1 a.u.ps.length c1,.slice A2 a.u.hs.length c2,.slice A3 a.ps.length c3] rfl rfl len8 zfa (zf3 _ _ _ _ _) ?_)
   intro w2 R2 S2;have B2:=kd (zao B1.out S2.out);have l16:=UA.out.2;have GE:=kd (ze4 A3 _ c3 a.ps TAGN w2 ((X3.out.below S2.out).up S2.out.size) rfl (by omega) (fun p hp=>⟨(UA.out.1 p hp).1,(UA.out.1 p hp).2.2.1⟩) (by unfold By;decide) (by decide));generalize w1.heap.size=g at *
   have k7:w2.cell? ⟨g,7,none⟩=some (.slice A3 a.ps.length c3):=R2.out.cell 7;clear UA X3 S2 R2 B1 l16;generalize zd4 a.ps TAGN=G at *;go_wp2_with fail;refine GE.out.mono ?_;rintro _ w3 ⟨rfl,hb3⟩;have B3:=kd (zao B2.out hb3);clear hb3 GE k7
   cases G with
   | none =>
     unfold gotV;go_wp2_with fail;go_ret;exact ⟨by rw [E.out];rfl,B3.out⟩
   | some t =>
     unfold gotV;go_wp2_with fail;go_ret;exact ⟨by rw [E.out];rfl,B3.out⟩

theorem zx9:Asc7 ⟨#[32,9]⟩:=fun j b h=>by
 have hm:=List.mem_of_getElem? h;simp only [List.mem_cons,List.not_mem_nil,or_false] at hm
 rcases hm with rfl|rfl<;>decide
theorem znr (xs st:List Int):zaj xs 0 st≤xs.length:=za5 zNz
theorem zpa (s:ByteArray) (k:Nat) (w:World) (hk:k≤s.size) (hs:s.size≤4000000):Calls Tryz.prog 113 #[.string s,.int .i64 (k:Nat)] w fun e w'=>e = .returned (.int .i64 (zag isBlank (zaa s) k:Nat))∧Below w.heap.size w w':=by
 have h:=zin s (k:Nat) w (by omega) (by omega);rw [yat hk] at h;exact h
theorem zob (s:ByteArray) (w:World) (hs:s.size≤4000000):Calls Tryz.prog 95 #[.string s] w fun e w'=>e = .returned (.tuple #[.int .i64 (zgf (zaa s)).1,.string (strOfNums (zgf (zaa s)).2.1),.int .u8 (zgf (zaa s)).2.2])∧Below w.heap.size w w':=by
 obtain ⟨e0,he0⟩:∃ k,zaj (zaa s) 0 [32,9]=k:=⟨_,rfl⟩
 have hle:e0≤s.size:=by have:=znr (zaa s) [32,9];rw [zac,he0] at this;exact this
 obtain ⟨b0,hb0⟩:∃ k,zag isBlank (zaa s) e0=k:=⟨_,rfl⟩
 have hbl:b0≤s.size:=by rw [← hb0];exact Nat.le_trans (za5 (by rw [zac];exact hle)) (by rw [zac];exact Nat.le_refl _)
 have NE:=kd (show zgf (zaa s)=((zcd ((zaa s).take e0)).1,(zaa s).drop b0,(zcd ((zaa s).take e0)).2) by unfold zgf;dsimp only;rw [he0,hb0]);have IA:=kd (zf0 s ⟨#[32,9]⟩ w hs (by decide) (by decide) zx9);rw [show zaa ⟨#[32,9]⟩=[32,9] by rfl,he0] at IA
 have NM:=kd (fun w=>zf8 (s.extract 0 e0) w);rw [zco] at NM
 have NMF:=kd (fun (he:e0=s.size) w=>show Calls Tryz.prog 117 #[.string s] w fun e w'=>e = .returned (decV (zcd ((zaa s).take e0)))∧w=w' from by
  rw [List.take_of_length_le (by rw [zac];omega)]
  exact zf8 s w)
 have BL:=kd (fun w=>zpa s e0 w hle hs);rw [hb0] at BL;have SX:=kd (zgn s b0);generalize zgf (zaa s)=N at *;generalize zcd ((zaa s).take e0)=D at *;clear he0 hb0
 by_cases hc:s.size≤e0
 · have he:e0=s.size:=Nat.le_antisymm hle hc
   rw [if_pos hc] at IA;have HE:=kd he;clear hc
   go_enter Tryz.func95,Tryz.ntmps95
   go_wp2_with fail;refine IA.out.mono ?_;rintro _ w1 ⟨rfl,hb1⟩;have B1:=kd hb1;clear hb1 IA;clear he;have NM2:=kd (NMF.out HE.out)
   have BL2:=kd (fun w=>show Calls Tryz.prog 113 #[.string s,.int .i64 (s.size:Nat)] w fun e w'=>e = .returned (.int .i64 (b0:Nat))∧Below w.heap.size w w' from by have:=BL.out w;rw [HE.out] at this;exact this);clear NM NMF BL HE hle;go_wp2_with fail;refine (NM2.out _).mono ?_
   rintro _ w2 ⟨rfl,rfl⟩;unfold decV;go_upto_region 5 with (fail);refine zcf (by kernel_rfl) (by kernel_rfl) ?_
   repeat go_big_quiet_step (fail)
   go_big_quiet_step (exact zcj (BL2.out _))
   repeat go_big_quiet_step (fail)
   refine wpQuiet_nil ?_;rintro _ ⟨y,rfl⟩;have B3:=kd (zao B1.out y.h);go_wp2_with fail
   go_ret3
   exact ⟨by rw [NE.out,SX.out];try rfl,B3.out⟩
 · rw [if_neg hc] at IA
   have d0:decide ((e0:Int)<0)=false:=by simp<;>omega
   have d0':¬ (e0:Int)<0:=by omega
   go_enter Tryz.func95,Tryz.ntmps95
   go_wp2_with fail;refine IA.out.mono ?_;rintro _ w1 ⟨rfl,hb1⟩;have B1:=kd hb1;clear hb1 IA;go_wp2_with fail;refine (NM.out _).mono ?_;rintro _ w2 ⟨rfl,rfl⟩;unfold decV;go_upto_region 5 with (fail);refine zcf (by kernel_rfl) (by kernel_rfl) ?_
   repeat go_big_quiet_step (fail)
   go_big_quiet_step (exact zcj (BL.out _))
   repeat go_big_quiet_step (fail)
   refine wpQuiet_nil ?_;rintro _ ⟨y,rfl⟩;have B3:=kd (zao B1.out y.h);go_wp2_with fail
   go_ret3
   exact ⟨by rw [NE.out,SX.out];try rfl,B3.out⟩
def cseqV:Except Int (Int × List Int)→Value
 | .error k => .tuple #[.int .i64 0,.string ⟨#[]⟩,.int .u8 k]
 | .ok q => .tuple #[.int .i64 q.1,.string (strOfNums q.2),.int .u8 0]
theorem zsg (s:ByteArray) (w:World) (hs:s.size≤4000000):Calls Tryz.prog 55 #[.string s] w fun e w'=>e = .returned (cseqV (zlb (zaa s)))∧Below w.heap.size w w':=by
 have TR:=kd (zig s w hs);obtain ⟨X,hX⟩:∃ X,zca (zaa s)=X:=⟨_,rfl⟩
 have BX:By X:=by rw [← hX];exact (zas s).sub (zcn _)
 have XL:X.length≤4000000:=by rw [← hX];have h1:=(zcn (zaa s)).length_le;rw [zac] at h1;omega
 have NU:=kd (fun w=>zob (strOfNums X) w (by rw [zaq];exact XL));rw [zal BX] at NU;have RB:By (zgf X).2.1:=BX.sub (List.drop_sublist _ _);have RL:(zgf X).2.1.length≤4000000:=Nat.le_trans (List.drop_sublist _ _).length_le XL
 have CE:=kd (show zlb (zaa s)=if (zgf X).2.2≠0 then .error (zgf X).2.2 else if zc5 (zgf X).2.1=false then .error 5 else .ok ((zgf X).1,(zgf X).2.1) by rw [← hX];rfl);have TK:=kd (fun w=>zfz (strOfNums (zgf X).2.1) w (by rw [zaq];omega));rw [zal RB] at TK;rw [hX] at TR
 generalize zlb (zaa s)=R at *;generalize hN:zgf X=N at *;obtain ⟨n,t,k⟩:=N;dsimp only at *;clear hN hX BX XL RB RL hs
 go_enter Tryz.func55,Tryz.ntmps55
 go_wp2_with fail;refine TR.out.mono ?_;rintro _ w1 ⟨rfl,hb1⟩;have B1:=kd hb1;clear hb1 TR;go_wp2_with fail;refine (NU.out _).mono ?_;rintro _ w2 ⟨rfl,hb2⟩;have B2:=kd (zao B1.out hb2);clear hb2 NU B1
 by_cases hk:k=0
 · subst hk
   rw [if_neg (by decide)] at CE;go_wp2_with fail;refine (TK.out _).mono ?_;rintro _ w3 ⟨rfl,hb3⟩;have B3:=kd (zao B2.out hb3);clear hb3 TK B2
   cases ht:zc5 t with
   | false =>
     have E:=kd (CE.out.trans (if_pos ht));clear CE ht;go_wp2_with fail
     go_ret3
     exact ⟨by rw [E.out];rfl,B3.out⟩
   | true =>
     have E:=kd (CE.out.trans (if_neg (by rw [ht];decide)));clear CE ht;go_wp2_with fail
     go_ret3
     exact ⟨by rw [E.out];rfl,B3.out⟩
 · have E:=kd (CE.out.trans (if_pos hk))
   have hk2:(k != 0)=true:=by simpa using hk
   clear CE hk TK;go_wp2_with fail
   go_ret3
   exact ⟨by rw [E.out];rfl,B2.out⟩

structure GW (w:World):Prop where
 s:SC w
 k:KD w
 c:CLS w
 g:GM w
 p:PT w
theorem GW.below {w w':World} (h:GW w) (hb:Below w.heap.size w w'):GW w':=⟨h.s.below hb,h.k.below hb,h.c.below hb,h.g.below hb,h.p.below hb⟩
theorem SXL.form {w wr:World} {v:Value} {l:List (List Int)} (H:SXL w v l wr):∃ (A:Option Addr) (c:Nat),v = .slice A l.length c∧(A=none→l.length=0∧c=0)∧(∀ b o s,A=some ⟨b,o,s⟩→w.heap.size≤b∧o=0)∧Rds wr wr.heap.size A (strs l):=by
 have hl:=H.o.1
 rcases H.o.2 with ⟨rfl,h0⟩|⟨g,cap,cur,rfl,hb,hg,hc,_,hs,ht⟩
 · rw [Nat.mul_one] at hl
   have h1:l.length=0:=by
    have h2:(strs l).length=l.length:=za8 l
    first|omega|(rw [h0] at h2;simpa using h2.symm)|simpa using h0
   refine ⟨none,0,by rw [h1],fun _=>⟨h1,rfl⟩,(fun b o s e=>by cases e),fun hn => ?_⟩;rw [za8] at hn;omega
 · refine ⟨some ⟨g,0,none⟩,cap,rfl,(fun e=>by cases e),(fun b o s e=>by cases e;exact ⟨hb,rfl⟩),fun hn=>⟨g,0,rfl,lt_of_block hg,fun j u hu => ?_⟩⟩
   rw [Nat.zero_add,cell_of_row wr g j cur _ (0,0) hg];have hj:j<(strs l).length:=(List.getElem?_eq_some_iff.1 hu).1;rw [za8] at hj;rw [← ht,List.getElem?_take,if_pos (by omega),Array.getElem?_toList] at hu;exact hu
theorem ze9 {l:List (List Int)} {k:Nat} {t:List Int} (h:l[k]? = some t):(strs l)[k]? = some (.string (strOfNums t)):=by
 unfold strs;rw [List.getElem?_map,h];rfl
theorem zg2 (m:Msg) (A B:Option Addr) (c nb cb:Nat) (nm:ByteArray) (w:World) (H:MArg w m A) (hM:nm.size≤4000000) (G:GW w) :
  Calls Tryz.prog 58 #[mS m A B c nb cb,.string nm] w fun e w'=>e = .returned (.string (strOfNums (zby m.hs (zaa nm))))∧Below w.heap.size w w':=by
 have R1:=kd (Row.new w 31 (mC m A B c nb cb));have B1:=kd ((Below.refl w.heap.size w).alloc zNr (.cells (mC m A B c nb cb).toArray 31));have GE:=kd (fun w' (hb:Below w.heap.size w w')=>zeg m A B c nb cb nm w' (H.step hb) hM (G.below hb).s);have VB:=zhr m.hs (zaa nm)
 have VL:=zjc (l:=m.hs) (nm:=zaa nm) (fun h hh=>(H.ok.s h hh).2);have TG:=kd (fun w' (hb:Below w.heap.size w w')=>zw5 (strOfNums (val0 m.hs (zaa nm))) w' (by rw [zaq];exact VL) (G.below hb).c (G.below hb).g (G.below hb).p);rw [zal VB] at TG
 have TE:=kd (show zby m.hs (zaa nm)=tagL (val0 m.hs (zaa nm)) from rfl);unfold mS at GE ⊢;unfold mC at R1 B1;generalize zby m.hs (zaa nm)=T at *;generalize val0 m.hs (zaa nm)=V at *;generalize (valH m.hs (zaa nm)).isSome=vb at *;clear H hM G VB VL
 go_enter Tryz.func58,Tryz.ntmps58
 go_upto_region 1 with (fail);generalize w.alloc (.cells #[.string (strOfNums m.me),.string (strOfNums m.ur),.int .i64 m.co,.string (strOfNums m.re),.slice A m.hs.length c,.slice B nb cb] 31)=w1 at *
 go_wp2_with (with_reducible refine zab rfl 31 (.tmp 2) rfl R1.out rfl Tryz.underlying31 rfl zaw ?_);refine (GE.out _ B1.out).mono ?_;rintro _ w2 ⟨rfl,hb2⟩;have B2:=kd (zao B1.out hb2);clear hb2 GE R1 B1;go_wp2_with fail;refine (TG.out _ B2.out).mono ?_;rintro _ w3 ⟨rfl,hb3⟩
 have B3:=kd (zao B2.out hb3);clear hb3 TG B2;go_wp2_with fail;go_ret;exact ⟨by rw [TE.out];rfl,B3.out⟩
theorem yap {v:List Int} {k:Int} (h:zlb v = .error k):k≠0:=by
 unfold zlb at h;dsimp only at h
 split at h
 · rename_i h1
   injection h with h
   subst h;exact h1
 · split at h
   · injection h with h
     subst h
     decide
   · cases h
theorem adr_ne {X:List Int} {q:Nat × Int} (hX:By X) (h:adrL X = .error q):q.2≠0:=by
 unfold adrL at h
 split at h
 · injection h with h;subst h;decide
 rename_i hl;have hn:=zp0 hX (by omega)
 split at h
 · rename_i e he
   rw [he] at hn
   injection h with h
   subst h;exact hn.2
 rename_i d a he
 split at h
 · rename_i e hm
   injection h with h
   subst h;unfold aimL at hm;dsimp only at hm
   split at hm
   · split at hm
     · injection hm with hm;subst hm;exact (show (5:Int)≠0 by decide)
     · split at hm
       · rename_i i k hu
         have:=zrd (hX.sub (ze8 X (a+1) (zaj X (a+1) [62])));rw [hu] at this
         injection hm with hm
         subst hm;exact this.2
       · cases hm
   · split at hm
     · injection hm with hm;subst hm;exact (show (5:Int)≠0 by decide)
     · split at hm
       · rename_i i k hu
         have:=zrd (hX.sub (ze8 X a (zaj X a [59,32,9])));rw [hu] at this
         injection hm with hm
         subst hm;exact this.2
       · cases hm
 rename_i u b hm
 split at h
 · rename_i i k hp
   have:=zmt (hX.sub (List.drop_sublist b X)) ((X.drop b).length+1) 0 [] zNz zNz (fun p hp=>by cases hp);rw [show zfw (X.drop b) ((X.drop b).length+1) 0 [] = .error (i,k) from hp] at this
   injection h with h
   subst h;exact this.2
 · cases h
theorem yce {v:List Int} {k:Int} (hv:By v) (h:uriT v = .error k):k≠0:=by
 unfold uriT at h
 cases hq:adrL (zca v) with
 | error e =>
   rw [hq] at h
   injection h with h
   subst h;exact adr_ne (hv.sub (zcn v)) hq
 | ok a =>
   rw [hq] at h;dsimp only at h
   cases hp:zfv a.u with
   | none=>rw [hp] at h;injection h with h;subst h;decide
   | some t=>rw [hp] at h;cases h
theorem zu4 (v:List Int) (hv:By v):∃ k:Int,uriV (uriT v) = .tuple #[.string (strOfNums (uri2 v).1),.int .u8 k]∧(k == 0)=(uri2 v).2∧(k != 0) = !(uri2 v).2∧((uri2 v).2=true→uriT v = .ok (uri2 v).1)∧((uri2 v).2=false→∃ k,uriT v = .error k):=by
 have key:∀ k,uriT v = .error k→k≠0:=fun k h=>yce hv h;unfold uri2
 cases h:uriT v with
 | ok t=>exact ⟨0,rfl,rfl,rfl,fun _=>rfl,fun h=>by cases h⟩
 | error k =>
   have hk:=key k h;exact ⟨k,rfl,by simpa using hk,by simpa using hk,(fun h=>by cases h),fun _=>⟨k,rfl⟩⟩
theorem zxu (v:List Int):∃ k:Int,cseqV (zlb v) = .tuple #[.int .i64 (zlc v).1,.string (strOfNums (zlc v).2.1),.int .u8 k]∧(k == 0)=(zlc v).2.2:=by
 unfold zlc
 cases h:zlb v with
 | ok t=>exact ⟨0,rfl,rfl⟩
 | error k =>
   have hk:=yap h;exact ⟨k,rfl,by simpa using hk⟩
theorem yee {α:Type} {l:List α} {k:Nat} {p:α} (h:l[k]? = some p):l.drop k=p::l.drop (k+1):=by
 obtain ⟨hk,he⟩:=List.getElem?_eq_some_iff.1 h;rw [List.drop_eq_getElem_cons hk,he]
theorem znq (m:Msg) (A B:Option Addr) (c nb cb:Nat) (nm:ByteArray) (w:World) (H:MArg w m A) (hM:nm.size≤4000000) (G:GW w) :
  Calls Tryz.prog 194 #[mS m A B c nb cb,.string nm] w fun e w'=>e = .returned (.tuple #[.string (strOfNums (zdd m.hs (zaa nm)).1),.bool (zdd m.hs (zaa nm)).2])∧Below w.heap.size w w':=by
 have R1:=kd (Row.new w 31 (mC m A B c nb cb));have B1:=kd ((Below.refl w.heap.size w).alloc zNr (.cells (mC m A B c nb cb).toArray 31));have GE:=kd (fun w' (hb:Below w.heap.size w w')=>zeg m A B c nb cb nm w' (H.step hb) hM (G.below hb).s);have VB:=zhr m.hs (zaa nm)
 have VL:=zjc (l:=m.hs) (nm:=zaa nm) (fun h hh=>(H.ok.s h hh).2);have TG:=kd (fun w' (hb:Below w.heap.size w w')=>zkk (strOfNums (val0 m.hs (zaa nm))) w' (by rw [zaq];exact VL) (G.below hb).c (G.below hb).g (G.below hb).p);rw [zal VB] at TG
 obtain ⟨k,hk,hk0,_,_,_⟩:=zu4 (val0 m.hs (zaa nm)) VB;rw [hk] at TG;have TE:=kd (show zdd m.hs (zaa nm)=uri2 (val0 m.hs (zaa nm)) from rfl);have K0:=kd hk0;unfold mS at GE ⊢;unfold mC at R1 B1;rw [TE.out];generalize uri2 (val0 m.hs (zaa nm))=T at *
 generalize val0 m.hs (zaa nm)=V at *;generalize (valH m.hs (zaa nm)).isSome=vb at *;clear H hM G VB VL TE hk hk0
 go_enter Tryz.func194,Tryz.ntmps194
 go_upto_region 1 with (fail);generalize w.alloc (.cells #[.string (strOfNums m.me),.string (strOfNums m.ur),.int .i64 m.co,.string (strOfNums m.re),.slice A m.hs.length c,.slice B nb cb] 31)=w1 at *
 go_wp2_with (with_reducible refine zab rfl 31 (.tmp 2) rfl R1.out rfl Tryz.underlying31 rfl zaw ?_);refine (GE.out _ B1.out).mono ?_;rintro _ w2 ⟨rfl,hb2⟩;have B2:=kd (zao B1.out hb2);clear hb2 GE R1 B1;go_wp2_with fail;refine (TG.out _ B2.out).mono ?_;rintro _ w3 ⟨rfl,hb3⟩
 have B3:=kd (zao B2.out hb3);clear hb3 TG B2;go_wp2_with fail
 go_ret2
 exact ⟨by rw [← K0.out];rfl,B3.out⟩
theorem zej (m:Msg) (A B:Option Addr) (c nb cb:Nat) (w:World) (H:MArg w m A) (G:GW w) :
  Calls Tryz.prog 51 #[mS m A B c nb cb] w fun e w'=>e = .returned (.tuple #[.int .i64 (zan m.hs).1,.string (strOfNums (zan m.hs).2.1),.bool (zan m.hs).2.2])∧Below w.heap.size w w':=by
 have R1:=kd (Row.new w 31 (mC m A B c nb cb));have B1:=kd ((Below.refl w.heap.size w).alloc zNr (.cells (mC m A B c nb cb).toArray 31));have GE:=kd (fun w' (hb:Below w.heap.size w w')=>zeg m A B c nb cb ⟨#[67,83,101,113]⟩ w' (H.step hb) (by decide) (G.below hb).s)
 rw [show zaa ⟨#[67,83,101,113]⟩=zdl by rfl] at GE;have VB:=zhr m.hs zdl;have VL:=zjc (l:=m.hs) (nm:=zdl) (fun h hh=>(H.ok.s h hh).2);have TG:=kd (fun w' (hb:Below w.heap.size w w')=>zsg (strOfNums (val0 m.hs zdl)) w' (by rw [zaq];exact VL));rw [zal VB] at TG
 obtain ⟨k,hk,hk0⟩:=zxu (val0 m.hs zdl);rw [hk] at TG;have TE:=kd (show zan m.hs=zlc (val0 m.hs zdl) from rfl);have K0:=kd hk0;unfold mS at GE ⊢;unfold mC at R1 B1;rw [TE.out];generalize zlc (val0 m.hs zdl)=T at *;generalize val0 m.hs zdl=V at *
 generalize (valH m.hs zdl).isSome=vb at *;clear H G VB VL TE hk hk0
 go_enter Tryz.func51,Tryz.ntmps51
 go_upto_region 1 with (fail);generalize w.alloc (.cells #[.string (strOfNums m.me),.string (strOfNums m.ur),.int .i64 m.co,.string (strOfNums m.re),.slice A m.hs.length c,.slice B nb cb] 31)=w1 at *
 go_wp2_with (with_reducible refine zab rfl 31 (.tmp 1) rfl R1.out rfl Tryz.underlying31 rfl zaw ?_);refine (GE.out _ B1.out).mono ?_;rintro _ w2 ⟨rfl,hb2⟩;have B2:=kd (zao B1.out hb2);clear hb2 GE R1 B1;go_wp2_with fail;refine (TG.out _ B2.out).mono ?_;rintro _ w3 ⟨rfl,hb3⟩
 have B3:=kd (zao B2.out hb3);clear hb3 TG B2;go_wp2_with fail
 go_ret3
 exact ⟨by rw [← K0.out];rfl,B3.out⟩
theorem zfh (m:Msg) (A B:Option Addr) (c nb cb:Nat) (w:World) (H:MArg w m A) (G:GW w) :
  Calls Tryz.prog 57 #[mS m A B c nb cb] w fun e w'=>e = .returned (.tuple #[.string (strOfNums (zba m.hs).1),.bool (zba m.hs).2])∧Below w.heap.size w w':=by
 have R1:=kd (Row.new w 31 (mC m A B c nb cb));have B1:=kd ((Below.refl w.heap.size w).alloc zNr (.cells (mC m A B c nb cb).toArray 31))
 have GE:=kd (fun w' (hb:Below w.heap.size w w')=>znf m A B c nb cb ⟨#[67,111,110,116,97,99,116]⟩ w' (H.step hb) (by decide) (G.below hb).s (G.below hb).k);rw [show zaa ⟨#[67,111,110,116,97,99,116]⟩=zur by rfl] at GE
 have AB:=zsl (l:=m.hs) (nm:=zur) (fun h hh=>(H.ok.s h hh).2)
 have UG:=kd (fun (v:List Int) (hv:By v) (hl:v.length≤4000000) w' (hb:Below w.heap.size w w')=>show Calls Tryz.prog 97 #[.string (strOfNums v)] w' fun e w''=>e = .returned (uriV (uriT v))∧Below w'.heap.size w' w'' from by
  have:=zkk (strOfNums v) w' (by rw [zaq];exact hl) (G.below hb).c (G.below hb).g (G.below hb).p;rw [zal hv] at this
  exact this)
 have CE:=kd (show zba m.hs=match allH m.hs zur with
  | []=>([],false)
  | v::_=>uri2 v from rfl)
 unfold mS at GE ⊢;unfold mC at R1 B1;generalize zba m.hs=T at *;generalize allH m.hs zur=L at *;clear H G
 go_enter Tryz.func57,Tryz.ntmps57
 go_upto_region 1 with (fail);generalize w.alloc (.cells #[.string (strOfNums m.me),.string (strOfNums m.ur),.int .i64 m.co,.string (strOfNums m.re),.slice A m.hs.length c,.slice B nb cb] 31)=w1 at *
 go_wp2_with (with_reducible refine zab rfl 31 (.tmp 1) rfl R1.out rfl Tryz.underlying31 rfl zaw ?_);refine (GE.out _ B1.out).mono ?_;rintro _ w2 ⟨v,rfl,hv⟩;have B2:=kd (zao B1.out hv.bw);obtain ⟨A2,c2,rfl,_,hA2,hR2⟩:=hv.form;clear hv GE R1 B1
 cases L with
 | nil =>
   have E:=kd (show T=([],false) from CE.out);clear CE AB UG hR2 hA2;go_wp2_with fail
   go_ret2
   exact ⟨by rw [E.out];rfl,B2.out⟩
 | cons v r =>
   have E:=kd (show T=uri2 v from CE.out);obtain ⟨b,o,rfl,hlt,hc⟩:=hR2 (by rw [za8,List.length_cons];omega);obtain ⟨_,rfl⟩:=hA2 b o none rfl
   have k0:w2.cell? ⟨b,0,none⟩=some (.string (strOfNums v)):=by have:=hc 0 _ (ze9 (l:=v::r) rfl);simpa using this
   obtain ⟨vb,vl⟩:=AB v (by simp);have UV:=kd (UG.out v vb vl);obtain ⟨k,hk,hk0,_,_,_⟩:=zu4 v vb;rw [hk] at UV;have K0:=kd hk0
   have q1:¬ (((v::r).length:Nat):Int)=0:=by rw [List.length_cons];omega
   have q0:((((v::r).length:Nat):Int) == 0)=false:=by rw [beq_eq_false_iff_ne];exact q1
   have q2:0<(v::r).length:=by simp
   generalize (v::r).length=n at *;generalize uri2 v=T2 at *;clear CE AB UG hc hA2 hk hk0 vb vl hlt;go_wp2_with fail;refine (UV.out _ B2.out).mono ?_;rintro _ w3 ⟨rfl,hb3⟩;have B3:=kd (zao B2.out hb3);clear hb3 UV k0;go_wp2_with fail
   go_ret2
   exact ⟨by rw [E.out,← K0.out];rfl,B3.out⟩
def RtP (w:World) (R:Option (List (List Int))) (e:Ending) (w':World):Prop:=match R with
 | none=>e = .returned (.tuple #[.slice none 0 0,.bool false])∧Below w.heap.size w w'
 | some l => ∃ v,e = .returned (.tuple #[v,.bool true])∧SXL w v l w'
theorem RtP.bad {w w':World} {R:Option (List (List Int))} (h:R=none) (hb:Below w.heap.size w w'):RtP w R (.returned (.tuple #[.slice none 0 0,.bool false])) w':=by subst h;exact ⟨rfl,hb⟩
theorem RtP.good {w w':World} {R:Option (List (List Int))} {l:List (List Int)} {v:Value} (h:R=some l) (hb:SXL w v l w'):RtP w R (.returned (.tuple #[v,.bool true])) w':=by subst h;exact ⟨v,rfl,hb⟩
theorem ziv (m:Msg) (A B:Option Addr) (c nb cb:Nat) (w:World) (H:MArg w m A) (G:GW w) :
  Calls Tryz.prog 59 #[mS m A B c nb cb] w (RtP w (zbn m.hs)):=by
 have R1:=kd (Row.new w 31 (mC m A B c nb cb));have B1:=kd ((Below.refl w.heap.size w).alloc zNr (.cells (mC m A B c nb cb).toArray 31))
 have GE:=kd (fun w' (hb:Below w.heap.size w w')=>znf m A B c nb cb ⟨#[82,101,99,111,114,100,45,82,111,117,116,101]⟩ w' (H.step hb) (by decide) (G.below hb).s (G.below hb).k);rw [show zaa ⟨#[82,101,99,111,114,100,45,82,111,117,116,101]⟩=zd1 by rfl] at GE
 have AB:=kd (zsl (l:=m.hs) (nm:=zd1) (fun h hh=>(H.ok.s h hh).2));have LT:=H.ok.tot zd1
 have UG:=kd (fun (v:List Int) (hv:By v) (hl:v.length≤4000000) w' (hb:Below w.heap.size w w')=>show Calls Tryz.prog 97 #[.string (strOfNums v)] w' fun e w''=>e = .returned (uriV (uriT v))∧Below w'.heap.size w' w'' from by
  have:=zkk (strOfNums v) w' (by rw [zaq];exact hl) (G.below hb).c (G.below hb).g (G.below hb).p;rw [zal hv] at this
  exact this)
 have BAD:=kd (fun w' h hb=>RtP.bad (w:=w) (w':=w') (R:=zbn m.hs) h hb);have GOOD:=kd (fun w' l v h hb=>RtP.good (w:=w) (w':=w') (R:=zbn m.hs) (l:=l) (v:=v) h hb);have RS:=kd (show zem (allH m.hs zd1) []=zbn m.hs from rfl);unfold mS at GE ⊢;unfold mC at R1 B1
 generalize RtP w (zbn m.hs)=PP at *;generalize zbn m.hs=R at *;generalize allH m.hs zd1=L at *;clear H G
 go_enter Tryz.func59,Tryz.ntmps59
 go_upto_region 2 with (fail);generalize w.alloc (.cells #[.string (strOfNums m.me),.string (strOfNums m.ur),.int .i64 m.co,.string (strOfNums m.re),.slice A m.hs.length c,.slice B nb cb] 31)=w1 at *
 go_wp2_with (with_reducible refine zab rfl 31 (.tmp 1) rfl R1.out rfl Tryz.underlying31 rfl zaw ?_);refine (GE.out _ B1.out).mono ?_;rintro _ w2 ⟨v,rfl,hv⟩;have B2:=kd (zao B1.out hv.bw);obtain ⟨A2,c2,rfl,_,hA2,hR2⟩:=hv.form;have RD:=kd hR2;have FA:=kd hA2
 obtain ⟨n,hn⟩:∃ n,L.length=n:=⟨_,rfl⟩;have HN:=kd hn;rw [hn] at LT ⊢;clear hv GE R1 B1 hR2 hA2 hn;go_wp2_with fail
 go_loopw [4,12] (fun v4 v12 wr => ∃ (k:Nat) (x:Value) (acc:List (List Int)),x=v4∧k≤n∧acc.length=k∧v12 = .int .i64 k∧Hid (SXL w2 x acc wr)∧Hid (zem (L.drop k) acc=R)) (fun _ v _=>n - (intOf v).toNat)
 case atStart=>exact ⟨0,_,[],rfl,Nat.zero_le _,rfl,rfl,kd (VX.nil _ _ w2),kd (by rw [List.drop_zero];exact RS.out)⟩
 case round =>
  obtain ⟨k,x,acc,rfl,hk,hak,rfl,HX,RX⟩:=hrel
  by_cases hlt:k<n
  · obtain ⟨p,hp⟩:∃ p,L[k]? = some p:=⟨_,List.getElem?_eq_getElem (by rw [HN.out];exact hlt)⟩
    have hd:decide (k<n)=true:=by simp [hlt]
    have hd2:decide ((k:Int)<(n:Int))=true:=by simp;omega
    obtain ⟨ab,ao,rfl,hab,hac⟩:=RD.out (by rw [za8,HN.out];omega);obtain ⟨_,rfl⟩:=FA.out ab ao none rfl
    have k0:wr.cell? ⟨ab,k,none⟩=some (.string (strOfNums p)):=by
     have h1:=hac k _ (ze9 hp);rw [Nat.zero_add] at h1;exact (HX.out.bw.cell (p:=⟨ab,_,none⟩) hab).trans h1
    obtain ⟨vb,vl⟩:=AB.out p (List.mem_of_getElem? hp);have UV:=kd (UG.out p vb vl);obtain ⟨kk,hk1,hk2,hk3,hk4,hk5⟩:=zu4 p vb;rw [hk1] at UV;have RX2:=kd (show zem (p::L.drop (k+1)) acc=R by rw [← yee hp];exact RX.out);have BX:=kd (zao B2.out HX.out.bw);have X0:=kd HX.out
    clear hac hab hp vb vl RX hk2
    cases hu:(uri2 p).2 with
    | false =>
      obtain ⟨k9,hk9⟩:=hk5 hu;have E:=kd (show R=none by rw [← RX2.out,zem,hk9])
      have q3:(kk != 0)=true:=by rw [hk3,hu];rfl
      clear hk1 hk3 hk4 hk5 hu RX2 hk9;go_wp2_with fail;refine (UV.out _ BX.out).mono ?_;rintro _ w3 ⟨rfl,hb3⟩;have B3:=kd (zao BX.out hb3);clear hb3 UV k0;go_wp2_with fail
      first|exact BAD.out _ E.out B3.out|(go_ret2;exact BAD.out _ E.out B3.out)
    | true =>
      have h9:=hk4 hu;have E:=kd (show zem (L.drop (k+1)) (acc++[(uri2 p).1])=R by rw [← RX2.out];conv=>rhs;rw [zem,h9])
      have q3:(kk != 0)=false:=by rw [hk3,hu];rfl
      clear hk1 hk3 hk4 hk5 hu RX2 h9;generalize (uri2 p).1=t at *;go_wp2_with fail;refine (UV.out _ BX.out).mono ?_;rintro _ w3 ⟨rfl,hb3⟩;have X3:=kd (X0.out.step hb3);clear hb3 UV k0;go_wp2_with (with_reducible refine zc8 rfl (.tmp 23) (.tmp 25) rfl _ _ rfl X3.out t rfl (by omega) ?_)
      intro v' w6 X6;go_wp2_with fail;go_roundw
      case rel=>exact ⟨k+1,_,_,rfl,by omega,by simp [hak],by go_num,X6,E⟩
      case measure=>simp [intOf];omega
  · obtain rfl:k=n:=by omega
    have E:=kd (show R=some acc by rw [← RX.out,List.drop_of_length_le (by rw [HN.out];exact Nat.le_refl _)];rfl);have X0:=kd (HX.out.base B2.out)
    have hd2:decide ((k:Int)<(k:Int))=false:=by simp
    go_wp2_with fail
    first|exact GOOD.out _ _ _ E.out X0.out|(go_ret2;exact GOOD.out _ _ _ E.out X0.out)
end Go.Proofs.YtfnmkedncfdceaaGreatDoor
