/- Contract: dialog.way. -/
import Derived.Test.YtfnmkedncfdceaaGreatDoorKd
import Derived.Test.YtfnmkedncfdceaaGreatDoorKa
set_option linter.unusedVariables false
set_option linter.unusedSimpArgs false
namespace Go.Proofs.YtfnmkedncfdceaaGreatDoor
open Go.RowKit

def WayP (w:World) (R:List Int × List (List Int)) (e:Ending) (w':World):Prop := ∃ A c,e = .returned (.tuple #[.string (strOfNums R.1),.slice A R.2.length c])∧Below w.heap.size w w'∧SF w A c R.2 w'
theorem WayP.of {w w0 w':World} {R:List Int × List (List Int)} {s:List Int} {v:Value} {l:List (List Int)} (h:R=(s,l)) (hb:Below w.heap.size w w0) (X:SXL w0 v l w'):WayP w R (.returned (.tuple #[.string (strOfNums s),v])) w':=by
 subst h;obtain ⟨A,c,rfl,sf⟩:=X.sf;exact ⟨A,c,rfl,zao hb X.bw,sf.base hb⟩
theorem WayP.nil {w w':World} {R:List Int × List (List Int)} {s:List Int} (h:R=(s,[])) (hb:Below w.heap.size w w'):WayP w R (.returned (.tuple #[.string (strOfNums s),.slice none 0 0])) w':=by
 subst h;exact ⟨none,0,rfl,hb,⟨fun _=>⟨rfl,rfl⟩,(fun b o s e=>by cases e),Nat.le_refl _,fun hn=>absurd hn (by simp [strs])⟩⟩
theorem yca {d:Dlg} (h:d.rs=[]):wayL d=(d.tg,[]):=by unfold wayL;rw [h]
theorem zux {d:Dlg} {r:List Int} {rest:List (List Int)} (h:d.rs=r::rest) (hl:zka r=true):wayL d=(d.tg,r::rest):=by unfold wayL;rw [h];exact if_pos hl
theorem zsq {d:Dlg} {r:List Int} {rest:List (List Int)} (h:d.rs=r::rest) (hl:zka r=false):wayL d=(r,rest++[d.tg]):=by unfold wayL;rw [h];exact if_neg (by rw [hl];decide)
theorem zzg {r:List Int} {u:Uri} (h:uriL r = .ok u):zka r=(zd4 u.ps LRN).isSome:=by unfold zka;rw [h]
theorem zwh {r:List Int} {q:Nat × Int} (h:uriL r = .error q):zka r=false:=by unfold zka;rw [h]
theorem zrf {w W:World} {v:Value} {l:List (List Int)} {t:List Int} (h:VX 9 1 w v (l.length+1) (strs l++[.string (strOfNums t)]) W):SXL w v (l++[t]) W:=by
 unfold SXL;rw [show (l++[t]).length=l.length+1 by simp,show strs (l++[t])=strs l++[.string (strOfNums t)] by simp [strs]];exact h
set_option maxRecDepth 100000 in
set_option maxHeartbeats 4000000 in
theorem ycb (d:Dlg) (A:Option Addr) (c:Nat) (w:World) (H:DArg w d A c) (G:GW w) :
  Calls Tryz.prog 38 #[.agg (dgC d A c).toArray] w (WayP w (wayL d)):=by
 have R1:=kd (Row.new w 25 [.int .u8 d.st,.bool d.cl,.string (strOfNums d.ci),.string (strOfNums d.lt),.string (strOfNums d.rt),.string (strOfNums d.lu),.string (strOfNums d.ru),.string (strOfNums d.tg),.slice A d.rs.length c,.int .i64 d.ls,.int .i64 d.rq,.int .i64 d.iq])
 have K0:=kd ((Below.refl w.heap.size w).alloc zNr (.cells ([.int .u8 d.st,.bool d.cl,.string (strOfNums d.ci),.string (strOfNums d.lt),.string (strOfNums d.rt),.string (strOfNums d.lu),.string (strOfNums d.ru),.string (strOfNums d.tg),.slice A d.rs.length c,.int .i64 d.ls,.int .i64 d.rq,.int .i64 d.iq]:List Value).toArray 25))
 cases hrs:d.rs with
 | nil =>
   have N:=kd (yca hrs);have FIN:=kd (fun w' hb=>WayP.nil (w:=w) (w':=w') N.out hb);rw [hrs] at R1 K0;unfold dgC;rw [hrs];generalize WayP w (wayL d)=PP at *;clear H G hrs N
   go_enter Tryz.func38,Tryz.ntmps38
   go_upto_region 1 with (fail)
   generalize w.alloc (.cells #[.int .u8 d.st,.bool d.cl,.string (strOfNums d.ci),.string (strOfNums d.lt),.string (strOfNums d.rt),.string (strOfNums d.lu),.string (strOfNums d.ru),.string (strOfNums d.tg),.slice A ([]:List (List Int)).length c,.int .i64 d.ls,.int .i64 d.rq,.int .i64 d.iq] 25)=w1 at *
   obtain ⟨g,hg⟩:∃ b,w.heap.size=b:=⟨_,rfl⟩;rw [hg] at R1 ⊢;clear hg;have f8:w1.cell? ⟨g,8,none⟩=some (.slice A 0 c):=R1.out.cell 8;have f7:w1.cell? ⟨g,7,none⟩=some (.string (strOfNums d.tg)):=R1.out.cell 7;go_wp2_with fail
   first|exact FIN.out _ K0.out|(go_ret;exact FIN.out _ K0.out)
 | cons r rest =>
 obtain ⟨n,hn⟩:∃ n,d.rs.length=n:=⟨_,rfl⟩;have NPOS:=kd (show 0<n by rw [← hn,hrs];simp);have NREST:=kd (show rest.length=n - 1 by rw [← hn,hrs];simp);have NALL:=kd (show (r::rest).length=n by rw [← hn,hrs]);have NC:=kd (show n≤c by rw [← hn];exact H.cap)
 have N2:=kd (show n≤2000000 by rw [← hn];exact H.ok.n);have RR:=H.r;rw [hrs] at RR;obtain ⟨b,k,rfl,hbk,hcell⟩:=RR (by simp [strs])
 have CL:=kd (fun W (hb:Below w.heap.size w W)=>zil (some ⟨b,k,none⟩) n c (r::rest) W NALL.out ((RR.below hb).up hb.size) (fun e=>by cases e) N2.out)
 have CT:=kd (fun W (hb:Below w.heap.size w W)=>zil (if c=1 then some ⟨b,k,none⟩ else some ⟨b,k+1,none⟩) (n - 1) (c - 1) rest W NREST.out (((zy5 RR (by rw [NALL.out];exact NC.out)).below hb).up hb.size) (fun e=>by split at e<;>cases e) (by have:=N2.out;omega))
 have HD0:=kd (fun W (hb:Below w.heap.size w W)=>show W.cell? ⟨b,k,none⟩=some (.string (strOfNums r)) from (hb.cell (p:=⟨b,k,none⟩) hbk).trans (by have:=hcell 0 (.string (strOfNums r)) (by simp [strs]);simpa using this));have RX:Tx r:=H.ok.rs r (by rw [hrs];simp)
 have RS:=zaq r;have W1:=kd (fun hl=>zux (d:=d) hrs hl);have W2:=kd (fun hl=>zsq (d:=d) hrs hl);have LO:=kd (fun u h=>zzg (r:=r) (u:=u) h);have LB:=kd (fun q h=>zwh (r:=r) (q:=q) h)
 have PG:=kd (fun u (hu:uriL (zaa (strOfNums r)) = .ok u) W (hb:Below w.heap.size w W)=>ztc (strOfNums r) hu W (G.below hb).c (G.below hb).g (G.below hb).p)
 have PW:=kd (fun q z (hu:uriL (zaa (strOfNums r)) = .error (q,z)) W (hb:Below w.heap.size w W)=>show Calls Tryz.prog 78 #[.string (strOfNums r)] W fun e w'=>e = .returned (.tuple #[.agg #[.string ⟨#[]⟩,.string ⟨#[]⟩,.string ⟨#[]⟩,.int .i64 0,.slice none 0 0,.slice none 0 0],.int .i64 (q:Nat),.int .u8 z])∧Below W.heap.size W w'∧z≠0 from (zj5 (strOfNums r) W (G.below hb).c (G.below hb).g (G.below hb).p).mono fun e w' hr=>by rw [hu] at hr;exact hr)
 rw [zal RX.1] at PG PW;have FIN:=kd (fun w0 w' s v l (h:wayL d=(s,l)) hb X=>WayP.of (w:=w) (w0:=w0) (w':=w') (s:=s) (v:=v) (l:=l) h hb X);unfold dgC;generalize WayP w (wayL d)=PP at *;generalize wayL d=R at *;rw [hn] at R1 K0 ⊢;generalize d.tg=tg at *
 clear RR hcell hn hrs H G RX hbk
 go_enter Tryz.func38,Tryz.ntmps38
 go_upto_region 1 with (fail)
 generalize w.alloc (.cells #[.int .u8 d.st,.bool d.cl,.string (strOfNums d.ci),.string (strOfNums d.lt),.string (strOfNums d.rt),.string (strOfNums d.lu),.string (strOfNums d.ru),.string (strOfNums tg),.slice (some ⟨b,k,none⟩) n c,.int .i64 d.ls,.int .i64 d.rq,.int .i64 d.iq] 25)=w1 at *
 obtain ⟨g,hg⟩:∃ b,w.heap.size=b:=⟨_,rfl⟩;have G0:=kd (show g=w.heap.size from hg.symm)
 have RG:=kd (show Row w1 g 25 [.int .u8 d.st,.bool d.cl,.string (strOfNums d.ci),.string (strOfNums d.lt),.string (strOfNums d.rt),.string (strOfNums d.lu),.string (strOfNums d.ru),.string (strOfNums tg),.slice (some ⟨b,k,none⟩) n c,.int .i64 d.ls,.int .i64 d.rq,.int .i64 d.iq] by rw [← hg];exact R1.out)
 rw [hg];clear hg R1;have k8:w1.cell? ⟨g,8,none⟩=some (.slice (some ⟨b,k,none⟩) n c):=RG.out.cell 8;have k0:w1.cell? ⟨b,k,none⟩=some (.string (strOfNums r)):=HD0.out w1 K0.out
 have q1:¬ ((n:Nat):Int)=0:=by have:=NPOS.out;omega
 have q0:(((n:Nat):Int) == 0)=false:=by rw [beq_eq_false_iff_ne];exact q1
 have q2:0<n:=NPOS.out
 cases hu:uriL r with
 | error q =>
   obtain ⟨q,z⟩:=q;have PX:=kd (PW.out q z hu);have LS:=kd (W2.out (LB.out _ hu));go_wp2_with fail;refine (PX.out _ K0.out).mono ?_;rintro _ w2 ⟨rfl,hb2,hz⟩;have B2:=kd (zao K0.out hb2);replace RG:=kd (RG.out.below hb2)
   have z0:(z == 0)=false:=by rw [beq_eq_false_iff_ne];exact hz
   clear hb2 hz PX k8 k0 K0 hu W2;go_upto_region 4 with (with_reducible refine zak rfl 117 (.tmp 4) (.tmp 21) rfl ZU6 ZU6 rfl rfl lenU zcv (ze5 _ _ _ _) ?_;intro w3 R3 S3);have B3:=kd (zao B2.out S3.out);replace RG:=kd (RG.out.below S3.out);clear R3 S3 B2
   have CT9:=kd (fun W (hb:Below w3.heap.size w3 W)=>CT.out W (zao B3.out hb));have HD9:=kd (fun W (hb:Below w3.heap.size w3 W)=>HD0.out W (zao B3.out hb));clear CT HD0 CL PG PW LO LB W1;go_upto_region 8 with (fail)
   refine zlq (by kernel_rfl) (by kernel_rfl) (fun (i:Nat) (W:World) (v:Value)=>match i with
    | 0=>v = .pointer (some ⟨g,8,none⟩)
    | 1=>v = .slice (some ⟨b,k,none⟩) n c
    | 2=>v = .pointer (some ⟨b,k,none⟩)
    | 3=>v = .string (strOfNums r)
    | 4=>v = .pointer (some ⟨g,8,none⟩)
    | 5=>v = .slice (some ⟨b,k,none⟩) n c
    | 6=>v = .slice (if c=1 then some ⟨b,k,none⟩ else some ⟨b,k+1,none⟩) (n - 1) (c - 1)
    | 7=>SXL w3 v rest W
    | 8=>v = .pointer (some ⟨g,7,none⟩)
    | 9=>v = .string (strOfNums tg)
    | 10 => ∃ x,v = .slice (some ⟨x,0,none⟩) 1 1∧Row W x 9 [.string (strOfNums tg)]
    | 11=>SXL w3 v (rest++[tg]) W
    | 12=>v = .string (strOfNums r)
    | 13=>SXL w3 v (rest++[tg]) W
    | _=>True) 11 [4,5,6,7,8,9,10] [13] (by kernel_rfl) ?hAm ?hAk _ rfl rfl (by kernel_rfl) (by kernel_rfl) ?hstep ?hlast ?hend
   case hAm =>
    intro i v W W' hb h
    rcases i with _|_|_|_|_|_|_|_|_|_|_|_|_|_|i
    all_goals first
     | exact h
     | exact h.step hb
     | (obtain ⟨x,h1,h2⟩:=h;exact ⟨x,h1,h2.below hb⟩)
   case hAk =>
    intro i v W W' ha hl hn hb h
    rcases i with _|_|_|_|_|_|_|_|_|_|_|_|_|_|i
    all_goals first
     | exact absurd ha (by decide)
     | exact absurd hl (by decide)
     | exact absurd rfl hn
     | exact h
   case hstep =>
    intro i o hne ho a' W hB hF hD
    match i,ho,hne with
    | 0,ho,hne =>
      obtain rfl:=zSi ho;exact (zaf ho rfl (zdm 25 (.tmp 1) 8 rfl g 8 ((zap hF (by kernel_rfl)).trans rfl) (fun w=>by kernel_rfl) ⟨_,rfl,Below.refl _ _,fun _ _=>rfl⟩))
    | 1,ho,hne =>
      obtain rfl:=zSi ho;exact (zaf ho rfl (zbu 23 (.tmp 38) rfl g 8 (.slice (some ⟨b,k,none⟩) n c) ((zai hD 0 (by kernel_rfl) rfl rfl) (.inr rfl)) ((RG.out.below hB).cell 8) _ Tryz.underlying23 rfl ⟨_,rfl,Below.refl _ _,fun _ _=>rfl⟩))
    | 2,ho,hne =>
      obtain rfl:=zSi ho;exact (zaf ho rfl (ybb (.tmp 39) (.const (.int .i64 0)) rfl ((zai hD 1 (by kernel_rfl) rfl rfl) (.inr rfl)) rfl NPOS.out ⟨_,rfl,Below.refl _ _,fun _ _=>rfl⟩))
    | 3,ho,hne =>
      obtain rfl:=zSi ho;exact (zaf ho rfl (zbu 9 (.tmp 40) rfl b k (.string (strOfNums r)) ((zai hD 2 (by kernel_rfl) rfl rfl) (.inr rfl)) (HD9.out W hB) _ Tryz.underlying9 rfl ⟨_,rfl,Below.refl _ _,fun _ _=>rfl⟩))
    | 4,ho,hne =>
      obtain rfl:=zSi ho;exact (zaf ho rfl (zdm 25 (.tmp 1) 8 rfl g 8 ((zap hF (by kernel_rfl)).trans rfl) (fun w=>by kernel_rfl) ⟨_,rfl,Below.refl _ _,fun _ _=>rfl⟩))
    | 5,ho,hne =>
      obtain rfl:=zSi ho;exact (zaf ho rfl (zbu 23 (.tmp 42) rfl g 8 (.slice (some ⟨b,k,none⟩) n c) ((zai hD 4 (by kernel_rfl) rfl rfl) (.inl rfl)) ((RG.out.below hB).cell 8) _ Tryz.underlying23 rfl ⟨_,rfl,Below.refl _ _,fun _ _=>rfl⟩))
    | 6,ho,hne =>
      obtain rfl:=zSi ho;exact (zaf ho rfl (yba (.tmp 43) rfl ((zai hD 5 (by kernel_rfl) rfl rfl) (.inl rfl)) NPOS.out ⟨_,rfl,Below.refl _ _,fun _ _=>rfl⟩))
    | 7,ho,hne =>
      obtain rfl:=zSi ho;have hx0:a'.eval (.tmp 44) = .slice (if c=1 then some ⟨b,k,none⟩ else some ⟨b,k+1,none⟩) (n - 1) (c - 1):=((zai hD 6 (by kernel_rfl) rfl rfl) (.inl rfl))
      exact (zaf ho rfl (zc3 77 _ _ rfl #[.slice (if c=1 then some ⟨b,k,none⟩ else some ⟨b,k+1,none⟩) (n - 1) (c - 1)] (by simp only [List.map_toArray,List.map_cons,List.map_nil,hx0]) (enters_of Tryz.func77 (by kernel_rfl) rfl) ((CT9.out W hB).mono fun e W2 ⟨v',he,X⟩=>⟨_,he,_,rfl,X.bw,fun _ _=>X.base hB⟩)))
    | 8,ho,hne =>
      obtain rfl:=zSi ho;exact (zaf ho rfl (zdm 25 (.tmp 1) 7 rfl g 7 ((zap hF (by kernel_rfl)).trans rfl) (fun w=>by kernel_rfl) ⟨_,rfl,Below.refl _ _,fun _ _=>rfl⟩))
    | 9,ho,hne =>
      obtain rfl:=zSi ho;exact (zaf ho rfl (zbu 9 (.tmp 46) rfl g 7 (.string (strOfNums tg)) ((zai hD 8 (by kernel_rfl) rfl rfl) (.inl rfl)) ((RG.out.below hB).cell 7) _ Tryz.underlying9 rfl ⟨_,rfl,Below.refl _ _,fun _ _=>rfl⟩))
    | 10,ho,hne =>
      obtain rfl:=zSi ho;exact (zaf ho rfl (zlf (.tmp 47) rfl _ ((zai hD 9 (by kernel_rfl) rfl rfl) (.inl rfl)) fun hr=>⟨_,rfl,zBr.alloc zNr _,fun _ _=>⟨_,rfl,hr⟩⟩))
    | 11,ho,hne =>
      obtain rfl:=zSi ho;exact absurd rfl hne
    | 12,ho,hne =>
      obtain rfl:=zSi ho;exact (zaf ho rfl (zb5 (.tmp 41) (.inr rfl) ⟨_,rfl,Below.refl _ _,fun _ _=>(show a'.eval (.tmp 41) = .string (strOfNums r) from ((zai hD 3 (by kernel_rfl) rfl rfl) (.inr rfl)))⟩))
    | 13,ho,hne =>
      obtain rfl:=zSi ho;exact (zaf ho rfl (zb5 (.tmp 49) (.inr rfl) ⟨_,rfl,Below.refl _ _,fun _ _=>((zai hD 11 (by kernel_rfl) rfl rfl) (.inr rfl))⟩))
    | i+14,ho,hne=>exact absurd ho (by simp)
   case hlast =>
    intro a' W hB hF hD;have h7:SXL w3 (a'.eval (.tmp 45)) rest W:=(zai hD 7 (by kernel_rfl) rfl rfl);obtain ⟨x,h1,h2⟩:=(show ∃ x,a'.eval (.tmp 48) = .slice (some ⟨x,0,none⟩) 1 1∧Row W x 9 [.string (strOfNums tg)] from (zai hD 10 (by kernel_rfl) rfl rfl))
    refine zbw rfl rfl (zut (.tmp 45) (.tmp 48) rfl _ rest.length (strs rest) rfl h7 x (strOfNums tg) h1 h2 (by have:=NREST.out;have:=N2.out;omega) ?_);intro v' W' X;exact ⟨v',rfl,X.bw,fun _ _=>zrf X⟩
   case hend =>
   intro vs W hB hlen hall
   obtain ⟨v0,v1,v2,v3,v4,v5,v6,v7,v8,v9,v10,v11,v12,v13,rfl⟩:∃ v0 v1 v2 v3 v4 v5 v6 v7 v8 v9 v10 v11 v12 v13,vs=[v0,v1,v2,v3,v4,v5,v6,v7,v8,v9,v10,v11,v12,v13]:=by
    match vs,hlen with
    | [v0,v1,v2,v3,v4,v5,v6,v7,v8,v9,v10,v11,v12,v13],_=>exact ⟨_,_,_,_,_,_,_,_,_,_,_,_,_,_,rfl⟩
   obtain rfl:v12 = .string (strOfNums r):=hall 12 _ 2 v12 rfl rfl rfl rfl;have XE:=kd (show SXL w3 v13 (rest++[tg]) W from hall 13 _ 3 v13 rfl rfl rfl rfl);clear hall hlen hB CT9 HD9 RG;simp only [putL,Act.put,List.setIfInBounds_toArray,List.set_cons_zero,List.set_cons_succ]
   go_wp2_with fail;exact FIN.out _ _ _ _ _ LS.out B3.out XE.out
 | ok u =>
   have PX:=kd (PG.out u hu);go_wp2_with fail;refine (PX.out _ K0.out).mono ?_;rintro _ w2 ⟨A1,A2,c1,c2,rfl,hb2,ua⟩;have B2:=kd (zao K0.out hb2);replace RG:=kd (RG.out.below hb2);have UA:=kd ua;clear hb2 ua PX k8 k0 K0 PG PW;unfold uS
   go_upto_region 4 with (with_reducible refine zak rfl 117 (.tmp 4) (.tmp 21) rfl ZU6 [.string (strOfNums u.sc),.string (strOfNums u.us),.string (strOfNums u.ho),.int .i64 u.po,.slice A1 u.ps.length c1,.slice A2 u.hs.length c2] rfl rfl lenU zcv (ze5 _ _ _ _) ?_;intro w3 R3 S3)
   have B3:=kd (zao B2.out S3.out);replace RG:=kd (RG.out.below S3.out);replace UA:=kd (UA.out.step S3.out);have x4:w3.cell? ⟨w2.heap.size,4,none⟩=some (.slice A1 u.ps.length c1):=R3.out.cell 4
   have AG:=ze4 A1 u.ps.length c1 u.ps LRN w3 UA.out.r1 rfl UA.out.l1 (fun p hp=>⟨(UA.out.s1 p hp).1,(UA.out.s1 p hp).2.2.1⟩) (by unfold By LRN;decide) (by decide);rw [show strOfNums LRN=⟨#[108,114]⟩ by rfl] at AG;clear R3 S3 B2
   cases hg:zd4 u.ps LRN with
   | none =>
     rw [hg] at AG;dsimp only [gotV] at AG;have LS:=kd (W2.out ((LO.out u hu).trans (by rw [hg];rfl)));replace AG:=kd AG;clear hg hu W2 UA;go_wp2_with fail;refine AG.out.mono ?_;rintro _ w4 ⟨rfl,hb4⟩;have B4:=kd (zao B3.out hb4);replace RG:=kd (RG.out.below hb4);clear hb4 AG x4 B3
     have CT9:=kd (fun W (hb:Below w4.heap.size w4 W)=>CT.out W (zao B4.out hb));have HD9:=kd (fun W (hb:Below w4.heap.size w4 W)=>HD0.out W (zao B4.out hb));clear CT HD0 CL LO LB W1;go_upto_region 8 with (fail)
     refine zlq (by kernel_rfl) (by kernel_rfl) (fun (i:Nat) (W:World) (v:Value)=>match i with
      | 0=>v = .pointer (some ⟨g,8,none⟩)
      | 1=>v = .slice (some ⟨b,k,none⟩) n c
      | 2=>v = .pointer (some ⟨b,k,none⟩)
      | 3=>v = .string (strOfNums r)
      | 4=>v = .pointer (some ⟨g,8,none⟩)
      | 5=>v = .slice (some ⟨b,k,none⟩) n c
      | 6=>v = .slice (if c=1 then some ⟨b,k,none⟩ else some ⟨b,k+1,none⟩) (n - 1) (c - 1)
      | 7=>SXL w4 v rest W
      | 8=>v = .pointer (some ⟨g,7,none⟩)
      | 9=>v = .string (strOfNums tg)
      | 10 => ∃ x,v = .slice (some ⟨x,0,none⟩) 1 1∧Row W x 9 [.string (strOfNums tg)]
      | 11=>SXL w4 v (rest++[tg]) W
      | 12=>v = .string (strOfNums r)
      | 13=>SXL w4 v (rest++[tg]) W
      | _=>True) 11 [4,5,6,7,8,9,10] [13] (by kernel_rfl) ?hAm ?hAk _ rfl rfl (by kernel_rfl) (by kernel_rfl) ?hstep ?hlast ?hend
     case hAm =>
      intro i v W W' hb h
      rcases i with _|_|_|_|_|_|_|_|_|_|_|_|_|_|i
      all_goals first
       | exact h
       | exact h.step hb
       | (obtain ⟨x,h1,h2⟩:=h;exact ⟨x,h1,h2.below hb⟩)
     case hAk =>
      intro i v W W' ha hl hn hb h
      rcases i with _|_|_|_|_|_|_|_|_|_|_|_|_|_|i
      all_goals first
       | exact absurd ha (by decide)
       | exact absurd hl (by decide)
       | exact absurd rfl hn
       | exact h
     case hstep =>
      intro i o hne ho a' W hB hF hD
      match i,ho,hne with
      | 0,ho,hne =>
        obtain rfl:=zSi ho;exact (zaf ho rfl (zdm 25 (.tmp 1) 8 rfl g 8 ((zap hF (by kernel_rfl)).trans rfl) (fun w=>by kernel_rfl) ⟨_,rfl,Below.refl _ _,fun _ _=>rfl⟩))
      | 1,ho,hne =>
        obtain rfl:=zSi ho;exact (zaf ho rfl (zbu 23 (.tmp 38) rfl g 8 (.slice (some ⟨b,k,none⟩) n c) ((zai hD 0 (by kernel_rfl) rfl rfl) (.inr rfl)) ((RG.out.below hB).cell 8) _ Tryz.underlying23 rfl ⟨_,rfl,Below.refl _ _,fun _ _=>rfl⟩))
      | 2,ho,hne =>
        obtain rfl:=zSi ho;exact (zaf ho rfl (ybb (.tmp 39) (.const (.int .i64 0)) rfl ((zai hD 1 (by kernel_rfl) rfl rfl) (.inr rfl)) rfl NPOS.out ⟨_,rfl,Below.refl _ _,fun _ _=>rfl⟩))
      | 3,ho,hne =>
        obtain rfl:=zSi ho;exact (zaf ho rfl (zbu 9 (.tmp 40) rfl b k (.string (strOfNums r)) ((zai hD 2 (by kernel_rfl) rfl rfl) (.inr rfl)) (HD9.out W hB) _ Tryz.underlying9 rfl ⟨_,rfl,Below.refl _ _,fun _ _=>rfl⟩))
      | 4,ho,hne =>
        obtain rfl:=zSi ho;exact (zaf ho rfl (zdm 25 (.tmp 1) 8 rfl g 8 ((zap hF (by kernel_rfl)).trans rfl) (fun w=>by kernel_rfl) ⟨_,rfl,Below.refl _ _,fun _ _=>rfl⟩))
      | 5,ho,hne =>
        obtain rfl:=zSi ho;exact (zaf ho rfl (zbu 23 (.tmp 42) rfl g 8 (.slice (some ⟨b,k,none⟩) n c) ((zai hD 4 (by kernel_rfl) rfl rfl) (.inl rfl)) ((RG.out.below hB).cell 8) _ Tryz.underlying23 rfl ⟨_,rfl,Below.refl _ _,fun _ _=>rfl⟩))
      | 6,ho,hne =>
        obtain rfl:=zSi ho;exact (zaf ho rfl (yba (.tmp 43) rfl ((zai hD 5 (by kernel_rfl) rfl rfl) (.inl rfl)) NPOS.out ⟨_,rfl,Below.refl _ _,fun _ _=>rfl⟩))
      | 7,ho,hne =>
        obtain rfl:=zSi ho;have hx0:a'.eval (.tmp 44) = .slice (if c=1 then some ⟨b,k,none⟩ else some ⟨b,k+1,none⟩) (n - 1) (c - 1):=((zai hD 6 (by kernel_rfl) rfl rfl) (.inl rfl))
        exact (zaf ho rfl (zc3 77 _ _ rfl #[.slice (if c=1 then some ⟨b,k,none⟩ else some ⟨b,k+1,none⟩) (n - 1) (c - 1)] (by simp only [List.map_toArray,List.map_cons,List.map_nil,hx0]) (enters_of Tryz.func77 (by kernel_rfl) rfl) ((CT9.out W hB).mono fun e W2 ⟨v',he,X⟩=>⟨_,he,_,rfl,X.bw,fun _ _=>X.base hB⟩)))
      | 8,ho,hne =>
        obtain rfl:=zSi ho;exact (zaf ho rfl (zdm 25 (.tmp 1) 7 rfl g 7 ((zap hF (by kernel_rfl)).trans rfl) (fun w=>by kernel_rfl) ⟨_,rfl,Below.refl _ _,fun _ _=>rfl⟩))
      | 9,ho,hne =>
        obtain rfl:=zSi ho;exact (zaf ho rfl (zbu 9 (.tmp 46) rfl g 7 (.string (strOfNums tg)) ((zai hD 8 (by kernel_rfl) rfl rfl) (.inl rfl)) ((RG.out.below hB).cell 7) _ Tryz.underlying9 rfl ⟨_,rfl,Below.refl _ _,fun _ _=>rfl⟩))
      | 10,ho,hne =>
        obtain rfl:=zSi ho;exact (zaf ho rfl (zlf (.tmp 47) rfl _ ((zai hD 9 (by kernel_rfl) rfl rfl) (.inl rfl)) fun hr=>⟨_,rfl,zBr.alloc zNr _,fun _ _=>⟨_,rfl,hr⟩⟩))
      | 11,ho,hne =>
        obtain rfl:=zSi ho;exact absurd rfl hne
      | 12,ho,hne =>
        obtain rfl:=zSi ho;exact (zaf ho rfl (zb5 (.tmp 41) (.inr rfl) ⟨_,rfl,Below.refl _ _,fun _ _=>(show a'.eval (.tmp 41) = .string (strOfNums r) from ((zai hD 3 (by kernel_rfl) rfl rfl) (.inr rfl)))⟩))
      | 13,ho,hne =>
        obtain rfl:=zSi ho;exact (zaf ho rfl (zb5 (.tmp 49) (.inr rfl) ⟨_,rfl,Below.refl _ _,fun _ _=>((zai hD 11 (by kernel_rfl) rfl rfl) (.inr rfl))⟩))
      | i+14,ho,hne=>exact absurd ho (by simp)
     case hlast =>
      intro a' W hB hF hD;have h7:SXL w4 (a'.eval (.tmp 45)) rest W:=(zai hD 7 (by kernel_rfl) rfl rfl);obtain ⟨x,h1,h2⟩:=(show ∃ x,a'.eval (.tmp 48) = .slice (some ⟨x,0,none⟩) 1 1∧Row W x 9 [.string (strOfNums tg)] from (zai hD 10 (by kernel_rfl) rfl rfl))
      refine zbw rfl rfl (zut (.tmp 45) (.tmp 48) rfl _ rest.length (strs rest) rfl h7 x (strOfNums tg) h1 h2 (by have:=NREST.out;have:=N2.out;omega) ?_);intro v' W' X;exact ⟨v',rfl,X.bw,fun _ _=>zrf X⟩
     case hend =>
     intro vs W hB hlen hall
     obtain ⟨v0,v1,v2,v3,v4,v5,v6,v7,v8,v9,v10,v11,v12,v13,rfl⟩:∃ v0 v1 v2 v3 v4 v5 v6 v7 v8 v9 v10 v11 v12 v13,vs=[v0,v1,v2,v3,v4,v5,v6,v7,v8,v9,v10,v11,v12,v13]:=by
      match vs,hlen with
      | [v0,v1,v2,v3,v4,v5,v6,v7,v8,v9,v10,v11,v12,v13],_=>exact ⟨_,_,_,_,_,_,_,_,_,_,_,_,_,_,rfl⟩
     obtain rfl:v12 = .string (strOfNums r):=hall 12 _ 2 v12 rfl rfl rfl rfl;have XE:=kd (show SXL w4 v13 (rest++[tg]) W from hall 13 _ 3 v13 rfl rfl rfl rfl);clear hall hlen hB CT9 HD9 RG;simp only [putL,Act.put,List.setIfInBounds_toArray,List.set_cons_zero,List.set_cons_succ]
     go_wp2_with fail;exact FIN.out _ _ _ _ _ LS.out B4.out XE.out
   | some vv =>
     rw [hg] at AG;dsimp only [gotV] at AG;have LS:=kd (W1.out ((LO.out u hu).trans (by rw [hg];rfl)));replace AG:=kd AG;clear hg hu W1 UA;go_wp2_with fail;refine AG.out.mono ?_;rintro _ w4 ⟨rfl,hb4⟩;have B4:=kd (zao B3.out hb4);replace RG:=kd (RG.out.below hb4)
     have CL9:=kd (fun W (hb:Below w4.heap.size w4 W)=>CL.out W (zao B4.out hb));clear hb4 AG x4 B3 CL CT HD0 LO LB W2;go_upto_region 7 with (fail)
     refine zs7 (by kernel_rfl) (by kernel_rfl) (fun (i:Nat) (W:World) (v:Value)=>match i with
      | 0=>v = .pointer (some ⟨g,7,none⟩)
      | 1=>v = .string (strOfNums tg)
      | 2=>v = .pointer (some ⟨g,8,none⟩)
      | 3=>v = .slice (some ⟨b,k,none⟩) n c
      | 4=>SXL w4 v (r::rest) W
      | 5=>v = .string (strOfNums tg)
      | 6=>SXL w4 v (r::rest) W
      | _=>True) (by kernel_rfl) ?hAm ?hstep ?hend
     case hAm =>
      intro i v W W' hb h
      rcases i with _|_|_|_|_|_|_|i
      all_goals first
       | exact h
       | exact h.step hb
       | (obtain ⟨x,h1,h2⟩:=h;exact ⟨x,h1,h2.below hb⟩)
     case hstep =>
      intro i o ho a' W hB hF hD
      match i,ho with
      | 0,ho =>
        obtain rfl:=zSi ho;exact (zaf ho rfl (zdm 25 (.tmp 1) 7 rfl g 7 ((zap hF (by kernel_rfl)).trans rfl) (fun w=>by kernel_rfl) ⟨_,rfl,Below.refl _ _,fun _ _=>rfl⟩))
      | 1,ho =>
        obtain rfl:=zSi ho;exact (zaf ho rfl (zbu 9 (.tmp 33) rfl g 7 (.string (strOfNums tg)) (zai hD 0 (by kernel_rfl) rfl rfl) ((RG.out.below hB).cell 7) _ Tryz.underlying9 rfl ⟨_,rfl,Below.refl _ _,fun _ _=>rfl⟩))
      | 2,ho =>
        obtain rfl:=zSi ho;exact (zaf ho rfl (zdm 25 (.tmp 1) 8 rfl g 8 ((zap hF (by kernel_rfl)).trans rfl) (fun w=>by kernel_rfl) ⟨_,rfl,Below.refl _ _,fun _ _=>rfl⟩))
      | 3,ho =>
        obtain rfl:=zSi ho;exact (zaf ho rfl (zbu 23 (.tmp 35) rfl g 8 (.slice (some ⟨b,k,none⟩) n c) (zai hD 2 (by kernel_rfl) rfl rfl) ((RG.out.below hB).cell 8) _ Tryz.underlying23 rfl ⟨_,rfl,Below.refl _ _,fun _ _=>rfl⟩))
      | 4,ho =>
        obtain rfl:=zSi ho;have hx0:a'.eval (.tmp 36) = .slice (some ⟨b,k,none⟩) n c:=(zai hD 3 (by kernel_rfl) rfl rfl)
        exact (zaf ho rfl (zc3 77 _ _ rfl #[.slice (some ⟨b,k,none⟩) n c] (by simp only [List.map_toArray,List.map_cons,List.map_nil,hx0]) (enters_of Tryz.func77 (by kernel_rfl) rfl) ((CL9.out W hB).mono fun e W2 ⟨v',he,X⟩=>⟨_,he,_,rfl,X.bw,fun _ _=>X.base hB⟩)))
      | 5,ho =>
        obtain rfl:=zSi ho;exact (zaf ho rfl (zb5 (.tmp 34) (.inr rfl) ⟨_,rfl,Below.refl _ _,fun _ _=>(show a'.eval (.tmp 34) = .string (strOfNums tg) from (zai hD 1 (by kernel_rfl) rfl rfl))⟩))
      | 6,ho =>
        obtain rfl:=zSi ho;exact (zaf ho rfl (zb5 (.tmp 37) (.inr rfl) ⟨_,rfl,Below.refl _ _,fun _ _=>(zai hD 4 (by kernel_rfl) rfl rfl)⟩))
      | i+7,ho=>exact absurd ho (by simp)
     case hend =>
     intro vs W hB hlen hall
     obtain ⟨v0,v1,v2,v3,v4,v5,v6,rfl⟩:∃ v0 v1 v2 v3 v4 v5 v6,vs=[v0,v1,v2,v3,v4,v5,v6]:=by
      match vs,hlen with
      | [v0,v1,v2,v3,v4,v5,v6],_=>exact ⟨_,_,_,_,_,_,_,rfl⟩
     obtain rfl:v5 = .string (strOfNums tg):=hall 5 _ 2 v5 rfl rfl rfl;have XE:=kd (show SXL w4 v6 (r::rest) W from hall 6 _ 3 v6 rfl rfl rfl);clear hall hlen hB CL9 RG;simp only [putL,Act.put,List.setIfInBounds_toArray,List.set_cons_zero,List.set_cons_succ];go_wp2_with fail
     exact FIN.out _ _ _ _ _ LS.out B4.out XE.out
end Go.Proofs.YtfnmkedncfdceaaGreatDoor
