/- Contract: address.Normal. And what stands behind it. -/
import Derived.Test.YtfnmkedncfdceaaGreatDoorUp
import Derived.Lib.AppendStr
set_option linter.unusedVariables false
set_option linter.unusedSimpArgs false
set_option maxRecDepth 100000
set_option maxHeartbeats 8000000
namespace Go.Proofs.YtfnmkedncfdceaaGreatDoor
open Go.RowKit

structure UArg (w:World) (u:Uri) (A1 A2:Option Addr):Prop where
 by_:ya6 u
 n1:u.sc.length≤4000000
 n2:u.us.length≤4000000
 n3:u.ho.length≤4000000
 s1:∀ p∈u.ps,pmSz p
 s2:∀ p∈u.hs,pmSz p
 r1:Rds w w.heap.size A1 (pms u.ps)
 r2:Rds w w.heap.size A2 (pms u.hs)
 l1:u.ps.length≤16000000
 l2:u.hs.length≤16000000
def zpl (w:World) (R:Option Uri) (e:Ending) (w':World):Prop:=match R with
 | none=>e = .returned (.tuple #[.agg #[.string ⟨#[]⟩,.string ⟨#[]⟩,.string ⟨#[]⟩,.int .i64 0,.slice none 0 0,.slice none 0 0],.int .u8 2])∧Below w.heap.size w w'
 | some n => ∃ v1 v2,e = .returned (.tuple #[.agg #[.string (strOfNums n.sc),.string (strOfNums n.us),.string (strOfNums n.ho),.int .i64 n.po,v1,v2],.int .u8 0])∧VX 155 3 w v1 n.ps.length (pms n.ps) w'∧VX 155 3 w v2 n.hs.length (pms n.hs) w'
theorem zpl.bad {w w':World} {R:Option Uri} (h:R=none) (hb:Below w.heap.size w w'):zpl w R (.returned (.tuple #[.agg #[.string ⟨#[]⟩,.string ⟨#[]⟩,.string ⟨#[]⟩,.int .i64 0,.slice none 0 0,.slice none 0 0],.int .u8 2])) w':=by subst h;exact ⟨rfl,hb⟩
theorem zpl.good {w w':World} {R:Option Uri} {sc us ho:List Int} {po:Int} {ps hs:List Pm} {v1 v2:Value} (h:R=some ⟨sc,us,ho,po,ps,hs⟩) (h1:VX 155 3 w v1 ps.length (pms ps) w') (h2:VX 155 3 w v2 hs.length (pms hs) w'):zpl w R (.returned (.tuple #[.agg #[.string (strOfNums sc),.string (strOfNums us),.string (strOfNums ho),.int .i64 po,v1,v2],.int .u8 0])) w':=by subst h;exact ⟨v1,v2,rfl,h1,h2⟩
theorem zeroU:(Tryz.prog.info? 117).bind (·.zero)=some (.agg ([.string ⟨#[]⟩,.string ⟨#[]⟩,.string ⟨#[]⟩,.int .i64 0,.slice none 0 0,.slice none 0 0]:List Value).toArray):=by kernel_rfl
def zea (u:Uri) (fn:Bool) (ho:List Int):Prop:=zdx u=match zeh u.ps 1,zeh u.hs 2 with
 | some ps,some hs=>if fn=true then some ⟨lowS u.sc,u.us,ho,u.po,ps,hs⟩ else none
 | _,_=>none
theorem yad {u:Uri} (h:lowS u.sc=SIPT∨lowS u.sc=zes):zea u ((((zb3 u.ho).isSome && decide (0≤u.po)) && decide (u.po≤65535)) && zc7 u.us) ((zb3 u.ho).getD []):=by
 unfold zea zdx;dsimp only
 cases zeh u.ps 1 with
 | none=>rfl
 | some ps =>
   cases zeh u.hs 2 with
   | none=>rfl
   | some hs =>
     dsimp only;rw [if_pos h]
     cases zb3 u.ho with
     | none=>rfl
     | some h' =>
       dsimp only
       by_cases hp:0≤u.po∧u.po≤65535∧zc7 u.us=true
       · rw [if_pos hp,if_pos (by simp [hp])];rfl
       · rw [if_neg hp,if_neg (by simp;intro a b;simpa [a,b] using hp)]
theorem yac {u:Uri} (h:lowS u.sc=TELT):zea u (((u.ho.isEmpty && decide (u.po=0)) && decide (u.hs.length=0)) && zep u.us) []:=by
 unfold zea zdx;dsimp only
 cases zeh u.ps 1 with
 | none=>rfl
 | some ps =>
   cases zeh u.hs 2 with
   | none=>rfl
   | some hs =>
     dsimp only;rw [h,if_neg (by decide),if_pos rfl]
     by_cases hp:u.ho=[]∧u.po=0∧u.hs=[]∧zep u.us=true
     · rw [if_pos hp,if_pos (by simp [hp]),hp.2.1]
     · rw [if_neg hp,if_neg (by simp;intro a b c;simpa [a,b,c] using hp)]
theorem yeb {u:Uri} (h:¬ (lowS u.sc=SIPT∨lowS u.sc=zes)) (h2:lowS u.sc≠TELT):zea u false []:=by
 unfold zea zdx;dsimp only
 cases zeh u.ps 1 with
 | none=>rfl
 | some ps =>
   cases zeh u.hs 2 with
   | none=>rfl
   | some hs =>
     dsimp only;rw [if_neg h,if_neg h2];rfl
theorem zuy {w0 W:World} {b:Nat} {us:List Value} {v u4 u5:Value} {n:Nat} {cs:List Value} (X:VX 155 3 w0 v n cs W) (hr:Row W b 117 us) (hb:w0.heap.size≤b):VX 155 3 w0 v n cs ((W.setCell ⟨b,4,none⟩ u4).setCell ⟨b,5,none⟩ u5):=
 X.other ((X.bw.setCell hb u4).setCell hb u5) fun g hg=>by
  have hne:=zpw hr X (by decide) g hg;rw [Below.heap_setCell _ ⟨b,5,none⟩ u5 g hne,Below.heap_setCell _ ⟨b,4,none⟩ u4 g hne]
theorem zq8 {w0 W W':World} {b:Nat} {us:List Value} {v:Value} {n:Nat} {cs:List Value} (X:VX 155 3 w0 v n cs W) (hr:Row W b 117 us) (hb:w0.heap.size≤b) (hg:W.grownBy W' (some b)):VX 155 3 w0 v n cs W':=
 X.other (X.bw.grown hg X.bw.size (fun k hk=>by cases hk;exact hb)) fun g hg2=>hg.block g (X.own_lt hg2) (fun e=>zpw hr X (by decide) g hg2 (Option.some.inj e))
theorem ztg (u:Uri) (A1 A2:Option Addr) (c1 c2:Nat) (w:World) (H:UArg w u A1 A2) (hG:GM w) (hP:PT w) :
  Calls Tryz.prog 202 #[.agg #[.string (strOfNums u.sc),.string (strOfNums u.us),.string (strOfNums u.ho),.int .i64 u.po,.slice A1 u.ps.length c1,.slice A2 u.hs.length c2]] w (zpl w (zdx u)):=by
 have HH:=kd H;have HG:=kd hG;have HP:=kd hP;have BAD:=kd (fun w' h hb=>zpl.bad (w:=w) (w':=w') (R:=zdx u) h hb);have GOOD:=kd (fun w' sc us ho po ps hs v1 v2 (h:zdx u=some ⟨sc,us,ho,po,ps,hs⟩) h1 h2=>zpl.good (w:=w) (w':=w') (v1:=v1) (v2:=v2) h h1 h2)
 have FN:=kd (fun fn ho (h:zea u fn ho)=>h)
 have ST:=kd (show Mine w ((w.alloc (.cells ([.string (strOfNums u.sc),.string (strOfNums u.us),.string (strOfNums u.ho),.int .i64 u.po,.slice A1 u.ps.length c1,.slice A2 u.hs.length c2]:List Value).toArray 117)).alloc (.cells ([.string ⟨#[]⟩,.string ⟨#[]⟩,.string ⟨#[]⟩,.int .i64 0,.slice none 0 0,.slice none 0 0]:List Value).toArray 117)) [(w.heap.size+1,117,[.string ⟨#[]⟩,.string ⟨#[]⟩,.string ⟨#[]⟩,.int .i64 0,.slice none 0 0,.slice none 0 0]),(w.heap.size,117,[.string (strOfNums u.sc),.string (strOfNums u.us),.string (strOfNums u.ho),.int .i64 u.po,.slice A1 u.ps.length c1,.slice A2 u.hs.length c2])] [(fun W=>Rds W W.heap.size A2 (pms u.hs)),(fun W=>Rds W W.heap.size A1 (pms u.ps))] from by
  have h:=((Mine.refl w).alloc 117 [.string (strOfNums u.sc),.string (strOfNums u.us),.string (strOfNums u.ho),.int .i64 u.po,.slice A1 u.ps.length c1,.slice A2 u.hs.length c2]).alloc 117 [.string ⟨#[]⟩,.string ⟨#[]⟩,.string ⟨#[]⟩,.int .i64 0,.slice none 0 0,.slice none 0 0]
  rw [World.size_alloc] at h
  have h0:∀ A cs,Rds w w.heap.size A cs→Stab [(w.heap.size+1,117,[.string ⟨#[]⟩,.string ⟨#[]⟩,.string ⟨#[]⟩,.int .i64 0,.slice none 0 0,.slice none 0 0]),(w.heap.size,117,[.string (strOfNums u.sc),.string (strOfNums u.us),.string (strOfNums u.ho),.int .i64 u.po,.slice A1 u.ps.length c1,.slice A2 u.hs.length c2])] ((w.alloc (.cells ([.string (strOfNums u.sc),.string (strOfNums u.us),.string (strOfNums u.ho),.int .i64 u.po,.slice A1 u.ps.length c1,.slice A2 u.hs.length c2]:List Value).toArray 117)).alloc (.cells ([.string ⟨#[]⟩,.string ⟨#[]⟩,.string ⟨#[]⟩,.int .i64 0,.slice none 0 0,.slice none 0 0]:List Value).toArray 117)) (fun W=>Rds W W.heap.size A cs):=fun A cs hR=>by
   have hb:Below w.heap.size w ((w.alloc (.cells ([.string (strOfNums u.sc),.string (strOfNums u.us),.string (strOfNums u.ho),.int .i64 u.po,.slice A1 u.ps.length c1,.slice A2 u.hs.length c2]:List Value).toArray 117)).alloc (.cells ([.string ⟨#[]⟩,.string ⟨#[]⟩,.string ⟨#[]⟩,.int .i64 0,.slice none 0 0,.slice none 0 0]:List Value).toArray 117)):=h.bw
   by_cases hn:0<cs.length
   · obtain ⟨x,o,e,hx,hc⟩:=hR hn
     refine za9 ((hR.below hb).up hb.size) fun b o' s' e2 hm => ?_;rw [e] at e2
     injection e2 with e2
     injection e2 with e2
     subst e2;simp only [List.map_cons,List.map_nil,List.mem_cons,List.not_mem_nil,or_false] at hm;omega
   · intro W _ h2;exact absurd h2 hn
  exact (h.add (h0 A1 _ H.r1)).add (h0 A2 _ H.r2))
 have LW:=kd (fun w=>zce (strOfNums u.sc) w (by rw [zaq];exact H.n1));rw [zal H.by_.sc] at LW;have HSB:=kd (zcr H.by_.sc);obtain ⟨sc,hsc⟩:∃ sc,lowS u.sc=sc:=⟨_,rfl⟩;rw [hsc] at LW HSB;have ESC:=kd hsc;clear hsc H hG hP
 have HO:=kd (fun w hg hp=>zge (strOfNums u.ho) w (by rw [zaq];exact HH.out.n3) hg hp);rw [zal HH.out.by_.ho] at HO;have CU:=kd (fun w=>zg0 (strOfNums u.us) w (by rw [zaq];exact HH.out.n2));rw [zal HH.out.by_.us] at CU
 have DU:=kd (fun w=>zuc (strOfNums u.us) w (by rw [zaq];exact HH.out.n2));rw [zal HH.out.by_.us] at DU;have EH:=kd (zb1 u.ho);have F1:=kd (fun W (h:Rds W W.heap.size A1 (pms u.ps))=>zl3 A1 u.ps.length c1 u.ps 1 W h rfl HH.out.l1 HH.out.s1 (.inl rfl))
 have F2:=kd (fun W (h:Rds W W.heap.size A2 (pms u.hs))=>zl3 A2 u.hs.length c2 u.hs 2 W h rfl HH.out.l2 HH.out.s2 (.inr rfl));clear HH;generalize hPP:zpl w (zdx u)=PP at *;clear hPP
 go_enter Tryz.func202,Tryz.ntmps202
 go_upto_region 1 with (fail)
 generalize (w.alloc (.cells #[.string (strOfNums u.sc),.string (strOfNums u.us),.string (strOfNums u.ho),.int .i64 u.po,.slice A1 u.ps.length c1,.slice A2 u.hs.length c2] 117)).alloc (.cells #[.string ⟨#[]⟩,.string ⟨#[]⟩,.string ⟨#[]⟩,.int .i64 0,.slice none 0 0,.slice none 0 0] 117)=w1 at *
 obtain ⟨b1,hb1⟩:∃ b,b=w.heap.size:=⟨_,rfl⟩;obtain ⟨b2,hb2⟩:∃ b,b=w.heap.size+1:=⟨_,rfl⟩;rw [← hb2,← hb1] at ST
 try rw [← hb2]
 try rw [← hb1]
 clear hb1 hb2
 refine zs8 (by kernel_rfl) (by kernel_rfl) (fun j W v=>v=([.pointer (some ⟨b1,0,none⟩),.string (strOfNums u.sc),.string (strOfNums sc),.pointer (some ⟨b1,1,none⟩),.string (strOfNums u.us),.pointer (some ⟨b1,3,none⟩),.int .i64 u.po,.agg #[.string (strOfNums sc),.string (strOfNums u.us),.string ⟨#[]⟩,.int .i64 u.po,.slice none 0 0,.slice none 0 0],undef,undef]:List Value).getD j undef) 8 9 7 4 17 117 117 ZU6 (by kernel_rfl) (by kernel_rfl) _ _ _ rfl rfl ?halloc rfl rfl rfl rfl rfl (by kernel_rfl) (by kernel_rfl) (by decide) (by decide) zcv
  (fun W v h=>⟨[.string (strOfNums sc),.string (strOfNums u.us),.string ⟨#[]⟩,.int .i64 u.po,.slice none 0 0,.slice none 0 0],h,rfl,ze5 _ _ _ _⟩) (fun _ _ _ _ _ h=>h) (fun _ _ _ _ _ _ _ _ h=>h) ?hstep ?hend
 case halloc=>exact fun W ev=>zl4 rfl zeroU
 case hstep =>
  intro j o h1 h2 ho a' W hB hF hD;have RA:=(ST.out.row (i:=1) rfl).below hB
  match j,ho with
  | 0,ho =>
    obtain rfl:=zSi ho;exact zdm 117 (.tmp 1) 0 rfl b1 0 ((zap hF (by kernel_rfl)).trans rfl) (fun w=>by kernel_rfl) ⟨_,rfl,Below.refl _ _,rfl⟩
  | 1,ho =>
    obtain rfl:=zSi ho;exact zbu 9 (.tmp 10) rfl b1 0 (.string (strOfNums u.sc)) (zai hD 0 (by kernel_rfl) rfl rfl) (RA.cell 0) _ Tryz.underlying9 rfl ⟨_,rfl,Below.refl _ _,rfl⟩
  | 2,ho =>
    obtain rfl:=zSi ho;have hx:a'.eval (.tmp 11) = .string (strOfNums u.sc):=zai hD 1 (by kernel_rfl) rfl rfl;refine zc3 120 _ _ rfl #[.string (strOfNums u.sc)] (by simp only [List.map_toArray,List.map_cons,List.map_nil,hx]) (enters_of Tryz.func120 (by kernel_rfl) rfl) ((LW.out W).mono ?_)
    rintro e W2 ⟨rfl,hb⟩;exact ⟨_,rfl,_,rfl,hb,rfl⟩
  | 3,ho =>
    obtain rfl:=zSi ho;exact zdm 117 (.tmp 1) 1 rfl b1 1 ((zap hF (by kernel_rfl)).trans rfl) (fun w=>by kernel_rfl) ⟨_,rfl,Below.refl _ _,rfl⟩
  | 4,ho =>
    obtain rfl:=zSi ho;exact zbu 9 (.tmp 13) rfl b1 1 (.string (strOfNums u.us)) (zai hD 3 (by kernel_rfl) rfl rfl) (RA.cell 1) _ Tryz.underlying9 rfl ⟨_,rfl,Below.refl _ _,rfl⟩
  | 5,ho =>
    obtain rfl:=zSi ho;exact zdm 117 (.tmp 1) 3 rfl b1 3 ((zap hF (by kernel_rfl)).trans rfl) (fun w=>by kernel_rfl) ⟨_,rfl,Below.refl _ _,rfl⟩
  | 6,ho =>
    obtain rfl:=zSi ho;exact zbu 3 (.tmp 15) rfl b1 3 (.int .i64 u.po) (zai hD 5 (by kernel_rfl) rfl rfl) (RA.cell 3) _ Tryz.underlying3 rfl ⟨_,rfl,Below.refl _ _,rfl⟩
  | 7,ho =>
    obtain rfl:=zSi ho;have hx1:a'.eval (.tmp 12) = .string (strOfNums sc):=zai hD 2 (by kernel_rfl) rfl rfl;have hx2:a'.eval (.tmp 14) = .string (strOfNums u.us):=zai hD 4 (by kernel_rfl) rfl rfl;have hx3:a'.eval (.tmp 16) = .int .i64 u.po:=zai hD 6 (by kernel_rfl) rfl rfl
    exact zfq 117 _ rfl [(0,.string (strOfNums sc)),(1,.string (strOfNums u.us)),(3,.int .i64 u.po)] (by simp only [List.map_toArray,List.map_cons,List.map_nil,hx1,hx2,hx3]) #[.string (strOfNums sc),.string (strOfNums u.us),.string ⟨#[]⟩,.int .i64 u.po,.slice none 0 0,.slice none 0 0] (by kernel_rfl) ⟨_,rfl,Below.refl _ _,rfl⟩
  | 8,ho=>exact absurd rfl h1
  | 9,ho=>exact absurd rfl h2
  | j+10,ho=>simp at ho
 case hend =>
 intro vs W b us hB hlen hv hb h8 h7 hR
 obtain ⟨v0,v1,v2,v3,v4,v5,v6,v7,v8,v9,rfl⟩:∃ v0 v1 v2 v3 v4 v5 v6 v7 v8 v9,vs=[v0,v1,v2,v3,v4,v5,v6,v7,v8,v9]:=by
  match vs,hlen with
  | [v0,v1,v2,v3,v4,v5,v6,v7,v8,v9],_=>exact ⟨_,_,_,_,_,_,_,_,_,_,rfl⟩
 obtain rfl:v0 = .pointer (some ⟨b1,0,none⟩):=hv 0 _ _ v0 (by decide) rfl rfl rfl;obtain rfl:v1 = .string (strOfNums u.sc):=hv 1 _ _ v1 (by decide) rfl rfl rfl;obtain rfl:v2 = .string (strOfNums sc):=hv 2 _ _ v2 (by decide) rfl rfl rfl
 obtain rfl:v3 = .pointer (some ⟨b1,1,none⟩):=hv 3 _ _ v3 (by decide) rfl rfl rfl;obtain rfl:v4 = .string (strOfNums u.us):=hv 4 _ _ v4 (by decide) rfl rfl rfl;obtain rfl:v5 = .pointer (some ⟨b1,3,none⟩):=hv 5 _ _ v5 (by decide) rfl rfl rfl
 obtain rfl:v6 = .int .i64 u.po:=hv 6 _ _ v6 (by decide) rfl rfl rfl;obtain rfl:v7 = .agg #[.string (strOfNums sc),.string (strOfNums u.us),.string ⟨#[]⟩,.int .i64 u.po,.slice none 0 0,.slice none 0 0]:=hv 7 _ _ v7 (by decide) rfl rfl rfl
 obtain rfl:v8 = .pointer (some ⟨b,0,none⟩):=Option.some.inj h8
 obtain rfl:us=[.string (strOfNums sc),.string (strOfNums u.us),.string ⟨#[]⟩,.int .i64 u.po,.slice none 0 0,.slice none 0 0]:=by
  have e:=Option.some.inj h7
  injection e with e
  simpa using (congrArg Array.toList e).symm
 replace ST:=kd (show Mine w W [(b,117,[.string (strOfNums sc),.string (strOfNums u.us),.string (strOfNums []),.int .i64 u.po,.slice none 0 0,.slice none 0 0]),(b2,117,ZU6),(b1,117,[.string (strOfNums u.sc),.string (strOfNums u.us),.string (strOfNums u.ho),.int .i64 u.po,.slice A1 u.ps.length c1,.slice A2 u.hs.length c2])] [(fun W=>Rds W W.heap.size A2 (pms u.hs)),(fun W=>Rds W W.heap.size A1 (pms u.ps))] from ST.out.join hB hb hR)
 clear hv hlen h8 h7 hb hB hR LW;simp only [putL,Act.put,List.setIfInBounds_toArray,List.set_cons_zero,List.set_cons_succ];clear FN;have Q1:=zcs HSB.out [115,105,112];have Q2:=zcs HSB.out [115,105,112,115];have Q3:=zcs HSB.out [116,101,108]
 rw [show bl [115,105,112]=SIPT from rfl] at Q1;rw [show bl [115,105,112,115]=zes from rfl] at Q2;rw [show bl [116,101,108]=TELT from rfl] at Q3;have HQ1:=kd Q1;have HQ2:=kd Q2;have HQ3:=kd Q3;have HEH:=kd EH.out;clear Q1 Q2 Q3 HSB
 have c0:W.cell? ⟨b,0,none⟩=some (.string (strOfNums sc)):=(ST.out.row (i:=0) rfl).cell 0
 go_upto_block 0 with (fail)
 go_cut [5] (fun v5 wx => ∃ (fn:Bool) (ho:List Int),v5 = .bool fn∧Hid (zea u fn ho)∧Hid (Mine w wx [(b,117,[.string (strOfNums sc),.string (strOfNums u.us),.string (strOfNums ho),.int .i64 u.po,.slice none 0 0,.slice none 0 0]),(b2,117,ZU6),(b1,117,[.string (strOfNums u.sc),.string (strOfNums u.us),.string (strOfNums u.ho),.int .i64 u.po,.slice A1 u.ps.length c1,.slice A2 u.hs.length c2])] [(fun W=>Rds W W.heap.size A2 (pms u.hs)),(fun W=>Rds W W.heap.size A1 (pms u.ps))]))
 case first =>
  go_upto_if 20 with (fail)
  go_cut [20] (fun v wx=>v = .bool (decide (sc=SIPT∨sc=zes))∧wx=W)
  case first =>
   by_cases h1:sc=SIPT
   · have q1:((strOfNums sc).toList == [115,105,112])=true:=HQ1.out.trans (by rw [h1];rfl)
     rw [q1];have d1:=kd (decide_eq_true (p:=sc=SIPT∨sc=zes) (.inl h1));clear h1;go_wp2_with fail;go_meet;exact ⟨congrArg Value.bool d1.out.symm,rfl⟩
   · have q1:((strOfNums sc).toList == [115,105,112])=false:=HQ1.out.trans (by simpa using fun e=>h1 e.symm)
     rw [q1]
     by_cases h2:sc=zes
     · have q2:((strOfNums sc).toList == [115,105,112,115])=true:=HQ2.out.trans (by rw [h2];rfl)
       have d1:=kd (decide_eq_true (p:=sc=SIPT∨sc=zes) (.inr h2));clear h1 h2;go_wp2_with fail;go_meet;exact ⟨congrArg Value.bool d1.out.symm,rfl⟩
     · have q2:((strOfNums sc).toList == [115,105,112,115])=false:=HQ2.out.trans (by simpa using fun e=>h2 e.symm)
       have d1:=kd (decide_eq_false (p:=sc=SIPT∨sc=zes) (by rintro (h|h);exact h1 h;exact h2 h));clear h1 h2;go_wp2_with fail;go_meet;exact ⟨congrArg Value.bool d1.out.symm,rfl⟩
  case rest =>
   first|(rename_i KK hKK;obtain ⟨rfl,rfl⟩:=hcut;refine hKK _ _ ?_;clear hKK KK)|obtain ⟨rfl,rfl⟩:=hcut
   by_cases hsip:sc=SIPT∨sc=zes
   · rw [decide_eq_true hsip]
     have FI:=yad (u:=u) (by rw [ESC.out];exact hsip);have HO2:=kd (HO.out _ (HG.out.below ST.out.bw) (HP.out.below ST.out.bw));have k2:=(ST.out.row (i:=2) rfl).cell 2;simp only [List.getElem?_cons_succ,List.getElem?_cons_zero] at k2;clear hsip HO HG HP HQ1 HQ2 HQ3 c0 DU;go_wp2_with fail
     refine HO2.out.mono ?_;rintro _ w3 ⟨rfl,hb3⟩;replace ST:=kd (ST.out.call hb3);clear hb3 HO2 k2;have f2:=(ST.out.row (i:=0) rfl).frozen 2;have k2:=(ST.out.row (i:=0) rfl).cell 2;simp only [List.getElem?_cons_succ,List.getElem?_cons_zero] at k2
     cases hX:zb3 u.ho with
     | none =>
       rw [hX] at FI;have FQ:=kd (show zea u false [] by simpa using FI);rw [show zhf none = .tuple #[.string ⟨#[]⟩,.bool false] from rfl]
       replace ST:=kd (show Mine w _ [(b,117,[.string (strOfNums sc),.string (strOfNums u.us),.string (strOfNums []),.int .i64 u.po,.slice none 0 0,.slice none 0 0]),(b2,117,ZU6),(b1,117,[.string (strOfNums u.sc),.string (strOfNums u.us),.string (strOfNums u.ho),.int .i64 u.po,.slice A1 u.ps.length c1,.slice A2 u.hs.length c2])] [(fun W=>Rds W W.heap.size A2 (pms u.hs)),(fun W=>Rds W W.heap.size A1 (pms u.ps))] from ST.out.setCell (i:=0) (off:=2) (.string ⟨#[]⟩) rfl rfl)
       clear FI hX;go_wp2_with fail;go_meet;exact ⟨false,[],rfl,FQ,ST⟩
     | some h =>
       rw [hX] at FI;rw [show zhf (some h) = .tuple #[.string (strOfNums h),.bool true] from rfl];go_upto_region 7 with (fail)
       replace ST:=kd (show Mine w _ [(b,117,[.string (strOfNums sc),.string (strOfNums u.us),.string (strOfNums h),.int .i64 u.po,.slice none 0 0,.slice none 0 0]),(b2,117,ZU6),(b1,117,[.string (strOfNums u.sc),.string (strOfNums u.us),.string (strOfNums u.ho),.int .i64 u.po,.slice A1 u.ps.length c1,.slice A2 u.hs.length c2])] [(fun W=>Rds W W.heap.size A2 (pms u.hs)),(fun W=>Rds W W.heap.size A1 (pms u.ps))] from ST.out.setCell (i:=0) (off:=2) (.string (strOfNums h)) rfl rfl)
       clear f2 k2 hX;generalize w3.setCell ⟨b,2,none⟩ (.string (strOfNums h))=w4 at *;have k3:=(ST.out.row (i:=2) rfl).cell 3;have k1:=(ST.out.row (i:=2) rfl).cell 1;simp only [List.getElem?_cons_succ,List.getElem?_cons_zero] at k1 k3
       by_cases p0:0≤u.po
       · have d0:decide (0≤u.po)=true:=by simp [p0]
         by_cases p1:u.po≤65535
         · have d1:decide (u.po≤65535)=true:=by simp [p1]
           have FQ:=kd (show zea u (zc7 u.us) h by rw [d0,d1] at FI;simpa using FI);clear FI p0 p1;go_wp2_with fail;refine (CU.out _).mono ?_;rintro _ _ ⟨rfl,rfl⟩;go_wp2_with fail;go_meet;exact ⟨zc7 u.us,h,rfl,FQ,ST⟩
         · have d1:decide (u.po≤65535)=false:=by simp;omega
           have FQ:=kd (show zea u false h by rw [d1] at FI;simpa using FI);clear FI p0 p1;go_wp2_with fail;go_meet;exact ⟨false,h,rfl,FQ,ST⟩
       · have d0:decide (0≤u.po)=false:=by simp;omega
         have FQ:=kd (show zea u false h by rw [d0] at FI;simpa using FI);clear FI p0;go_wp2_with fail;go_meet;exact ⟨false,h,rfl,FQ,ST⟩
   · rw [decide_eq_false hsip]
     have hns:¬ (lowS u.sc=SIPT∨lowS u.sc=zes):=by rw [ESC.out];exact hsip
     clear hsip HO HG HP HQ1 HQ2 c0 CU
     by_cases htel:sc=TELT
     · have q3:((strOfNums sc).toList == [116,101,108])=true:=HQ3.out.trans (by rw [htel];rfl)
       have FI:=yac (u:=u) (by rw [ESC.out];exact htel);clear htel hns;have k1:=(ST.out.row (i:=2) rfl).cell 1;have k2:=(ST.out.row (i:=2) rfl).cell 2;have k3:=(ST.out.row (i:=2) rfl).cell 3;have k5:=(ST.out.row (i:=2) rfl).cell 5
       simp only [List.getElem?_cons_succ,List.getElem?_cons_zero] at k1 k2 k3 k5
       cases hE:u.ho.isEmpty with
       | false =>
         have q4:((strOfNums u.ho).toList == [])=false:=HEH.out.trans hE;have FQ:=kd (show zea u false [] by rw [hE] at FI;simpa using FI);clear FI hE;go_wp2_with fail;go_meet;exact ⟨false,[],rfl,FQ,ST⟩
       | true =>
         have q4:((strOfNums u.ho).toList == [])=true:=HEH.out.trans hE
         by_cases p0:u.po=0
         · have d0:(u.po == 0)=true:=by simp [p0]
           by_cases p1:u.hs.length=0
           · have d1:((u.hs.length:Int) == 0)=true:=by simp [p1]
             have FQ:=kd (show zea u (zep u.us) [] by rw [hE,decide_eq_true p0,decide_eq_true p1] at FI;simpa using FI);clear FI p0 p1 hE;go_wp2_with fail;refine (DU.out _).mono ?_;rintro _ _ ⟨rfl,rfl⟩;go_wp2_with fail;go_meet;exact ⟨zep u.us,[],rfl,FQ,ST⟩
           · have d1:((u.hs.length:Int) == 0)=false:=by simpa using p1
             have FQ:=kd (show zea u false [] by rw [decide_eq_false p1] at FI;simpa using FI);clear FI p0 p1 hE;go_wp2_with fail;go_meet;exact ⟨false,[],rfl,FQ,ST⟩
         · have d0:(u.po == 0)=false:=by simpa using p0
           have FQ:=kd (show zea u false [] by rw [decide_eq_false p0] at FI;simpa using FI);clear FI p0 hE;go_wp2_with fail;go_meet;exact ⟨false,[],rfl,FQ,ST⟩
     · have q3:((strOfNums sc).toList == [116,101,108])=false:=HQ3.out.trans (by simpa using fun e=>htel e.symm)
       have FQ:=kd (yeb (u:=u) hns (by rw [ESC.out];exact htel));clear htel hns;go_wp2_with fail;go_meet;exact ⟨false,[],rfl,FQ,ST⟩
 case rest =>
 first|(rename_i KK hKK;obtain ⟨fn,ho,rfl,FO,M⟩:=hcut;refine hKK _ _ ?_;clear hKK KK)|obtain ⟨fn,ho,rfl,FO,M⟩:=hcut
 clear ST HO CU DU HQ1 HQ2 HQ3 HEH EH c0 HG HP
 have FO2:=kd (show zdx u=match zeh u.ps 1,zeh u.hs 2 with
  | some ps,some hs=>if fn=true then some ⟨sc,u.us,ho,u.po,ps,hs⟩ else none
  | _,_=>none by rw [← ESC.out];exact FO.out)
 clear FO ESC;have F1b:=kd (F1.out wc (M.out.fact (i:=1) rfl));have k4:=(M.out.row (i:=2) rfl).cell 4;simp only [List.getElem?_cons_succ,List.getElem?_cons_zero] at k4;generalize zeh u.ps 1=R1 at *;generalize zeh u.hs 2=R2 at *;go_wp2_with fail;refine F1b.out.mono ?_;clear F1 F1b
 intro e5 w5 hF5
 have hb5:Below wc.heap.size wc w5:=by
  cases R1 with
  | none=>exact hF5.2
  | some m=>obtain ⟨_,_,h⟩:=hF5;exact h.bw
 have M5:=kd (M.out.call hb5);have HB5:=kd hb5;have F2b:=kd (F2.out w5 (M5.out.fact (i:=0) rfl));have k5:=(M5.out.row (i:=2) rfl).cell 5;simp only [List.getElem?_cons_succ,List.getElem?_cons_zero] at k5;clear F2 k4 hb5
 cases R1 with
 | none =>
   obtain ⟨rfl,_⟩:=hF5;clear HB5;replace M:=M5;clear M5;replace FO2:=kd (show zdx u=none by rw [FO2.out]);go_wp2_with fail;refine F2b.out.mono ?_;intro e6 w6 hF6
   cases R2 with
   | none =>
     obtain ⟨rfl,hb6⟩:=hF6;replace M:=kd (M.out.call hb6);clear F2b k5 hb6
     cases fn
     all_goals
      have E:=kd (show zdx u=none by rw [FO2.out]);have RR:=kd (M.out.row (i:=1) rfl);have MB:=kd M.out.bw;have GE2:=kd (M.out.ge (i:=1) rfl);clear FO2;go_wp2_with (with_reducible refine zav rfl 117 (.tmp 2) (.tmp 89) rfl RR.out ZU6 rfl rfl lenU zcv (ze5 _ _ _ _) ?_);intro w9 R9 G9
      have BW9:=kd (MB.out.grown G9.out MB.out.size (fun k hk=>by cases hk;exact GE2.out));go_wp2_with fail;exact bodyPost_ret (zah rfl _ _ _ b2 ZU6 _ rfl R9.out.range Tryz.underlying117 rfl zcv) rfl (by exact BAD.out _ E.out BW9.out)

   | some m2 =>
     obtain ⟨v6,rfl,hx6⟩:=hF6;replace M:=kd (M.out.call hx6.bw);clear F2b k5 hx6
     cases fn
     all_goals
      have E:=kd (show zdx u=none by rw [FO2.out]);have RR:=kd (M.out.row (i:=1) rfl);have MB:=kd M.out.bw;have GE2:=kd (M.out.ge (i:=1) rfl);clear FO2;go_wp2_with (with_reducible refine zav rfl 117 (.tmp 2) (.tmp 89) rfl RR.out ZU6 rfl rfl lenU zcv (ze5 _ _ _ _) ?_);intro w9 R9 G9
      have BW9:=kd (MB.out.grown G9.out MB.out.size (fun k hk=>by cases hk;exact GE2.out));go_wp2_with fail;exact bodyPost_ret (zah rfl _ _ _ b2 ZU6 _ rfl R9.out.range Tryz.underlying117 rfl zcv) rfl (by exact BAD.out _ E.out BW9.out)

 | some m1 =>
   obtain ⟨v5,rfl,hx5⟩:=hF5;have X5:=kd (hx5.base M.out.bw);clear hx5 HB5;replace M:=M5;clear M5;go_wp2_with fail;refine F2b.out.mono ?_;intro e6 w6 hF6
   cases R2 with
   | none =>
     obtain ⟨rfl,hb6⟩:=hF6;replace M:=kd (M.out.call hb6);replace FO2:=kd (show zdx u=none by rw [FO2.out]);clear F2b k5 hb6 X5
     cases fn
     all_goals
      have E:=kd (show zdx u=none by rw [FO2.out]);have RR:=kd (M.out.row (i:=1) rfl);have MB:=kd M.out.bw;have GE2:=kd (M.out.ge (i:=1) rfl);clear FO2;go_wp2_with (with_reducible refine zav rfl 117 (.tmp 2) (.tmp 89) rfl RR.out ZU6 rfl rfl lenU zcv (ze5 _ _ _ _) ?_);intro w9 R9 G9
      have BW9:=kd (MB.out.grown G9.out MB.out.size (fun k hk=>by cases hk;exact GE2.out));go_wp2_with fail;exact bodyPost_ret (zah rfl _ _ _ b2 ZU6 _ rfl R9.out.range Tryz.underlying117 rfl zcv) rfl (by exact BAD.out _ E.out BW9.out)

   | some m2 =>
     obtain ⟨v6,rfl,hx6⟩:=hF6;have X6:=kd (hx6.base M.out.bw);replace X5:=kd (X5.out.step hx6.bw);replace M:=kd (M.out.call hx6.bw);clear F2b k5 hx6
     cases fn with
     | false =>
       replace FO2:=kd (show zdx u=none by rw [FO2.out];rfl);clear X5 X6;have E:=kd (show zdx u=none by rw [FO2.out]);have RR:=kd (M.out.row (i:=1) rfl);have MB:=kd M.out.bw;have GE2:=kd (M.out.ge (i:=1) rfl);clear FO2
       go_wp2_with (with_reducible refine zav rfl 117 (.tmp 2) (.tmp 89) rfl RR.out ZU6 rfl rfl lenU zcv (ze5 _ _ _ _) ?_);intro w9 R9 G9;have BW9:=kd (MB.out.grown G9.out MB.out.size (fun k hk=>by cases hk;exact GE2.out));go_wp2_with fail
       exact bodyPost_ret (zah rfl _ _ _ b2 ZU6 _ rfl R9.out.range Tryz.underlying117 rfl zcv) rfl (by exact BAD.out _ E.out BW9.out)

     | true =>
       obtain ⟨_,A5,c5,hv5,_⟩:=X5.out.whole;subst hv5;obtain ⟨_,A6,c6,hv6,_⟩:=X6.out.whole;subst hv6;replace FO2:=kd (show zdx u=some ⟨sc,u.us,ho,u.po,m1,m2⟩ by rw [FO2.out];rfl);have k4:=(M.out.row (i:=0) rfl).cell 4;have f4:=(M.out.row (i:=0) rfl).frozen 4
       have k5:=((M.out.row (i:=0) rfl).set 4 (.slice A5 m1.length c5)).cell 5;have f5:=((M.out.row (i:=0) rfl).set 4 (.slice A5 m1.length c5)).frozen 5;simp only [List.getElem?_cons_succ,List.getElem?_cons_zero,List.set_cons_succ,List.set_cons_zero] at k4 k5;go_upto_region 15 with (fail)
       have RB:=kd (M.out.row (i:=0) rfl);have GB:=kd (M.out.ge (i:=0) rfl);have Y5:=kd (zuy (u4 := .slice A5 m1.length c5) (u5 := .slice A6 m2.length c6) X5.out RB.out GB.out);have Y6:=kd (zuy (u4 := .slice A5 m1.length c5) (u5 := .slice A6 m2.length c6) X6.out RB.out GB.out)
       replace M:=kd (show Mine w _ [(b,117,[.string (strOfNums sc),.string (strOfNums u.us),.string (strOfNums ho),.int .i64 u.po,.slice A5 m1.length c5,.slice A6 m2.length c6]),(b2,117,ZU6),(b1,117,[.string (strOfNums u.sc),.string (strOfNums u.us),.string (strOfNums u.ho),.int .i64 u.po,.slice A1 u.ps.length c1,.slice A2 u.hs.length c2])] [(fun W=>Rds W W.heap.size A2 (pms u.hs)),(fun W=>Rds W W.heap.size A1 (pms u.ps))] from (M.out.setCell (i:=0) (off:=4) (.slice A5 m1.length c5) rfl rfl).setCell (i:=0) (off:=5) (.slice A6 m2.length c6) rfl rfl)
       clear k4 f4 k5 f5 X5 X6 RB GB;generalize (w6.setCell ⟨b,4,none⟩ (.slice A5 m1.length c5)).setCell ⟨b,5,none⟩ (.slice A6 m2.length c6)=w7 at *;have RU:=kd (M.out.row (i:=0) rfl);have RR:=kd (M.out.row (i:=1) rfl);have GE2:=kd (M.out.ge (i:=1) rfl)
       go_wp2_with (first
        | (with_reducible refine zab rfl 117 (.tmp 4) rfl RU.out rfl Tryz.underlying117 rfl zcv ?_)
        | (with_reducible refine zav rfl 117 (.tmp 2) (.tmp 94) rfl RR.out [.string (strOfNums sc),.string (strOfNums u.us),.string (strOfNums ho),.int .i64 u.po,.slice A5 m1.length c5,.slice A6 m2.length c6] rfl rfl lenU zcv (ze5 _ _ _ _) ?_))
       intro w9 R9 G9;have Z5:=kd (zq8 Y5.out RR.out GE2.out G9.out);have Z6:=kd (zq8 Y6.out RR.out GE2.out G9.out);go_wp2_with fail
       exact bodyPost_ret (zah rfl _ _ _ b2 [.string (strOfNums sc),.string (strOfNums u.us),.string (strOfNums ho),.int .i64 u.po,.slice A5 m1.length c5,.slice A6 m2.length c6] _ rfl R9.out.range Tryz.underlying117 rfl zcv) rfl (by exact GOOD.out _ _ _ _ _ _ _ _ _ FO2.out Z5.out Z6.out)
end Go.Proofs.YtfnmkedncfdceaaGreatDoor
namespace Go.Proofs
open Go.Shelf
def Tryz.lays169_ren:Go.Shelf.Ren:=⟨fun|169=>206|n=>n,fun|70=>218|9=>9|0=>0|72=>220|37=>29|127=>265|3=>3|5=>5|n=>n,fun|n=>n⟩
theorem Tryz.lays169:Go.Proofs.Lays.n169 Tryz.prog Tryz.lays169_ren:={
 mixed:=by kernel_rfl
 f169:=Tryz.func206.trans (congrArg some (by kernel_rfl))
 t0:=Tryz.underlying0
 a0:=Tryz.isAgg0
 z0:=Tryz.sizeOf0
 v0:=Tryz.zeroValue0
 t3:=Tryz.underlying3
 a3:=Tryz.isAgg3
 z3:=Tryz.sizeOf3
 v3:=Tryz.zeroValue3
 t9:=Tryz.underlying9
 a9:=Tryz.isAgg9
 z9:=Tryz.sizeOf9
 v9:=Tryz.zeroValue9
 t37:=Tryz.underlying29
 a37:=Tryz.isAgg29
 z37:=Tryz.sizeOf29
 v37:=Tryz.zeroValue29
 t70:=Tryz.underlying218
 a70:=Tryz.isAgg218
 z70:=Tryz.sizeOf218
 v70:=Tryz.zeroValue218
 t72:=Tryz.underlying220
 a72:=Tryz.isAgg220
 z72:=Tryz.sizeOf220
 v72:=Tryz.zeroValue220
 t127:=Tryz.underlying265
 a127:=Tryz.isAgg265
 z127:=Tryz.sizeOf265
 v127:=Tryz.zeroValue265 }
theorem Tryz.Builder_Extra_169:Builder.Extra Tryz.prog Tryz.lays169_ren:={
 sizeBuilder:=by kernel_rfl
 liesBuilder:=by kernel_rfl
 t5:=Tryz.underlying5
 a5:=Tryz.isAgg5
 z5:=Tryz.sizeOf5
 v5:=Tryz.zeroValue5
 infoByte:=by kernel_rfl
 cellsByte:=by kernel_rfl
 sizeByte:=by kernel_rfl
 neB5:=by decide }
open Go.RowKit in
theorem Tryz.Builder_String_any (B b:Nat) (l:List UInt8) (w:World) (h:Lib.IsBuilder 220 5 B b (Lib.byteCells l) w) (hBw:B≤w.heap.size) :
  Calls Tryz.prog 206 #[.pointer (some ⟨b,0,none⟩)] w fun e w'=>e = .returned (.string ⟨l.toArray⟩)∧Below B w w':=Any.Builder_String_any Tryz.lays169 Tryz.Builder_Extra_169 B b l w h hBw
end Go.Proofs
namespace Go.Proofs.YtfnmkedncfdceaaGreatDoor
open Go.RowKit

structure BdR (w:World) (b:Nat) (xs:List Int) (K:List Blk) (wr:World):Prop where
 row:∃ p v,(p = .pointer none∨p = .pointer (some ⟨b,0,none⟩))∧Row wr b 220 [p,v]∧OX w v xs wr
 ge:w.heap.size≤b
 k:∀ r∈K,Row wr r.1 r.2.1 r.2.2∧r.2.1≠5∧r.1≠b
section
variable {w wr w' : World} {b : Nat} {xs : List Int} {K : List Blk}
theorem BdR.bw (h:BdR w b xs K wr):Below w.heap.size w wr:=by
 obtain ⟨_,_,_,_,h2⟩:=h.row;exact h2.bw
theorem BdR.call (h:BdR w b xs K wr) (hb:Below wr.heap.size wr w'):BdR w b xs K w':=by
 obtain ⟨p,v,h1,h2,h3⟩:=h.row;exact ⟨⟨p,v,h1,h2.below hb,h3.step hb⟩,h.ge,fun r hr=>⟨(h.k r hr).1.below hb,(h.k r hr).2⟩⟩
theorem BdR.new (w0 w:World) (K:List Blk) (hb:Below w0.heap.size w0 w) (hK:∀ r∈K,Row w r.1 r.2.1 r.2.2∧r.2.1≠5):BdR w0 w.heap.size [] K (w.alloc (.cells #[.pointer none,.slice none 0 0] 220)):=by
 have ha:Below w.heap.size w (w.alloc (.cells #[.pointer none,.slice none 0 0] 220)):=zBr.alloc zNr _
 exact ⟨⟨.pointer none,.slice none 0 0,.inl rfl,Row.new w 220 [.pointer none,.slice none 0 0],⟨World.ownsRow_nil _ _ _ _,zao hb ha⟩⟩,hb.size,fun r hr=>⟨(hK r hr).1.below ha,(hK r hr).2,fun e=>by have:=(hK r hr).1.lt;omega⟩⟩
theorem BdR.lt (h:BdR w b xs K wr):b<wr.heap.size:=by
 obtain ⟨_,_,_,h2,_⟩:=h.row;exact h2.lt
theorem BdR.add (h:BdR w b xs K wr) {g:Nat} {T:TypeId} {us:List Value} (hr:Row wr g T us) (ht:T≠5) (hg:g≠b):BdR w b xs ((g,T,us)::K) wr:=⟨h.row,h.ge,fun r hm=>by
 rcases List.mem_cons.1 hm with rfl|hm
 · exact ⟨hr,ht,hg⟩
 · exact h.k r hm⟩
theorem BdR.alloc (h:BdR w b xs K wr) (T:TypeId) (us:List Value) (ht:T≠5):BdR w b xs ((wr.heap.size,T,us)::K) (wr.alloc (.cells us.toArray T)):=
 (h.call (zBr.alloc zNr _)).add (Row.new wr T us) ht (fun e=>by have:=h.lt;omega)
theorem BdR.tail {r:Blk} (h:BdR w b xs (r::K) wr):BdR w b xs K wr:=⟨h.row,h.ge,fun x hx=>h.k x (List.mem_cons_of_mem _ hx)⟩
theorem BdR.at {i g:Nat} {T:TypeId} {us:List Value} (h:BdR w b xs K wr) (hi:K[i]? = some (g,T,us)):Row wr g T us:=(h.k _ (List.mem_of_getElem? hi)).1
theorem BdR.is (h:BdR w b xs K wr):Lib.IsBuilder 220 5 w.heap.size b (U8 xs) wr:=by
 obtain ⟨p,v,h1,h2,h3⟩:=h.row
 have hl:(U8 xs).length=xs.length:=by simp [U8]
 have hne:v.ownBlock≠some b:=fun e=>h3.ne h2 (by decide) b e rfl
 have h4:wr.ownsRow w.heap.size 5 1 v (U8 xs).length (U8 xs):=by rw [hl];exact h3.o
 rcases h1 with rfl|rfl
 · exact .inl ⟨h.ge,v,h2,h4,hne⟩
 · exact .inr ⟨h.ge,v,h2,h4,hne⟩
end
theorem zpt (s:ByteArray):Lib.strCells s=U8 (zaa s):=by
 unfold Lib.strCells U8 zaa;rw [List.map_map];rfl
theorem zo9 (l:List UInt8):Lib.byteCells l=U8 (bl l):=by
 unfold Lib.byteCells U8 bl;rw [List.map_map];rfl
theorem sizeBd:(Tryz.prog.info? 220).map (·.size)=some 2:=by kernel_rfl
theorem liesBd:liesAt Tryz.prog Tryz.prog.depth 220 (2 / Tryz.prog.cellsOf 220) 0 220 1=true:=by kernel_rfl
theorem Row.shape {w:World} {b:Nat} {T:TypeId} {us:List Value} (h:Row w b T us):w.shape? b=some (T,us.length):=by
 unfold Row at h;simp [World.shape?,h]
theorem zhk (w wr:World) (b:Nat) (xs:List Int) (K:List Blk) (H:BdR w b xs K wr) :
  Calls Tryz.prog 262 #[.pointer (some ⟨b,0,none⟩)] wr fun e w'=>e = .returned (.tuple #[])∧BdR w b xs K w'∧∃ v,Row w' b 220 [.pointer (some ⟨b,0,none⟩),v]∧OX w v xs w':=by
 obtain ⟨p,v,h1,h2,h3⟩:=H.row;obtain ⟨j,hj,hjs⟩:=Option.map_eq_some_iff.1 sizeBd;have c0:wr.cell? ⟨b,0,none⟩=some p:=h2.cell 0;have f0:wr.frozen? ⟨b,0,none⟩=false:=h2.frozen 0;have hsh:wr.shape? b=some (220,2):=h2.shape
 rcases h1 with rfl|rfl
 · have R:Row (wr.setCell ⟨b,0,none⟩ (.pointer (some ⟨b,0,none⟩))) b 220 [.pointer (some ⟨b,0,none⟩),v]:=h2.set 0 _
   have O:OX w v xs (wr.setCell ⟨b,0,none⟩ (.pointer (some ⟨b,0,none⟩))):=h3.put H.ge (h3.ne h2 (by decide))
   have PN:BdR w b xs K (wr.setCell ⟨b,0,none⟩ (.pointer (some ⟨b,0,none⟩))):=⟨⟨_,_,.inr rfl,R,O⟩,H.ge,fun r hr=>⟨(H.k r hr).1.setOther (Ne.symm (H.k r hr).2.2) _,(H.k r hr).2⟩⟩
   have HE:=kd (show ∃ v,Row (wr.setCell ⟨b,0,none⟩ (.pointer (some ⟨b,0,none⟩))) b 220 [.pointer (some ⟨b,0,none⟩),v]∧OX w v xs (wr.setCell ⟨b,0,none⟩ (.pointer (some ⟨b,0,none⟩))) from ⟨v,R,O⟩);have HP:=kd PN;clear R O PN h2 h3 H
   go_enter Tryz.func262,Tryz.ntmps262
   go_wp2_with fail;rw [Lib.run_to_unsafe wr ⟨b,0,none⟩ Tryz.underlying218 Tryz.underlying284 hj (by rw [hjs];decide) hsh (Nat.zero_lt_succ 1)];simp only [Result.andThen];rw [Oper.upon_value];go_wp2_with fail
   rw [run_callFunc_extern Tryz.func299 (by kernel_rfl) (by kernel_rfl) (by kernel_rfl) (e:=Extern.AbiNoEscape.same) (by kernel_rfl)];rw [Lib.run_noEscape];simp only [Result.andThen];rw [Oper.upon_value];go_wp2_with fail
   rw [Lib.run_from_unsafe wr ⟨b,0,none⟩ Tryz.underlying284 Tryz.underlying218 hj hsh liesBd];simp only [Result.andThen];rw [Oper.upon_value];go_wp2_with fail
   first|exact ⟨rfl,HP.out,HE.out⟩|(go_ret;exact ⟨rfl,HP.out,HE.out⟩)|(go_end0;exact ⟨rfl,HP.out,HE.out⟩)
 · have HP:=kd H
   have HE:=kd (show ∃ v,Row wr b 220 [.pointer (some ⟨b,0,none⟩),v]∧OX w v xs wr from ⟨v,h2,h3⟩);clear h2 h3 H
   go_enter Tryz.func262,Tryz.ntmps262
   go_wp2_with fail;rw [Lib.run_neq_ptr_same wr _ Tryz.underlying218 hj];go_wp2_with fail
   first|exact ⟨rfl,HP.out,HE.out⟩|(go_ret;exact ⟨rfl,HP.out,HE.out⟩)|(go_end0;exact ⟨rfl,HP.out,HE.out⟩)
theorem BdR.grown {w wr w2:World} {b:Nat} {xs ys:List Int} {K:List Blk} {p v v':Value} (H:BdR w b xs K wr) (hr:Row wr b 220 [p,v]) (ho:OX w v xs wr) (h2:w2.ownsRow w.heap.size 5 1 v' ys.length (U8 ys)) (hg:wr.grownBy w2 v.ownBlock) :
  Row w2 b 220 [p,v]∧OX w v' ys w2∧∀ r∈K,Row w2 r.1 r.2.1 r.2.2∧r.2.1≠5∧r.1≠b:=by
 refine ⟨hr.heap (hg.block b hr.lt (fun e=>ho.ne hr (by decide) b e.symm rfl)),⟨h2,ho.bw.grown hg ho.bw.size (zb8 ho.o)⟩,fun r hm => ?_⟩;obtain ⟨k1,k2,k3⟩:=H.k r hm;exact ⟨k1.heap (hg.block r.1 k1.lt (fun e=>ho.ne k1 k2 r.1 e.symm rfl)),k2,k3⟩
theorem zuh (w wr:World) (b:Nat) (xs:List Int) (K:List Blk) (s:ByteArray) (H:BdR w b xs K wr) (hl:xs.length+s.size≤4000000000) :
  Calls Tryz.prog 203 #[.pointer (some ⟨b,0,none⟩),.string s] wr fun e w'=>e = .returned (.tuple #[.int .i64 s.size,.nilIface])∧BdR w b (xs++zaa s) K w':=by
 obtain ⟨i,hi,hz,hsz,hbt⟩:=zw0
 go_enter Tryz.func203,Tryz.ntmps203
 go_wp2_with fail;refine (zhk w wr b xs K H).mono ?_;rintro e w1 ⟨rfl,HP,v,hr,ho⟩;have c1:w1.cell? ⟨b,1,none⟩=some v:=hr.cell 1
 go_wp2_with (refine Lib.wpList_append_own_string _ rfl (.tmp 12) (.tmp 13) 29 9 rfl w.heap.size 5 i Tryz.underlying29 Tryz.underlying9 hi hz hsz hbt v xs.length (U8 xs) rfl ho.o s rfl ?c3 ?c4 ?c5 ?_)
 case c3=>unfold maxLen;omega
 case c4=>omega
 case c5=>exact ho.bw.size
 intro v' w2 h2 hg _;obtain ⟨k1,k2,k3⟩:=HP.grown (v':=v') (ys:=xs++zaa s) hr ho (by rw [List.length_append,zac,show U8 (xs++zaa s)=U8 xs++Lib.strCells s by rw [zpt];simp [U8]];exact h2) hg;have d1:w2.cell? ⟨b,1,none⟩=some v:=k1.cell 1
 have f1:w2.frozen? ⟨b,1,none⟩=false:=k1.frozen 1
 obtain ⟨ao,n',cap,rfl⟩:∃ ao n' cap,v' = .slice ao n' cap:=by
  rcases h2.2 with ⟨hv,_⟩|⟨g,cap,cur,hv,_⟩
  · exact ⟨_,_,_,hv⟩
  · exact ⟨_,_,_,hv⟩
 have HR:=kd (show BdR w b (xs++zaa s) K (w2.setCell ⟨b,1,none⟩ (.slice ao n' cap)) from ⟨⟨_,_,.inr rfl,k1.set 1 _,k2.put H.ge (k2.ne k1 (by decide))⟩,H.ge,fun r hm=>⟨(k3 r hm).1.setOther (Ne.symm (k3 r hm).2.2) _,(k3 r hm).2⟩⟩);clear k1 k2 k3 h2 hg;go_wp2_with fail
 go_ret2
 exact ⟨rfl,HR.out⟩
theorem zpf (w wr:World) (b:Nat) (xs:List Int) (K:List Blk) (c:Int) (H:BdR w b xs K wr) (hl:xs.length+1≤4000000000) :
  Calls Tryz.prog 205 #[.pointer (some ⟨b,0,none⟩),.int .u8 c] wr fun e w'=>e = .returned .nilIface∧BdR w b (xs++[c]) K w':=by
 obtain ⟨i,hi,hz,hsz,hbt⟩:=zw0
 go_enter Tryz.func205,Tryz.ntmps205
 go_wp2_with fail;refine (zhk w wr b xs K H).mono ?_;rintro e w1 ⟨rfl,HP,v,hr,ho⟩;have c1:w1.cell? ⟨b,1,none⟩=some v:=hr.cell 1;have ha:Below w1.heap.size w1 (w1.alloc (.cells #[.int .u8 c] 5)):=zBr.alloc zNr _
 go_wp2_with (refine wpList_append_own_at _ rfl (.tmp 11) (.tmp 13) 29 rfl w.heap.size 5 i (.int .u8 0) 1 1 Tryz.underlying29 hi hz hsz hbt rfl (by omega) v xs.length (U8 xs) rfl (ho.o.alloc _) ⟨w1.heap.size,0,none⟩ 1 1 [.int .u8 c] rfl rfl ?c1 ?c2 ?c3 ?c4 ?c5 ?_)
 case c1 =>
  intro j u hj
  match j,hj with
  | 0,hj=>simp at hj;subst hj;simp [Addr.add]
 case c2=>intro u hu;simp at hu;subst hu;rfl
 case c3=>unfold maxLen;omega
 case c4=>omega
 case c5=>have:=ho.bw.size;simp;omega
 intro v' w2 h2 hg _ _;obtain ⟨k1,k2,k3⟩:=(HP.call ha).grown (v':=v') (ys:=xs++[c]) (hr.below ha) (ho.step ha) (by rw [List.length_append,show U8 (xs++[c])=U8 xs++[.int .u8 c] by simp [U8]];exact h2) hg;have d1:w2.cell? ⟨b,1,none⟩=some v:=k1.cell 1
 have f1:w2.frozen? ⟨b,1,none⟩=false:=k1.frozen 1
 obtain ⟨ao,n',cap,rfl⟩:∃ ao n' cap,v' = .slice ao n' cap:=by
  rcases h2.2 with ⟨hv,_⟩|⟨g,cap,cur,hv,_⟩
  · exact ⟨_,_,_,hv⟩
  · exact ⟨_,_,_,hv⟩
 have HR:=kd (show BdR w b (xs++[c]) K (w2.setCell ⟨b,1,none⟩ (.slice ao n' cap)) from ⟨⟨_,_,.inr rfl,k1.set 1 _,k2.put H.ge (k2.ne k1 (by decide))⟩,H.ge,fun r hm=>⟨(k3 r hm).1.setOther (Ne.symm (k3 r hm).2.2) _,(k3 r hm).2⟩⟩);clear k1 k2 k3 h2 hg;go_wp2_with fail
 first|exact ⟨rfl,HR.out⟩|(go_ret;exact ⟨rfl,HR.out⟩)
theorem zq2 (w wr:World) (b:Nat) (xs:List Int) (K:List Blk) (H:BdR w b xs K wr) (hx:By xs) :
  Calls Tryz.prog 206 #[.pointer (some ⟨b,0,none⟩)] wr fun e w'=>e = .returned (.string (strOfNums xs))∧Below w.heap.size w w':=by
 have hs:xs=bl (strOfNums xs).data.toList:=(zi3 hx).symm;have hi:=H.is;rw [hs,← zo9] at hi;refine (Tryz.Builder_String_any w.heap.size b _ wr hi H.bw.size).mono fun e w' h=>⟨by rw [h.1],H.bw.trans h.2⟩
end Go.Proofs.YtfnmkedncfdceaaGreatDoor
