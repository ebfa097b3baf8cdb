/- Plain: what a parameter list holds. And what stands behind it. -/
import Derived.Test.YtfnmkedncfdceaaGreatDoorVc
set_option linter.unusedVariables false
set_option linter.unusedSimpArgs false
set_option maxRecDepth 100000
set_option maxHeartbeats 2000000
namespace Go.Proofs.YtfnmkedncfdceaaGreatDoor
open Go.RowKit

theorem zzt (l:List (List Int)):(zbj [58] l).length+1≤(l.map (fun p=>p.length+1)).sum+1∧(l≠[]→(zbj [58] l).length+1=(l.map (fun p=>p.length+1)).sum):=by
 induction l with
 | nil=>exact ⟨by rw [zdy];simp,fun h=>absurd rfl h⟩
 | cons p r ih =>
   cases r with
   | nil=>rw [zc2];exact ⟨by simp,fun _=>by simp⟩
   | cons q r =>
     have h:=ih.2 (by simp)
     have:(zbj [58] (p::q::r)).length+1=((p::q::r).map (fun p=>p.length+1)).sum:=by
      rw [zch,List.length_append,List.length_append,List.map_cons,List.sum_cons,← h,List.length_singleton];omega
     exact ⟨by omega,fun _=>this⟩
theorem yd6 {g:List Int} (h:1≤g.length):(grpN g).length≤g.length:=by
 rw [yd7]
 split
 · simpa using h
 · exact Nat.le_trans (List.dropWhile_sublist _).length_le (by rw [zbo];exact Nat.le_refl _)
theorem zyv {l:List (List Int)} {f:List Int→List Int} (h:∀ p∈l,(f p).length≤p.length):((l.map f).map (fun p=>p.length+1)).sum≤(l.map (fun p=>p.length+1)).sum:=by
 induction l with
 | nil=>exact Nat.le_refl _
 | cons p l ih =>
   have h1:=h p (by simp);have h2:=ih fun q hq=>h q (List.mem_cons_of_mem _ hq);simp only [List.map_cons,List.sum_cons] at h2 ⊢;omega
theorem zgo {s:List Int} {l:List (List Int)} (h:zcz s=some l):(zbj [58] l).length≤s.length:=by
 unfold zcz at h
 split at h
 · injection h with h;subst h;rw [zdy];simp
 · unfold grpL at h
   split at h
   · rename_i h1
     injection h with h
     subst h;have h2:=zyv (l:=cutL 58 s) (f:=grpN) fun p hp=>yd6 (zct.1 (List.all_eq_true.1 h1 p hp)).1.1;rw [zky] at h2
     have h3:=(zzt ((cutL 58 s).map grpN)).2 (by
      intro e;have:=zky 58 s;rw [List.map_eq_nil_iff.1 e] at this
      simp at this)
     omega
   · cases h
theorem zm1 {s h:List Int} (hh:zb3 s=some h):h.length≤s.length:=by
 unfold zb3 at hh
 split at hh
 · rename_i hb
   rw [Option.map_eq_some_iff] at hh;obtain ⟨g,hg,e⟩:=hh;subst e;rw [← zy0] at hg
   have hl:(subL s 1 (s.length - 1)).length=s.length - 2:=by rw [zdr (by omega)];omega
   have:g.length≤(subL s 1 (s.length - 1)).length:=by
    generalize subL s 1 (s.length - 1)=z at hg;unfold yc0 at hg
    cases hd:dblL z with
    | some p =>
      rw [hd] at hg;dsimp only at hg
      cases hx:zcz p.1 with
      | none=>rw [hx] at hg;cases hg
      | some x =>
        cases hy:zcz p.2 with
        | none=>rw [hx,hy] at hg;cases hg
        | some y =>
          rw [hx,hy] at hg;dsimp only at hg
          split at hg
          · cases hg
          · injection hg with hg
            subst hg;have h1:=zgo hx;have h2:=zgo hy;have h3:=zqv hd;simp only [List.length_append,List.length_cons,List.length_nil];omega
    | none =>
      rw [hd] at hg;dsimp only at hg
      cases hx:zcz z with
      | none=>rw [hx] at hg;cases hg
      | some l =>
        rw [hx] at hg;dsimp only at hg
        split at hg
        · injection hg with hg
          subst hg;exact zgo hx
        · cases hg
   simp only [List.length_append,List.length_cons,List.length_nil];omega
 · split at hh
   · injection hh with hh;subst hh;exact Nat.le_refl _
   · split at hh
     · injection hh with hh;subst hh;rw [zbo];exact Nat.le_refl _
     · cases hh
theorem zly {xs h:List Int} {a:Nat} (ha:a<xs.length) (h91:xs.getD a 0=91) (hh:zb3 (subL xs a (min (zaj xs a [93]+1) xs.length))=some h):zaj xs a [93]+1≤xs.length∧a<zaj xs a [93]+1:=by
 obtain ⟨u1,u2⟩:=zbf (xs:=xs) (a:=a) (st:=[93]) (by omega);refine ⟨?_,by omega⟩
 by_cases hu:zaj xs a [93]+1≤xs.length
 · exact hu
 exfalso
 have hm:min (zaj xs a [93]+1) xs.length=xs.length:=by omega
 rw [hm] at hh
 have h93:∀ c∈subL xs a xs.length,c≠93:=fun c hc=>by
  have he:zaj xs a [93]=xs.length:=by omega
  unfold zaj zag at he
  have hl:((xs.drop a).takeWhile fun c => !([93]:List Int).contains c).length=(xs.drop a).length:=by rw [List.length_drop];omega
  have ht:=(List.takeWhile_sublist (fun c => !([93]:List Int).contains c) (l:=xs.drop a)).eq_of_length hl;have ha2:((xs.drop a).takeWhile fun c => !([93]:List Int).contains c).all (fun c => !([93]:List Int).contains c)=true:=List.all_takeWhile;rw [ht] at ha2
  have hc2:c∈xs.drop a:=by unfold subL at hc;exact List.mem_of_mem_take hc
  have:=List.all_eq_true.1 ha2 c hc2;intro e;subst e;simp at this
 have hhd:(subL xs a xs.length).getD 0 0=91:=by
  unfold subL;rw [za7 xs ha,h91,List.take_cons (by omega)]
  rfl
 have h91m:(91:Int)∈subL xs a xs.length:=by
  rw [← hhd];refine zbg ?_;rw [zdr zNr];omega
 generalize subL xs a xs.length=z at *;unfold zb3 at hh
 split at hh
 · rename_i hb
   exact h93 _ (zbg (l:=z) (i:=z.length - 1) (by omega)) hb.2.2
 · split at hh
   · rename_i hn
     exact (zfe (zg7 hn _ h91m)).2.2.2.2.1 rfl
   · split at hh
     · rename_i hn
       exact (zfe (zgr hn _ h91m)).2.2.2.2.1 rfl
     · cases hh
theorem zib {X:List Int} {a a':Nat} {p:Pm} (hX:By X) (ha:a≤X.length) (h:zd3 X a = .ok (p,a')):By p.n∧By p.v∧p.n.length≤X.length∧p.v.length≤X.length∧a<a'∧a'≤X.length:=by
 obtain ⟨e1,he1⟩:∃ k,zag zbp X a=k:=⟨_,rfl⟩;obtain ⟨a1,ha1⟩:∃ k,zag isBlank X e1=k:=⟨_,rfl⟩;obtain ⟨a2,ha2⟩:∃ k,zag isBlank X (a1+1)=k:=⟨_,rfl⟩;obtain ⟨e3,he3⟩:∃ k,zag zbp X a2=k:=⟨_,rfl⟩;rw [zic he1 ha1 ha2,he3] at h
 have ae1:a≤e1:=by rw [← he1];exact zcp _ _ _
 have e1s:e1≤X.length:=by rw [← he1];exact za5 ha
 have e1a1:e1≤a1:=by rw [← ha1];exact zcp _ _ _
 have a1s:a1≤X.length:=by rw [← ha1];exact za5 e1s
 have nB:By (lowS (subL X a e1)):=zcr (hX.sub (zbk X a e1))
 have nL:(lowS (subL X a e1)).length≤X.length:=by rw [zbo,zdr e1s];omega
 split at h
 · cases h
 rename_i h0
 split at h
 · injection h with h
   injection h with h1 h2
   subst h1;subst h2;exact ⟨nB,fun x hx=>(by cases hx),nL,Nat.zero_le _,by omega,a1s⟩
 rename_i h1;have h1':a1<X.length:=(zgk h1).1
 have a2g:a1+1≤a2:=by rw [← ha2];exact zcp _ _ _
 have a2s:a2≤X.length:=by rw [← ha2];exact za5 h1'
 split at h
 · split at h
   · cases h
   · rename_i h3
     injection h with h
     injection h with h4 h5
     subst h4;subst h5;obtain ⟨q1,q2⟩:=zgm a2s;have q3:=q2 (Classical.not_not.1 h3);obtain ⟨q4,q5⟩:=zu6 X (a2:Nat);exact ⟨nB,fun x hx=>hX x (q4 x hx),nL,q5,by omega,q1⟩
 · split at h
   · rename_i h91
     cases hh:zb3 (subL X a2 (min (zaj X a2 [93]+1) X.length)) with
     | none=>rw [hh] at h;cases h
     | some hv =>
       rw [hh] at h;dsimp only at h
       injection h with h
       injection h with h4 h5
       subst h4;subst h5;have hat:=zgk (xs:=X) (a:=a2) (c:=91) (by rw [h91];decide);obtain ⟨c1,c2⟩:=zly hat.1 hat.2 hh;have hl:=zm1 hh;have hl2:hv.length≤X.length:=Nat.le_trans hl (zbk _ _ _).length_le;exact ⟨nB,zqi hh (hX.sub (zbk _ _ _)),nL,hl2,by omega,c1⟩
   · split at h
     · cases h
     · injection h with h
       injection h with h4 h5
       subst h4;subst h5
       have e3g:a2≤e3:=by rw [← he3];exact zcp _ _ _
       have e3s:e3≤X.length:=by rw [← he3];exact za5 a2s
       exact ⟨nB,hX.sub (zbk X a2 e3),nL,by rw [zdr e3s];omega,by omega,e3s⟩
theorem zgt {X:List Int} {a z:Nat} {k:Int} (ha:a≤X.length) (h:zd3 X a = .error (z,k)):k≠0∧z≤X.length:=by
 rw [zic rfl rfl rfl] at h;have e1s:zag zbp X a≤X.length:=za5 ha;have a1s:zag isBlank X (zag zbp X a)≤X.length:=za5 e1s
 split at h
 · injection h with h;injection h with h1 h2;subst h2;subst h1;exact ⟨by decide,e1s⟩
 split at h
 · cases h
 rename_i h61;have a2s:zag isBlank X (zag isBlank X (zag zbp X a)+1)≤X.length:=za5 (zgk h61).1
 split at h
 · split at h
   · rename_i h3
     injection h with h;injection h with h1 h2;subst h2;subst h1;exact ⟨h3,(zgm a2s).1⟩
   · cases h
 · split at h
   · cases hh:zb3 (subL X (zag isBlank X (zag isBlank X (zag zbp X a)+1)) (min (zaj X (zag isBlank X (zag isBlank X (zag zbp X a)+1)) [93]+1) X.length)) with
     | none=>rw [hh] at h;dsimp only at h;injection h with h;injection h with h1 h2;subst h2;subst h1;exact ⟨by decide,a2s⟩
     | some hv=>rw [hh] at h;cases h
   · split at h
     · injection h with h;injection h with h1 h2;subst h2;subst h1;exact ⟨by decide,a2s⟩
     · cases h
theorem zmt {X:List Int} (hX:By X):∀ (f a:Nat) (l:List Pm),a≤X.length→l.length≤16→(∀ p∈l,By p.n∧By p.v)→match zfw X f a l with
  | .ok m=>m.length≤16∧∀ p∈m,By p.n∧By p.v
  | .error e=>e.1≤X.length∧e.2≠0
 | 0,a,l,_,hl,hb=>⟨hl,hb⟩
 | f+1,a,l,ha,hl,hb=>by
   rw [zg6 rfl rfl];have a0s:zag isBlank X a≤X.length:=za5 ha
   by_cases h1:X.length≤zag isBlank X a
   · rw [if_pos h1];exact ⟨hl,hb⟩
   rw [if_neg h1]
   by_cases h2:X.getD (zag isBlank X a) 0≠59
   · rw [if_pos h2];exact ⟨a0s,show (5:Int)≠0 by decide⟩
   rw [if_neg h2];have a1s:zag isBlank X (zag isBlank X a+1)≤X.length:=za5 (by omega)
   cases hr:zd3 X (zag isBlank X (zag isBlank X a+1)) with
   | error e=>exact ⟨(zgt a1s hr).2,(zgt a1s hr).1⟩
   | ok q =>
     obtain ⟨p,a2⟩:=q;dsimp only;obtain ⟨b1,b2,_,_,_,b6⟩:=zib hX a1s hr
     by_cases hroom:zbz l p.n≠0
     · rw [if_pos hroom];exact ⟨a1s,hroom⟩
     · rw [if_neg hroom]
       have h16:l.length<16:=by
        unfold zbz at hroom
        split at hroom
        · simp at hroom
        · split at hroom
          · simp at hroom
          · omega
       refine zmt hX f a2 (l++[p]) b6 (by simp;omega) fun q hq => ?_
       rcases List.mem_append.1 hq with hq|hq
       · exact hb q hq
       · rw [List.mem_singleton] at hq;subst hq;exact ⟨b1,b2⟩

theorem zk3 {X:List Int} {i:Nat} {c:Int}:atL X i c=true ↔ (i<X.length∧X.getD i 0=c):=by
 unfold atL;rw [Bool.and_eq_true,decide_eq_true_iff,beq_iff_eq]
theorem ybz {X:List Int} {i:Nat} {c:Int}:atL X i c=false ↔ ¬ (i<X.length∧X.getD i 0=c):=by
 rw [← zk3];simp
theorem zqd {X:List Int} {a e1 a1 a2 e3:Nat} (h1:zag zbp X a=e1) (h2:zag isBlank X e1=a1) (h3:zag isBlank X (a1+1)=a2) (h4:zag zbp X a2=e3):zd3 X a =
  if e1=a then .error (e1,5)
  else if ¬ (a1<X.length∧X.getD a1 0=61) then .ok (⟨lowS (subL X a e1),[],false⟩,a1)
  else if a2<X.length∧X.getD a2 0=34 then (if (unq X (a2:Nat)).2.2≠0 then .error ((unq X (a2:Nat)).2.1,(unq X (a2:Nat)).2.2) else .ok (⟨lowS (subL X a e1),(unq X (a2:Nat)).1,true⟩,(unq X (a2:Nat)).2.1))
  else if a2<X.length∧X.getD a2 0=91 then
   (match zb3 (subL X a2 (min (zaj X a2 [93]+1) X.length)) with
   | none => .error (a2,5)
   | some h => .ok (⟨lowS (subL X a e1),h,true⟩,zaj X a2 [93]+1))
  else if e3=a2 then .error (a2,5) else .ok (⟨lowS (subL X a e1),subL X a2 e3,true⟩,e3):=by
 rw [zic h1 h2 h3,h4]
 by_cases c0:e1=a
 · rw [if_pos c0,if_pos c0]
 rw [if_neg c0,if_neg c0]
 by_cases c1:a1<X.length∧X.getD a1 0=61
 · rw [if_neg (show ¬ (atL X a1 61=false) from fun h=>ybz.1 h c1),if_neg (show ¬ ¬ (a1<X.length∧X.getD a1 0=61) from fun h=>h c1)]
   by_cases c2:a2<X.length∧X.getD a2 0=34
   · rw [if_pos (zk3.2 c2),if_pos c2]
   · rw [if_neg (fun h=>c2 (zk3.1 h)),if_neg c2]
     by_cases c3:a2<X.length∧X.getD a2 0=91
     · rw [if_pos (zk3.2 c3),if_pos c3];rfl
     · rw [if_neg (fun h=>c3 (zk3.1 h)),if_neg c3]
 · rw [if_pos (ybz.2 c1),if_pos c1]
theorem zqc (w0 w:World) (b a:Nat) (s:ByteArray) (h:Row w b 148 [.string s,.int .i64 a]) (ha:a≤s.size) (hs:s.size≤4000000) (hb0:Below w0.heap.size w0 w) (hge:w0.heap.size≤b) (hG:GM w0) (hP:PT w0) :
  Calls Tryz.prog 170 #[.pointer (some ⟨b,0,none⟩)] w (zio w b s (zd3 (zaa s) a)):=by
 have HL:=kd (zac s);have HBY:=kd (zas s);have hbl:=h.lt;obtain ⟨e1,he1⟩:∃ k,zag zbp (zaa s) a=k:=⟨_,rfl⟩;obtain ⟨a1,ha1⟩:∃ k,zag isBlank (zaa s) e1=k:=⟨_,rfl⟩;obtain ⟨a2,ha2⟩:∃ k,zag isBlank (zaa s) (a1+1)=k:=⟨_,rfl⟩
 obtain ⟨e3,he3⟩:∃ k,zag zbp (zaa s) a2=k:=⟨_,rfl⟩;have LE:=kd (zqd he1 ha1 ha2 he3)
 have ae1:a≤e1:=by rw [← he1];exact zcp _ _ _
 have e1s:e1≤s.size:=by rw [← he1,← zac s];exact za5 (by rw [zac];exact ha)
 have a1s:a1≤s.size:=by rw [← ha1,← zac s];exact za5 (by rw [zac];exact e1s)
 have A2S:=kd (show a1<s.size→a2≤s.size from fun h=>by rw [← ha2,← zac s];exact za5 (by rw [zac];omega));have AE3:=kd (show a2≤e3 by rw [← he3];exact zcp _ _ _);have E3S:=kd (show a2≤s.size→e3≤s.size from fun h=>by rw [← he3,← zac s];exact za5 (by rw [zac];exact h))
 have TE:=kd (show (lowS (subL (zaa s) a e1)).isEmpty=decide (e1=a) by rw [ztm,zf5 (by rw [zac];exact e1s) ae1]);have TBY:=kd (zal (HBY.out.sub (zbk (zaa s) a e1)));have TLN:=kd (show (subL (zaa s) a e1).length≤4000000 by rw [zdr (by rw [zac];exact e1s)];omega)
 have TOK:=kd (fun w a e h1 h2 (h3:zag zbp (zaa s) a=e)=>show Calls Tryz.prog 229 #[.pointer (some ⟨b,0,none⟩)] w fun r w'=>r = .returned (.string (strOfNums (subL (zaa s) a e)))∧CG w b s e w' by subst h3;exact zi0 w b a s h1 h2 hs)
 have BLK:=kd (fun w a e h1 h2 (h3:zag isBlank (zaa s) a=e)=>show Calls Tryz.prog 169 #[.pointer (some ⟨b,0,none⟩)] w fun r w'=>r = .returned (.tuple #[])∧CG w b s e w' by subst h3;exact zdj w b a s h1 h2 hs);have SEE:=kd (fun w a c h1=>zb4 w b a c s h1)
 have UNQ:=kd (fun (i:Nat) U w h1 h2=>zjp s i U w h1 h2 hs);have VE:=kd (fun (hv:a2≤s.size)=>show (subL (zaa s) a2 e3).isEmpty=decide (e3=a2) from zf5 (by rw [zac];exact E3S.out hv) AE3.out);have HE1:=kd he1;have HA1:=kd ha1;have HA2:=kd ha2;have HE3:=kd he3
 clear he1 ha1 ha2 he3
 have HGP:=kd (fun W (g:w.grownBy W (some b))=>show GM W∧PT W from by
  have h:=hb0.grown g hb0.size (fun k hk=>by cases hk;exact hge)
  exact ⟨hG.below h,hP.below h⟩)
 have HOS:=kd (fun (i j:Nat) W (hg:GM W) (hp:PT W)=>show Calls Tryz.prog 116 #[.string (s.extract i j)] W fun e w'=>e = .returned (zhf (zb3 (subL (zaa s) i j)))∧Below W.heap.size W w' by
  have ZS:(s.extract i j).size≤4000000:=by rw [← zac,zar];rw [List.length_take,List.length_drop,zac];omega
  have:=zge (s.extract i j) W ZS hg hp
  rwa [show zaa (s.extract i j)=subL (zaa s) i j from zar s i j] at this)
 have UNT:=kd (fun (i:Nat) w (hi:i≤s.size)=>zcm s ⟨#[93]⟩ i w hs hi (by decide) (by decide) yb0);simp only [show zaa ⟨#[93]⟩=[93] by rfl] at UNT
 have UNL:=kd (fun (i:Nat) (hi:i≤s.size)=>show i≤zaj (zaa s) i [93]∧zaj (zaa s) i [93]≤s.size from by
  have:=zbf (xs:=zaa s) (a:=i) (st:=[93]) (by rw [zac];exact hi)
  rwa [zac] at this)
 have HCL:=kd (fun (i:Nat) hv (h1:i<(zaa s).length) h2 h3=>zly (xs:=zaa s) (a:=i) (h:=hv) h1 h2 h3);clear hb0 hge hG hP;have RC:=kd h;clear h;generalize zd3 (zaa s) a=R at *;generalize zaa s=X at *;have R0:=kd (Row.new w 155 [.string ⟨#[]⟩,.string ⟨#[]⟩,.bool false])
 have B0:=kd ((Below.refl w.heap.size w).alloc zNr (.cells #[.string ⟨#[]⟩,.string ⟨#[]⟩,.bool false] 155))
 go_enter Tryz.func170,Tryz.ntmps170
 go_wp2_with fail;generalize w.alloc (.cells #[.string ⟨#[]⟩,.string ⟨#[]⟩,.bool false] 155)=W0 at *;refine (TOK.out W0 a e1 (RC.out.below B0.out) ha HE1.out).mono ?_;rintro e w1 ⟨rfl,hc⟩;have C1:=kd (((CG.refl RC.out).call B0.out).trans hc)
 have R1:=kd (R0.out.heap (hc.g.block w.heap.size R0.out.lt (fun e=>by injection e;omega)));clear hc R0 B0;go_wp2_with fail;refine (zce _ _ (by rw [zaq];exact TLN.out)).mono ?_;rintro e w2 ⟨rfl,hb⟩;rw [TBY.out];have C2:=kd (C1.out.call hb);have R2:=kd (R1.out.below hb);clear hb C1 R1
 obtain ⟨nm,hnm⟩:∃ nm,lowS (subL X a e1)=nm:=⟨_,rfl⟩;rw [hnm] at TE LE ⊢;have NE:=kd (zb1 nm);rw [TE.out] at NE;clear hnm TE TBY TLN;go_upto_region 2 with (fail);have BN:=kd ((Below.refl w2.heap.size w2).alloc zNr (.cells #[.string (strOfNums nm),.string ⟨#[]⟩,.bool false] 155))
 have L3:=kd (show LM w b s e1 w.heap.size w2.heap.size [.string ⟨#[]⟩,.string ⟨#[]⟩,.bool false] [.string (strOfNums nm),.string ⟨#[]⟩,.bool false] (w2.alloc (.cells #[.string (strOfNums nm),.string ⟨#[]⟩,.bool false] 155)) from ⟨C2.out.call BN.out,R2.out.alloc _,Row.new w2 155 [.string (strOfNums nm),.string ⟨#[]⟩,.bool false],Nat.le_refl _,C2.out.g.size,Nat.ne_of_lt R2.out.lt,hbl⟩)
 generalize w2.alloc (.cells #[.string (strOfNums nm),.string ⟨#[]⟩,.bool false] 155)=w3 at *;clear C2 R2 BN;generalize w2.heap.size=pb at *;have k0:=L3.out.rp.cell 0;simp only [List.getElem?_cons_succ,List.getElem?_cons_zero] at k0
 by_cases h0:e1=a
 · have hq:((strOfNums nm).toList == ([]:List UInt8))=true:=NE.out.trans (decide_eq_true h0)
   have E:=kd (LE.out.trans (if_pos h0));clear LE NE h0;go_wp2_with fail;clear k0 hq;have q1:=fun x:BW w3=>L3.out.c.r.later x 1;simp only [List.getElem?_cons_succ,List.getElem?_cons_zero] at q1;refine zcf (by kernel_rfl) (by kernel_rfl) ?_
   iterate 5 go_big_quiet_step (fail)
   go_big_quiet_want
   refine zh5 155 (.tmp 2) (.tmp 19) rfl [.string ⟨#[]⟩,.string ⟨#[]⟩,.bool false] L3.out.rr rfl rfl (zbq _ _ _) (zfl _ _ _) ?_;simp only [Act.put,List.setIfInBounds_toArray,List.set_cons_zero,List.set_cons_succ]
   go_big_quiet_on
   iterate 2 go_big_quiet_step (fail)
   refine wpQuiet_nil ?_;rintro _ ⟨x,rfl⟩;have LX:=kd (L3.out.call x.h);have RR:=kd LX.out.rr;clear q1;go_wp2_with fail
   exact bodyPost_ret (za3 rfl _ _ _ w.heap.size [.string ⟨#[]⟩,.string ⟨#[]⟩,.bool false] _ rfl RR.out.range Tryz.underlying155 rfl (zbq _ _ _)) rfl (by exact zio.bad E.out LX.out.c)
 have hq:((strOfNums nm).toList == ([]:List UInt8))=false:=NE.out.trans (decide_eq_false h0);have LE1:=kd (LE.out.trans (if_neg h0));clear LE NE h0;go_wp2_with fail;clear k0 hq;refine (BLK.out w3 e1 a1 L3.out.c.r e1s HA1.out).mono ?_;rintro e w4 ⟨rfl,hc⟩;have L4:=kd (L3.out.cur hc)
 clear hc L3;go_wp2_with fail;refine (SEE.out w4 a1 61 L4.out.c.r).mono ?_;rintro e w5 ⟨rfl,q,rfl⟩;have L5:=kd (L4.out.call (zam _ q));clear L4;generalize w4.drewN q=w5 at *
 by_cases h1:a1<X.length∧X.getD a1 0=61
 case neg =>
  rw [zjf h1];have E:=kd (LE1.out.trans (if_pos h1));clear LE1 h1
  go_wp2_with (first
   | (with_reducible refine zab rfl 155 (.tmp 5) rfl L5.out.rp rfl Tryz.underlying155 rfl (zbq _ _ _) ?_)
   | (with_reducible refine zav rfl 155 (.tmp 2) (.tmp 29) rfl L5.out.rr [.string (strOfNums nm),.string ⟨#[]⟩,.bool false] rfl rfl zwm (zbq _ _ _) (zfl _ _ _) ?_))
  intro w9 RR G9;have CF:=kd ((L5.out.putr RR.out G9.out).c);go_wp2_with fail;exact bodyPost_ret (za3 rfl _ _ _ w.heap.size [.string (strOfNums nm),.string ⟨#[]⟩,.bool false] _ rfl RR.out.range Tryz.underlying155 rfl (zbq _ _ _)) rfl (by exact zio.good E.out CF.out)
 case pos =>
 rw [zg5 h1];have LE2:=kd (LE1.out.trans (if_neg (fun h=>h h1)))
 have a1l:a1<s.size:=by rw [← HL.out];exact h1.1
 have a2s:=A2S.out a1l;clear LE1 h1;have k1:=L5.out.c.r.cell 1;simp only [List.getElem?_cons_succ,List.getElem?_cons_zero] at k1;have f1:=L5.out.c.r.frozen 1;have L6:=kd (L5.out.cset (a1+1) (z:=(a1:Int)+1) (by push_cast;rfl));go_wp2_with fail;clear k1 f1 L5
 generalize w5.setCell ⟨b,1,none⟩ (.int .i64 ((a1:Int)+1))=w6 at *;refine (BLK.out w6 (a1+1) a2 L6.out.c.r a1l HA2.out).mono ?_;rintro e w7 ⟨rfl,hc⟩;have L7:=kd (L6.out.cur hc);clear hc L6;have k2:=L7.out.rp.cell 2;simp only [List.getElem?_cons_succ,List.getElem?_cons_zero] at k2
 have f2:=L7.out.rp.frozen 2;have L8:=kd (show LM w b s a2 w.heap.size pb [.string ⟨#[]⟩,.string ⟨#[]⟩,.bool false] [.string (strOfNums nm),.string ⟨#[]⟩,.bool true] _ from L7.out.pset 2 (.bool true));go_wp2_with fail;clear k2 f2 L7;generalize w7.setCell ⟨pb,2,none⟩ (.bool true)=w8 at *
 refine (SEE.out w8 a2 34 L8.out.c.r).mono ?_;rintro e w9 ⟨rfl,q9,rfl⟩;have L9:=kd (L8.out.call (zam _ q9));clear L8;generalize w8.drewN q9=W9 at *
 by_cases h2:a2<X.length∧X.getD a2 0=34
 case pos =>
  rw [zg5 h2];have LE3:=kd (LE2.out.trans (if_pos h2));clear LE2 h2;obtain ⟨U,hU⟩:∃ U,unq X (a2:Nat)=U:=⟨_,rfl⟩;rw [hU] at LE3;have HU:=kd hU;clear hU;obtain ⟨u1,u2,u3⟩:=U;dsimp only at LE3;go_wp2_with fail;have q0:=fun x:BW W9=>L9.out.c.r.later x 0
  have q1:=fun x:BW W9=>L9.out.c.r.later x 1;simp only [List.getElem?_cons_succ,List.getElem?_cons_zero] at q0 q1;refine zcf (by kernel_rfl) (by kernel_rfl) ?_
  iterate 9 go_big_quiet_step (fail)
  go_big_quiet_step (exact zcj (UNQ.out a2 (u1,u2,u3) _ HU.out a2s))
  iterate 7 go_big_quiet_step (fail)
  refine wpQuiet_nil ?_;rintro _ ⟨x,rfl⟩;have LX:=kd (L9.out.call x.h);clear q0 q1 L9;generalize x.w=W10 at *
  by_cases h3:u3=0
  · subst h3
    have E:=kd (LE3.out.trans (if_neg (fun h=>h rfl)));clear LE3;have k1:=LX.out.rp.cell 1;simp only [List.getElem?_cons_succ,List.getElem?_cons_zero] at k1;have f1:=LX.out.rp.frozen 1
    have L11:=kd (show LM w b s a2 w.heap.size pb [.string ⟨#[]⟩,.string ⟨#[]⟩,.bool false] [.string (strOfNums nm),.string (strOfNums u1),.bool true] _ from LX.out.pset 1 (.string (strOfNums u1)));have k3:=L11.out.c.r.cell 1;simp only [List.getElem?_cons_succ,List.getElem?_cons_zero] at k3
    have f3:=L11.out.c.r.frozen 1;have L12:=kd (L11.out.cset u2 rfl);clear LX L11
    go_wp2_with (first
     | (with_reducible refine zab rfl 155 (.tmp 5) rfl L12.out.rp rfl Tryz.underlying155 rfl (zbq _ _ _) ?_)
     | (with_reducible refine zav rfl 155 (.tmp 2) (.tmp 128) rfl L12.out.rr [.string (strOfNums nm),.string (strOfNums u1),.bool true] rfl rfl zwm (zbq _ _ _) (zfl _ _ _) ?_))
    intro w9 RR G9;have CF:=kd ((L12.out.putr RR.out G9.out).c);go_wp2_with fail;exact bodyPost_ret (za3 rfl _ _ _ w.heap.size [.string (strOfNums nm),.string (strOfNums u1),.bool true] _ rfl RR.out.range Tryz.underlying155 rfl (zbq _ _ _)) rfl (by exact zio.good E.out CF.out)
  · have hb3:(u3 != 0)=true:=by simp only [bne_iff_ne];exact h3
    have E:=kd (LE3.out.trans (if_pos h3));clear LE3 h3;go_wp2_with (with_reducible refine zav rfl 155 (.tmp 2) (.tmp 70) rfl LX.out.rr [.string ⟨#[]⟩,.string ⟨#[]⟩,.bool false] rfl rfl zwm (zbq _ _ _) (zfl _ _ _) ?_);intro w9 RR G9;have CF:=kd ((LX.out.putr RR.out G9.out).c);go_wp2_with fail
    exact bodyPost_ret (za3 rfl _ _ _ w.heap.size [.string ⟨#[]⟩,.string ⟨#[]⟩,.bool false] _ rfl RR.out.range Tryz.underlying155 rfl (zbq _ _ _)) rfl (by exact zio.bad E.out CF.out)
 case neg =>
 rw [zjf h2];have LE3:=kd (LE2.out.trans (if_neg h2));clear LE2 h2;go_wp2_with fail;refine (SEE.out W9 a2 91 L9.out.c.r).mono ?_;rintro e wa ⟨rfl,qa,rfl⟩;have LA:=kd (L9.out.call (zam _ qa));clear L9;generalize W9.drewN qa=WA at *
 by_cases h4:a2<X.length∧X.getD a2 0=91
 case pos =>
  rw [zg5 h4];have LE4:=kd (LE3.out.trans (if_pos h4));obtain ⟨hgm,hpt⟩:=HGP.out WA LA.out.c.g;have UN:=kd (fun w=>UNT.out a2 w a2s);obtain ⟨u1,u2⟩:=UNL.out a2 a2s;have HC2:=kd (fun hv h3=>HCL.out a2 hv h4.1 h4.2 h3);obtain ⟨e93,he93⟩:∃ k,zaj X a2 [93]=k:=⟨_,rfl⟩
  rw [he93] at LE4 UN u1 u2 HC2;obtain ⟨he,hhe⟩:∃ k,min (e93+1) X.length=k:=⟨_,rfl⟩;rw [hhe] at LE4 HC2
  have a2l:a2<s.size:=by rw [← HL.out];exact h4.1
  have E2:min ((e93:Int)+1) (s.size:Int)=(he:Int):=by rw [← hhe,HL.out];omega
  have i1:(a2:Int)≤(he:Int):=by rw [← hhe,HL.out];omega
  have i2:(he:Int)≤(s.size:Int):=by rw [← hhe,HL.out];omega
  have HO:=kd (fun x:BW WA=>HOS.out a2 he x.w (hgm.below x.h) (hpt.below x.h));have HQ:=kd (fun (W:World) (hb:Below WA.heap.size WA W) (x:BW W)=>HO.out ⟨x.w,zao hb x.h⟩);obtain ⟨HV,hHV⟩:∃ HV,zb3 (subL X a2 he)=HV:=⟨_,rfl⟩;rw [hHV] at LE4 HQ HC2
  clear hHV hhe he93 h4 LE3 hgm hpt HO UNT UNL HCL HOS HGP;go_upto_region 19 with (fail);have q1:=fun x:BW WA=>LA.out.c.r.later x 1;simp only [List.getElem?_cons_succ,List.getElem?_cons_zero] at q1;refine zcf (by kernel_rfl) (by kernel_rfl) ?_
  iterate 3 go_big_quiet_step (fail)
  go_big_quiet_want
  refine zh6 146 (.tmp 84) rfl b rfl [.string s] _ (fun y=>(LA.out.c.r.below y.h).text) Tryz.underlying146 rfl (ziu _) ?_;simp only [Act.put,List.setIfInBounds_toArray,List.set_cons_zero,List.set_cons_succ]
  go_big_quiet_on
  iterate 4 go_big_quiet_step (fail)
  go_big_quiet_step (exact zcj (UN.out _))
  iterate 1 go_big_quiet_step (fail)
  refine wpQuiet_nil ?_;rintro _ ⟨x,rfl⟩;have LB:=kd (LA.out.call x.h);have HQ2:=kd (HQ.out x.w x.h);clear q1 LA HQ UN;generalize x.w=WB at *
  cases HV with
  | none =>
    rw [show zhf none = .tuple #[.string ⟨#[]⟩,.bool false] from rfl] at HQ2;go_upto_region 20 with (fail);have q0:=fun x:BW WB=>LB.out.c.r.later x 0;have q1:=fun x:BW WB=>LB.out.c.r.later x 1;simp only [List.getElem?_cons_succ,List.getElem?_cons_zero] at q0 q1
    refine zcf (by kernel_rfl) (by kernel_rfl) ?_
    iterate 19 go_big_quiet_step (fail)
    go_big_quiet_step (exact zcj (HQ2.out _))
    iterate 5 go_big_quiet_step (fail)
    refine wpQuiet_nil ?_;rintro _ ⟨y,rfl⟩;have LC:=kd (LB.out.call y.h);clear q0 q1 LB HQ2;generalize y.w=wc at *;have E:=kd (show R = .error (a2,5) from LE4.out);clear LE4 HC2;go_wp2_with fail;have q1:=fun x:BW wc=>LC.out.c.r.later x 1
    simp only [List.getElem?_cons_succ,List.getElem?_cons_zero] at q1;refine zcf (by kernel_rfl) (by kernel_rfl) ?_
    iterate 5 go_big_quiet_step (fail)
    go_big_quiet_want
    refine zh5 155 (.tmp 2) (.tmp 116) rfl [.string ⟨#[]⟩,.string ⟨#[]⟩,.bool false] LC.out.rr rfl rfl (zbq _ _ _) (zfl _ _ _) ?_;simp only [Act.put,List.setIfInBounds_toArray,List.set_cons_zero,List.set_cons_succ]
    go_big_quiet_on
    iterate 2 go_big_quiet_step (fail)
    refine wpQuiet_nil ?_;rintro _ ⟨x,rfl⟩;have LX:=kd (LC.out.call x.h);have RR:=kd LX.out.rr;clear q1;go_wp2_with fail
    exact bodyPost_ret (za3 rfl _ _ _ w.heap.size [.string ⟨#[]⟩,.string ⟨#[]⟩,.bool false] _ rfl RR.out.range Tryz.underlying155 rfl (zbq _ _ _)) rfl (by exact zio.bad E.out LX.out.c)
  | some hv =>
    rw [show zhf (some hv) = .tuple #[.string (strOfNums hv),.bool true] from rfl] at HQ2;go_upto_region 20 with (fail);have q0:=fun x:BW WB=>LB.out.c.r.later x 0;have q1:=fun x:BW WB=>LB.out.c.r.later x 1;simp only [List.getElem?_cons_succ,List.getElem?_cons_zero] at q0 q1
    refine zcf (by kernel_rfl) (by kernel_rfl) ?_
    iterate 19 go_big_quiet_step (fail)
    go_big_quiet_step (exact zcj (HQ2.out _))
    iterate 5 go_big_quiet_step (fail)
    refine wpQuiet_nil ?_;rintro _ ⟨y,rfl⟩;have LC:=kd (LB.out.call y.h);clear q0 q1 LB HQ2;generalize y.w=wc at *;have E:=kd (show R = .ok (⟨nm,hv,true⟩,e93+1) from LE4.out);clear LE4 HC2;have k1:=LC.out.rp.cell 1;simp only [List.getElem?_cons_succ,List.getElem?_cons_zero] at k1
    have f1:=LC.out.rp.frozen 1;have L11:=kd (show LM w b s a2 w.heap.size pb [.string ⟨#[]⟩,.string ⟨#[]⟩,.bool false] [.string (strOfNums nm),.string (strOfNums hv),.bool true] _ from LC.out.pset 1 (.string (strOfNums hv)));have k3:=L11.out.c.r.cell 1
    simp only [List.getElem?_cons_succ,List.getElem?_cons_zero] at k3;have f3:=L11.out.c.r.frozen 1;have L12:=kd (L11.out.cset (e93+1) (z:=(e93:Int)+1) (by push_cast;rfl));clear LC L11
    go_wp2_with (first
     | (with_reducible refine zab rfl 155 (.tmp 5) rfl L12.out.rp rfl Tryz.underlying155 rfl (zbq _ _ _) ?_)
     | (with_reducible refine zav rfl 155 (.tmp 2) (.tmp 128) rfl L12.out.rr [.string (strOfNums nm),.string (strOfNums hv),.bool true] rfl rfl zwm (zbq _ _ _) (zfl _ _ _) ?_))
    intro w9 RR G9;have CF:=kd ((L12.out.putr RR.out G9.out).c);go_wp2_with fail;exact bodyPost_ret (za3 rfl _ _ _ w.heap.size [.string (strOfNums nm),.string (strOfNums hv),.bool true] _ rfl RR.out.range Tryz.underlying155 rfl (zbq _ _ _)) rfl (by exact zio.good E.out CF.out)
 case neg =>
 rw [zjf h4];replace LE3:=kd (LE3.out.trans (if_neg h4));clear h4;go_wp2_with fail;refine (TOK.out WA a2 e3 LA.out.c.r a2s HE3.out).mono ?_;rintro e wb ⟨rfl,hc⟩;have LB:=kd (LA.out.cur hc);clear hc LA;have EB:=kd ((zb1 (subL X a2 e3)).trans (VE.out a2s));generalize subL X a2 e3=vl at *
 have k1:=LB.out.rp.cell 1;simp only [List.getElem?_cons_succ,List.getElem?_cons_zero] at k1;have f1:=LB.out.rp.frozen 1
 have LC:=kd (show LM w b s e3 w.heap.size pb [.string ⟨#[]⟩,.string ⟨#[]⟩,.bool false] [.string (strOfNums nm),.string (strOfNums vl),.bool true] _ from LB.out.pset 1 (.string (strOfNums vl)));go_upto_region 11 with (fail);clear k1 f1 LB
 generalize wb.setCell ⟨pb,1,none⟩ (.string (strOfNums vl))=wc at *;have k1:=LC.out.rp.cell 1;simp only [List.getElem?_cons_succ,List.getElem?_cons_zero] at k1
 by_cases h3:e3=a2
 · have hq:((strOfNums vl).toList == ([]:List UInt8))=true:=EB.out.trans (decide_eq_true h3)
   have E:=kd (show R = .error (e3,5) from (LE3.out.trans (if_pos h3)).trans (by rw [h3]));clear LE3 EB h3;go_wp2_with fail;clear k1 hq;have q1:=fun x:BW wc=>LC.out.c.r.later x 1;simp only [List.getElem?_cons_succ,List.getElem?_cons_zero] at q1;refine zcf (by kernel_rfl) (by kernel_rfl) ?_
   iterate 5 go_big_quiet_step (fail)
   go_big_quiet_want
   refine zh5 155 (.tmp 2) (.tmp 46) rfl [.string ⟨#[]⟩,.string ⟨#[]⟩,.bool false] LC.out.rr rfl rfl (zbq _ _ _) (zfl _ _ _) ?_;simp only [Act.put,List.setIfInBounds_toArray,List.set_cons_zero,List.set_cons_succ]
   go_big_quiet_on
   iterate 2 go_big_quiet_step (fail)
   refine wpQuiet_nil ?_;rintro _ ⟨x,rfl⟩;have LX:=kd (LC.out.call x.h);have RR:=kd LX.out.rr;clear q1;go_wp2_with fail
   exact bodyPost_ret (za3 rfl _ _ _ w.heap.size [.string ⟨#[]⟩,.string ⟨#[]⟩,.bool false] _ rfl RR.out.range Tryz.underlying155 rfl (zbq _ _ _)) rfl (by exact zio.bad E.out LX.out.c)
 · have hq:((strOfNums vl).toList == ([]:List UInt8))=false:=EB.out.trans (decide_eq_false h3)
   have E:=kd (LE3.out.trans (if_neg h3));clear LE3 EB h3
   go_wp2_with (first
    | (with_reducible refine zab rfl 155 (.tmp 5) rfl LC.out.rp rfl Tryz.underlying155 rfl (zbq _ _ _) ?_)
    | (with_reducible refine zav rfl 155 (.tmp 2) (.tmp 128) rfl LC.out.rr [.string (strOfNums nm),.string (strOfNums vl),.bool true] rfl rfl zwm (zbq _ _ _) (zfl _ _ _) ?_))
   intro w9 RR G9;have CF:=kd ((LC.out.putr RR.out G9.out).c);go_wp2_with fail;exact bodyPost_ret (za3 rfl _ _ _ w.heap.size [.string (strOfNums nm),.string (strOfNums vl),.bool true] _ rfl RR.out.range Tryz.underlying155 rfl (zbq _ _ _)) rfl (by exact zio.good E.out CF.out)

theorem zv5 {X:List Int} {f a a0:Nat} {l:List Pm} (h:zag isBlank X a=a0) (h2:X.length≤a0):zfw X (f+1) a l = .ok l:=by
 rw [zg6 h rfl,if_pos h2]
theorem zv4 {X:List Int} {f a a0:Nat} {l:List Pm} (h:zag isBlank X a=a0) (h2:¬ X.length≤a0) (h3:X.getD a0 0≠59):zfw X (f+1) a l = .error (a0,5):=by
 rw [zg6 h rfl,if_neg h2,if_pos h3]
theorem zza {X:List Int} {f a a0 a1:Nat} {l:List Pm} (h:zag isBlank X a=a0) (h2:¬ X.length≤a0) (h3:X.getD a0 0=59) (h4:zag isBlank X (a0+1)=a1) :
  zfw X (f+1) a l=match zd3 X a1 with
   | .error e => .error e
   | .ok (p,a2)=>if zbz l p.n≠0 then .error (a1,zbz l p.n) else zfw X f a2 (l++[p]):=by
 rw [zg6 h h4,if_neg h2,if_neg (fun h=>h h3)];rfl
def PRH (w:World) (cb:Nat) (s:ByteArray) (X:List Int) (R:Except (Nat × Int) (List Pm)) (v:Value) (wr:World):Prop := ∃ (a f n c:Nat) (A:Option Addr) (l:List Pm),a≤s.size∧n≤16∧Hid (n=l.length)∧v = .slice A n c∧s.size+1≤f+a∧Hid (R=zfw X f a l∧∀ p∈l,By p.n)∧Hid (PS w cb s a l v wr)
theorem zj7 (s:ByteArray) (w:World) (hs:s.size≤4000000) (hG:GM w) (hP:PT w):Calls Tryz.prog 118 #[.string s] w (ParP w (zeo (zaa s))):=by
 have HL:=kd (zac s);have HBY:=kd (zas s);have PE:=kd (show zeo (zaa s)=zfw (zaa s) (s.size+1) 0 [] by unfold zeo;rw [zac]);have LIS:=kd (fun w2 b a h ha hb hge=>zqc w w2 b a s h ha hs hb hge hG hP)
 have BLK:=kd (fun w b a e h1 h2 (h3:zag isBlank (zaa s) a=e)=>show Calls Tryz.prog 169 #[.pointer (some ⟨b,0,none⟩)] w fun r w'=>r = .returned (.tuple #[])∧CG w b s e w' by subst h3;exact zdj w b a s h1 h2 hs);have SEE:=kd (fun w b a c h1=>zb4 w b a c s h1)
 have SKL:=kd (fun a (h:a≤s.size)=>show zag isBlank (zaa s) a≤s.size from by rw [← zac s];exact za5 (by rw [zac];exact h));have SKG:=kd (fun a=>zcp isBlank (zaa s) a);have BAD:=kd (fun w' z k h hk hb=>ParP.bad (w:=w) (w':=w') (R:=zeo (zaa s)) (z:=z) (k:=k) h hk hb)
 have GOOD:=kd (fun w' l v h hv hl=>ParP.good (w:=w) (w':=w') (R:=zeo (zaa s)) (l:=l) (v:=v) h hv hl);generalize ParP w (zeo (zaa s))=PP at *;generalize zeo (zaa s)=R at *;generalize zaa s=X at *;clear hG hP
 have P0:=kd (show PS w w.heap.size s 0 [] (.slice none 0 0) (w.alloc (.cells #[.string s,.int .i64 0] 148)) from ⟨Row.new w 148 [.string s,.int .i64 0],Nat.le_refl _,(VX.nil _ _ w).step ((Below.refl w.heap.size w).alloc zNr _)⟩)
 go_enter Tryz.func118,Tryz.ntmps118
 go_wp2_with fail
 go_loopw [6] (fun v wr=>PRH w w.heap.size s X R v wr) (fun v _=>17 - lenOf v)
 case atStart=>exact ⟨0,s.size+1,0,0,none,[],Nat.zero_le _,Nat.zero_le _,kd rfl,rfl,by omega,kd ⟨PE.out,fun p hp=>by cases hp⟩,P0⟩
 case round =>
  clear P0 PE;obtain ⟨a,f,n,c,A,l,ha,hl16,hn,rfl,hf,HK,HP⟩:=hrel;obtain ⟨f,rfl⟩:∃ g,f=g+1:=⟨f - 1,by omega⟩;obtain ⟨a0,ha0⟩:∃ k,zag isBlank X a=k:=⟨_,rfl⟩;obtain ⟨a1,ha1⟩:∃ k,zag isBlank X (a0+1)=k:=⟨_,rfl⟩
  have aa0:a≤a0:=by rw [← ha0];exact SKG.out a
  have a0s:a0≤s.size:=by rw [← ha0];exact SKL.out a ha
  have A01:=kd (show a0+1≤a1 by rw [← ha1];exact SKG.out _);have A1S:=kd (fun (h:a0<s.size)=>show a1≤s.size by rw [← ha1];exact SKL.out _ h);have EN:=kd (fun h=>zv5 (f:=f) (l:=l) ha0 h);have ES:=kd (fun h h2=>zv4 (f:=f) (l:=l) ha0 h h2)
  have EG:=kd (fun h h2=>zza (f:=f) (l:=l) ha0 h h2 ha1);have HA0:=kd ha0;have HA1:=kd ha1;clear ha0 ha1;go_wp2_with fail;refine (BLK.out wr w.heap.size a a0 HP.out.c ha HA0.out).mono ?_;rintro e w1 ⟨rfl,hc⟩;have P1:=kd (HP.out.cur hc);clear hc HP;go_wp2_with fail
  refine (zex w1 w.heap.size a0 s P1.out.c).mono ?_;rintro e w2 ⟨rfl,q,rfl⟩;have P2:=kd (P1.out.call (zam _ q));clear P1;generalize w1.drewN q=w2 at *
  by_cases hE:s.size≤a0
  · rw [decide_eq_true hE]
    have E:=kd (HK.out.1.trans (EN.out (by rw [HL.out];exact hE)));clear EN ES EG;go_wp2_with fail
    go_ret3
    exact GOOD.out _ _ _ E.out P2.out.o (by rw [← hn.out];exact hl16)
  · rw [decide_eq_false hE]
    have hE2:¬ X.length≤a0:=by rw [HL.out];exact hE
    have a0l:a0<s.size:=by omega
    have a1s:=A1S.out a0l;go_wp2_with fail;refine (SEE.out w2 w.heap.size a0 59 P2.out.c).mono ?_;rintro e w3 ⟨rfl,q3,rfl⟩;have P3:=kd (P2.out.call (zam _ q3));clear P2;generalize w2.drewN q3=w3 at *
    by_cases hS:X.getD a0 0=59
    case neg =>
     rw [zjf (fun h=>hS h.2)];have E:=kd (HK.out.1.trans (ES.out hE2 hS));clear EN ES EG;have k1:=P3.out.c.cell 1;simp only [List.getElem?_cons_succ,List.getElem?_cons_zero] at k1;go_wp2_with fail
     go_quiet (fail)
     go_wp2_with fail
     go_ret3
     exact BAD.out _ _ _ E.out (by decide) (P3.out.o.drewN _).bw
    case pos =>
     rw [zg5 ⟨by omega,hS⟩];have EG2:=kd (HK.out.1.trans (EG.out hE2 hS));have k1:=P3.out.c.cell 1;simp only [List.getElem?_cons_succ,List.getElem?_cons_zero] at k1;have f1:=P3.out.c.frozen 1;have P4:=kd (P3.out.cset (a0+1) (z:=(a0:Int)+1) (by push_cast;rfl))
     clear EN ES EG hS hE hE2;go_wp2_with fail;clear k1 f1 P3;generalize w3.setCell ⟨w.heap.size,1,none⟩ (.int .i64 ((a0:Int)+1))=w4 at *;refine (BLK.out w4 w.heap.size (a0+1) a1 P4.out.c a0l HA1.out).mono ?_;rintro e w5 ⟨rfl,hc⟩;have P5:=kd (P4.out.cur hc);clear hc P4
     have k1:=P5.out.c.cell 1;simp only [List.getElem?_cons_succ,List.getElem?_cons_zero] at k1;go_wp2_with fail;clear k1;have LQ:=kd (LIS.out w5 w.heap.size a1 P5.out.c a1s P5.out.o.bw zNr)
     have LOK:=kd (fun p a' h=>zib (X:=X) (a:=a1) (p:=p) (a':=a') HBY.out (by rw [HL.out];exact a1s) h);have LER:=kd (fun z k h=>(zgt (X:=X) (a:=a1) (z:=z) (k:=k) (by rw [HL.out];exact a1s) h).1);refine LQ.out.mono ?_;clear LQ;intro e w6 hq;have HQ:=kd hq;clear hq
     obtain ⟨L,hL⟩:∃ L,zd3 X a1=L:=⟨_,rfl⟩;rw [hL] at EG2 HQ LOK LER;clear hL
     cases L with
     | error q =>
       obtain ⟨z,k⟩:=q;obtain ⟨rfl,a',hc⟩:=HQ.out;have P6:=kd (P5.out.cur hc);have hk:=LER.out z k rfl
       have hkb:(k == 0)=false:=by simp [hk]
       have hkn:(k != 0)=true:=by simp [hk]
       have BN:=kd ((Below.refl w6.heap.size w6).alloc zNr (.cells #[.string ⟨#[]⟩,.string ⟨#[]⟩,.bool false] 155));clear hc HQ LOK LER;go_wp2_with fail
       go_ret3
       exact BAD.out _ _ _ EG2.out hk (P6.out.call BN.out).o.bw
     | ok q =>
       obtain ⟨p,a2⟩:=q;obtain ⟨rfl,hc⟩:=HQ.out;have P6:=kd (P5.out.cur hc);obtain ⟨pn,pv,ph⟩:=p;have OK:=kd (LOK.out _ _ rfl);dsimp only at OK;have EG3:=kd (show R=if zbz l pn≠0 then .error (a1,zbz l pn) else zfw X f a2 (l++[⟨pn,pv,ph⟩]) from EG2.out)
       have BN:=kd ((Below.refl w6.heap.size w6).alloc zNr (.cells #[.string (strOfNums pn),.string (strOfNums pv),.bool ph] 155));have P7:=kd (P6.out.call BN.out);have RP:=kd (Row.new w6 155 [.string (strOfNums pn),.string (strOfNums pv),.bool ph]);clear hc HQ LOK LER EG2 P6 BN P5
       dsimp only;go_upto_region 12 with (fail);generalize w6.alloc (.cells #[.string (strOfNums pn),.string (strOfNums pv),.bool ph] 155)=w7 at *;generalize w6.heap.size=pb at *;have k0:=RP.out.cell 0;simp only [List.getElem?_cons_succ,List.getElem?_cons_zero] at k0;go_wp2_with fail
       clear k0;obtain ⟨A',c',hv,_,hR⟩:=zj4 P7.out.o
       injection hv with hv1 hv2 hv3
       subst hv1;subst hv3;refine (zmn A n c l pn w7 hR hn.out.symm (by omega) HK.out.2 OK.out.1).mono ?_;rintro e w8 ⟨rfl,hb⟩;have P8:=kd (P7.out.call hb);have RP8:=kd (RP.out.below hb);clear hb P7 RP hR hv2
       by_cases hr:zbz l pn=0
       · have E:=kd (EG3.out.trans (if_neg (fun h=>h hr)))
         have l15:n<16:=by rw [hn.out];exact zs4 hr
         rw [hr];clear EG3 hr
         go_wp2_with (first
          | (with_reducible refine zab rfl 155 (.tmp 8) rfl RP8.out rfl Tryz.underlying155 rfl (zbq _ _ _) ?_)
          | (with_reducible refine znj rfl (.tmp 44) (.tmp 46) rfl rfl P8.out ⟨pn,pv,ph⟩ rfl (by have:=hn.out;omega) ?_))
         intro v' w9 P9;obtain ⟨A9,c9,hv9,_,_⟩:=zj4 P9.out.o;subst hv9;go_wp2_with fail;go_roundw
         case rel =>
          have h5:=OK.out.2.2.2.2
          have hln:(l++[(⟨pn,pv,ph⟩:Pm)]).length=n+1:=by rw [hn.out];simp
          exact ⟨a2,f,_,c9,A9,l++[⟨pn,pv,ph⟩],by have:=HL.out;omega,by omega,kd rfl,rfl,by have:=A01.out;omega,kd ⟨E.out,fun p hp=>by
           rcases List.mem_append.1 hp with h|h
           · exact HK.out.2 p h
           · rw [List.mem_singleton] at h
             subst h
             exact OK.out.1⟩,P9⟩
         case measure =>
          have hln:(l++[(⟨pn,pv,ph⟩:Pm)]).length=n+1:=by rw [hn.out];simp
          simp only [lenOf];omega
       · have E:=kd (EG3.out.trans (if_pos hr))
         have hkn:(zbz l pn != 0)=true:=by simp [hr]
         go_wp2_with fail
         go_ret3
         exact BAD.out _ _ _ E.out hr P8.out.o.bw
end Go.Proofs.YtfnmkedncfdceaaGreatDoor
