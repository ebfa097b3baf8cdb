/- Contract: the law's recorded. And what stands behind it. -/
import Derived.Test.YtfnmkedncfdceaaGreatDoorKa
set_option linter.unusedVariables false
set_option linter.unusedSimpArgs false
set_option maxRecDepth 100000
set_option maxHeartbeats 4000000
namespace Go.Proofs.YtfnmkedncfdceaaGreatDoor
open Go.RowKit

theorem zsm (a b:ByteArray) (h:a.size+b.size≤9223372036854775807) (w:World):(binOp .add 9 (.string a) (.string b)).run Tryz.prog w = .ok (.string (a++b)) w:=by
 have h2:¬ (9223372036854775807<a.size+b.size):=by omega
 simp [go_sem,h2]
theorem yaz (r:List Int):(⟨#[60]⟩:ByteArray)++strOfNums r ++ ⟨#[62]⟩=strOfNums (brak r):=by
 unfold brak;rw [show (60::(r++[62]))=[60]++r++[62] by simp,← zcx,← zcx]
 rfl
theorem yb9 {o:Oper} {a:Act} {W:World} {next:Act→World→Prop} {Q:Exit→Act→World→Prop} {b off n c:Nat} {A:Option Addr} {u:Value} (x y:Operand) (ho:o.op = .store 28 x y) (hx:a.eval x = .pointer (some ⟨b,off,none⟩)) (hy:a.eval y = .slice A n c)
  (hc:W.cell? ⟨b,off,none⟩=some u) (hf:W.frozen? ⟨b,off,none⟩=false) (hn:next (a.put o.dst undef) (W.setCell ⟨b,off,none⟩ (.slice A n c))):o.wp Tryz.prog a W next Q:=by
 have hs:(sizeOf 28).run Tryz.prog W = .ok 1 W:=by kernel_rfl
 have hr:(storeVar 28 ⟨b,off,none⟩ (.slice A n c)).run Tryz.prog W = .ok () (W.setCell ⟨b,off,none⟩ (.slice A n c)):=by
  simp [storeVar,go_sem,hs,hc,hf,Value.cells]
 unfold Oper.wp execOp;simp only [ho,hx,hy,Instr.storeAt,Instr.sureAddr,Sem.run_bind,Sem.run_pure,Result.andThen_ok,hr];exact hn
theorem zog {s1 s2 s3:ByteArray} {k:Int} {A B:Option Addr} {n c m e:Nat}:∀ u∈[Value.string s1,.string s2,.int .i64 k,.string s3,.slice A n c,.slice B m e],u.oneCell'=true:=fun u hu=>by
 simp only [List.mem_cons,List.not_mem_nil,or_false] at hu
 rcases hu with rfl|rfl|rfl|rfl|rfl|rfl<;>rfl
structure RcI (w0:World) (g:Nat) (m:Msg) (n:Nat) (l:List Hd) (V:Value) (wr:World):Prop where
 vx:VX 56 2 w0 V n (hds l) wr
 r2:Row wr g 31 [.string (strOfNums m.me),.string (strOfNums m.ur),.int .i64 m.co,.string (strOfNums m.re),V,.slice none 0 0]
 r4:Row wr (g+1) 31 Z6m
 n2:V.ownBlock≠some g
 n4:V.ownBlock≠some (g+1)
structure RcA (w0:World) (g:Nat) (m:Msg) (n:Nat) (l:List Hd) (V0 V:Value) (wr:World):Prop where
 vx:VX 56 2 w0 V n (hds l) wr
 r2:Row wr g 31 [.string (strOfNums m.me),.string (strOfNums m.ur),.int .i64 m.co,.string (strOfNums m.re),V0,.slice none 0 0]
 r4:Row wr (g+1) 31 Z6m
 n2:V.ownBlock≠some g
 n4:V.ownBlock≠some (g+1)
theorem zyk {T:TypeId} {sz:Nat} {w wr:World} {v:Value} {n:Nat} {cs:List Value} (H:VX T sz w v n cs wr):∃ A c,v = .slice A n c:=by
 rcases H.form with ⟨rfl,rfl,_⟩|⟨g,cap,rfl,_⟩
 · exact ⟨none,0,rfl⟩
 · exact ⟨_,cap,rfl⟩
theorem yct {rs:List (List Int)} {k:Nat} {r:List Int} (h:rs[k]? = some r) (H:List Hd):(H++(rs.take k).map rrH)++[rrH r]=H++(rs.take (k+1)).map rrH:=by
 rw [List.take_add_one,h];simp
theorem hds_rr (l:List Hd) (r:List Int):hds (l++[rrH r])=hds l++[.string ⟨#[82,101,99,111,114,100,45,82,111,117,116,101]⟩,.string (strOfNums (brak r))]:=by
 rw [show rrH r=hdL zd1 (brak r) from rfl,zos]
 rfl
theorem ziy (m:Msg) (rs:List (List Int)) (w0:World) (v:Value) (A:Option Addr) (n c:Nat) (w:World) (hn:rs.length=n) (hN:n≤1000) (hM:m.hs.length≤1000) (hB:∀ r∈rs,Tx r) (hA0:∀ b o s,A=some ⟨b,o,s⟩→o=0) (HV:VX 56 2 w0 v m.hs.length (hds m.hs) w) (HR:Rds w w0.heap.size A (strs rs)) :
  Calls Tryz.prog 52 #[.agg #[.string (strOfNums m.me),.string (strOfNums m.ur),.int .i64 m.co,.string (strOfNums m.re),v,.slice none 0 0],.slice A n c] w fun e w' => ∃ v',e = .returned (.agg #[.string (strOfNums m.me),.string (strOfNums m.ur),.int .i64 m.co,.string (strOfNums m.re),v',.slice none 0 0])∧VX 56 2 w0 v' (m.hs.length+n) (hds (m.hs++rs.map rrH)) w':=by
 have W1:=kd (((Below.refl w.heap.size w).alloc zNr (.cells ([.string (strOfNums m.me),.string (strOfNums m.ur),.int .i64 m.co,.string (strOfNums m.re),v,.slice none 0 0]:List Value).toArray 31)).alloc (by rw [World.size_alloc];omega) (.cells ([.string ⟨#[]⟩,.string ⟨#[]⟩,.int .i64 0,.string ⟨#[]⟩,.slice none 0 0,.slice none 0 0]:List Value).toArray 31))
 have RC:=kd (show RcI w0 w.heap.size m (m.hs.length+0) (m.hs++(rs.take 0).map rrH) v ((w.alloc (.cells ([.string (strOfNums m.me),.string (strOfNums m.ur),.int .i64 m.co,.string (strOfNums m.re),v,.slice none 0 0]:List Value).toArray 31)).alloc (.cells ([.string ⟨#[]⟩,.string ⟨#[]⟩,.int .i64 0,.string ⟨#[]⟩,.slice none 0 0,.slice none 0 0]:List Value).toArray 31)) from by
  have hm:=zmf w 31 31 [.string (strOfNums m.me),.string (strOfNums m.ur),.int .i64 m.co,.string (strOfNums m.re),v,.slice none 0 0] [.string ⟨#[]⟩,.string ⟨#[]⟩,.int .i64 0,.string ⟨#[]⟩,.slice none 0 0,.slice none 0 0]
  refine ⟨?_,hm.row (i:=1) rfl,hm.row (i:=0) rfl,fun e=>Nat.lt_irrefl _ (HV.own_lt e),fun e=>by have:=HV.own_lt e;omega⟩;rw [List.take_zero,List.map_nil,List.append_nil]
  exact HV.step W1.out)
 have RT:=kd (fun W (hb:Below w0.heap.size w W)=>HR.below hb);have WB:=kd HV.bw;have HNR:=kd hn;have HBY:=kd hB;have HA0:=kd hA0;have HLM:=kd hM;clear HV HR hn hB hA0 hM
 go_enter Tryz.func52,Tryz.ntmps52
 go_upto_region 1 with (fail);generalize (w.alloc (.cells #[.string (strOfNums m.me),.string (strOfNums m.ur),.int .i64 m.co,.string (strOfNums m.re),v,.slice none 0 0] 31)).alloc (.cells #[.string ⟨#[]⟩,.string ⟨#[]⟩,.int .i64 0,.string ⟨#[]⟩,.slice none 0 0,.slice none 0 0] 31)=w1 at *
 obtain ⟨g,hg⟩:∃ b,w.heap.size=b:=⟨_,rfl⟩;rw [hg] at RC ⊢;have HG:=kd hg;clear hg;go_wp2_with fail
 go_loopw [5] (fun v5 wr => ∃ (k:Nat) (V:Value),k≤n∧v5 = .int .i64 k∧Hid (RcI w0 g m (m.hs.length+k) (m.hs++(rs.take k).map rrH) V wr)) (fun v5 _=>n - (intOf v5).toNat)
 case atStart=>exact ⟨0,v,Nat.zero_le _,rfl,RC⟩
 case round =>
  obtain ⟨k,V,hk,rfl,RI⟩:=hrel
  by_cases hlt:k<n
  · have hd:decide ((k:Int)<(n:Int))=true:=by simp;omega
    obtain ⟨r,hr⟩:∃ r,rs[k]? = some r:=⟨_,List.getElem?_eq_getElem (by rw [HNR.out];exact hlt)⟩;have TR:=HBY.out r (List.mem_of_getElem? hr);have NXT:=kd (yct hr m.hs);have SR:=zaq r
    have CS1:=kd (show (⟨#[60]⟩:ByteArray).size+(strOfNums r).size≤9223372036854775807 by rw [SR,show (⟨#[60]⟩:ByteArray).size=1 from rfl];have:=TR.2;omega)
    have CS2:=kd (show ((⟨#[60]⟩:ByteArray)++strOfNums r).size+(⟨#[62]⟩:ByteArray).size≤9223372036854775807 by rw [ByteArray.size_append,SR,show (⟨#[60]⟩:ByteArray).size=1 from rfl,show (⟨#[62]⟩:ByteArray).size=1 from rfl];have:=TR.2;omega);have JB:=kd (yaz r)
    have BW0:=kd (show Below w0.heap.size w0 wr from RI.out.vx.bw);obtain ⟨b,o,rfl,hbl,hcl⟩:=RT.out w zBr (by rw [za8,HNR.out];omega);obtain rfl:=HA0.out b o none rfl
    have CE:=kd (fun W (hB:Below wr.heap.size wr W)=>show W.cell? ⟨b,k,none⟩=some (.string (strOfNums r)) from by
     have h1:=hcl k _ (ze9 hr);rw [Nat.zero_add] at h1;have h2:w.cell? ⟨b,k,none⟩=w0.cell? ⟨b,k,none⟩:=WB.out.cell (p:=⟨b,k,none⟩) hbl;have h3:wr.cell? ⟨b,k,none⟩=w0.cell? ⟨b,k,none⟩:=BW0.out.cell (p:=⟨b,k,none⟩) hbl
     have h4:b<wr.heap.size:=Nat.lt_of_lt_of_le hbl BW0.out.size
     exact (hB.cell (p:=⟨b,k,none⟩) h4).trans (h3.trans (h2.symm.trans h1)))
    have R2:=kd RI.out.r2;clear hcl TR SR hr BW0;go_upto_region 4 with (fail)
    refine zpy (by kernel_rfl) (by kernel_rfl) (fun (i:Nat) (W:World) (v:Value)=>match i with
    | 0=>v = .pointer (some ⟨g,4,none⟩)
    | 1=>v=V
    | 2=>v = .slice (some ⟨b,0,none⟩) n c
    | 3=>v = .int .i64 (k:Int)
    | 4=>v = .pointer (some ⟨b,k,none⟩)
    | 5=>v = .string (strOfNums r)
    | 6=>v = .string (⟨#[60]⟩++strOfNums r)
    | 7=>v = .string (strOfNums (brak r))
    | 8=>v = .agg #[.string ⟨#[82,101,99,111,114,100,45,82,111,117,116,101]⟩,.string (strOfNums (brak r))]
    | 9 => ∃ x,v = .slice (some ⟨x,0,none⟩) 1 1∧Row W x 56 [.string ⟨#[82,101,99,111,114,100,45,82,111,117,116,101]⟩,.string (strOfNums (brak r))]
    | _=>True) (fun v=>v = .pointer (some ⟨g,4,none⟩)) 10 (fun W v=>RcA w0 g m (m.hs.length+(k+1)) (m.hs++(rs.take (k+1)).map rrH) V v W) (fun W => ∃ V',RcI w0 g m (m.hs.length+(k+1)) (m.hs++(rs.take (k+1)).map rrH) V' W) 23 22 (by kernel_rfl) ?hAm _ _ _ rfl rfl rfl rfl rfl rfl (by kernel_rfl) (by kernel_rfl) (by kernel_rfl) rfl ?hstep ?hn1 (by kernel_rfl) ?hlast ?hfin ?hend
    case hAm =>
     intro i v W W' hb h
     rcases i with _|_|_|_|_|_|_|_|_|_|i
     all_goals first
      | exact h
      | (obtain ⟨x,h1,h2⟩:=h;exact ⟨x,h1,h2.below hb⟩)
    case hstep =>
     intro i o hi ho a' W hB hF hD
     match i,ho,hi with
     | 0,ho,hi =>
       obtain rfl:=zSi ho;exact (zaf ho rfl (zdm 31 (.tmp 2) 4 rfl g 4 ((zap hF (by kernel_rfl)).trans rfl) (fun w=>by kernel_rfl) ⟨_,rfl,Below.refl _ _,fun _ _=>rfl⟩))
     | 1,ho,hi =>
       obtain rfl:=zSi ho;exact (zaf ho rfl (zbu 28 (.tmp 12) rfl g 4 V (zai hD 0 (by kernel_rfl) rfl rfl) ((R2.out.below hB).cell 4) _ Tryz.underlying28 rfl ⟨_,rfl,Below.refl _ _,fun _ _=>rfl⟩))
     | 2,ho,hi =>
       obtain rfl:=zSi ho;exact (zaf ho rfl (zb5 (.tmp 1) (.inl rfl) ⟨_,rfl,Below.refl _ _,fun _ _=>(show a'.eval (.tmp 1) = .slice (some ⟨b,0,none⟩) n c from ((zap hF (by kernel_rfl)).trans rfl))⟩))
     | 3,ho,hi =>
       obtain rfl:=zSi ho;exact (zaf ho rfl (zb5 (.tmp 5) (.inl rfl) ⟨_,rfl,Below.refl _ _,fun _ _=>(show a'.eval (.tmp 5) = .int .i64 (k:Int) from ((zap hF (by kernel_rfl)).trans rfl))⟩))
     | 4,ho,hi =>
       obtain rfl:=zSi ho;exact (zaf ho rfl (zus (.tmp 14) (.tmp 15) rfl (g:=b) (n:=n) (cap:=c) (zai hD 2 (by kernel_rfl) rfl rfl) (zai hD 3 (by kernel_rfl) rfl rfl) k rfl hlt ⟨_,rfl,Below.refl _ _,fun _ _=>rfl⟩))
     | 5,ho,hi =>
       obtain rfl:=zSi ho;exact (zaf ho rfl (zbu 9 (.tmp 16) rfl b k (.string (strOfNums r)) (zai hD 4 (by kernel_rfl) rfl rfl) (CE.out W hB) _ Tryz.underlying9 rfl ⟨_,rfl,Below.refl _ _,fun _ _=>rfl⟩))
     | 6,ho,hi =>
       obtain rfl:=zSi ho;have hy:a'.eval (.tmp 17) = .string (strOfNums r):=(zai hD 5 (by kernel_rfl) rfl rfl);have hx:a'.eval (.const (.string ⟨#[60]⟩)) = .string ⟨#[60]⟩:=rfl
       exact (zaf ho rfl (zjn _ _ _ _ _ rfl _ _ (.string (⟨#[60]⟩++strOfNums r)) hx hy (fun w=>rfl) (fun w=>zsm _ _ CS1.out w) ⟨_,rfl,Below.refl _ _,fun _ _=>rfl⟩))
     | 7,ho,hi =>
       obtain rfl:=zSi ho;have hx:a'.eval (.tmp 18) = .string (⟨#[60]⟩++strOfNums r):=(zai hD 6 (by kernel_rfl) rfl rfl);have hy:a'.eval (.const (.string ⟨#[62]⟩)) = .string ⟨#[62]⟩:=rfl
       exact (zaf ho rfl (zjn _ _ _ _ _ rfl _ _ (.string (strOfNums (brak r))) hx hy (fun w=>rfl) (fun w=>(zsm _ _ CS2.out w).trans (by rw [JB.out])) ⟨_,rfl,Below.refl _ _,fun _ _=>rfl⟩))
     | 8,ho,hi =>
       obtain rfl:=zSi ho;have h7:a'.eval (.tmp 19) = .string (strOfNums (brak r)):=(zai hD 7 (by kernel_rfl) rfl rfl)
       exact (zaf ho rfl (zfq _ _ rfl [(0,.string ⟨#[82,101,99,111,114,100,45,82,111,117,116,101]⟩),(1,.string (strOfNums (brak r)))] (by simp only [List.map_toArray,List.map_cons,List.map_nil,h7];rfl) #[.string ⟨#[82,101,99,111,114,100,45,82,111,117,116,101]⟩,.string (strOfNums (brak r))] (by kernel_rfl) ⟨_,rfl,Below.refl _ _,fun _ _=>rfl⟩))
     | 9,ho,hi =>
       obtain rfl:=zSi ho;exact (zaf ho rfl (zlg (.tmp 20) rfl _ _ (zai hD 8 (by kernel_rfl) rfl rfl) fun hr=>⟨_,rfl,zBr.alloc zNr _,fun _ _=>⟨_,rfl,hr⟩⟩))
     | i+10,ho,hi=>omega
    case hn1 =>
     intro a' W hF;exact zbw rfl rfl (zdm 31 (.tmp 2) 4 rfl g 4 ((zap hF (by kernel_rfl)).trans rfl) (fun w=>by kernel_rfl) ⟨_,rfl,rfl,rfl⟩)
    case hlast =>
     intro a' W hB hF hall
     have hV:a'.eval (.tmp 13)=V:=by
      have h:=hall 1 _ 13 (by omega) rfl rfl
      simpa [Act.eval] using h
     obtain ⟨x,h1,h2⟩:=hall 9 _ 21 (by omega) rfl rfl
     have hX:a'.eval (.tmp 21) = .slice (some ⟨x,0,none⟩) 1 1:=by simpa [Act.eval] using h1
     have hr2:=RI.out.r2.below hB;have hr4:=RI.out.r4.below hB;refine zbw rfl rfl (zuu (.tmp 13) (.tmp 21) rfl V (m.hs.length+k) _ hV (RI.out.vx.step hB) x _ _ hX h2 (by have:=HLM.out;omega) ?_);intro v' W' q1 q2 q3 q4
     refine ⟨v',rfl,⟨?_,hr2.heap (q2 g hr2.lt RI.out.n2),hr4.heap (q2 (g+1) hr4.lt RI.out.n4),?_,?_⟩⟩
     · rw [← NXT.out,hds_rr];exact q1
     · rcases q3 with q3|q3
       · rw [q3];exact RI.out.n2
       · rw [q3];intro e;injection e with e;have:=hr2.lt;omega
     · rcases q3 with q3|q3
       · rw [q3];exact RI.out.n4
       · rw [q3];intro e;injection e with e;have:=hr4.lt;omega
    case hfin =>
     intro a' W hF hq hp
     have hx:a'.eval (.tmp 23) = .pointer (some ⟨g,4,none⟩):=by simpa [Act.eval] using hp
     obtain ⟨A9,c9,h9⟩:=zyk hq.vx
     have hy:a'.eval (.tmp 22) = .slice A9 (m.hs.length+(k+1)) c9:=by simpa [Act.eval] using h9
     rw [h9] at hq;refine zbw rfl rfl (yb9 (.tmp 23) (.tmp 22) rfl hx hy (hq.r2.cell 4) (hq.r2.frozen 4) ?_);refine ⟨undef,rfl,_,⟨?_,hq.r2.set 4 _,hq.r4.setOther (by omega) _,hq.n2,hq.n4⟩⟩
     refine hq.vx.other (hq.vx.bw.setCell (by have:=HG.out;have:=WB.out.size;show w0.heap.size≤g;omega) _) fun k hk=>Below.heap_setCell W _ _ k (fun e=>hq.n2 (by rw [hk,e]))
    case hend =>
    intro vs W hlen hf;obtain ⟨V',hf⟩:=hf;have HF:=kd hf
    obtain ⟨v0,v1,v2,v3,v4,v5,v6,v7,v8,v9,v10,v11,v12,rfl⟩:∃ v0 v1 v2 v3 v4 v5 v6 v7 v8 v9 v10 v11 v12,vs=[v0,v1,v2,v3,v4,v5,v6,v7,v8,v9,v10,v11,v12]:=by
     match vs,hlen with
     | [v0,v1,v2,v3,v4,v5,v6,v7,v8,v9,v10,v11,v12],_=>exact ⟨_,_,_,_,_,_,_,_,_,_,_,_,_,rfl⟩
    clear hf hlen CE NXT RI R2 CS1 CS2 JB;simp only [putL,Act.put,List.setIfInBounds_toArray,List.set_cons_zero,List.set_cons_succ];go_wp2_with fail;go_roundw
    case rel=>exact ⟨k+1,V',by omega,by go_num,HF⟩
    case measure=>simp [intOf];omega
  · obtain rfl:k=n:=by omega
    have hd:decide ((k:Int)<(k:Int))=false:=by simp
    have R2:=kd RI.out.r2;obtain ⟨A9,c9,rfl⟩:=zyk RI.out.vx;have R4:=kd RI.out.r4;have VB:=kd RI.out.vx.bw;have GE:=kd (show w0.heap.size≤g+1 by have:=HG.out;have:=WB.out.size;omega);have HX:=kd RI.out;clear RI
    go_wp2_with (first
     | (with_reducible refine zab rfl 31 (.tmp 2) rfl R2.out rfl Tryz.underlying31 rfl zaw ?_)
     | (with_reducible refine zbx rfl 31 (.tmp 4) (.tmp 24) rfl R4.out [.string (strOfNums m.me),.string (strOfNums m.ur),.int .i64 m.co,.string (strOfNums m.re),.slice A9 (m.hs.length+k) c9,.slice none 0 0] rfl rfl rfl zaw zog VB.out GE.out ?_))
    intro w9 S1 S2 S3;have R9:=S1.out;go_wp2_with fail;refine bodyPost_ret (zdv rfl _ _ _ (g+1) [.string (strOfNums m.me),.string (strOfNums m.ur),.int .i64 m.co,.string (strOfNums m.re),.slice A9 (m.hs.length+k) c9,.slice none 0 0] _ rfl R9.range Tryz.underlying31 rfl zaw) rfl ?_
    refine ⟨_,rfl,?_⟩;have hv:=HX.out.vx;rw [List.take_of_length_le (by rw [HNR.out];exact Nat.le_refl _)] at hv;exact hv.other S2.out fun q hq=>S3.out.2 q (fun e=>HX.out.n4 (by rw [hq,e]))

theorem vx_ge {T:TypeId} {sz:Nat} {w wr:World} {v:Value} {n:Nat} {cs:List Value} {g:Nat} (H:VX T sz w v n cs wr) (hg:v.ownBlock=some g):w.heap.size≤g:=by
 rcases H.o.2 with ⟨rfl,_⟩|⟨g',cap,cur,rfl,hb,_⟩
 · cases hg
 · have h1:g'=g:=by simpa [Value.ownBlock] using hg
   omega
theorem ze3 (rs:List (List Int)) (A:Option Addr) (n c:Nat) (w:World) (hn:rs.length=n) (hN:n≤900) (hB:∀ r∈rs,Tx r) (hA0:∀ b o s,A=some ⟨b,o,s⟩→o=0) (HR:Rds w w.heap.size A (strs rs)) :
  Calls Tryz.prog 17 #[.slice A n c] w fun e w' => ∃ v,e = .returned (.agg #[.string ⟨#[73,78,86,73,84,69]⟩,.string ⟨#[115,105,112,58,98,64,98,46,101,120,97,109,112,108,101]⟩,.int .i64 0,.string ⟨#[]⟩,v,.slice none 0 0])∧VX 56 2 w v (6+n) (hds (zaz rs).hs) w':=by
 have R1:=kd (Row.new w 31 [.string ⟨#[]⟩,.string ⟨#[]⟩,.int .i64 0,.string ⟨#[]⟩,.slice none 0 0,.slice none 0 0])
 have B1:=kd ((Below.refl w.heap.size w).alloc zNr (.cells ([.string ⟨#[]⟩,.string ⟨#[]⟩,.int .i64 0,.string ⟨#[]⟩,.slice none 0 0,.slice none 0 0]:List Value).toArray 31));have SZ:=kd (World.size_alloc w (.cells (Z6m:List Value).toArray 31))
 have RT:=kd (show ∀ W,Below w.heap.size w W→Rds W W.heap.size A (strs rs) from fun W hb=>(HR.below hb).up hb.size)
 have RC:=kd (fun (w1 w3:World) (hV:VX 56 2 w1 (.slice (some ⟨w1.heap.size,0,none⟩) 6 6) 6 (hds IH) w3) (hR:Rds w3 w1.heap.size A (strs rs))=>ziy ⟨[73,78,86,73,84,69],[115,105,112,58,98,64,98,46,101,120,97,109,112,108,101],0,[],IH⟩ rs w1 (.slice (some ⟨w1.heap.size,0,none⟩) 6 6) A n c w3 hn (by omega) (by show 6≤1000;omega) hB hA0 hV hR)
 clear HR hn hB hA0
 go_enter Tryz.func17,Tryz.ntmps17
 go_upto_region 1 with (fail);generalize w.alloc (.cells #[.string ⟨#[]⟩,.string ⟨#[]⟩,.int .i64 0,.string ⟨#[]⟩,.slice none 0 0,.slice none 0 0] 31)=w1 at *;obtain ⟨g,hg⟩:∃ b,w.heap.size=b:=⟨_,rfl⟩;have GG:=kd hg;rw [hg] at R1 ⊢;clear hg
 have RS:=kd (Row.new w1 56 [.string ⟨#[86,105,97]⟩,.string ⟨#[83,73,80,47,50,46,48,47,85,68,80,32,97,46,101,120,97,109,112,108,101,59,98,114,97,110,99,104,61,122,57,104,71,52,98,75,49]⟩,.string ⟨#[70,114,111,109]⟩,.string ⟨#[60,115,105,112,58,97,64,97,46,101,120,97,109,112,108,101,62,59,116,97,103,61,120]⟩,.string ⟨#[84,111]⟩,.string ⟨#[60,115,105,112,58,98,64,98,46,101,120,97,109,112,108,101,62]⟩,.string ⟨#[67,97,108,108,45,73,68]⟩,.string ⟨#[99,49]⟩,.string ⟨#[67,83,101,113]⟩,.string ⟨#[55,32,73,78,86,73,84,69]⟩,.string ⟨#[67,111,110,116,97,99,116]⟩,.string ⟨#[60,115,105,112,58,97,64,49,46,50,46,51,46,52,62]⟩])
 have B2:=kd ((Below.refl w1.heap.size w1).alloc zNr (.cells ([.string ⟨#[86,105,97]⟩,.string ⟨#[83,73,80,47,50,46,48,47,85,68,80,32,97,46,101,120,97,109,112,108,101,59,98,114,97,110,99,104,61,122,57,104,71,52,98,75,49]⟩,.string ⟨#[70,114,111,109]⟩,.string ⟨#[60,115,105,112,58,97,64,97,46,101,120,97,109,112,108,101,62,59,116,97,103,61,120]⟩,.string ⟨#[84,111]⟩,.string ⟨#[60,115,105,112,58,98,64,98,46,101,120,97,109,112,108,101,62]⟩,.string ⟨#[67,97,108,108,45,73,68]⟩,.string ⟨#[99,49]⟩,.string ⟨#[67,83,101,113]⟩,.string ⟨#[55,32,73,78,86,73,84,69]⟩,.string ⟨#[67,111,110,116,97,99,116]⟩,.string ⟨#[60,115,105,112,58,97,64,49,46,50,46,51,46,52,62]⟩]:List Value).toArray 56))
 have SZ2:=kd (World.size_alloc w1 (.cells ([.string ⟨#[86,105,97]⟩,.string ⟨#[83,73,80,47,50,46,48,47,85,68,80,32,97,46,101,120,97,109,112,108,101,59,98,114,97,110,99,104,61,122,57,104,71,52,98,75,49]⟩,.string ⟨#[70,114,111,109]⟩,.string ⟨#[60,115,105,112,58,97,64,97,46,101,120,97,109,112,108,101,62,59,116,97,103,61,120]⟩,.string ⟨#[84,111]⟩,.string ⟨#[60,115,105,112,58,98,64,98,46,101,120,97,109,112,108,101,62]⟩,.string ⟨#[67,97,108,108,45,73,68]⟩,.string ⟨#[99,49]⟩,.string ⟨#[67,83,101,113]⟩,.string ⟨#[55,32,73,78,86,73,84,69]⟩,.string ⟨#[67,111,110,116,97,99,116]⟩,.string ⟨#[60,115,105,112,58,97,64,49,46,50,46,51,46,52,62]⟩]:List Value).toArray 56))
 go_wp2_with (refine zak rfl 31 (.tmp 3) (.tmp 11) rfl Z6m [.string ⟨#[73,78,86,73,84,69]⟩,.string ⟨#[115,105,112,58,98,64,98,46,101,120,97,109,112,108,101]⟩,.int .i64 0,.string ⟨#[]⟩,.slice (some ⟨w1.heap.size,0,none⟩) 6 6,.slice none 0 0] (by simp [Act.eval,World.size_alloc]) rfl lenU zaw zog ?_)
 intro w3 R3 S3;go_upto_region 2 with (fail)
 generalize w1.alloc (.cells #[.string ⟨#[86,105,97]⟩,.string ⟨#[83,73,80,47,50,46,48,47,85,68,80,32,97,46,101,120,97,109,112,108,101,59,98,114,97,110,99,104,61,122,57,104,71,52,98,75,49]⟩,.string ⟨#[70,114,111,109]⟩,.string ⟨#[60,115,105,112,58,97,64,97,46,101,120,97,109,112,108,101,62,59,116,97,103,61,120]⟩,.string ⟨#[84,111]⟩,.string ⟨#[60,115,105,112,58,98,64,98,46,101,120,97,109,112,108,101,62]⟩,.string ⟨#[67,97,108,108,45,73,68]⟩,.string ⟨#[99,49]⟩,.string ⟨#[67,83,101,113]⟩,.string ⟨#[55,32,73,78,86,73,84,69]⟩,.string ⟨#[67,111,110,116,97,99,116]⟩,.string ⟨#[60,115,105,112,58,97,64,49,46,50,46,51,46,52,62]⟩] 56)=w2 at *
 replace S3:=kd (show Below w2.heap.size w2 w3 by rw [SZ2.out];exact S3.out);clear SZ2;have B3:=kd (zao B2.out S3.out);have VH:=kd (show VX 56 2 w1 (.slice (some ⟨w1.heap.size,0,none⟩) 6 6) 6 (hds IH) w3 from zuz B3.out zNr (RS.out.below S3.out) rfl (by omega))
 have RH:=kd (show Rds w3 w1.heap.size A (strs rs) from ((RT.out w1 B1.out).below B3.out));have RC2:=kd (RC.out w1 w3 VH.out RH.out);clear RC RT RS B2 S3 VH RH;go_wp2_with (with_reducible refine zab rfl 31 (.tmp 3) rfl R3.out rfl Tryz.underlying31 rfl zaw ?_);refine (RC2.out).mono ?_
 rintro _ w4 ⟨v,rfl,X⟩;have XH:=kd X;obtain ⟨A9,c9,rfl⟩:=zyk X;have R4:=kd (show Row w4 g 31 Z6m from R1.out.below (by have h:=X.bw;have h2:=SZ.out;rw [GG.out] at h2;exact h.mono (by omega)));have BX:=kd (show Below w.heap.size w w4 from zao B1.out X.bw)
 have GE:=kd (show w.heap.size≤g from by rw [GG.out];exact Nat.le_refl _);have OW:=kd (show ∀ q,(Value.slice A9 (6+n) c9).ownBlock=some q→q≠g from fun q hq e=>by have h:=vx_ge X hq;have h2:=SZ.out;have h3:=GG.out;omega);clear X RC2 R1 R3 B3
 go_wp2_with (with_reducible refine zbx rfl 31 (.tmp 2) (.tmp 14) rfl R4.out [.string ⟨#[73,78,86,73,84,69]⟩,.string ⟨#[115,105,112,58,98,64,98,46,101,120,97,109,112,108,101]⟩,.int .i64 0,.string ⟨#[]⟩,.slice A9 (6+n) c9,.slice none 0 0] rfl rfl rfl zaw zog BX.out GE.out ?_)
 intro w9 S1 S2 S3;have R9:=S1.out;go_wp2_with fail
 refine bodyPost_ret (zdv rfl _ _ _ g [.string ⟨#[73,78,86,73,84,69]⟩,.string ⟨#[115,105,112,58,98,64,98,46,101,120,97,109,112,108,101]⟩,.int .i64 0,.string ⟨#[]⟩,.slice A9 (6+n) c9,.slice none 0 0] _ rfl R9.range Tryz.underlying31 rfl zaw) rfl ?_
 exact ⟨_,rfl,((XH.out.base B1.out).other S2.out fun q hq=>S3.out.2 q (OW.out q hq))⟩
theorem zek (co:Int) (rs:List (List Int)) (A:Option Addr) (n c:Nat) (w:World) (hn:rs.length=n) (hN:n≤900) (hB:∀ r∈rs,Tx r) (hA0:∀ b o s,A=some ⟨b,o,s⟩→o=0) (HR:Rds w w.heap.size A (strs rs)) :
  Calls Tryz.prog 18 #[.int .i64 co,.slice A n c] w fun e w' => ∃ v,e = .returned (.agg #[.string ⟨#[]⟩,.string ⟨#[]⟩,.int .i64 co,.string ⟨#[82]⟩,v,.slice none 0 0])∧VX 56 2 w v (6+n) (hds (zay co rs).hs) w':=by
 have R1:=kd (Row.new w 31 [.string ⟨#[]⟩,.string ⟨#[]⟩,.int .i64 0,.string ⟨#[]⟩,.slice none 0 0,.slice none 0 0])
 have B1:=kd ((Below.refl w.heap.size w).alloc zNr (.cells ([.string ⟨#[]⟩,.string ⟨#[]⟩,.int .i64 0,.string ⟨#[]⟩,.slice none 0 0,.slice none 0 0]:List Value).toArray 31));have SZ:=kd (World.size_alloc w (.cells (Z6m:List Value).toArray 31))
 have RT:=kd (show ∀ W,Below w.heap.size w W→Rds W W.heap.size A (strs rs) from fun W hb=>(HR.below hb).up hb.size)
 have RC:=kd (fun (w1 w3:World) (hV:VX 56 2 w1 (.slice (some ⟨w1.heap.size,0,none⟩) 6 6) 6 (hds AH) w3) (hR:Rds w3 w1.heap.size A (strs rs))=>ziy ⟨[],[],co,[82],AH⟩ rs w1 (.slice (some ⟨w1.heap.size,0,none⟩) 6 6) A n c w3 hn (by omega) (by show 6≤1000;omega) hB hA0 hV hR)
 clear HR hn hB hA0
 go_enter Tryz.func18,Tryz.ntmps18
 go_upto_region 1 with (fail);generalize w.alloc (.cells #[.string ⟨#[]⟩,.string ⟨#[]⟩,.int .i64 0,.string ⟨#[]⟩,.slice none 0 0,.slice none 0 0] 31)=w1 at *;obtain ⟨g,hg⟩:∃ b,w.heap.size=b:=⟨_,rfl⟩;have GG:=kd hg;rw [hg] at R1 ⊢;clear hg
 have RS:=kd (Row.new w1 56 [.string ⟨#[86,105,97]⟩,.string ⟨#[83,73,80,47,50,46,48,47,85,68,80,32,97,46,101,120,97,109,112,108,101,59,98,114,97,110,99,104,61,122,57,104,71,52,98,75,49]⟩,.string ⟨#[70,114,111,109]⟩,.string ⟨#[60,115,105,112,58,97,64,97,46,101,120,97,109,112,108,101,62,59,116,97,103,61,120]⟩,.string ⟨#[84,111]⟩,.string ⟨#[60,115,105,112,58,98,64,98,46,101,120,97,109,112,108,101,62,59,116,97,103,61,121]⟩,.string ⟨#[67,97,108,108,45,73,68]⟩,.string ⟨#[99,49]⟩,.string ⟨#[67,83,101,113]⟩,.string ⟨#[55,32,73,78,86,73,84,69]⟩,.string ⟨#[67,111,110,116,97,99,116]⟩,.string ⟨#[60,115,105,112,58,98,64,53,46,54,46,55,46,56,62]⟩])
 have B2:=kd ((Below.refl w1.heap.size w1).alloc zNr (.cells ([.string ⟨#[86,105,97]⟩,.string ⟨#[83,73,80,47,50,46,48,47,85,68,80,32,97,46,101,120,97,109,112,108,101,59,98,114,97,110,99,104,61,122,57,104,71,52,98,75,49]⟩,.string ⟨#[70,114,111,109]⟩,.string ⟨#[60,115,105,112,58,97,64,97,46,101,120,97,109,112,108,101,62,59,116,97,103,61,120]⟩,.string ⟨#[84,111]⟩,.string ⟨#[60,115,105,112,58,98,64,98,46,101,120,97,109,112,108,101,62,59,116,97,103,61,121]⟩,.string ⟨#[67,97,108,108,45,73,68]⟩,.string ⟨#[99,49]⟩,.string ⟨#[67,83,101,113]⟩,.string ⟨#[55,32,73,78,86,73,84,69]⟩,.string ⟨#[67,111,110,116,97,99,116]⟩,.string ⟨#[60,115,105,112,58,98,64,53,46,54,46,55,46,56,62]⟩]:List Value).toArray 56))
 have SZ2:=kd (World.size_alloc w1 (.cells ([.string ⟨#[86,105,97]⟩,.string ⟨#[83,73,80,47,50,46,48,47,85,68,80,32,97,46,101,120,97,109,112,108,101,59,98,114,97,110,99,104,61,122,57,104,71,52,98,75,49]⟩,.string ⟨#[70,114,111,109]⟩,.string ⟨#[60,115,105,112,58,97,64,97,46,101,120,97,109,112,108,101,62,59,116,97,103,61,120]⟩,.string ⟨#[84,111]⟩,.string ⟨#[60,115,105,112,58,98,64,98,46,101,120,97,109,112,108,101,62,59,116,97,103,61,121]⟩,.string ⟨#[67,97,108,108,45,73,68]⟩,.string ⟨#[99,49]⟩,.string ⟨#[67,83,101,113]⟩,.string ⟨#[55,32,73,78,86,73,84,69]⟩,.string ⟨#[67,111,110,116,97,99,116]⟩,.string ⟨#[60,115,105,112,58,98,64,53,46,54,46,55,46,56,62]⟩]:List Value).toArray 56))
 go_wp2_with (refine zak rfl 31 (.tmp 5) (.tmp 14) rfl Z6m [.string ⟨#[]⟩,.string ⟨#[]⟩,.int .i64 co,.string ⟨#[82]⟩,.slice (some ⟨w1.heap.size,0,none⟩) 6 6,.slice none 0 0] (by simp [Act.eval,World.size_alloc]) rfl lenU zaw zog ?_);intro w3 R3 S3;go_upto_region 2 with (fail)
 generalize w1.alloc (.cells #[.string ⟨#[86,105,97]⟩,.string ⟨#[83,73,80,47,50,46,48,47,85,68,80,32,97,46,101,120,97,109,112,108,101,59,98,114,97,110,99,104,61,122,57,104,71,52,98,75,49]⟩,.string ⟨#[70,114,111,109]⟩,.string ⟨#[60,115,105,112,58,97,64,97,46,101,120,97,109,112,108,101,62,59,116,97,103,61,120]⟩,.string ⟨#[84,111]⟩,.string ⟨#[60,115,105,112,58,98,64,98,46,101,120,97,109,112,108,101,62,59,116,97,103,61,121]⟩,.string ⟨#[67,97,108,108,45,73,68]⟩,.string ⟨#[99,49]⟩,.string ⟨#[67,83,101,113]⟩,.string ⟨#[55,32,73,78,86,73,84,69]⟩,.string ⟨#[67,111,110,116,97,99,116]⟩,.string ⟨#[60,115,105,112,58,98,64,53,46,54,46,55,46,56,62]⟩] 56)=w2 at *
 replace S3:=kd (show Below w2.heap.size w2 w3 by rw [SZ2.out];exact S3.out);clear SZ2;have B3:=kd (zao B2.out S3.out);have VH:=kd (show VX 56 2 w1 (.slice (some ⟨w1.heap.size,0,none⟩) 6 6) 6 (hds AH) w3 from zuz B3.out zNr (RS.out.below S3.out) rfl (by omega))
 have RH:=kd (show Rds w3 w1.heap.size A (strs rs) from ((RT.out w1 B1.out).below B3.out));have RC2:=kd (RC.out w1 w3 VH.out RH.out);clear RC RT RS B2 S3 VH RH;go_wp2_with (with_reducible refine zab rfl 31 (.tmp 5) rfl R3.out rfl Tryz.underlying31 rfl zaw ?_);refine (RC2.out).mono ?_
 rintro _ w4 ⟨v,rfl,X⟩;have XH:=kd X;obtain ⟨A9,c9,rfl⟩:=zyk X;have R4:=kd (show Row w4 g 31 Z6m from R1.out.below (by have h:=X.bw;have h2:=SZ.out;rw [GG.out] at h2;exact h.mono (by omega)));have BX:=kd (show Below w.heap.size w w4 from zao B1.out X.bw)
 have GE:=kd (show w.heap.size≤g from by rw [GG.out];exact Nat.le_refl _);have OW:=kd (show ∀ q,(Value.slice A9 (6+n) c9).ownBlock=some q→q≠g from fun q hq e=>by have h:=vx_ge X hq;have h2:=SZ.out;have h3:=GG.out;omega);clear X RC2 R1 R3 B3
 go_wp2_with (with_reducible refine zbx rfl 31 (.tmp 4) (.tmp 17) rfl R4.out [.string ⟨#[]⟩,.string ⟨#[]⟩,.int .i64 co,.string ⟨#[82]⟩,.slice A9 (6+n) c9,.slice none 0 0] rfl rfl rfl zaw zog BX.out GE.out ?_);intro w9 S1 S2 S3;have R9:=S1.out;go_wp2_with fail
 refine bodyPost_ret (zdv rfl _ _ _ g [.string ⟨#[]⟩,.string ⟨#[]⟩,.int .i64 co,.string ⟨#[82]⟩,.slice A9 (6+n) c9,.slice none 0 0] _ rfl R9.range Tryz.underlying31 rfl zaw) rfl ?_;exact ⟨_,rfl,((XH.out.base B1.out).other S2.out fun q hq=>S3.out.2 q (OW.out q hq))⟩

theorem zrc (w:World):Calls Tryz.prog 20 #[] w fun e w'=>e = .returned (.string (strOfNums VIA2))∧Below w.heap.size w w':=by
 have E:=kd (show (⟨#[83,73,80,47,50,46,48,47,85,68,80,32,97,46,101,120,97,109,112,108,101,59,98,114,97,110,99,104,61,122,57,104,71,52,98,75,50]⟩:ByteArray)=strOfNums VIA2 by rfl);have B:=kd (Below.refl w.heap.size w)
 go_enter Tryz.func20,Tryz.ntmps20
 go_wp2_with fail;go_ret
 exact ⟨by rw [← E.out]<;>rfl,B.out⟩
theorem zvd {x y:List (List Int)} {k:Nat} {s t:List Int} (hs:x[k]? = some s) (ht:y[k]? = some t) (he:x.take k=y.take k) (h:s=t):x.take (k+1)=y.take (k+1):=by
 rw [List.take_add_one,List.take_add_one,he,hs,ht,h]
theorem zqe {x y:List (List Int)} {k:Nat} {s t:List Int} (hs:x[k]? = some s) (ht:y[k]? = some t) (h:s≠t):x≠y:=fun e=>by
 rw [e,ht] at hs;exact h (Option.some.inj hs).symm
theorem zjs (x y:List (List Int)) (A B:Option Addr) (n c m d:Nat) (w:World) (hx:x.length=n) (hy:y.length=m) (hn:n≤1000000) (hA0:∀ b o s,A=some ⟨b,o,s⟩→o=0) (hB0:∀ b o s,B=some ⟨b,o,s⟩→o=0) (HA:Rds w w.heap.size A (strs x)) (HB:Rds w w.heap.size B (strs y)) (bx:∀ t∈x,By t) (by_:∀ t∈y,By t) :
  Calls Tryz.prog 34 #[.slice A n c,.slice B m d] w fun e w'=>e = .returned (.bool (decide (x=y)))∧Below w.heap.size w w':=by
 obtain ⟨R,hR⟩:∃ b,decide (x=y)=b:=⟨_,rfl⟩;rw [hR];have HRR:=kd hR;have B0:=kd (Below.refl w.heap.size w);have HX:=kd hx;have HY:=kd hy;have RA:=kd HA;have RB:=kd HB;have BX:=kd bx;have BY:=kd by_;have A0:=kd hA0;have B00:=kd hB0
 clear hR hx hy HA HB bx by_ hA0 hB0
 by_cases hl:n=m
 case neg =>
  have p0:((n:Int) != (m:Int))=true:=by rw [bne_iff_ne];omega
  have N:=kd (show R=false by rw [← HRR.out];exact decide_eq_false (fun e=>hl (by rw [← HX.out,← HY.out,e])))
  have hl2:¬ (n:Int)=(m:Int):=by omega
  go_enter Tryz.func34,Tryz.ntmps34
  go_wp2_with fail
  first|exact ⟨by rw [N.out]<;>rfl,B0.out⟩|(go_ret;exact ⟨by rw [N.out]<;>rfl,B0.out⟩)
 subst hl
 have p0:((n:Int) != (n:Int))=false:=by simp
 go_enter Tryz.func34,Tryz.ntmps34
 go_wp2_with fail
 go_loopw [5] (fun v5 wr => ∃ k:Nat,k≤n∧v5 = .int .i64 k∧Hid (x.take k=y.take k)∧Hid (Below w.heap.size w wr)) (fun v5 _=>n - (intOf v5).toNat)
 case atStart=>exact ⟨0,Nat.zero_le _,rfl,kd rfl,B0⟩
 case round =>
  obtain ⟨k,hk,rfl,TK,BW⟩:=hrel
  by_cases hlt:k<n
  · have hd:decide ((k:Int)<(n:Int))=true:=by simp;omega
    obtain ⟨s,hs⟩:∃ s,x[k]? = some s:=⟨_,List.getElem?_eq_getElem (by rw [HX.out];exact hlt)⟩;obtain ⟨t,ht⟩:∃ t,y[k]? = some t:=⟨_,List.getElem?_eq_getElem (by rw [HY.out];exact hlt)⟩;have AB:=zb7 (BX.out s (List.mem_of_getElem? hs)) (BY.out t (List.mem_of_getElem? ht))
    obtain ⟨ba,oa,rfl,hba,hca⟩:=RA.out (by rw [za8,HX.out];omega);obtain rfl:=A0.out ba oa none rfl;obtain ⟨bb,ob,rfl,hbb,hcb⟩:=RB.out (by rw [za8,HY.out];omega);obtain rfl:=B00.out bb ob none rfl
    have ka:wr.cell? ⟨ba,k,none⟩=some (.string (strOfNums s)):=by
     have h1:=hca k _ (ze9 hs);rw [Nat.zero_add] at h1;exact (BW.out.cell (p:=⟨ba,k,none⟩) hba).trans h1
    have kb:wr.cell? ⟨bb,k,none⟩=some (.string (strOfNums t)):=by
     have h1:=hcb k _ (ze9 ht);rw [Nat.zero_add] at h1;exact (BW.out.cell (p:=⟨bb,k,none⟩) hbb).trans h1
    by_cases he:s=t
    · have e0:((strOfNums s).toList == (strOfNums t).toList)=true:=AB.trans (by simpa using he)
      have e1:((strOfNums s).toList != (strOfNums t).toList)=false:=by rw [bne,e0];rfl
      have TN:=kd (zvd hs ht TK.out he);clear hca hcb hs ht AB hba hbb he;generalize strOfNums s=ss at *;generalize strOfNums t=tt at *;go_upto_region 6 with (fail)
      go_quiet (fail)
      go_wp2_with fail;go_roundw
      case rel=>exact ⟨k+1,by omega,by go_num,TN,kd (zao BW.out (zam _ _))⟩
      case measure=>simp [intOf];omega
    · have e0:((strOfNums s).toList == (strOfNums t).toList)=false:=AB.trans (by simpa using he)
      have e1:((strOfNums s).toList != (strOfNums t).toList)=true:=by rw [bne,e0];rfl
      have N:=kd (show R=false by rw [← HRR.out];exact decide_eq_false (zqe hs ht he));clear hca hcb hs ht AB hba hbb he TK;generalize strOfNums s=ss at *;generalize strOfNums t=tt at *;go_upto_region 6 with (fail)
      go_quiet (fail)
      go_wp2_with fail
      first|exact ⟨by rw [N.out]<;>rfl,zao BW.out (zam _ _)⟩|(go_ret;exact ⟨by rw [N.out]<;>rfl,zao BW.out (zam _ _)⟩)
  · obtain rfl:k=n:=by omega
    have hd:decide ((k:Int)<(k:Int))=false:=by simp
    have N:=kd (show R=true by
     rw [← HRR.out];have h:=TK.out;rw [List.take_of_length_le (by rw [HX.out];exact Nat.le_refl _),List.take_of_length_le (by rw [HY.out];exact Nat.le_refl _)] at h
     exact decide_eq_true h)
    clear TK;go_wp2_with fail
    first|exact ⟨by rw [N.out]<;>rfl,BW.out⟩|(go_ret;exact ⟨by rw [N.out]<;>rfl,BW.out⟩)
theorem zn0 (m:Msg) (A B:Option Addr) (c nb cb:Nat) (w:World) (H:MArg w m A) (G:GW w) :
  Calls Tryz.prog 21 #[mS m A B c nb cb] w fun e w'=>e = .returned (.tuple #[.int .i64 (zan m.hs).1,.string (strOfNums (zan m.hs).2.1)])∧Below w.heap.size w w':=by
 have R1:=kd (Row.new w 31 (mC m A B c nb cb));have B1:=kd ((Below.refl w.heap.size w).alloc zNr (.cells (mC m A B c nb cb).toArray 31));have GE:=kd (fun w' (hb:Below w.heap.size w w')=>zeg m A B c nb cb ⟨#[67,83,101,113]⟩ w' (H.step hb) (by decide) (G.below hb).s)
 rw [show zaa ⟨#[67,83,101,113]⟩=zdl by rfl] at GE;have VB:=zhr m.hs zdl;have VL:=zjc (l:=m.hs) (nm:=zdl) (fun h hh=>(H.ok.s h hh).2);have TG:=kd (fun w' (hb:Below w.heap.size w w')=>zsg (strOfNums (val0 m.hs zdl)) w' (by rw [zaq];exact VL));rw [zal VB] at TG
 obtain ⟨k,hk,hk0⟩:=zxu (val0 m.hs zdl);rw [hk] at TG;have TE:=kd (show zan m.hs=zlc (val0 m.hs zdl) from rfl);unfold mS at GE ⊢;unfold mC at R1 B1;rw [TE.out];generalize zlc (val0 m.hs zdl)=T at *;generalize val0 m.hs zdl=V at *;generalize (valH m.hs zdl).isSome=vb at *
 clear H G VB VL TE hk hk0
 go_enter Tryz.func21,Tryz.ntmps21
 go_upto_region 1 with (fail);generalize w.alloc (.cells #[.string (strOfNums m.me),.string (strOfNums m.ur),.int .i64 m.co,.string (strOfNums m.re),.slice A m.hs.length c,.slice B nb cb] 31)=w1 at *
 go_wp2_with (with_reducible refine zab rfl 31 (.tmp 1) rfl R1.out rfl Tryz.underlying31 rfl zaw ?_);refine (GE.out _ B1.out).mono ?_;rintro _ w2 ⟨rfl,hb2⟩;have B2:=kd (zao B1.out hb2);clear hb2 GE R1 B1;go_wp2_with fail;refine (TG.out _ B2.out).mono ?_;rintro _ w3 ⟨rfl,hb3⟩
 have B3:=kd (zao B2.out hb3);clear hb3 TG B2;go_wp2_with fail
 go_ret2
 exact ⟨rfl,B3.out⟩
end Go.Proofs.YtfnmkedncfdceaaGreatDoor
