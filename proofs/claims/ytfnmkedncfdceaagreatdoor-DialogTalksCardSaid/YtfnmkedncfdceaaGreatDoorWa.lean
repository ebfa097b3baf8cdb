/- Contract: address.Print. And what stands behind it. -/
import Derived.Test.YtfnmkedncfdceaaGreatDoorUr
set_option linter.unusedVariables false
set_option linter.unusedSimpArgs false
namespace Go.Proofs.YtfnmkedncfdceaaGreatDoor
open Go.RowKit

theorem zeq (a b:ByteArray):zaa (a++b)=zaa a++zaa b:=by unfold zaa;rw [ByteArray.data_append];simp
theorem By.app {a b:List Int} (h:By a) (k:By b):By (a++b):=fun x hx=>by
 rcases List.mem_append.1 hx with hx|hx
 · exact h x hx
 · exact k x hx
theorem zot (p:Pm):∀ (l:List Pm) (b:Bool),hdsT (l++[p]) b=hdsT l b++((if l=[]∧b=true then [63] else [38])++hdT p)
 | [],b=>by cases b<;>simp [hdsT]
 | q::l,b=>by
   rw [List.cons_append,show hdsT (q::(l++[p])) b=(if b=true then [63] else [38])++hdT q++hdsT (l++[p]) false from rfl,zot p l false,show hdsT (q::l) b=(if b=true then [63] else [38])++hdT q++hdsT l false from rfl];simp
theorem pmT_by {p:Pm} (h1:By p.n) (h2:By p.v):By (pmT p):=by
 unfold pmT;refine ((show By [59] by unfold By;decide).app (zez h1)).app ?_
 split
 · exact (show By [61] by unfold By;decide).app (zez h2)
 · exact fun x hx=>by cases hx
theorem hdT_by {p:Pm} (h1:By p.n) (h2:By p.v):By (hdT p):=((zez h1).app (show By [61] by unfold By;decide)).app (zez h2)
theorem zw7:∀ {l:List Pm} {b:Bool},(∀ p∈l,By p.n∧By p.v)→By (hdsT l b)
 | [],_,_=>fun x hx=>by cases hx
 | p::l,b,h=>by
   rw [show hdsT (p::l) b=(if b=true then [63] else [38])++hdT p++hdsT l false from rfl];refine (By.app ?_ (hdT_by (h p (by simp)).1 (h p (by simp)).2)).app (zw7 fun q hq=>h q (List.mem_cons_of_mem _ hq))
   cases b
   · show By [38];unfold By;decide
   · show By [63];unfold By;decide
theorem psT_by {l:List Pm} (h:∀ p∈l,By p.n∧By p.v):By (l.flatMap pmT):=fun x hx=>by
 obtain ⟨p,hp,hx⟩:=List.mem_flatMap.1 hx;exact pmT_by (h p hp).1 (h p hp).2 x hx
def zn5 (sc us ho:List Int) (po:Int):List Int:=sc++[58]++(if sc=TELT then us else if us=[] then [] else escT 0 us++[64])++ho++(if po=0 then [] else [58]++decL po)
theorem zn4 (n:Uri):zls n=zn5 n.sc n.us n.ho n.po++n.ps.flatMap pmT++hdsT n.hs true:=rfl
theorem sc_by {n:Uri} (h:UriN n):By n.sc∧n.sc.length≤4:=by
 rcases h.k with ⟨h|h,_⟩|⟨h,_⟩<;>(rw [h];exact ⟨by unfold By;decide,by decide⟩)
theorem ho_by {n:Uri} (h:UriN n):By n.ho:=by
 rcases h.k with ⟨_,_,h,_⟩|⟨_,h,_⟩
 · exact h
 · rw [h];exact fun x hx=>by cases hx
theorem po_ok {n:Uri} (h:UriN n):0≤n.po∧n.po≤65535:=by
 rcases h.k with ⟨_,_,_,h1,h2,_⟩|⟨_,_,h,_⟩
 · exact ⟨h1,h2⟩
 · rw [h];decide
theorem yal {po:Int} (h0:0≤po) (h1:po≤65535):(decL po).length≤5:=by
 obtain ⟨m,rfl⟩:∃ m:Nat,po=(m:Int):=⟨po.toNat,by omega⟩;exact yeg m 4 (by omega)
theorem zvx {n:Uri} (h:UriN n):By (zn5 n.sc n.us n.ho n.po):=by
 unfold zn5;refine ((((sc_by h).1.app (show By [58] by unfold By;decide)).app ?_).app (ho_by h)).app ?_
 · split
   · exact h.us
   · split
     · exact fun x hx=>by cases hx
     · exact (zez h.us).app (show By [64] by unfold By;decide)
 · split
   · exact fun x hx=>by cases hx
   · exact (show By [58] by unfold By;decide).app (zqu _)
theorem zvw {n:Uri} (h:UriN n):By (zls n):=by
 rw [zn4];exact ((zvx h).app (psT_by fun p hp=>⟨(h.ps.f p hp).n,(h.ps.f p hp).v⟩)).app (zw7 fun p hp=>⟨(h.hs.f p hp).n,(h.hs.f p hp).v⟩)
theorem ydj {u n:Uri} (hb:ya6 u) (h:zdx u=some n) (h2:u.us.length≤4000000) (h3:u.ho.length≤4000000) (s1:∀ p∈u.ps,pmSz p) (s2:∀ p∈u.hs,pmSz p):n.us.length≤4000000∧n.ho.length≤4000000∧(∀ p∈n.ps,pmSz p)∧(∀ p∈n.hs,pmSz p):=by
 have key:∀ (l m:List Pm) (k:Int),PmBy l→(∀ p∈l,pmSz p)→zeh l k=some m→∀ p∈m,pmSz p:=fun l m k hl hs hm p hp=>by
  rw [((zkq hl).1 hm).2] at hp;obtain ⟨q,hq,rfl⟩:=List.mem_map.1 ((zdf _).mem_iff.1 hp);obtain ⟨a,b,c,d⟩:=hs q hq;exact ⟨zcr a,b,by show (lowS q.n).length≤_;rw [zbo];exact c,d⟩
 unfold zdx at h;dsimp only at h
 split at h
 · rename_i ps hs e1 e2
   split at h
   · split at h
     · rename_i ho hh
       split at h
       · injection h with h
         subst h;exact ⟨h2,Nat.le_trans (zm1 hh) h3,key _ _ 1 hb.ps s1 e1,key _ _ 2 hb.hs s2 e2⟩
       · cases h
     · cases h
   · split at h
     · split at h
       · injection h with h
         subst h;exact ⟨h2,Nat.zero_le _,key _ _ 1 hb.ps s1 e1,key _ _ 2 hb.hs s2 e2⟩
       · cases h
     · cases h
 · cases h
theorem UArg.step {w w':World} {u:Uri} {A1 A2:Option Addr} (h:UArg w u A1 A2) (hb:Below w.heap.size w w'):UArg w' u A1 A2:={ h with r1:=(h.r1.below hb).up hb.size,r2:=(h.r2.below hb).up hb.size }
def PriP (w:World) (R:Option (List Int)) (e:Ending) (w':World):Prop:=Below w.heap.size w w'∧match R with
 | none=>e = .returned (.tuple #[.string ⟨#[]⟩,.int .u8 2])
 | some s=>e = .returned (.tuple #[.string (strOfNums s),.int .u8 0])
theorem PriP.bad {w w':World} {R:Option (List Int)} (h:R=none) (hb:Below w.heap.size w w'):PriP w R (.returned (.tuple #[.string ⟨#[]⟩,.int .u8 2])) w':=by subst h;exact ⟨hb,rfl⟩
theorem PriP.good {w w':World} {R:Option (List Int)} {s:List Int} (h:R=some s) (hb:Below w.heap.size w w'):PriP w R (.returned (.tuple #[.string (strOfNums s),.int .u8 0])) w':=by subst h;exact ⟨hb,rfl⟩
theorem zey {w wr:World} {b:Nat} {xs:List Int} {K:List Blk} {s:ByteArray} {ys:List Int} (H:BdR w b xs K wr) (hl:xs.length≤2000000000) (hs:zaa s=ys) (hy:ys.length≤1000000000) :
  Calls Tryz.prog 203 #[.pointer (some ⟨b,0,none⟩),.string s] wr fun e w'=>e = .returned (.tuple #[.int .i64 s.size,.nilIface])∧BdR w b (xs++ys) K w':=by
 subst hs;rw [zac] at hy;exact zuh w wr b xs K s H (by omega)
theorem zkt (xs:List Int) (k:Int) (hb:By xs) (hl:xs.length≤4000000) (w:World) (hC:CLS w):Calls Tryz.prog 204 #[.string (strOfNums xs),.int .i64 k] w fun e w'=>e = .returned (.string (strOfNums (escT k xs)))∧Below w.heap.size w w':=by
 have h:=zt8 (strOfNums xs) k w (by rw [zaq];exact hl) hC
 rwa [zal hb] at h
set_option maxRecDepth 100000 in
set_option maxHeartbeats 8000000 in
theorem zvv (u:Uri) (A1 A2:Option Addr) (c1 c2:Nat) (w:World) (H:UArg w u A1 A2) (hC:CLS w) (hG:GM w) (hP:PT w) :
  Calls Tryz.prog 146 #[.agg #[.string (strOfNums u.sc),.string (strOfNums u.us),.string (strOfNums u.ho),.int .i64 u.po,.slice A1 u.ps.length c1,.slice A2 u.hs.length c2]] w (PriP w (zfv u)):=by
 have B1:=kd ((Below.refl w.heap.size w).alloc zNr (.cells ([.string (strOfNums u.sc),.string (strOfNums u.us),.string (strOfNums u.ho),.int .i64 u.po,.slice A1 u.ps.length c1,.slice A2 u.hs.length c2]:List Value).toArray 117))
 have NO:=kd (ztg u A1 A2 c1 c2 _ (H.step B1.out) (hG.below B1.out) (hP.below B1.out));have R1:=kd (Row.new w 117 [.string (strOfNums u.sc),.string (strOfNums u.us),.string (strOfNums u.ho),.int .i64 u.po,.slice A1 u.ps.length c1,.slice A2 u.hs.length c2]);have HC:=kd hC;have HP:=kd hP
 have PE:=kd (show zfv u=(zdx u).map zls from rfl);have NK:=kd (fun n (h:zdx u=some n)=>ydk H.by_ h);have NZ:=kd (fun n (h:zdx u=some n)=>ydj H.by_ h H.n2 H.n3 H.s1 H.s2);have BAD:=kd (fun w' h hb=>PriP.bad (w:=w) (w':=w') (R:=zfv u) h hb)
 have GOOD:=kd (fun w' s h hb=>PriP.good (w:=w) (w':=w') (R:=zfv u) (s:=s) h hb);generalize PriP w (zfv u)=PP at *;generalize zfv u=R at *;clear H hC hG hP
 go_enter Tryz.func146,Tryz.ntmps146
 go_wp2_with (with_reducible refine zab rfl 117 (.tmp 1) rfl R1.out rfl Tryz.underlying117 rfl zcv ?_);refine NO.out.mono ?_
 cases hN:zdx u with
 | none =>
   rintro _ w2 ⟨rfl,hb2⟩;have B2:=kd (zao B1.out hb2);have E:=kd (show R=none by rw [PE.out,hN];rfl);clear NK NZ PE hN hb2 NO R1;go_wp2_with (with_reducible refine zak rfl 117 (.tmp 4) (.tmp 14) rfl ZU6 ZU6 rfl rfl lenU zcv (ze5 _ _ _ _) ?_);intro w3 R3 B3;have B4:=kd (zao B2.out B3.out)
   go_wp2_with fail
   first|exact BAD.out _ E.out B4.out|(go_ret2;exact BAD.out _ E.out B4.out)
 | some n =>
 have HN:=kd (NK.out n hN);obtain ⟨z1,z2,z3,z4⟩:=NZ.out n hN;have E:=kd (show R=some (zls n) by rw [PE.out,hN];rfl);have NBY:=kd (zvw HN.out);obtain ⟨sb,sl⟩:=sc_by HN.out;have hob:=ho_by HN.out;obtain ⟨p0,p1⟩:=po_ok HN.out;have pl:=yal p0 p1;have HUB:=kd HN.out.us
 have L1:=HN.out.ps.len;have L2:=HN.out.hs.len;obtain ⟨sc,us,ho,po,ps,hs⟩:=n;dsimp only at z1 z2 z3 z4 sb sl hob p0 p1 pl HUB L1 L2;rintro _ w2 ⟨v5,v6,rfl,x5,x6⟩;obtain ⟨K5,A5,c5,hv5,_,hK5,hRd5⟩:=x5.whole;obtain ⟨K6,A6,c6,hv6,_,hK6,hRd6⟩:=x6.whole;subst hv5;subst hv6
 have B2:=kd (zao B1.out x5.bw);have HRD5:=kd hRd5;have HRD6:=kd hRd6
 have HK0:=kd (show ∀ r∈K5++K6,Row w2 r.1 r.2.1 r.2.2∧r.2.1≠5 from fun r hr=>by
  rcases List.mem_append.1 hr with hr|hr
  · exact ⟨(hK5 r hr).1,by rw [(hK5 r hr).2.2.1];decide⟩
  · exact ⟨(hK6 r hr).1,by rw [(hK6 r hr).2.2.1];decide⟩)
 have Z3:=kd z3;have Z4:=kd z4;have SB:=kd sb;have HOB:=kd hob;have PL:=kd pl;clear hRd5 hRd6 hK5 hK6 x5 x6 NK NZ PE hN NO R1 z3 z4 sb hob pl
 go_wp2_with (with_reducible refine zak rfl 117 (.tmp 4) (.tmp 14) rfl ZU6 [.string (strOfNums sc),.string (strOfNums us),.string (strOfNums ho),.int .i64 po,.slice A5 ps.length c5,.slice A6 hs.length c6] rfl rfl lenU zcv (ze5 _ _ _ _) ?_);intro w3 R3 B3
 have P:=kd (BdR.new w w3 ((w2.heap.size,117,[.string (strOfNums sc),.string (strOfNums us),.string (strOfNums ho),.int .i64 po,.slice A5 ps.length c5,.slice A6 hs.length c6])::(K5++K6)) (zao B2.out B3.out) fun r hr=>by
  rcases List.mem_cons.1 hr with rfl|hr
  · exact ⟨R3.out,show 117≠5 by decide⟩
  · exact ⟨(HK0.out r hr).1.below B3.out,(HK0.out r hr).2⟩)
 clear HK0 B1 B2 R3 B3;generalize w2.heap.size=b4 at *;go_upto_region 5 with (fail);generalize w3.heap.size=bb at *;generalize w3.alloc (.cells #[.pointer none,.slice none 0 0] 220)=w4 at *;have k0:=(P.out.at (i:=0) rfl).cell 0
 simp only [List.getElem?_cons_succ,List.getElem?_cons_zero] at k0;have LS:=zaq sc
 have z0:¬ (9223372036854775807<sc.length+1):=by omega
 go_wp2_with fail;refine (zey P.out zNz (s:=strOfNums sc ++ ⟨#[58]⟩) (ys:=sc++[58]) (by rw [zeq,zal SB.out];rfl) (by simp;omega)).mono ?_;rintro _ w5 ⟨rfl,hp5⟩;replace P:=kd hp5;clear hp5 k0 z0 LS;rw [List.nil_append] at P;have Q3:=zcs SB.out [116,101,108]
 rw [show bl [116,101,108]=TELT from rfl] at Q3;have HQ3:=kd Q3;clear Q3;have k0:=(P.out.at (i:=0) rfl).cell 0;have k1:=(P.out.at (i:=0) rfl).cell 1;simp only [List.getElem?_cons_succ,List.getElem?_cons_zero] at k0 k1
 obtain ⟨U,hU⟩:∃ U,(if sc=TELT then us else if us=[] then [] else escT 0 us++[64])=U:=⟨_,rfl⟩;have HU:=kd hU
 have UL:U.length≤12000001:=by
  rw [← hU];have:=(zhi 0 us).2
  split
  · omega
  · split
    · exact Nat.zero_le _
    · rw [List.length_append,List.length_singleton];omega
 clear hU;go_upto_if 25 with (fail)
 go_cut [6] (fun v wx=>v = .pointer (some ⟨bb,0,none⟩)∧Hid (BdR w bb (sc++[58]++U) ((b4,117,[.string (strOfNums sc),.string (strOfNums us),.string (strOfNums ho),.int .i64 po,.slice A5 ps.length c5,.slice A6 hs.length c6])::(K5++K6)) wx))
 case first =>
  by_cases ht:sc=TELT
  · have q3:((strOfNums sc).toList == [116,101,108])=true:=HQ3.out.trans (by rw [ht];rfl)
    rw [q3];obtain rfl:=(if_pos ht:(if sc=TELT then us else if us=[] then [] else escT 0 us++[64])=us).symm.trans HU.out;clear ht HQ3 HU;go_wp2_with fail;refine (zey P.out (by simp;omega) (s:=strOfNums us) (ys:=us) (zal HUB.out) (by omega)).mono ?_;rintro _ w6 ⟨rfl,hp6⟩
    have P6:=kd hp6;clear hp6 P k0 k1;go_wp2_with fail;go_meet;exact ⟨rfl,P6⟩
  · have q3:((strOfNums sc).toList == [116,101,108])=false:=HQ3.out.trans (by simpa using fun e=>ht e.symm)
    rw [q3];have HU2:=kd ((if_neg ht:(if sc=TELT then us else if us=[] then [] else escT 0 us++[64])=_).symm.trans HU.out);have EB:=zb1 us;clear ht HQ3 HU
    by_cases hu0:us=[]
    · have q4:(strOfNums us).toList.isEmpty=true:=by
       have:((strOfNums us).toList == ([]:List UInt8))=true:=by rw [EB,hu0];rfl
       simpa using this
      obtain rfl:=(if_pos hu0:(if us=[] then [] else escT 0 us++[64])=[]).symm.trans HU2.out;clear EB HU2 hu0;go_wp2_with fail;go_meet;exact ⟨rfl,by rw [List.append_nil];exact P⟩
    · have q4:(strOfNums us).toList.isEmpty=false:=by
       have:((strOfNums us).toList == ([]:List UInt8))=false:=by rw [EB];simpa using hu0
       simpa using this
      obtain rfl:=(if_neg hu0:(if us=[] then [] else escT 0 us++[64])=escT 0 us++[64]).symm.trans HU2.out;have ES:=kd (zkt us 0 HUB.out z1 _ (HC.out.below P.out.bw));have BY:=kd (zez (k:=0) HUB.out);have LS:=zaq (escT 0 us);rw [List.length_append,List.length_singleton] at UL
      have z0:¬ (9223372036854775807<(escT 0 us).length+1):=by omega
      generalize escT 0 us=eu at *;clear EB HU2 hu0;go_wp2_with fail;refine ES.out.mono ?_;rintro _ w6 ⟨rfl,hb6⟩;replace P:=kd (P.out.call hb6);clear hb6 ES k0 k1;go_wp2_with fail
      refine (zey P.out (by simp;omega) (s:=strOfNums eu ++ ⟨#[64]⟩) (ys:=eu++[64]) (by rw [zeq,zal BY.out];rfl) (by simp;omega)).mono ?_;rintro _ w7 ⟨rfl,hp7⟩;have P7:=kd hp7;clear hp7 P;go_wp2_with fail;go_meet;exact ⟨rfl,P7⟩
 case rest =>
 first|(rename_i KK hKK;obtain ⟨rfl,P2⟩:=hcut;refine hKK _ _ ?_;clear hKK KK)|obtain ⟨rfl,P2⟩:=hcut
 replace P:=P2;clear P2 k0 k1 HQ3;have k2:=(P.out.at (i:=0) rfl).cell 2;simp only [List.getElem?_cons_succ,List.getElem?_cons_zero] at k2;go_wp2_with fail;refine (zey P.out (by simp;omega) (s:=strOfNums ho) (ys:=ho) (zal HOB.out) (by omega)).mono ?_;rintro _ w8 ⟨rfl,hp8⟩
 replace P:=kd hp8;clear hp8 k2;have k3:=(P.out.at (i:=0) rfl).cell 3;simp only [List.getElem?_cons_succ,List.getElem?_cons_zero] at k3;have HE:=kd (show zn5 sc us ho po=sc++[58]++U++ho++(if po=0 then [] else [58]++decL po) by rw [← HU.out];rfl)
 obtain ⟨H,hH⟩:∃ H,zn5 sc us ho po=H:=⟨_,rfl⟩;rw [hH] at HE
 have HHL:H.length≤17000000:=by
  rw [HE.out];have:=PL.out
  split<;>(simp only [List.length_append,List.length_cons,List.length_nil];omega)
 go_upto_if 42 with (fail)
 go_cut [6] (fun v wx=>v = .pointer (some ⟨bb,0,none⟩)∧Hid (BdR w bb H ((b4,117,[.string (strOfNums sc),.string (strOfNums us),.string (strOfNums ho),.int .i64 po,.slice A5 ps.length c5,.slice A6 hs.length c6])::(K5++K6)) wx))
 case first =>
  by_cases h0:po=0
  · have q0:(po != 0)=false:=by simp [h0]
    have EH:=kd (show H=sc++[58]++U++ho by rw [HE.out,if_pos h0,List.append_nil]);clear h0 HE;go_wp2_with fail;go_meet;exact ⟨rfl,by rw [EH.out];exact P⟩
  · have q0:(po != 0)=true:=by simpa using h0
    have EH:=kd (show H=sc++[58]++U++ho++([58]++decL po) by rw [HE.out,if_neg h0]);have IT:=kd (zmz po _ p0 (by omega) (HP.out.below P.out.bw));have BY:=kd (zqu po);have LS:=zaq (decL po);have PL2:=PL.out
    have z0:¬ (9223372036854775807<1+(decL po).length):=by omega
    generalize decL po=dp at *;clear h0 HE;go_wp2_with fail;refine IT.out.mono ?_;rintro _ w9 ⟨rfl,hb9⟩;replace P:=kd (P.out.call hb9);clear hb9 IT k3;go_wp2_with fail
    refine (zey P.out (by simp only [List.length_append,List.length_cons,List.length_nil];omega) (s:=⟨#[58]⟩++strOfNums dp) (ys:=[58]++dp) (by rw [zeq,zal BY.out];rfl) (by simp;omega)).mono ?_;rintro _ w10 ⟨rfl,hp10⟩;have P10:=kd hp10;clear hp10 P;go_wp2_with fail;go_meet
    exact ⟨rfl,by rw [EH.out];exact P10⟩
 case rest =>
 obtain ⟨rfl,P2⟩:=hcut;replace P:=P2;clear P2 k3 HE HU UL;have k4:=(P.out.at (i:=0) rfl).cell 4;simp only [List.getElem?_cons_succ,List.getElem?_cons_zero] at k4;have HHE:=kd hH;clear hH;go_wp2_with fail
 go_loopw [51] (fun v wr => ∃ (k:Nat) (xs:List Int),k≤ps.length∧v = .int .i64 k∧xs.length≤17000000+24000002*k∧Hid (xs=H++(ps.take k).flatMap pmT)∧Hid (BdR w bb xs ((b4,117,[.string (strOfNums sc),.string (strOfNums us),.string (strOfNums ho),.int .i64 po,.slice A5 ps.length c5,.slice A6 hs.length c6])::(K5++K6)) wr)) (fun v _=>ps.length - (intOf v).toNat)
 case atStart=>exact ⟨0,H,Nat.zero_le _,rfl,by omega,kd (by simp),P⟩
 case round =>
  clear P k4;obtain ⟨k,xs,hk,rfl,hxl,HX,P⟩:=hrel
  by_cases hlt:k<ps.length
  · have hd:decide (k<ps.length)=true:=by simp [hlt]
    have hd2:decide ((k:Int)<(ps.length:Int))=true:=by simp;omega
    obtain ⟨p,hp⟩:∃ p,ps[k]? = some p:=⟨_,List.getElem?_eq_getElem hlt⟩;obtain ⟨x1,o1,rfl,hx1,hc1⟩:=HRD5.out wr (fun r hr=>(P.out.k r (List.mem_cons_of_mem _ (List.mem_append_left _ hr))).1) (by rw [zh9];omega)
    have G1:=kd (show wr.rangeAt x1 (o1+k*3) (pmC p) from fun i v hv=>Rds.range2 hc1 (k*3) _ (zn7 hp) i v hv);obtain ⟨pnb,pvb,pnl,pvl⟩:=Z3.out p (List.mem_of_getElem? hp);have HX2:=kd (show H++(ps.take (k+1)).flatMap pmT=xs++pmT p by rw [HX.out,List.take_add_one,hp];simp)
    clear hc1 hp HX hd;obtain ⟨pn,pv,ph⟩:=p;dsimp only at pnb pvb pnl pvl;have G2:=kd (show wr.rangeAt x1 (o1+k*3) [.string (strOfNums pn),.string (strOfNums pv),.bool ph] from G1.out)
    have PMT:=kd (show pmT ⟨pn,pv,ph⟩=[59]++escT 1 pn++(if ph=true then [61]++escT 1 pv else []) from rfl);have EN:=kd (fun w hC=>zkt pn 1 pnb pnl w hC);have EV:=kd (fun w hC=>zkt pv 1 pvb pvl w hC);have BN:=kd (zez (k:=1) pnb);have BV:=kd (zez (k:=1) pvb)
    have LN:=zaq (escT 1 pn);have LV:=zaq (escT 1 pv);have l1:=(zhi 1 pn).2;have l2:=(zhi 1 pv).2;have P1:=kd (P.out.alloc 155 [.string (strOfNums pn),.string (strOfNums pv),.bool ph] (by decide));clear G1 pnb pvb P;generalize pmT ⟨pn,pv,ph⟩=pt at *
    go_upto_region 16 with (with_reducible refine wpList_load_mid rfl 155 (.tmp 53) rfl x1 (o1+k*3) rfl [.string (strOfNums pn),.string (strOfNums pv),.bool ph] _ G2.out Tryz.underlying155 rfl (zbq _ _ _) ?_)
    generalize wr.alloc (.cells #[.string (strOfNums pn),.string (strOfNums pv),.bool ph] 155)=w2 at *;generalize wr.heap.size=pb at *;have k0:=(P1.out.at (i:=0) rfl).cell 0;simp only [List.getElem?_cons_succ,List.getElem?_cons_zero] at k0;generalize escT 1 pn=en at *
    generalize escT 1 pv=ev at *
    have y1:¬ (9223372036854775807<1+en.length):=by omega
    have y2:¬ (9223372036854775807<1+ev.length):=by omega
    go_wp2_with fail;refine (EN.out _ (HC.out.below P1.out.bw)).mono ?_;rintro _ w3 ⟨rfl,hb3⟩;replace P1:=kd (P1.out.call hb3);clear hb3 EN k0 G2;go_wp2_with fail
    refine (zey P1.out (by omega) (s:=⟨#[59]⟩++strOfNums en) (ys:=[59]++en) (by rw [zeq,zal BN.out];rfl) (by simp;omega)).mono ?_;rintro _ w4 ⟨rfl,hp4⟩;replace P1:=kd hp4;clear hp4;have k1:=(P1.out.at (i:=0) rfl).cell 1;have k2:=(P1.out.at (i:=0) rfl).cell 2
    simp only [List.getElem?_cons_succ,List.getElem?_cons_zero] at k1 k2
    cases ph with
    | false =>
      have EP:=kd (show H++(ps.take (k+1)).flatMap pmT=xs++([59]++en) by rw [HX2.out,PMT.out];simp);have PT2:=kd P1.out.tail;clear HX2 PMT EV P1;go_wp2_with fail;go_roundw
      case rel=>exact ⟨k+1,xs++([59]++en),by omega,by go_num,by simp;omega,kd EP.out.symm,PT2⟩
      case measure=>simp [intOf];omega
    | true =>
      have EP:=kd (show H++(ps.take (k+1)).flatMap pmT=xs++([59]++en)++([61]++ev) by rw [HX2.out,PMT.out];simp);clear HX2 PMT;go_wp2_with fail;refine (EV.out _ (HC.out.below P1.out.bw)).mono ?_;rintro _ w5 ⟨rfl,hb5⟩;replace P1:=kd (P1.out.call hb5);clear hb5 EV k1 k2
      go_wp2_with fail;refine (zey P1.out (by simp;omega) (s:=⟨#[61]⟩++strOfNums ev) (ys:=[61]++ev) (by rw [zeq,zal BV.out];rfl) (by simp;omega)).mono ?_;rintro _ w6 ⟨rfl,hp6⟩;have PT2:=kd hp6.tail;clear hp6 P1;go_wp2_with fail;go_roundw
      case rel=>exact ⟨k+1,xs++([59]++en)++([61]++ev),by omega,by go_num,by simp;omega,kd EP.out.symm,PT2⟩
      case measure=>simp [intOf];omega
  · obtain rfl:k=ps.length:=by omega
    have hd2:decide ((ps.length:Int)<(ps.length:Int))=false:=by simp
    have HX2:=kd (show xs=H++ps.flatMap pmT by rw [HX.out,List.take_length]);clear HX;have k5:=(P.out.at (i:=0) rfl).cell 5;simp only [List.getElem?_cons_succ,List.getElem?_cons_zero] at k5;go_wp2_with fail
    go_loopw [71] (fun v wr => ∃ (k:Nat) (ys:List Int),k≤hs.length∧v = .int .i64 k∧ys.length≤401000032+24000003*k∧Hid (ys=H++ps.flatMap pmT++hdsT (hs.take k) true)∧Hid (BdR w bb ys ((b4,117,[.string (strOfNums sc),.string (strOfNums us),.string (strOfNums ho),.int .i64 po,.slice A5 ps.length c5,.slice A6 hs.length c6])::(K5++K6)) wr)) (fun v _=>hs.length - (intOf v).toNat)
    case atStart=>exact ⟨0,xs,Nat.zero_le _,rfl,by omega,kd (by rw [HX2.out];simp [hdsT]),P⟩
    case round =>
     clear P k5 HX2 hxl;obtain ⟨k,ys,hk,rfl,hyl,HY,P⟩:=hrel
     by_cases hlt:k<hs.length
     · have hd:decide (k<hs.length)=true:=by simp [hlt]
       have hd2:decide ((k:Int)<(hs.length:Int))=true:=by simp;omega
       obtain ⟨p,hp⟩:∃ p,hs[k]? = some p:=⟨_,List.getElem?_eq_getElem hlt⟩;obtain ⟨x1,o1,rfl,hx1,hc1⟩:=HRD6.out wr (fun r hr=>(P.out.k r (List.mem_cons_of_mem _ (List.mem_append_right _ hr))).1) (by rw [zh9];omega)
       have G1:=kd (show wr.rangeAt x1 (o1+k*3) (pmC p) from fun i v hv=>Rds.range2 hc1 (k*3) _ (zn7 hp) i v hv);obtain ⟨pnb,pvb,pnl,pvl⟩:=Z4.out p (List.mem_of_getElem? hp)
       have HY2:=kd (show H++ps.flatMap pmT++hdsT (hs.take (k+1)) true=ys++(if k=0 then [63] else [38])++hdT p by
        rw [HY.out,List.take_add_one,hp,Option.toList_some,zot]
        have:(hs.take k=[]∧true=true) ↔ k=0:=by
         rw [List.take_eq_nil_iff]
         constructor
         · rintro ⟨h|h,_⟩
           · exact h
           · rw [h] at hlt;simp at hlt
         · rintro rfl;exact ⟨.inl rfl,rfl⟩
        have e:(if (hs.take k=[]∧true=true) then ([63]:List Int) else [38])=(if k=0 then [63] else [38]):=by
         by_cases h:k=0
         · rw [if_pos (this.2 h),if_pos h]
         · rw [if_neg (fun h2=>h (this.1 h2)),if_neg h]
        rw [e]
        simp)
       clear hc1 hp HY hd;obtain ⟨pn,pv,ph⟩:=p;dsimp only at pnb pvb pnl pvl;have G2:=kd (show wr.rangeAt x1 (o1+k*3) [.string (strOfNums pn),.string (strOfNums pv),.bool ph] from G1.out);have PMT:=kd (show hdT ⟨pn,pv,ph⟩=escT 2 pn++[61]++escT 2 pv from rfl)
       have EN:=kd (fun w hC=>zkt pn 2 pnb pnl w hC);have EV:=kd (fun w hC=>zkt pv 2 pvb pvl w hC);have BN:=kd (zez (k:=2) pnb);have BV:=kd (zez (k:=2) pvb);have LN:=zaq (escT 2 pn);have LV:=zaq (escT 2 pv);have l1:=(zhi 2 pn).2;have l2:=(zhi 2 pv).2
       have P1:=kd (P.out.alloc 155 [.string (strOfNums pn),.string (strOfNums pv),.bool ph] (by decide));clear G1 pnb pvb P;generalize hdT ⟨pn,pv,ph⟩=pt at *
       go_upto_region 23 with (with_reducible refine wpList_load_mid rfl 155 (.tmp 74) rfl x1 (o1+k*3) rfl [.string (strOfNums pn),.string (strOfNums pv),.bool ph] _ G2.out Tryz.underlying155 rfl (zbq _ _ _) ?_)
       generalize wr.alloc (.cells #[.string (strOfNums pn),.string (strOfNums pv),.bool ph] 155)=w2 at *;generalize wr.heap.size=pb at *;generalize escT 2 pn=en at *;generalize escT 2 pv=ev at *
       have y1:¬ (9223372036854775807<en.length+1):=by omega
       have y2:¬ (9223372036854775807<en.length+1+ev.length):=by omega
       go_upto_if 77 with (fail)
       go_cut [6] (fun v wx=>v = .pointer (some ⟨bb,0,none⟩)∧Hid (BdR w bb (ys++(if k=0 then [63] else [38])) ((pb,155,[.string (strOfNums pn),.string (strOfNums pv),.bool ph])::(b4,117,[.string (strOfNums sc),.string (strOfNums us),.string (strOfNums ho),.int .i64 po,.slice A5 ps.length c5,.slice (some ⟨x1,o1,none⟩) hs.length c6])::(K5++K6)) wx))
       case first =>
        by_cases hk0:k=0
        · have q0:((k:Int) == 0)=true:=by simp [hk0]
          try rw [q0]
          have H0:=kd hk0;clear hk0;go_wp2_with fail;refine (zpf w _ bb ys _ 63 P1.out (by omega)).mono ?_;rintro _ w3 ⟨rfl,hp3⟩;have P3:=kd hp3;clear hp3 P1;go_wp2_with fail;go_meet;exact ⟨rfl,by rw [if_pos H0.out];exact P3⟩
        · have q0:((k:Int) == 0)=false:=by simpa using hk0
          try rw [q0]
          have H0:=kd hk0;clear hk0;go_wp2_with fail;refine (zpf w _ bb ys _ 38 P1.out (by omega)).mono ?_;rintro _ w3 ⟨rfl,hp3⟩;have P3:=kd hp3;clear hp3 P1;go_wp2_with fail;go_meet;exact ⟨rfl,by rw [if_neg H0.out];exact P3⟩
       case rest =>
       obtain ⟨rfl,P3⟩:=hcut;clear P1 G2;obtain ⟨M,hM⟩:∃ M:List Int,(if k=0 then [63] else [38])=M:=⟨_,rfl⟩
       have ML:M.length=1:=by rw [← hM];split<;>rfl
       rw [hM] at P3 HY2;clear hM;go_upto_region 26 with (fail);have q0:∀ x:BW wc,x.w.cell? ⟨pb,0,none⟩=some (.string (strOfNums pn)):=fun x=>(P3.out.at (i:=0) rfl).later x 0
       have q1:∀ x:BW wc,x.w.cell? ⟨pb,1,none⟩=some (.string (strOfNums pv)):=fun x=>(P3.out.at (i:=0) rfl).later x 1;have EN2:=kd (fun x:BW wc=>EN.out x.w (HC.out.below (zao P3.out.bw x.h)));have EV2:=kd (fun x:BW wc=>EV.out x.w (HC.out.below (zao P3.out.bw x.h)))
       refine zf7 8 (by kernel_rfl) (by kernel_rfl) ?_;simp only [List.take_succ_cons,List.take_zero,List.drop_succ_cons,List.drop_zero]
       iterate 2 go_big_quiet_step (fail)
       go_big_quiet_step (exact zcj (EN2.out _))
       iterate 3 go_big_quiet_step (fail)
       go_big_quiet_step (exact zcj (EV2.out _))
       iterate 1 go_big_quiet_step (fail)
       refine wpQuiet_nil ?_;rintro _ ⟨x,rfl⟩;have P4:=kd (P3.out.call x.h);clear q0 q1 P3 EN EV EN2 EV2;generalize x.w=w5 at *;go_wp2_with fail
       refine (zey P4.out (by rw [List.length_append];omega) (s:=strOfNums en ++ ⟨#[61]⟩++strOfNums ev) (ys:=en++[61]++ev) (by rw [zeq,zeq,zal BN.out,zal BV.out];rfl) (by simp;omega)).mono ?_;rintro _ w6 ⟨rfl,hp6⟩;have PT2:=kd hp6.tail
       have EP:=kd (show H++ps.flatMap pmT++hdsT (hs.take (k+1)) true=ys++M++(en++[61]++ev) by rw [HY2.out,PMT.out]);clear hp6 P4 HY2 PMT;go_wp2_with fail;go_roundw
       case rel=>exact ⟨k+1,ys++M++(en++[61]++ev),by omega,by go_num,by simp;omega,kd EP.out.symm,PT2⟩
       case measure=>simp [intOf];omega
     · obtain rfl:k=hs.length:=by omega
       have hd2:decide ((hs.length:Int)<(hs.length:Int))=false:=by simp
       have HY2:=kd (show ys=zls ⟨sc,us,ho,po,ps,hs⟩ by rw [HY.out,List.take_length,zn4,HHE.out]);clear HY;obtain rfl:=HY2.out;go_wp2_with fail;refine (zq2 w _ bb _ _ P.out NBY.out).mono ?_;rintro _ w9 ⟨rfl,hb9⟩;have B9:=kd hb9;clear hb9 P;go_wp2_with fail
       first|exact GOOD.out _ _ E.out B9.out|(go_ret2;exact GOOD.out _ _ E.out B9.out)

theorem guardP:Tryz.prog.eqGuardType Tryz.prog.depth 155=false:=by kernel_rfl
@[go_sem] theorem guard_pm (op:BinOp) (x y:Operand) (a b a' b':ByteArray) (h h':Bool) (w:World) :
  (eqGuard op 155 x y (.agg #[.string a,.string b,.bool h]) (.agg #[.string a',.string b',.bool h'])).run Tryz.prog w = .ok () w:=run_eqGuard_agg w op _ x y _ _ guardP

def FSz (n:Nat) (l:List Pm):Prop := ∀ p∈l,p.n.length≤n∧p.v.length≤n
theorem FSz.sort {n:Nat} {l:List Pm} (h:FSz n l):FSz n (zbb l):=fun p hp=>h p ((zdf l).mem_iff.1 hp)
theorem FSz.snoc {n:Nat} {l:List Pm} {p:Pm} (h:FSz n l) (h1:p.n.length≤n) (h2:p.v.length≤n):FSz n (l++[p]):=fun q hq=>by
 rcases List.mem_append.1 hq with hq|hq
 · exact h q hq
 · rw [List.mem_singleton] at hq;subst hq;exact ⟨h1,h2⟩
theorem zht (xs:List Int):∀ (f i:Nat) (acc:List Int),(zb6 xs f i acc).1.length≤acc.length+(xs.length - i)
 | 0,i,acc=>by unfold zb6;exact Nat.le_add_right _ _
 | f+1,i,acc=>by
   unfold zb6
   by_cases h1:xs.length≤i
   · rw [if_pos h1];exact Nat.le_add_right _ _
   rw [if_neg h1]
   by_cases h2:xs.getD i 0≠37
   · rw [if_pos h2]
     have:=zht xs f (i+1) (acc++[xs.getD i 0]);rw [List.length_append,List.length_singleton] at this;omega
   rw [if_neg h2]
   by_cases h3:zbm xs i<0
   · rw [if_pos h3];exact Nat.zero_le _
   · rw [if_neg h3]
     have:=zht xs f (i+3) (acc++[zbm xs i]);rw [List.length_append,List.length_singleton] at this;omega
theorem yaq (xs:List Int):(zb2 xs).length≤xs.length:=by
 have:=zht xs (xs.length+1) 0 [];unfold zb2 zfk
 simpa using this
theorem zje (xs:List Int) (a b:Nat):(zb2 (subL xs a b)).length≤xs.length:=Nat.le_trans (yaq _) (zbk xs a b).length_le
theorem zr8 {xs:List Int} {l m:List Pm} {a e:Nat} {k:Int} (h:FSz xs.length l) (hf:zcg xs l a e k = .ok m):FSz xs.length m:=by
 unfold zcg at hf;dsimp only at hf
 split at hf
 · cases hf
 · split at hf
   · cases hf
   · split at hf
     · split at hf
       · cases hf
       · split at hf
         · cases hf
         · split at hf
           · cases hf
           · injection hf with hf
             subst hf;exact h.snoc (by rw [zbo];exact zje _ _ _) (zje _ _ _)
     · split at hf
       · cases hf
       · split at hf
         · cases hf
         · injection hf with hf
           subst hf;exact h.snoc (by rw [zbo];exact zje _ _ _) zNz
theorem ps_sz {xs stops:List Int}:∀ (f a:Nat) (l m:List Pm) (b:Nat),FSz xs.length l→psN xs stops f a l = .ok (m,b)→FSz xs.length m
 | 0,a,l,m,b,h,hp=>by unfold psN at hp;injection hp with hp;injection hp with h1;subst h1;exact h
 | f+1,a,l,m,b,h,hp=>by
   unfold psN at hp
   split at hp
   · injection hp with hp;injection hp with h1;subst h1;exact h
   · split at hp
     · cases hp
     · rename_i hf
       exact ps_sz f _ _ m b (zr8 h hf) hp
theorem hs_sz {xs:List Int}:∀ (f a:Nat) (l m:List Pm),FSz xs.length l→hsN xs f a l = .ok m→FSz xs.length m
 | 0,a,l,m,h,hp=>by unfold hsN at hp;injection hp with h1;subst h1;exact h
 | f+1,a,l,m,h,hp=>by
   unfold hsN at hp
   split at hp
   · injection hp with h1;subst h1;exact h
   · split at hp
     · cases hp
     · rename_i hf
       exact hs_sz f _ _ m (zr8 h hf) hp
theorem zve {xs stops sc us ho:List Int} {po:Int} {a:Nat} {u:Uri} (h:zhz xs stops sc us ho po a = .ok u):u.sc=sc∧u.us=us∧u.ho=ho∧FSz xs.length u.ps∧FSz xs.length u.hs:=by
 unfold zhz at h
 cases hp:psN xs stops (xs.length+1) a [] with
 | error e=>rw [hp] at h;cases h
 | ok r =>
   obtain ⟨ps,b⟩:=r;rw [hp] at h;dsimp only at h;have h1:=ps_sz _ _ _ _ _ (fun p hp=>by cases hp) hp
   cases hh:hsN xs (xs.length+1) b [] with
   | error e=>rw [hh] at h;cases h
   | ok hs =>
     rw [hh] at h;dsimp only at h;have h2:=hs_sz _ _ _ _ (fun p hp=>by cases hp) hh
     injection h with h
     subst h;exact ⟨rfl,rfl,rfl,h1.sort,h2.sort⟩
theorem uri_sz {xs:List Int} {u:Uri} (h:uriL xs = .ok u):u.sc.length≤1024∧u.us.length≤1024∧u.ho.length≤1024∧FSz 1024 u.ps∧FSz 1024 u.hs:=by
 unfold uriL at h
 by_cases h0:1024<xs.length
 · rw [if_pos h0] at h;cases h
 rw [if_neg h0] at h
 have hl:xs.length≤1024:=by omega
 have up:∀ {l:List Pm},FSz xs.length l→FSz 1024 l:=fun h p hp=>⟨Nat.le_trans (h p hp).1 hl,Nat.le_trans (h p hp).2 hl⟩;dsimp only at h
 split at h
 · cases h
 generalize hk:zaj xs 0 [58]=k at *
 have hsc:(lowS (xs.take k)).length≤1024:=by rw [zbo,List.length_take];omega
 split at h
 · unfold zew at h
   cases hu:zk6 xs (k+1) with
   | error e=>rw [hu] at h;cases h
   | ok r =>
     obtain ⟨us,b⟩:=r;rw [hu] at h;dsimp only at h
     have hus:us.length≤xs.length:=by
      unfold zk6 at hu;dsimp only at hu
      split at hu
      · injection hu with hu;injection hu with h1;subst h1;exact Nat.zero_le _
      · split at hu
        · cases hu
        · split at hu
          · cases hu
          · injection hu with hu;injection hu with h1;subst h1;exact zje _ _ _
     cases hh:zb3 (subL xs b (zci xs b)) with
     | none=>rw [hh] at h;cases h
     | some ho =>
       rw [hh] at h;dsimp only at h;have hho:=Nat.le_trans (zm1 hh) (zbk xs _ _).length_le
       cases hp:zh8 xs (zci xs b) with
       | error e=>rw [hp] at h;cases h
       | ok q =>
         obtain ⟨po,c⟩:=q;rw [hp] at h;dsimp only at h;obtain ⟨e1,e2,e3,e4,e5⟩:=zve h;rw [e1,e2,e3];exact ⟨hsc,by omega,by omega,up e4,up e5⟩
 · split at h
   · cases hp:zd8 xs (k+1) with
     | error e=>rw [hp] at h;cases h
     | ok r =>
       obtain ⟨us,c⟩:=r;rw [hp] at h;dsimp only at h
       have hus:us.length≤31:=by
        unfold zd8 at hp;dsimp only at hp
        split at hp
        · cases hp
        · split at hp
          · cases hp
          · split at hp
            · cases hp
            · rename_i h3
              injection hp with hp;injection hp with h1;subst h1
              rw [List.length_append]
              have:(if atL xs (k+1) 43=true then [(43:Int)] else []).length≤1:=by split<;>simp
              omega
       obtain ⟨e1,e2,e3,e4,e5⟩:=zve h;rw [e1,e2,e3];exact ⟨hsc,by omega,by simp,up e4,up e5⟩
   · cases h

def uS (u:Uri) (A1 A2:Option Addr) (c1 c2:Nat):Value := .agg #[.string (strOfNums u.sc),.string (strOfNums u.us),.string (strOfNums u.ho),.int .i64 u.po,.slice A1 u.ps.length c1,.slice A2 u.hs.length c2]
theorem byD {l:List Int} (h:l.all (fun x=>decide (0≤x∧x<256))=true):By l:=fun x hx=>by simpa using List.all_eq_true.1 h x hx
theorem VX.rdw {w w':World} {v:Value} {n:Nat} {cs:List Value} (H:VX 155 3 w v n cs w'):∃ A c,v = .slice A n c∧Rds w' w'.heap.size A cs:=by
 obtain ⟨K,A,c,hv,_,hK,hR⟩:=H.whole;exact ⟨A,c,hv,hR w' fun r hr=>(hK r hr).1⟩
theorem ycf {u:Uri} (h:UriN u):ya6 u:=by
 have h1:By u.sc:=by
  rcases h.k with h|h
  · rcases h.1 with h|h<;>rw [h]<;>exact byD rfl
  · rw [h.1];exact byD rfl
 have h2:By u.ho:=by
  rcases h.k with h|h
  · exact h.2.2.1
  · rw [h.2.1];exact fun x hx=>by cases hx
 exact ⟨h1,h.us,h2,h.ps.by,h.hs.by⟩
theorem zjr {xs:List Int} {u:Uri} {w:World} {A1 A2:Option Addr} (hx:By xs) (h:uriL xs = .ok u) (r1:Rds w w.heap.size A1 (pms u.ps)) (r2:Rds w w.heap.size A2 (pms u.hs)):UArg w u A1 A2:=by
 have hn:UriN u:=by have:=zrd hx;rw [h] at this;exact this
 obtain ⟨s1,s2,s3,s4,s5⟩:=uri_sz h;have hb:=ycf hn
 exact ⟨hb,by omega,by omega,by omega,fun p hp=>⟨(hb.ps p hp).1,(hb.ps p hp).2,by have:=s4 p hp;omega,by have:=s4 p hp;omega⟩,fun p hp=>⟨(hb.hs p hp).1,(hb.hs p hp).2,by have:=s5 p hp;omega,by have:=s5 p hp;omega⟩,r1,r2,by have:=hn.ps.len;omega,by have:=hn.hs.len;omega⟩
theorem ztc (s:ByteArray) {u:Uri} (h:uriL (zaa s) = .ok u) (w:World) (hC:CLS w) (hG:GM w) (hP:PT w):Calls Tryz.prog 78 #[.string s] w fun e w' => ∃ A1 A2 c1 c2,e = .returned (.tuple #[uS u A1 A2 c1 c2,.int .i64 0,.int .u8 0])∧Below w.heap.size w w'∧UArg w' u A1 A2:=by
 refine (zj5 s w hC hG hP).mono ?_;intro e w' hr;rw [h] at hr;obtain ⟨v1,v2,rfl,h1,h2⟩:=hr;have hb:=h1.bw;obtain ⟨A1,c1,rfl,r1⟩:=h1.rdw;obtain ⟨A2,c2,rfl,r2⟩:=h2.rdw;exact ⟨A1,A2,c1,c2,rfl,hb,zjr (zas s) h r1 r2⟩
end Go.Proofs.YtfnmkedncfdceaaGreatDoor
