/- Plain laws: a host in normal form is its own normal form, and of which characters it is. And what stands behind it. -/
import Derived.Test.YtfnmkedncfdceaaGreatDoorBo
import Derived.Test.YtfnmkedncfdceaaGreatDoorBl
set_option linter.unusedVariables false
set_option linter.unusedSimpArgs false
set_option maxRecDepth 100000
set_option maxHeartbeats 2000000
namespace Go.Proofs.YtfnmkedncfdceaaGreatDoor
open Go.RowKit

theorem zxt (sep:Int):∀ {p:List Int} (r:List Int),sep ∉ p→cutL sep (p++sep::r)=p::cutL sep r
 | [],r,_=>zdi sep r
 | c::p,r,h=>by
   have h1:c≠sep:=fun e=>h (by simp [e]);rw [List.cons_append,zdp sep c _ h1,zxt sep r (fun hm=>h (by simp [hm]))];rfl
theorem yby (sep:Int):∀ {p:List Int},sep ∉ p→cutL sep p=[p]
 | [],_=>rfl
 | c::p,h=>by
   have h1:c≠sep:=fun e=>h (by simp [e]);rw [zdp sep c _ h1,yby sep (fun hm=>h (by simp [hm]))];rfl
theorem zsf (sep:Int):∀ {l:List (List Int)},l≠[]→(∀ p∈l,sep ∉ p)→cutL sep (zbj [sep] l)=l
 | [],h,_=>absurd rfl h
 | [p],_,h=>by rw [zc2,yby sep (h p (by simp))]
 | p::q::l,_,h=>by
   rw [zch,List.singleton_append,zxt sep _ (h p (by simp)),zsf sep (by simp) (fun t ht=>h t (by simp [List.mem_cons.1 ht]))]
theorem zkz (sep:Int):∀ {s:List Int} {c:Int},c∈s→c=sep∨∃ p∈cutL sep s,c∈p
 | [],_,h=>by cases h
 | d::s,c,h=>by
   by_cases hd:d=sep
   · subst hd
     rcases List.mem_cons.1 h with h|h
     · exact .inl h
     · rcases zkz d h with h|⟨p,hp,h⟩
       · exact .inl h
       · exact .inr ⟨p,by rw [zdi];simp [hp],h⟩
   · rw [zdp sep d s hd]
     cases hq:cutL sep s with
     | nil =>
       rcases List.mem_cons.1 h with h|h
       · exact .inr ⟨[d],by simp [glue],by simp [h]⟩
       · rcases zkz sep h with h|⟨p,hp,h⟩
         · exact .inl h
         · rw [hq] at hp;cases hp
     | cons q qs =>
       rcases List.mem_cons.1 h with h|h
       · exact .inr ⟨d::q,by simp [glue],by simp [h]⟩
       · rcases zkz sep h with h|⟨p,hp,h⟩
         · exact .inl h
         · rw [hq] at hp
           rcases List.mem_cons.1 hp with rfl|hp
           · exact .inr ⟨d::p,by simp [glue],by simp [h]⟩
           · exact .inr ⟨p,by simp [glue,hp],h⟩
theorem yek (s:List Int):cutL 46 (lowS s)=(cutL 46 s).map lowS:=by
 induction s with
 | nil=>rfl
 | cons c s ih =>
   have hl:lowS (c::s)=lowC c::lowS s:=rfl
   by_cases h:c=46
   · subst h
     rw [hl,show lowC 46=46 from rfl,zdi,zdi,ih];rfl
   · have h2:lowC c≠46:=by unfold lowC;split<;>omega
     rw [hl,zdp 46 _ _ h2,zdp 46 _ _ h,ih]
     cases cutL 46 s<;>rfl
/- Groups. -/
theorem zw2 (c:Int):hexV (lowC c)=hexV c:=by
 unfold lowC
 split
 · by_cases h:c≤70
   · unfold hexV;rw [if_neg (by omega),if_pos (by omega),if_neg (by omega),if_neg (by omega),if_pos (by omega)];omega
   · unfold hexV;rw [if_neg (by omega),if_neg (by omega),if_neg (by omega),if_neg (by omega),if_neg (by omega),if_neg (by omega)]
 · rfl
theorem zoq {c:Int} (h:0≤hexV c):(48≤c∧c≤57)∨(97≤c∧c≤102)∨(65≤c∧c≤70):=by
 unfold hexV at h
 split at h
 · exact .inl (by assumption)
 · split at h
   · exact .inr (.inl (by assumption))
   · split at h
     · exact .inr (.inr (by assumption))
     · omega
theorem zct {g:List Int}:zfp g=true ↔ (1≤g.length∧g.length≤4)∧∀ c∈g,0≤hexV c:=by
 unfold zfp;rw [Bool.and_eq_true,Bool.and_eq_true,decide_eq_true_eq,decide_eq_true_eq,List.all_eq_true];simp
theorem yd5 {g:List Int} (h:zfp g=true):zfp (grpN g)=true:=by
 obtain ⟨⟨h1,h2⟩,h3⟩:=zct.1 h;refine zct.2 ?_;unfold grpN;dsimp only
 split
 · exact ⟨by decide,by decide⟩
 · rename_i hne
   have hs:=List.dropWhile_sublist (· == 48) (l:=lowS g);refine ⟨⟨List.length_pos_iff.2 hne,?_⟩,fun c hc => ?_⟩
   · have:=hs.length_le;rw [zbo] at this;omega
   · obtain ⟨d,hd,rfl⟩:=List.mem_map.1 (hs.subset hc)
     rw [zw2];exact h3 d hd
theorem zhj {p:Int→Bool}:∀ l:List Int,(l.dropWhile p).dropWhile p=l.dropWhile p
 | []=>rfl
 | c::l=>by
   rw [List.dropWhile_cons]
   split
   · exact zhj l
   · rename_i h
     rw [List.dropWhile_cons,if_neg h]
theorem zzf (l:List Int):lowS ((lowS l).dropWhile (· == 48))=(lowS l).dropWhile (· == 48):=by
 have hs:=List.dropWhile_sublist (· == 48) (l:=lowS l);unfold lowS at hs ⊢
 conv=>rhs;rw [← List.map_id (List.dropWhile (· == 48) (l.map lowC))]
 refine List.map_congr_left fun c hc => ?_;obtain ⟨d,_,rfl⟩:=List.mem_map.1 (hs.subset hc);exact zoh d
theorem zw8 (g:List Int):grpN (grpN g)=grpN g:=by
 by_cases h:(lowS g).dropWhile (· == 48)=[]
 · have e:grpN g=[48]:=by unfold grpN;dsimp only;rw [if_pos h]
   rw [e];rfl
 · have e:grpN g=(lowS g).dropWhile (· == 48):=by unfold grpN;dsimp only;rw [if_neg h]
   rw [e];unfold grpN;dsimp only;rw [zzf,zhj,if_neg h]
def zk5 (l:List (List Int)):Prop := ∀ g∈l,zfp g=true∧grpN g=g
theorem zhg {g:List Int} (h:zfp g=true):(58:Int) ∉ g:=fun hm=>by
 have:=zoq ((zct.1 h).2 58 hm);omega
theorem zkl {s:List Int} {l:List (List Int)} (h:grpL s=some l):zk5 l∧l≠[]:=by
 unfold grpL at h
 split at h
 · rename_i ha
   injection h with h
   subst h;refine ⟨fun g hg => ?_,?_⟩
   · obtain ⟨q,hq,rfl⟩:=List.mem_map.1 hg
     exact ⟨yd5 (List.all_eq_true.1 ha q hq),zw8 q⟩
   · intro he
     have:=congrArg List.length he
     have hp:1≤(cutL 58 s).length:=by
      cases s with
      | nil=>simp [cutL]
      | cons c s =>
        by_cases h:c=58
        · subst h;rw [zdi];simp
        · rw [zdp 58 c s h];cases cutL 58 s<;>simp [glue]
     simp at this;rw [this] at hp;simp at hp
 · cases h
theorem zkm {l:List (List Int)} (h:zk5 l) (hne:l≠[]):grpL (zbj [58] l)=some l:=by
 unfold grpL;rw [zsf 58 hne (fun g hg=>zhg (h g hg).1),if_pos (List.all_eq_true.2 fun g hg=>(h g hg).1)]
 congr 1
 exact (List.map_congr_left fun g hg=>(h g hg).2).trans (List.map_id _)
theorem zf6 {s:List Int} {l:List (List Int)} (h:zcz s=some l):zk5 l:=by
 unfold zcz at h
 split at h
 · injection h with h;subst h;exact fun g hg=>by cases hg
 · exact (zkl h).1
theorem ydt {l:List (List Int)} (h:zk5 l) (hne:l≠[]):zbj [58] l≠[]:=fun he=>by
 have h2:=zkm h hne;rw [he] at h2;have h3:grpL []=none:=rfl;rw [h3] at h2;cases h2
theorem zlm {l:List (List Int)} (h:zk5 l):zcz (zbj [58] l)=some l:=by
 unfold zcz
 by_cases hne:l=[]
 · subst hne;rfl
 · rw [if_neg (ydt h hne),zkm h hne]
theorem yeh {d:Int} (r:List Int) (h:d≠58):dblL (58::d::r)=(dblL (d::r)).map fun p=>(58::p.1,p.2):=by rw [dblL,if_neg (fun e=>h e.2)]
theorem zr1 {g:List Int} (h:zfp g=true) (r:List Int):∃ d t,g++r=d::t∧d≠58:=by
 cases g with
 | nil=>have:=(zct.1 h).1.1;simp at this
 | cons d t=>exact ⟨d,t++r,rfl,fun e=>zhg h (by simp [e])⟩
theorem ybr {g:List Int} (h:zfp g=true):g≠[]:=fun e=>by
 subst e;have:=(zct.1 h).1.1;simp at this
theorem zqw (r:List Int):∀ (g:List Int),(58:Int) ∉ g→g≠[]→dblL (g++r)=(dblL r).map fun p=>(g++p.1,p.2)
 | [],_,h=>absurd rfl h
 | [c],hc,_=>by
   have hc58:c≠58:=fun e=>hc (by simp [e]);rw [List.singleton_append]
   cases r with
   | nil=>rfl
   | cons d r=>rw [dblL,if_neg (fun h=>hc58 h.1)];rfl
 | c::d::g,hc,_=>by
   have hc58:c≠58:=fun e=>hc (by simp [e]);have ih:=zqw r (d::g) (fun hm=>hc (by simp [List.mem_cons.1 hm])) (by simp);rw [List.cons_append] at ih;rw [List.cons_append,List.cons_append,dblL,if_neg (fun h=>hc58 h.1),ih,Option.map_map]
   rfl
theorem zwu {g:List Int} {l:List (List Int)} (h:zfp g=true) (r:List Int):∃ d t,zbj [58] (g::l)++r=d::t∧d≠58:=by
 cases l with
 | nil=>rw [zc2];exact zr1 h r
 | cons x y=>rw [zch,List.append_assoc];exact zr1 h _
theorem zkx (r:List Int) (P:Option (List Int × List Int)):∀ {l:List (List Int)},zk5 l→l≠[]→dblL r=P→dblL (zbj [58] l++r)=P.map fun p=>(zbj [58] l++p.1,p.2)
 | [],_,h,_=>absurd rfl h
 | [g],h,_,hr=>by
   have hg:=(h g (by simp)).1;rw [zc2,zqw r g (zhg hg) (ybr hg),hr]
 | g::g2::l,h,_,hr=>by
   have hg:=(h g (by simp)).1;have hl:zk5 (g2::l):=fun x hx=>h x (by simp [List.mem_cons.1 hx]);have ih:=zkx r P hl (by simp) hr;obtain ⟨d,t,e,hd⟩:=zwu (l:=l) (h g2 (by simp)).1 r
   rw [zch,List.append_assoc,List.append_assoc,List.singleton_append,zqw _ g (zhg hg) (ybr hg),e,yeh t hd,← e,ih,Option.map_map,Option.map_map]
   congr 1
   funext p
   simp
theorem zxr {l:List (List Int)} (h:zk5 l) (hne:l≠[]):dblL (zbj [58] l)=none:=by
 have:=zkx [] none h hne rfl
 rwa [List.append_nil] at this
theorem zxq {l:List (List Int)} (h:zk5 l) (y:List Int):dblL (zbj [58] l++([58,58]++y))=some (zbj [58] l,y):=by
 have e:dblL ([58,58]++y)=some ([],y):=by
  show dblL (58::58::y)=_;unfold dblL;rfl
 by_cases hne:l=[]
 · subst hne;rw [zdy,List.nil_append];exact e
 · rw [zkx _ _ h hne e];simp
theorem zke {l:List (List Int)} (h:zk5 l):(zbj [58] l).length≤5*l.length - 1:=by
 cases l with
 | nil=>simp [zdy]
 | cons g l =>
   induction l generalizing g with
   | nil=>rw [zc2];have:=(zct.1 (h g (by simp)).1).1.2;simp;omega
   | cons g2 l ih =>
     have h1:=(zct.1 (h g (by simp)).1).1.2;have h2:=ih g2 (fun x hx=>h x (by simp [List.mem_cons.1 hx]));rw [zch,List.length_append,List.length_append];simp at h2 ⊢;omega
theorem zko {s g:List Int} (h:zb9 s=some g):zb9 g=some g:=by
 unfold zb9 at h
 split at h
 · cases h
 · split at h
   · split at h
     · rename_i l hg
       split at h
       · rename_i h8
         injection h with h
         subst h;obtain ⟨h1,h2⟩:=zkl hg;have h3:=zke h1;unfold zb9;rw [if_neg (by omega),zxr h1 h2];dsimp only;rw [zkm h1 h2];dsimp only;rw [if_pos h8]
       · cases h
     · cases h
   · split at h
     · rename_i x y hx hy
       split at h
       · cases h
       · rename_i h7
         injection h with h
         subst h;have hx1:=zf6 hx;have hy1:=zf6 hy;have h3:=zke hx1;have h4:=zke hy1;unfold zb9;rw [if_neg (by simp only [List.length_append,List.length_cons,List.length_nil];omega),List.append_assoc,zxq hx1];dsimp only;rw [zlm hx1,zlm hy1];dsimp only;rw [if_neg h7,List.append_assoc]
     · cases h
theorem zid {l:List (List Int)} (h:zk5 l):∀ c∈zbj [58] l,c=58∨0≤hexV c:=by
 induction l with
 | nil=>intro c hc;rw [zdy] at hc;cases hc
 | cons g l ih =>
   intro c hc;have hg:=(zct.1 (h g (by simp)).1).2
   cases l with
   | nil=>rw [zc2] at hc;exact .inr (hg c hc)
   | cons g2 l =>
     rw [zch] at hc
     rcases List.mem_append.1 hc with hc|hc
     · exact .inr (hg c hc)
     · rcases List.mem_append.1 hc with hc|hc
       · simp at hc;exact .inl hc
       · exact ih (fun x hx=>h x (by simp [List.mem_cons.1 hx])) c hc
theorem zow {s g:List Int} (h:zb9 s=some g):∀ c∈g,c=58∨0≤hexV c:=by
 unfold zb9 at h
 split at h
 · cases h
 · split at h
   · split at h
     · rename_i l hg
       split at h
       · injection h with h
         subst h;exact zid (zkl hg).1
       · cases h
     · cases h
   · split at h
     · rename_i x y hx hy
       split at h
       · cases h
       · injection h with h
         subst h;intro c hc
         rcases List.mem_append.1 hc with hc|hc
         · rcases List.mem_append.1 hc with hc|hc
           · exact zid (zf6 hx) c hc
           · simp at hc;exact .inl hc
         · exact zid (zf6 hy) c hc
     · cases h
/- Names. -/
theorem ydp (c:Int):zgv (lowC c)=zgv c:=by
 unfold lowC
 split
 · unfold zgv;rw [Bool.eq_iff_iff];simp;omega
 · rfl
theorem zxm (c:Int):zbc (lowC c)=zbc c:=by
 unfold lowC
 split
 · unfold zbc;rw [Bool.eq_iff_iff];simp;omega
 · rfl
theorem zse (c:Int):(lowC c == 45)=(c == 45):=by
 unfold lowC
 split
 · rw [Bool.eq_iff_iff];simp;omega
 · rfl
theorem zzo (c:Int):labC (lowC c)=labC c:=by unfold labC;rw [ydp,zxm,zse]
theorem zr3 {l:List Int} (i:Nat) (h:i<l.length):(lowS l).getD i 0=lowC (l.getD i 0):=by
 unfold lowS;rw [List.getD_eq_getElem?_getD,List.getElem?_map,List.getD_eq_getElem?_getD,List.getElem?_eq_getElem h];rfl
theorem zwo (p:List Int):zgu (lowS p)=zgu p:=by
 unfold zgu;rw [zbo]
 by_cases h:1≤p.length
 · rw [zr3 0 (by omega),zr3 _ (by omega)]
   have ha:(lowS p).all labC=p.all labC:=by unfold lowS;rw [List.all_map];congr 1;funext c;exact zzo c
   have hb:∀ c:Int,(lowC c != 45)=(c != 45):=fun c=>by unfold bne;rw [zse]
   rw [ha,hb,hb]
 · rw [decide_eq_false h];rfl
theorem zuw (p:List Int):zi6 (lowS p)=zi6 p:=by
 unfold zi6 lowS;rw [List.any_map];congr 1;funext c;show (!zbc (lowC c)) = !zbc c;rw [zxm]
theorem zia (s:List Int):zfm (lowS s)=zfm s:=by
 unfold zfm;rw [zbo,yek,List.all_map,List.any_map]
 congr 2
 · congr 1;funext p;exact zwo p
 · congr 1;funext p;exact zuw p
theorem ydq {c:Int} (h:labC c=true):zgv c=true∨zbc c=true∨c=45:=by
 unfold labC at h;rw [Bool.or_eq_true,Bool.or_eq_true,beq_iff_eq] at h;exact h
def zoo (c:Int):Bool:=labC c || c == 46
theorem zgr {s:List Int} (h:zfm s=true):∀ c∈s,zoo c=true:=fun c hc=>by
 unfold zfm at h;rw [Bool.and_eq_true,Bool.and_eq_true (a:=(cutL 46 s).all zgu)] at h;unfold zoo
 rcases zkz 46 hc with rfl|⟨p,hp,hc⟩
 · decide
 · have h2:=List.all_eq_true.1 h.2.1 p hp
   unfold zgu at h2;rw [Bool.and_eq_true,Bool.and_eq_true,Bool.and_eq_true] at h2;rw [List.all_eq_true.1 h2.2.2 c hc];rfl
theorem zg7 {s:List Int} (h:zee s=true):∀ c∈s,zoo c=true:=fun c hc=>by
 unfold zee at h;rw [Bool.and_eq_true,Bool.and_eq_true] at h;unfold zoo labC
 rcases zkz 46 hc with rfl|⟨p,hp,hc⟩
 · decide
 · have h2:=List.all_eq_true.1 h.2.1 p hp
   unfold zk7 at h2;rw [Bool.and_eq_true,Bool.and_eq_true] at h2;rw [List.all_eq_true.1 h2.1.1 c hc];simp
theorem zfe {c:Int} (h:zoo c=true):c≠58∧c≠59∧c≠63∧c≠64∧c≠91∧c≠93∧33≤c∧c≤126∧c≠37∧c≠38∧c≠60∧c≠62:=by
 unfold zoo at h;rw [Bool.or_eq_true,beq_iff_eq] at h
 rcases h with h|h
 · rcases ydq h with h|h|h
   · unfold zgv at h;simp at h;omega
   · unfold zbc at h;simp at h;omega
   · omega
 · omega
inductive HostF (h:List Int):Prop
 | six (g:List Int) (e:h=91::(g++[93])) (c:∀ x∈g,x=58∨0≤hexV x)
 | plain (c:∀ x∈h,zoo x=true) (ne:h≠[])
theorem ztf {s:List Int} (h:zee s=true):s≠[]:=by rintro rfl;exact absurd h (by decide)
theorem zrp {s:List Int} (h:zfm s=true):s≠[]:=by rintro rfl;exact absurd h (by decide)
theorem zon {s h:List Int} (hh:zb3 s=some h):HostF h:=by
 unfold zb3 at hh
 split at hh
 · rw [Option.map_eq_some_iff] at hh
   obtain ⟨g,hg,e⟩:=hh;exact .six g (by rw [← e];simp) (zow hg)
 · split at hh
   · rename_i hn
     injection hh with hh
     subst hh;exact .plain (zg7 hn) (ztf hn)
   · split at hh
     · rename_i hn
       injection hh with hh
       subst hh;refine .plain (zgr (by rw [zia];exact hn)) (fun h=>zrp hn (zp9.1 h))
     · cases hh
theorem zom {s h:List Int} (hh:zb3 s=some h):zb3 h=some h:=by
 have hF:=zon hh;unfold zb3 at hh
 split at hh
 · rw [Option.map_eq_some_iff] at hh
   obtain ⟨g,hg,e⟩:=hh;subst e
   have e0:([91]++g++[93]:List Int).length=g.length+2:=by simp
   have e1:([91]++g++[93]:List Int).getD ([91]++g++[93]:List Int).length.pred 0=93:=by
    rw [e0,show (g.length+2).pred=([91]++g:List Int).length by simp];exact zz4 _ _ _
   have e2:subL ([91]++g++[93]) 1 (([91]++g++[93]:List Int).length - 1)=g:=by
    have:=ycv [91] g [93];rw [e0];rw [List.append_assoc];rw [show g.length+2 - 1=([91]:List Int).length+g.length by simp;omega];exact this
   unfold zb3;rw [if_pos ⟨by rw [e0];omega,rfl,e1⟩,e2,zko hg];rfl
 · rename_i h1
   split at hh
   · rename_i hn
     injection hh with hh
     subst hh;unfold zb3;rw [if_neg h1,if_pos hn]
   · split at hh
     · rename_i hn
       injection hh with hh
       subst hh;have hne:=zrp hn;unfold zb3;rw [if_neg,zia,hn]
       · split
         · rfl
         · rw [if_pos rfl,zhb]
       · rintro ⟨_,h2,_⟩
         cases s with
         | nil=>exact hne rfl
         | cons c s =>
           have h3:zoo (lowC c)=true:=by
            have:=zgr (s:=lowS (c::s)) (by rw [zia];exact hn) (lowC c) (by simp [lowS]);exact this
           have h4:lowC c=91:=h2;exact (zfe h3).2.2.2.2.1 h4
     · cases hh
theorem zqi {s h:List Int} (hh:zb3 s=some h) (hs:By s):By h:=by
 rcases zon hh with ⟨g,e,c⟩|⟨c,_⟩
 · subst e
   intro x hx
   rcases List.mem_cons.1 hx with rfl|hx
   · omega
   · rcases List.mem_append.1 hx with hx|hx
     · rcases c x hx with rfl|h
       · omega
       · have:=zoq h;omega
     · simp at hx;omega
 · intro x hx
   have:=zfe (c x hx);omega

def zu8 (X:List Int):Value := .tuple #[.string (strOfNums (zfk X).1),.int .i64 ((zfk X).2.1:Nat),.int .u8 (zfk X).2.2]
def UNR (w:World) (X:List Int) (n:Nat) (R:List Int × Nat × Int) (v v6:Value) (wr:World):Prop := ∃ (i f:Nat) (x:Value) (L:List Int),i≤n∧x=v∧v6 = .int .i64 i∧L.length≤i∧n+1≤f+i∧Hid (R=zb6 X f i L)∧Hid (OX w x L wr)
theorem ybh {a b:Value} (h:a=b):Ending.returned a = .returned b:=by rw [h]
theorem unv_ok {R:List Int × Nat × Int} {L:List Int} (h:R=(L,0,0)):Value.tuple #[.string (strOfNums R.1),.int .i64 (R.2.1:Nat),.int .u8 R.2.2] = .tuple #[.string (strOfNums L),.int .i64 0,.int .u8 0]:=by subst h;rfl
theorem yci {R:List Int × Nat × Int} {i:Nat} (h:R=([],i,5)):Value.tuple #[.string (strOfNums R.1),.int .i64 (R.2.1:Nat),.int .u8 R.2.2] = .tuple #[.string ⟨#[]⟩,.int .i64 i,.int .u8 5]:=by subst h;rfl
theorem zo1 (s:ByteArray) (i:Nat) (w:World) (hi:i<s.size) (hs:s.size≤4000000) (h:0≤zbm (zaa s) i):Calls Tryz.prog 233 #[.string s,.int .i64 i] w fun e w'=>e = .returned (.tuple #[.int .u8 (zbm (zaa s) i),.bool true])∧w=w':=
 (zo2 s i w hi hs).mono fun e w' ⟨⟨x,he,hx⟩,hw⟩=>⟨by rw [he,hx h,decide_eq_true h],hw⟩
theorem zr9 (s:ByteArray) (i:Nat) (w:World) (hi:i<s.size) (hs:s.size≤4000000) (h:zbm (zaa s) i<0):Calls Tryz.prog 233 #[.string s,.int .i64 i] w fun e w'=>(∃ x:Int,e = .returned (.tuple #[.int .u8 x,.bool false]))∧w=w':=
 (zo2 s i w hi hs).mono fun e w' ⟨⟨x,he,hx⟩,hw⟩=>⟨⟨x,by rw [he,decide_eq_false (by omega)]⟩,hw⟩
theorem zns (s:ByteArray) (w:World) (hs:s.size≤4000000):Calls Tryz.prog 235 #[.string s] w fun e w'=>e = .returned (zu8 (zaa s))∧Below w.heap.size w w':=by
 have HL:=kd (zac s);have RE:=kd (show zfk (zaa s)=zb6 (zaa s) (s.size+1) 0 [] by unfold zfk;rw [zac]);have EY:=kd (fun i h w h2=>zo1 s i w h hs h2);have EN:=kd (fun i h w h2=>zr9 s i w h hs h2);have ER:=kd (fun i=>zgx (zaa s) i);unfold zu8;generalize zfk (zaa s)=R at *
 obtain ⟨X,hX⟩:∃ X,zaa s=X:=⟨_,rfl⟩;have HX:=kd hX;rw [hX] at HL RE EY EN ER;clear hX
 go_enter Tryz.func235,Tryz.ntmps235
 go_wp2_with (with_reducible refine zit rfl _ _ s.size rfl ?h1 ?h2 (by omega) ?_)
 try case h1=>rfl
 try case h2=>rfl
 intro v0 w0 m0;have M0:=kd m0;clear m0;go_wp2_with fail
 go_loopw [5,6] (fun v v6 wr=>UNR w X s.size R v v6 wr) (fun _ v _=>s.size - (intOf v).toNat)
 case atStart=>exact ⟨0,s.size+1,_,[],Nat.zero_le _,rfl,rfl,Nat.le_refl _,by omega,RE,M0⟩
 case round =>
  clear M0 RE;obtain ⟨i,f,x,L,hi,rfl,rfl,hL,hf,RE,H⟩:=hrel;obtain ⟨f,rfl⟩:∃ g,f=g+1:=⟨f - 1,by omega⟩
  by_cases hlt:i<s.size
  · have hd:decide ((i:Int)<(s.size:Int))=true:=by simp;omega
    have d1:=fun w=>zbe s (i:=i) hlt (z:=(i:Int)) rfl w;rw [HX.out] at d1;have U1:=kd (fun h=>zfr (xs:=X) (f:=f) (i:=i) (acc:=L) (by rw [HL.out];exact hlt) h);have U2:=kd (fun h h2=>zll (xs:=X) (f:=f) (i:=i) (acc:=L) (by rw [HL.out];exact hlt) h h2)
    have U3:=kd (fun h (h2:0≤zbm X i)=>zhu (xs:=X) (f:=f) (i:=i) (acc:=L) (by rw [HL.out];exact hlt) h (by omega));have EY2:=kd (EY.out i hlt wr);have EN2:=kd (EN.out i hlt wr)
    have U4:=kd (show 0≤zbm X i→i+3≤s.size from fun h=>by
     unfold zbm at h
     split at h
     · omega
     · rename_i h2;rw [not_or] at h2;have:=h2.1;rw [HL.out] at this;omega)
    generalize zbm X i=ec at *;generalize X.getD i 0=c at *
    by_cases h37:c=37
    · subst h37
      by_cases hn:ec<0
      · have E:=kd (yci (RE.out.trans (U2.out rfl hn)))
        have EI:=kd (EN2.out hn);clear U1 U2 U3 U4 RE EY EN EY2 EN2 hn;go_wp2_with (go_at_call 233;refine EI.out.mono ?_;rintro e w1 ⟨⟨x1,rfl⟩,rfl⟩)
        go_ret3
        exact ⟨ybh E.out.symm,H.out.bw⟩
      · replace hn:0≤ec:=by omega
        have E:=kd (RE.out.trans (U3.out rfl hn));have i3:=U4.out hn;have EI:=kd (EY2.out hn);clear U1 U2 U3 U4 RE EY EN EY2 EN2 hn
        go_wp2_with (first|(go_at_call 233;refine EI.out.mono ?_;rintro e w1 ⟨rfl,rfl⟩)|(with_reducible refine zds rfl (.tmp 37) (.tmp 39) rfl x L rfl H.out ec rfl (by omega) ?_));intro v3 w3 L3 E3 l3 M3;go_wp2_with fail;go_roundw
        case rel=>exact ⟨i+3,f,v3,L3,by omega,rfl,by go_num,by omega,by omega,kd (by rw [E.out,E3.out]),M3⟩
        case measure=>simp [intOf];omega
    · have q0:(c == 37)=false:=by simpa using h37
      have E:=kd (RE.out.trans (U1.out h37));clear U1 U2 U3 U4 RE EY EN EY2 EN2 h37;go_wp2_with (with_reducible refine zds rfl (.tmp 22) (.tmp 26) rfl x L rfl H.out c rfl (by omega) ?_);intro v3 w3 L3 E3 l3 M3;go_wp2_with fail;go_roundw
      case rel=>exact ⟨i+1,f,v3,L3,by omega,rfl,by go_num,by omega,by omega,kd (by rw [E.out,E3.out]),M3⟩
      case measure=>simp [intOf];omega
  · obtain rfl:i=s.size:=by omega
    have E:=kd (unv_ok (RE.out.trans (zhv (by rw [HL.out];exact Nat.le_refl _))));have cv:=zgb H.out.o;go_wp2_with fail
    go_ret3
    exact ⟨ybh E.out.symm,H.out.bw⟩
theorem zgz (s:ByteArray) (w:World) (hs:s.size≤4000000):Calls Tryz.prog 174 #[.string s] w fun e w'=>e = .returned (.string (strOfNums (zb2 (zaa s))))∧Below w.heap.size w w':=by
 have UN:=kd (zns s w hs);unfold zu8 at UN;have E:=kd (show zb2 (zaa s)=(zfk (zaa s)).1 from rfl);generalize zfk (zaa s)=R at *;generalize zb2 (zaa s)=C at *;obtain ⟨r1,r2,r3⟩:=R
 go_enter Tryz.func174,Tryz.ntmps174
 go_wp2_with (go_at_call 235;refine UN.out.mono ?_;rintro e w1 ⟨rfl,hb⟩;have B1:=kd hb;clear hb);go_ret;exact ⟨by rw [E.out];rfl,B1.out⟩
def wrV:Option Nat→Value
 | none => .tuple #[.int .i64 0,.bool false]
 | some i => .tuple #[.int .i64 i,.bool true]
theorem zjl (w:World) (b a e:Nat) (k:Int) (s:ByteArray) (hr:Row w b 148 [.string s,.int .i64 a]) (he:e≤s.size) (hs:s.size≤4000000) (ha:a≤s.size) (hC:CLS w) :
  Calls Tryz.prog 173 #[.pointer (some ⟨b,0,none⟩),.int .i64 e,.int .i64 k] w fun r w'=>r = .returned (wrV (zck ((zaa s).take e) k a))∧Below w.heap.size w w':=by
 have HL:=kd (zac s);have HB:=kd (zas s);have HR:=kd hr;have HC:=kd hC
 have ZL:(zaa (s.extract 0 e))=(zaa s).take e:=by rw [zar,List.drop_zero,Nat.sub_zero]
 have ZS:(s.extract 0 e).size=e:=by rw [← zac,ZL,List.length_take,zac];omega
 have EY:=kd (fun i (h:i<e) w h2=>zo1 (s.extract 0 e) i w (by omega) (by omega) h2);have EN:=kd (fun i (h:i<e) w h2=>zr9 (s.extract 0 e) i w (by omega) (by omega) h2);rw [ZL] at EY EN
 have RE:=kd (show zck ((zaa s).take e) k a=zc0 ((zaa s).take e) k (e+1) a by unfold zck;rw [List.length_take,zac,Nat.min_eq_left he]);have ZE:=kd (show ((zaa s).take e).length=e by rw [List.length_take,zac];omega)
 have GT:=kd (fun i (h:i<e)=>show ((zaa s).take e).getD i 0=(zaa s).getD i 0 by
  rw [List.getD_eq_getElem?_getD,List.getD_eq_getElem?_getD,List.getElem?_take,if_pos h])
 generalize zck ((zaa s).take e) k a=R at *;generalize (zaa s).take e=Z at *;obtain ⟨X,hX⟩:∃ X,zaa s=X:=⟨_,rfl⟩;have HX:=kd hX;rw [hX] at HL HB GT;clear hX ZL ZS hC;have k1:w.cell? ⟨b,1,none⟩=some (.int .i64 a):=hr.cell 1;clear hr
 go_enter Tryz.func173,Tryz.ntmps173
 go_wp2_with fail;clear k1
 go_loopw [8] (fun v wr => ∃ (i f:Nat),i≤s.size∧v = .int .i64 i∧e+1≤f+i∧Hid (R=zc0 Z k f i)∧Hid (Below w.heap.size w wr)) (fun v _=>e - (intOf v).toNat)
 case atStart=>exact ⟨a,e+1,ha,rfl,by omega,RE,kd zBr⟩
 case round =>
  clear RE;obtain ⟨i,f,hi,rfl,hf,RE,BW⟩:=hrel
  by_cases hlt:i<e
  · obtain ⟨f,rfl⟩:∃ g,f=g+1:=⟨f - 1,by omega⟩
    have hd:decide ((i:Int)<(e:Int))=true:=by simp;omega
    have R0:=HR.out.below BW.out;have k0:wr.cell? ⟨b,0,none⟩=some (.string s):=R0.cell 0;have d1:=fun w=>zbe s (i:=i) (by omega) (z:=(i:Int)) rfl w;have hx2:=HB.out _ (zbg (l:=X) (i:=i) (by rw [HL.out];omega));rw [HX.out] at d1
    have ST:=kd (show R=if inC k (X.getD i 0)=true then zc0 Z k f (i+1) else if zbm Z i<0∨zdc (zbm Z i)=true then some i else zc0 Z k f (i+3) by
     rw [RE.out,zc4,if_neg (by rw [ZE.out];omega),GT.out i hlt])
    have IC:=kd (fun w1 (h:Below wr.heap.size wr w1)=>zkh (X.getD i 0) k w1 hx2.1 hx2.2 (HC.out.below (zao BW.out h)))
    have U4:=kd (show 0≤zbm Z i→i+3≤e from fun h=>by
     unfold zbm at h
     split at h
     · omega
     · rename_i h2;rw [not_or] at h2;have:=h2.1;rw [ZE.out] at this;omega)
    have EN2:=kd (fun w h=>EN.out i hlt w h);have EY2:=kd (fun w h=>EY.out i hlt w h);generalize zbm Z i=ec at *;generalize X.getD i 0=c at *
    have es:(e:Int)≤(s.size:Int):=by omega
    clear R0 RE GT;go_wp2_with fail;refine (IC.out _ (by first|exact Below.refl _ _|exact zBr.drew)).mono ?_;rintro e1 w1 ⟨rfl,hb⟩;have B1:=kd (zao BW.out hb);clear hb IC k0;have R1:=HR.out.below B1.out;have k0:w1.cell? ⟨b,0,none⟩=some (.string s):=R1.cell 0;clear R1
    cases hp:inC k c with
    | true =>
      rw [hp] at ST;have E:=kd (show R=zc0 Z k f (i+1) from ST.out);clear ST hp EY2 EN2;go_wp2_with fail;go_roundw
      case rel=>exact ⟨i+1,f,by omega,by go_num,by omega,E,B1⟩
      case measure=>simp [intOf];omega
    | false =>
      rw [hp] at ST;have S2:=kd (show R=if ec<0∨zdc ec=true then some i else zc0 Z k f (i+3) from ST.out);clear ST hp
      by_cases hn:ec<0
      · have E:=kd (show R=some i by rw [S2.out,if_pos (.inl hn)])
        have EI:=kd (fun w=>EN2.out w hn);clear S2 EY2 EN2 hn U4;go_wp2_with (go_at_call 233;refine (EI.out _).mono ?_;rintro e w2 ⟨⟨x1,rfl⟩,rfl⟩)
        go_ret2
        exact ⟨by rw [E.out];rfl,B1.out⟩
      · replace hn:0≤ec:=by omega
        have i3:=U4.out hn;have EI:=kd (fun w=>EY2.out w hn);have CT:=kd (fun w=>zpi ec w);have S3:=kd (show zdc ec=true→R=some i from fun h=>by rw [S2.out,if_pos (.inr h)])
        have S4:=kd (show zdc ec=false→R=zc0 Z k f (i+3) from fun h=>by rw [S2.out,if_neg];rw [h];simp;omega);clear S2 EY2 EN2 hn U4
        cases hc:zdc ec with
        | true =>
          rw [hc] at CT;have E:=kd (S3.out hc);clear hc S3 S4;go_wp2_with (first|(go_at_call 233;refine (EI.out _).mono ?_;rintro e w2 ⟨rfl,rfl⟩)|(go_at_call 234;refine (CT.out _).mono ?_;rintro e w2 ⟨rfl,rfl⟩))
          go_ret2
          exact ⟨by rw [E.out];rfl,B1.out⟩
        | false =>
          rw [hc] at CT;have E:=kd (S4.out hc);clear hc S3 S4;go_wp2_with (first|(go_at_call 233;refine (EI.out _).mono ?_;rintro e w2 ⟨rfl,rfl⟩)|(go_at_call 234;refine (CT.out _).mono ?_;rintro e w2 ⟨rfl,rfl⟩));go_roundw
          case rel=>exact ⟨i+3,f,by omega,by go_num,by omega,E,B1⟩
          case measure=>simp [intOf];omega
  · have hd:decide ((i:Int)<(e:Int))=false:=by simp;omega
    have E:=kd (show R=none by rw [RE.out,ze0 (by rw [ZE.out];omega)]);go_wp2_with fail
    go_ret2
    exact ⟨by rw [E.out];rfl,BW.out⟩
def zhf:Option (List Int)→Value
 | none => .tuple #[.string ⟨#[]⟩,.bool false]
 | some h => .tuple #[.string (strOfNums h),.bool true]
theorem zzw (g:List Int):((⟨#[91]⟩:ByteArray)++strOfNums g ++ ⟨#[93]⟩)=strOfNums ([91]++g++[93]):=by rw [← zcx,← zcx];rfl
theorem zmo {a:ByteArray} {R:Option (List Int)} {h:List Int} (hR:R=some h) (ha:a=strOfNums h):Ending.returned (.tuple #[.string a,.bool true]) = .returned (zhf R):=by subst hR;subst ha;rfl
theorem zvs {R:Option (List Int)} (hR:R=none):Ending.returned (.tuple #[.string ⟨#[]⟩,.bool false]) = .returned (zhf R):=by subst hR;rfl
theorem zge (s:ByteArray) (w:World) (hs:s.size≤4000000) (hm:GM w) (hP:PT w):Calls Tryz.prog 116 #[.string s] w fun e w'=>e = .returned (zhf (zb3 (zaa s)))∧Below w.heap.size w w':=by
 have HL:=zac s;have HG:=kd hm;have HP:=kd hP;clear hm hP
 have RE:=kd (show zb3 (zaa s)=if 2≤(zaa s).length∧(zaa s).getD 0 0=91∧(zaa s).getD ((zaa s).length - 1) 0=93 then (zb9 (subL (zaa s) 1 ((zaa s).length - 1))).map fun g=>[91]++g++[93]
  else if zee (zaa s)=true then some (zaa s)
  else if zfm (zaa s)=true then some (lowS (zaa s))
  else none from rfl)
 rw [HL] at RE;have NB:=kd (fun w h1 h2=>zpz s w h1 h2);have ND:=kd (fun w=>zq4 s w hs);have LW:=kd (fun w=>zce s w hs);generalize zb3 (zaa s)=R at *
 by_cases hB:2≤s.size∧(zaa s).getD 0 0=91∧(zaa s).getD (s.size - 1) 0=93
 · have E:=kd (show R=_ from RE.out.trans (if_pos hB))
   obtain ⟨h2,h91,h93⟩:=hB
   have d1:decide ((2:Int)≤(s.size:Int))=true:=by simp;omega
   have j0:=fun w=>zbe s (i:=0) (by omega) (z:=0) rfl w;have j1:=fun w=>zbe s (i:=s.size - 1) (by omega) (z:=(s.size:Int) - 1) (by omega) w;rw [h91] at j0;rw [h93] at j1;have ZL:zaa (s.extract 1 (s.size - 1))=subL (zaa s) 1 (s.size - 1):=zar s 1 (s.size - 1)
   have ZS:(s.extract 1 (s.size - 1)).size≤4000000:=by
    rw [← zac,ZL];have:=(zbk (zaa s) 1 (s.size - 1)).length_le;omega
   have GR:=kd (fun w h=>zt0 (s.extract 1 (s.size - 1)) w ZS h);rw [ZL] at GR
   have GLn:=kd (fun g (h:zb9 (subL (zaa s) 1 (s.size - 1))=some g)=>show g.length≤40 from by
    have h1:=zko h;unfold zb9 at h1
    split at h1
    · cases h1
    · omega)
   generalize zb9 (subL (zaa s) 1 (s.size - 1))=G at *
   have i1:(1:Int)≤(s.size:Int) - 1:=by omega
   have i2:(s.size:Int) - 1≤(s.size:Int):=by omega
   have i3:(0:Int)≤(s.size:Int) - 1:=by omega
   have e1:((s.size:Int) - 1).toNat=s.size - 1:=by omega
   clear NB ND LW RE ZL ZS h91 h93 HL
   go_enter Tryz.func116,Tryz.ntmps116
   go_wp2_with fail;refine (GR.out w HG.out).mono ?_;intro e w1 hg;unfold GrsP at hg;obtain ⟨hb,hg⟩:=hg;have B1:=kd hb;clear hb GR
   cases hG:G with
   | none =>
     rw [hG] at hg E;obtain ⟨j,rfl⟩:=hg;go_wp2_with fail
     go_ret2
     exact ⟨zvs E.out,B1.out⟩
   | some g =>
     have gl:=GLn.out g hG;rw [hG] at hg E;replace hg:e = .returned (.tuple #[.string (strOfNums g),.bool true]):=hg;subst hg;have gs:=zaq g
     have k1:¬ 9223372036854775807<1+(strOfNums g).size:=by omega
     have k2:¬ 9223372036854775807<1+(strOfNums g).size+1:=by omega
     clear gl GLn hG;go_wp2_with fail
     go_ret2
     exact ⟨zmo E.out (zzw g),B1.out⟩
 have E0:=kd (RE.out.trans (if_neg hB));clear RE;have NB2:=kd (NB.out w HG.out HP.out);have HN:=kd (zbh s);have IDX:=kd (fun (i:Nat) (h:i<s.size) (z:Int) (hz:z=i) (w:World)=>zbe s h hz w);have LWS:=kd LW.out;clear NB LW;generalize zaa s=X at *;generalize zee X=b1 at *
 generalize zfm X=b2 at *
 have hB2:s.size<2∨(2≤s.size∧X.getD 0 0≠91)∨(2≤s.size∧X.getD 0 0=91∧X.getD (s.size - 1) 0≠93):=by
  by_cases h1:s.size<2
  · exact .inl h1
  · by_cases h2:X.getD 0 0=91
    · exact .inr (.inr ⟨by omega,h2,fun h=>hB ⟨by omega,h2,h⟩⟩)
    · exact .inr (.inl ⟨by omega,h2⟩)
 clear hB HL
 rcases hB2 with h1|⟨h1,h2⟩|⟨h1,h2,h3⟩
 case' inl=>have d1:decide ((2:Int)≤(s.size:Int))=false:=by simp;omega
 case' inr.inl =>
  have d1:decide ((2:Int)≤(s.size:Int))=true:=by simp;omega
  have j0:=IDX.out 0 (by omega) 0 rfl;generalize X.getD 0 0=c0 at *
  have q0:(c0 == 91)=false:=by simpa using h2
  clear h2
 case' inr.inr =>
  have d1:decide ((2:Int)≤(s.size:Int))=true:=by simp;omega
  have j0:=IDX.out 0 (by omega) 0 rfl;have j1:=IDX.out (s.size - 1) (by omega) ((s.size:Int) - 1) (by omega);rw [h2] at j0;generalize X.getD (s.size - 1) 0=c1 at *
  have q1:(c1 == 93)=false:=by simpa using h3
  clear h2 h3
 all_goals
  clear IDX
  cases b1
  case true =>
   have E1:=kd (show R=some X from E0.out)
   go_enter Tryz.func116,Tryz.ntmps116
   go_wp2_with (go_at_call 167;refine NB2.out.mono ?_;rintro e w1 ⟨rfl,hb⟩;have B1:=kd hb;clear hb)
   go_ret2
   exact ⟨zmo E1.out HN.out.symm,B1.out⟩
  have E1:=kd (show R=if b2=true then some (lowS X) else none from E0.out)
  cases b2
  case true =>
   have E2:=kd (show R=some (lowS X) from E1.out)
   go_enter Tryz.func116,Tryz.ntmps116
   go_wp2_with (first|(go_at_call 167;refine NB2.out.mono ?_;rintro e w1 ⟨rfl,hb⟩;have B1:=kd hb;clear hb)|(go_at_call 168;refine (ND.out _).mono ?_;rintro e w2 ⟨rfl,hb⟩;have B2:=kd (zao B1.out hb);clear hb)|(go_at_call 120;refine (LWS.out _).mono ?_;rintro e w3 ⟨rfl,hb⟩;have B3:=kd (zao B2.out hb);clear hb))
   go_ret2
   exact ⟨zmo E2.out rfl,B3.out⟩
  have E2:=kd (show R=none from E1.out)
  go_enter Tryz.func116,Tryz.ntmps116
  go_wp2_with (first|(go_at_call 167;refine NB2.out.mono ?_;rintro e w1 ⟨rfl,hb⟩;have B1:=kd hb;clear hb)|(go_at_call 168;refine (ND.out _).mono ?_;rintro e w2 ⟨rfl,hb⟩;have B2:=kd (zao B1.out hb);clear hb))
  go_ret2
  exact ⟨zvs E2.out,B2.out⟩
end Go.Proofs.YtfnmkedncfdceaaGreatDoor
