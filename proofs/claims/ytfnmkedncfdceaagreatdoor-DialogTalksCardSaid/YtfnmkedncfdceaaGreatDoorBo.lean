/- Contract: address.groups. And what stands behind it. -/
import Derived.Test.YtfnmkedncfdceaaGreatDoorBi
set_option linter.unusedVariables false
set_option linter.unusedSimpArgs false
namespace Go.Proofs.YtfnmkedncfdceaaGreatDoor
open Go.RowKit

theorem zz0 {g:List Int} (h:g.length≤4):(grpN g).length≤4:=by
 unfold grpN;dsimp only
 split
 · decide
 · have:=(List.dropWhile_sublist (l:=lowS g) (· == (48:Int))).length_le
   rw [zbo] at this;omega
theorem zm2 {s:List Int} {l:List (List Int)} (h:grpL s=some l):(∀ p∈l,p.length≤4)∧l.length≤s.length+1:=by
 unfold grpL at h
 split at h
 · rename_i ha
   injection h with h
   subst h;refine ⟨fun p hp => ?_,by rw [List.length_map];exact (zga 58 s).2⟩;obtain ⟨q,hq,rfl⟩:=List.mem_map.1 hp;have:=List.all_eq_true.1 ha q hq;unfold zfp at this;simp only [Bool.and_eq_true,decide_eq_true_eq] at this;exact zz0 this.1.2
 · cases h
theorem zsd:∀ {s:List Int} {p:List Int × List Int},dblL s=some p→p.1.length+p.2.length+2=s.length
 | [],p,h=>by cases h
 | [_],p,h=>by cases h
 | c::d::r,p,h=>by
   rw [dblL] at h
   split at h
   · injection h with h
     subst h;simp
   · cases hq:dblL (d::r) with
     | none=>rw [hq] at h;cases h
     | some q =>
       rw [hq] at h
       injection h with h
       subst h;have:=zsd hq;simp at this ⊢;omega
theorem zrl {s:List Int} {x:List (List Int)} (hs:By s) (h:zcz s=some x):(∀ p∈x,By p)∧(∀ p∈x,p.length≤4)∧x.length≤s.length+1:=by
 unfold zcz at h
 split at h
 · injection h with h
   subst h;exact ⟨(fun p hp=>by cases hp),(fun p hp=>by cases hp),Nat.zero_le _⟩
 · exact ⟨zw9 hs h,(zm2 h).1,(zm2 h).2⟩
theorem VX.step0 {T:TypeId} {sz:Nat} {w w':World} {v:Value} {n:Nat} {cs:List Value} (H:VX T sz w v n cs w) (hb:Below w.heap.size w w'):VX T sz w v n cs w':=H.step hb
theorem zv8 {l:List Int} {b:Bool} (h:(bl [] == l)=b):b=true ↔ l=[]:=by
 rw [← h,beq_iff_eq];exact ⟨fun h=>h.symm,fun h=>h.symm⟩
def zpj (w:World) (R:Option (List (List Int))) (v b:Value) (w':World):Prop:=match R with
 | none=>v = .slice none 0 0∧b = .bool false∧Below w.heap.size w w'
 | some l=>b = .bool true∧SXL w v l w'
theorem zjd {w w':World} {v:Value} {l:List (List Int)} (h:SXL w v l w'):∃ A c,v = .slice A l.length c:=by
 rcases VX.form h with ⟨h1,h2,_⟩|⟨g,cap,h1,_⟩
 · exact ⟨none,0,by rw [h1,h2]⟩
 · exact ⟨_,_,h1⟩
theorem zkd {w w0:World} {v:Value} {l:List (List Int)} (H:SXL w0 v l w) (hb:∀ p∈l,By p) (h4:∀ p∈l,p.length≤4) (hl:l.length≤1000) :
  Calls Tryz.prog 224 #[v,.string ⟨#[58]⟩] w fun e w'=>e = .returned (.string (strOfNums (zbj [58] l)))∧Below w.heap.size w w':=by
 have hm:(l.map strOfNums).map zaa=l:=by
  rw [List.map_map];exact (List.map_congr_left fun p hp=>zal (hb p hp)).trans (List.map_id _)
 have hx:SX w0 v (l.map strOfNums) w:=⟨by rw [List.length_map,List.map_map];exact H.o,H.bw⟩
 have:=zrv hx ⟨#[58]⟩ (by rw [List.length_map];omega) (by
  rw [hm];have h:=zhd [58] 4 l h4;rw [show zaa ⟨#[58]⟩=[58] from rfl];simp at h
  omega)
 rwa [hm,show zaa ⟨#[58]⟩=[58] from rfl] at this
theorem zpj.bw {w w':World} {R:Option (List (List Int))} {v b:Value} (h:zpj w R v b w'):Below w.heap.size w w':=by
 cases R with
 | none=>exact h.2.2
 | some l=>exact h.2.bw
theorem zpj.step {w w1 w2:World} {R:Option (List (List Int))} {v b:Value} (h:zpj w R v b w1) (hb:Below w1.heap.size w1 w2):zpj w R v b w2:=by
 cases R with
 | none=>exact ⟨h.1,h.2.1,zao h.2.2 hb⟩
 | some l=>exact ⟨h.1,h.2.step hb⟩
def GrsP (w:World) (R:Option (List Int)) (e:Ending) (w':World):Prop:=Below w.heap.size w w'∧match R with
 | none => ∃ j,e = .returned (.tuple #[.string j,.bool false])
 | some g=>e = .returned (.tuple #[.string (strOfNums g),.bool true])
theorem GrsP.bad {w w':World} {R:Option (List Int)} {j:ByteArray} (h:R=none) (hb:Below w.heap.size w w'):GrsP w R (.returned (.tuple #[.string j,.bool false])) w':=by subst h;exact ⟨hb,j,rfl⟩
theorem GrsP.good {w w':World} {R:Option (List Int)} {g:List Int} {s:ByteArray} (h:R=some g) (hs:s=strOfNums g) (hb:Below w.heap.size w w'):GrsP w R (.returned (.tuple #[.string s,.bool true])) w':=by subst h;subst hs;exact ⟨hb,rfl⟩
set_option maxRecDepth 100000 in
set_option maxHeartbeats 4000000 in
theorem zt0 (s:ByteArray) (w:World) (hs:s.size≤4000000) (hm:GM w):Calls Tryz.prog 166 #[.string s] w (GrsP w (zb9 (zaa s))):=by
 have HG:=kd hm;have CT:=kd (zud s w hs hm);have SB:=kd (zas s);have SL:=kd (zac s);have GL:=kd (fun w h=>zff s w hs h);have E0:=kd (fun (h:39<s.size)=>show zb9 (zaa s)=none by unfold zb9;rw [if_pos (by rw [zac];exact h)])
 have E1:=kd (fun (h:¬ 39<s.size)=>show zb9 (zaa s)=match dblL (zaa s) with
   | none=>match grpL (zaa s) with
     | some l=>if l.length=8 then some (zbj [58] l) else none
     | none=>none
   | some p=>match zcz p.1,zcz p.2 with
     | some x,some y=>if 7<x.length+y.length then none else some (zbj [58] x++[58,58]++zbj [58] y)
     | _,_=>none by
  rw [show zb9 (zaa s)=if 39<(zaa s).length then none else
   match dblL (zaa s) with
   | none=>match grpL (zaa s) with
     | some l=>if l.length=8 then some (zbj [58] l) else none
     | none=>none
   | some p=>match zcz p.1,zcz p.2 with
     | some x,some y=>if 7<x.length+y.length then none else some (zbj [58] x++[58,58]++zbj [58] y)
     | _,_=>none from rfl,if_neg (by rw [zac];exact h)])
 have DB:=kd (fun p (h:dblL (zaa s)=some p)=>zxs (zas s) h)
 have CV:=kd (show cutV s=match dblL (zaa s) with
  | none => .tuple #[.string s,.string ⟨#[]⟩,.bool false]
  | some p => .tuple #[.string (strOfNums p.1),.string (strOfNums p.2),.bool true] from rfl)
 generalize zb9 (zaa s)=R at *;generalize cutV s=V at *;clear hm
 by_cases h39:39<s.size
 · have d1:decide ((39:Int)<(s.size:Int))=true:=by simp;omega
   have E:=kd (E0.out h39);clear E0 E1 CT GL
   go_enter Tryz.func166,Tryz.ntmps166
   go_wp2_with fail
   go_ret2
   exact GrsP.bad E.out zBr
 have d1:decide ((39:Int)<(s.size:Int))=false:=by simp;omega
 have E2:=kd (E1.out h39);clear E0 E1
 cases hq:dblL (zaa s) with
 | none =>
   rw [hq] at CV E2;dsimp only at CV E2;rw [CV.out] at CT;clear DB CV hq
   cases hg:grpL (zaa s) with
   | none =>
     rw [hg] at E2 GL;dsimp only at E2;clear hg
     go_enter Tryz.func166,Tryz.ntmps166
     go_wp2_with fail;refine CT.out.mono ?_;rintro e w1 ⟨rfl,hb⟩;have B1:=kd hb;clear hb;go_wp2_with fail;refine (GL.out _ (HG.out.below B1.out)).mono ?_;rintro e w2 ⟨rfl,hb⟩;have B2:=kd (zao B1.out hb);clear hb
     go_wp2_with (go_at_call 224;refine (Tryz.strings_Join_none none 0 _ _).mono ?_;rintro e w' ⟨rfl,rfl⟩)
     go_ret2
     exact GrsP.bad E2.out B2.out
   | some l =>
     have LB:=kd (zw9 (zas s) hg);have LL:=kd (zm2 hg);rw [hg] at E2 GL;dsimp only at E2;clear hg;have LN:=kd (show l.length≤1000 by have:=LL.out.2;rw [SL.out] at this;omega)
     go_enter Tryz.func166,Tryz.ntmps166
     go_wp2_with fail;refine CT.out.mono ?_;rintro e w1 ⟨rfl,hb⟩;have B1:=kd hb;clear hb;go_wp2_with fail;refine (GL.out _ (HG.out.below B1.out)).mono ?_;rintro e w2 ⟨v,rfl,hx⟩;have HX:=kd hx;obtain ⟨A,c,rfl⟩:=zjd hx;have B2:=kd (zao B1.out hx.bw);clear hx
     have JN:=kd (zkd HX.out LB.out LL.out.1 LN.out);clear HX;generalize zbj [58] l=jl at *;obtain ⟨n,hn⟩:∃ n,l.length=n:=⟨_,rfl⟩;rw [hn] at E2 JN ⊢;clear LB LL LN hn
     by_cases h8:n=8
     · subst h8
       have E:=kd (E2.out.trans (if_pos rfl));go_wp2_with fail;refine JN.out.mono ?_;rintro e w3 ⟨rfl,hb⟩;have B3:=kd (zao B2.out hb);clear hb;go_wp2_with fail
       go_ret2
       exact GrsP.good E.out rfl B3.out
     · have E:=kd (E2.out.trans (if_neg h8))
       have d8:((n:Int) == 8)=false:=by simp;omega
       go_wp2_with fail;refine JN.out.mono ?_;rintro e w3 ⟨rfl,hb⟩;have B3:=kd (zao B2.out hb);clear hb;go_wp2_with fail
       go_ret2
       exact GrsP.bad E.out B3.out
 | some p =>
   obtain ⟨pa,pb⟩:=p;obtain ⟨ya,yb⟩:=DB.out _ hq;have YA:=kd ya;have YB:=kd yb;rw [hq] at CV E2;dsimp only at CV E2 ya yb;rw [CV.out] at CT;have la:=zcs ya [];have lb:=zcs yb [];obtain ⟨ea,hea⟩:∃ b,(bl [] == pa)=b:=⟨_,rfl⟩;obtain ⟨eb,heb⟩:∃ b,(bl [] == pb)=b:=⟨_,rfl⟩
   rw [hea] at la;rw [heb] at lb;have EA:=kd (zv8 hea);have EB:=kd (zv8 heb);clear hea heb;have zl:=zsd hq;rw [SL.out] at zl;dsimp only at zl;clear DB CV hq GL;have GA:=kd (fun w h=>zff (strOfNums pa) w (by rw [zaq];omega) h)
   have GB:=kd (fun w h=>zff (strOfNums pb) w (by rw [zaq];omega) h);rw [zal ya] at GA;rw [zal yb] at GB;have FA:=kd (fun x (h:zcz pa=some x)=>zrl ya h);have FB:=kd (fun x (h:zcz pb=some x)=>zrl yb h);have SA:=kd (show zcz pa=if pa=[] then some [] else grpL pa from rfl)
   have SBB:=kd (show zcz pb=if pb=[] then some [] else grpL pb from rfl);generalize zcz pa=Ra at *;generalize zcz pb=Rb at *;generalize grpL pa=Ga at *;generalize grpL pb=Gb at *;clear ya yb
   go_enter Tryz.func166,Tryz.ntmps166
   go_wp2_with fail;refine CT.out.mono ?_;rintro e w1 ⟨rfl,hb⟩;have B1:=kd hb;clear hb CT;go_upto_if 38 with (fail)
   go_cut [9,11] (fun v b wx=>zpj w Ra v b wx)
   case first =>
    cases ea
    case true =>
     have ER:=kd (SA.out.trans (if_pos (EA.out.1 rfl)));go_wp2_with fail;go_meet;rw [ER.out];exact ⟨rfl,(VX.nil _ _ _).step0 B1.out⟩
    case false =>
     have ER:=kd (SA.out.trans (if_neg (fun h=>by have:=EA.out.2 h;cases this)));go_wp2_with fail;refine (GA.out _ (HG.out.below B1.out)).mono ?_;intro e w2 hgr
     cases Rg:Ga with
     | none =>
       rw [Rg] at hgr ER;obtain ⟨rfl,hb⟩:=hgr;have BB:=kd (zao B1.out hb);clear hb;go_wp2_with fail;go_meet;rw [ER.out];exact ⟨rfl,rfl,BB.out⟩
     | some l =>
       rw [Rg] at hgr ER;obtain ⟨v,rfl,hx⟩:=hgr;have BB:=kd (hx.base B1.out);clear hx;go_wp2_with fail;go_meet;rw [ER.out];exact ⟨rfl,BB.out⟩
   case rest =>
   obtain ⟨wxa,rfl⟩:∃ z:World,z=wc:=⟨_,rfl⟩;have C1:=kd hcut;clear hcut GA EA SA B1;go_upto_if 45 with (fail)
   go_cut [10,12] (fun v b wx=>zpj w Ra u9 u11 wx∧zpj w Rb v b wx)
   case first =>
    cases eb
    case true =>
     have ER:=kd (SBB.out.trans (if_pos (EB.out.1 rfl)));go_wp2_with fail;go_meet;refine ⟨C1.out,?_⟩;rw [ER.out];exact ⟨rfl,(VX.nil _ _ _).step0 C1.out.bw⟩
    case false =>
     have ER:=kd (SBB.out.trans (if_neg (fun h=>by have:=EB.out.2 h;cases this)));go_wp2_with fail;refine (GB.out _ (HG.out.below C1.out.bw)).mono ?_;intro e w2 hgr
     cases rg:Gb with
     | none =>
       rw [rg] at hgr ER;obtain ⟨rfl,hb⟩:=hgr;have BB:=kd (zao C1.out.bw hb);have C2:=kd (C1.out.step hb);clear hb;go_wp2_with fail;go_meet;refine ⟨C2.out,?_⟩;rw [ER.out];exact ⟨rfl,rfl,BB.out⟩
     | some l =>
       rw [rg] at hgr ER;obtain ⟨v,rfl,hx⟩:=hgr;have BB:=kd (hx.base C1.out.bw);have C2:=kd (C1.out.step hx.bw);clear hx;go_wp2_with fail;go_meet;refine ⟨C2.out,?_⟩;rw [ER.out];exact ⟨rfl,BB.out⟩
   case rest =>
   obtain ⟨wxb,rfl⟩:∃ z:World,z=wc:=⟨_,rfl⟩;obtain ⟨h1,h2⟩:=hcut;clear C1 GB EB SBB;have BW:=kd h1.bw
   cases ra:Ra with
   | none =>
     rw [ra] at h1 E2;obtain ⟨rfl,rfl,_⟩:=h1;have E:=kd (show R=none from E2.out);clear h2;go_wp2_with fail
     go_ret2
     exact GrsP.bad E.out BW.out
   | some x =>
     obtain ⟨xb,x4,xl⟩:=FA.out x ra;rw [ra] at h1 E2;obtain ⟨rfl,hx⟩:=h1
     cases rb:Rb with
     | none =>
       rw [rb] at h2 E2;obtain ⟨rfl,rfl,_⟩:=h2;have E:=kd (show R=none from E2.out);clear hx;go_wp2_with fail
       go_ret2
       exact GrsP.bad E.out BW.out
     | some y =>
       obtain ⟨yb,y4,yl⟩:=FB.out y rb;rw [rb] at h2 E2;obtain ⟨rfl,hy⟩:=h2;dsimp only at E2;have HX:=kd hx;have HY:=kd hy;obtain ⟨A1,c1,rfl⟩:=zjd hx;obtain ⟨A2,c2,rfl⟩:=zjd hy;have JX:=kd (zkd HX.out xb x4 (by omega))
       have JY:=kd (fun w3 (h:Below wxb.heap.size wxb w3)=>zkd (HY.out.step h) yb y4 (by omega));have LX:=zhd [58] 4 x x4;have LY:=zhd [58] 4 y y4;have BX:=kd (zhe (sep:=[58]) (by unfold By;decide) xb);have BY:=kd (zhe (sep:=[58]) (by unfold By;decide) yb)
       rw [show ([58]:List Int).length=1 from rfl] at LX LY;generalize zbj [58] x=jx at *;generalize zbj [58] y=jy at *;obtain ⟨n,hn⟩:∃ n,x.length=n:=⟨_,rfl⟩;obtain ⟨m,hm2⟩:∃ n,y.length=n:=⟨_,rfl⟩;rw [hn,hm2] at E2 ⊢;rw [hn] at JX LX xl;rw [hm2] at JY LY yl
       have nb:n≤40:=by omega
       have mb:m≤40:=by omega
       have sx:=zaq jx;have sy:=zaq jy;clear hx hy FA FB xb x4 yb y4 hn hm2 HX HY
       by_cases h7:7<n+m
       · have E:=kd (E2.out.trans (if_pos h7))
         have d7:decide ((7:Int)<(n:Int)+(m:Int))=true:=by simp;omega
         have d8:decide (7<n+m)=true:=decide_eq_true h7;go_wp2_with fail
         go_ret2
         exact GrsP.bad E.out BW.out
       · have E:=kd (E2.out.trans (if_neg h7))
         have d7:decide ((7:Int)<(n:Int)+(m:Int))=false:=by simp;omega
         have d8:decide (7<n+m)=false:=decide_eq_false h7
         have k1:¬ 9223372036854775807<(strOfNums jx).size+2:=by omega
         have k2:¬ 9223372036854775807<(strOfNums jx).size+2+(strOfNums jy).size:=by omega
         go_wp2_with fail;refine JX.out.mono ?_;rintro e w3 ⟨rfl,hb⟩;have J2:=kd (JY.out w3 hb);have B3:=kd (zao BW.out hb);clear hb JX JY;go_wp2_with fail;refine J2.out.mono ?_;rintro e w4 ⟨rfl,hb⟩;have B4:=kd (zao B3.out hb);clear hb J2;go_wp2_with fail
         go_ret2
         exact GrsP.good E.out (by rw [show (⟨#[58,58]⟩:ByteArray)=strOfNums [58,58] from rfl,zcx,zcx]) B4.out

theorem zwf:∀ a:List Int,ltL a a=false
 | []=>rfl
 | c::a=>by unfold ltL;rw [if_neg (by omega),if_neg (by omega)];exact zwf a
theorem zmv:∀ {a b:List Int},ltL a b=true→ltL b a=false
 | [],[],h=>by cases h
 | [],_::_,_=>rfl
 | _::_,[],h=>by cases h
 | c::a,d::b,h=>by
   unfold ltL at h ⊢
   split at h
   · rw [if_neg (by omega),if_pos (by assumption)]
   · split at h
     · cases h
     · rw [if_neg (by assumption),if_neg (by assumption)];exact zmv h
theorem zp8:∀ {a b:List Int},ltL a b=false→ltL b a=false→a=b
 | [],[],_,_=>rfl
 | [],_::_,h,_=>by cases h
 | _::_,[],_,h=>by cases h
 | c::a,d::b,h,h2=>by
   unfold ltL at h h2
   split at h
   · cases h
   · split at h
     · rw [if_pos (by assumption)] at h2;cases h2
     · rw [if_neg (by assumption),if_neg (by assumption)] at h2
       rw [zp8 h h2,show c=d by omega]
def leL (a b:List Int):Bool := !ltL b a
theorem zhc:∀ {a b c:List Int},leL a b=true→leL b c=true→leL a c=true
 | [],_,[],_,_=>rfl
 | [],_,_::_,_,_=>rfl
 | _::_,[],_,h,_=>by simp [leL,ltL] at h
 | _::_,_::_,[],_,h=>by simp [leL,ltL] at h
 | x::a,y::b,z::c,h,h2=>by
   unfold leL ltL at h h2 ⊢;have ih:=@zhc a b c;unfold leL at ih
   by_cases hyx:y<x
   · rw [if_pos hyx] at h;cases h
   · by_cases hzy:z<y
     · rw [if_pos hzy] at h2;cases h2
     · rw [if_neg hyx] at h
       rw [if_neg hzy] at h2;rw [if_neg (by omega)]
       by_cases hxz:x<z
       · rw [if_pos hxz];rfl
       · rw [if_neg hxz]
         rw [if_neg (by omega)] at h h2;exact ih h h2
theorem zzk {a b:List Int} (h:leL a b=true) (h2:leL b a=true):a=b:=by
 unfold leL at h h2;exact zp8 (by simpa using h2) (by simpa using h)
def Asc (l:List Pm):Prop:=l.Pairwise fun p q=>leL p.n q.n=true
theorem zwv (p:Pm):∀ (l:List Pm) (q:Pm),q∈zgg p l ↔ q=p∨q∈l
 | [],q=>by simp [zgg]
 | r::l,q=>by
   unfold zgg
   split
   · simp
   · rw [List.mem_cons,zwv p l q,List.mem_cons]
     constructor
     · rintro (h|h|h)
       · exact .inr (.inl h)
       · exact .inl h
       · exact .inr (.inr h)
     · rintro (h|h|h)
       · exact .inr (.inl h)
       · exact .inl h
       · exact .inr (.inr h)
theorem zwx (p:Pm):∀ {l:List Pm},Asc l→Asc (zgg p l)
 | [],_=>by unfold zgg Asc;simp
 | q::l,h=>by
   unfold zgg;have h1:=List.pairwise_cons.1 h
   split
   · rename_i hlt
     have hle:leL p.n q.n=true:=by unfold leL;rw [zmv hlt];rfl
     refine List.pairwise_cons.2 ⟨fun r hr => ?_,h⟩
     rcases List.mem_cons.1 hr with rfl|hr
     · exact hle
     · exact zhc hle (h1.1 r hr)
   · rename_i hlt
     refine List.pairwise_cons.2 ⟨fun r hr => ?_,zwx p h1.2⟩
     rcases (zwv p l r).1 hr with rfl|hr
     · unfold leL;simpa using hlt
     · exact h1.1 r hr
theorem zrx (p:Pm):∀ l:List Pm,(zgg p l).Perm (p::l)
 | []=>List.Perm.refl _
 | q::l=>by
   unfold zgg
   split
   · exact List.Perm.refl _
   · exact ((zrx p l).cons q).trans (List.Perm.swap p q l)
theorem zww (p:Pm):∀ {l:List Pm},(∀ q∈l,leL q.n p.n=true)→zgg p l=l++[p]
 | [],_=>rfl
 | q::l,h=>by
   have h1:=h q (by simp);unfold leL at h1;unfold zgg;rw [if_neg (by simpa using h1),zww p (fun r hr=>h r (by simp [hr]))];rfl
theorem zny (l:List Pm):∀ acc:List Pm,Asc acc→Asc (l.foldl (fun acc p=>zgg p acc) acc)∧(l.foldl (fun acc p=>zgg p acc) acc).Perm (acc++l):=by
 induction l with
 | nil=>intro acc h;exact ⟨h,by simp⟩
 | cons p l ih =>
   intro acc h;obtain ⟨h1,h2⟩:=ih (zgg p acc) (zwx p h);refine ⟨h1,h2.trans ?_⟩;exact ((zrx p acc).append_right l).trans (List.perm_middle.symm)
theorem zg3 (l:List Pm):Asc (zbb l):=(zny l [] List.Pairwise.nil).1
theorem zdf (l:List Pm):(zbb l).Perm l:=(zny l [] List.Pairwise.nil).2
theorem zyz (l:List Pm):(zbb l).length=l.length:=(zdf l).length_eq
theorem ycy {l:List Pm} (h:Asc l):zbb l=l:=by
 suffices H:∀ (m acc:List Pm),Asc (acc++m)→m.foldl (fun acc p=>zgg p acc) acc=acc++m from H l [] h
 intro m
 induction m with
 | nil=>intro acc _;simp
 | cons p m ih =>
   intro acc h;rw [List.foldl_cons,zww p (fun q hq=>(List.pairwise_append.1 h).2.2 q hq p (by simp)),ih _ (by rw [List.append_assoc];exact h),List.append_assoc]
   rfl
theorem zyy {l m:List Pm} (hp:l.Perm m) (hn:(l.map (·.n)).Nodup):zbb l=zbb m:=by
 have hs:(zbb l).Perm (zbb m):=(zdf l).trans (hp.trans (zdf m).symm);refine List.Perm.eq_of_pairwise (le:=fun p q:Pm=>leL p.n q.n=true) (fun p q hp1 hq1 h1 h2 => ?_) (zg3 l) (zg3 m) hs;have e:p.n=q.n:=zzk h1 h2;have hp2:p∈l:=(zdf l).mem_iff.1 hp1
 have hq2:q∈l:=hp.mem_iff.2 ((zdf m).mem_iff.1 hq1);obtain ⟨i,hi,rfl⟩:=List.mem_iff_getElem.1 hp2;obtain ⟨j,hj,rfl⟩:=List.mem_iff_getElem.1 hq2
 have hij:i=j:=by
  refine (List.getElem_inj (xs:=l.map (·.n)) (h₀ := by simpa using hi) (h₁ := by simpa using hj) hn).1 ?_
  simpa using e
 subst hij;rfl
/- The fields of a list in normal form. -/
structure FOK (k:Int) (p:Pm):Prop where
 n:By p.n
 v:By p.v
 ne:p.n≠[]
 low:lowS p.n=p.n
 cn:zc7 p.n=true
 cv:zc7 p.v=true
 h:¬ ((k=2∧p.h=false)∨(k=1∧p.h ≠ !p.v.isEmpty))
structure LOK (k:Int) (l:List Pm):Prop where
 f:∀ p∈l,FOK k p
 nd:(l.map (·.n)).Nodup
 len:l.length≤16
def PmBy (l:List Pm):Prop := ∀ p∈l,By p.n∧By p.v
theorem zki {l:List Pm} {n:List Int}:zdn l n=false ↔ n ∉ l.map (·.n):=by
 unfold zdn;rw [Bool.eq_false_iff,Ne,List.any_eq_true,List.mem_map];refine not_congr ⟨fun ⟨p,hp,h⟩=>⟨p,hp,by simpa using h⟩,fun ⟨p,hp,h⟩=>⟨p,hp,by simpa using h⟩⟩
def lowP (p:Pm):Pm:=⟨lowS p.n,p.v,p.h⟩
theorem zii {k:Int}:∀ {l n m:List Pm},PmBy l→zij k l n=some m→m=n++l.map lowP∧(∀ p∈l.map lowP,FOK k p)∧(∀ p∈l.map lowP,p.n ∉ n.map (·.n))∧((l.map lowP).map (·.n)).Nodup
 | [],n,m,_,h=>by
   unfold zij at h
   injection h with h
   subst h;exact ⟨by simp,(fun p hp=>by cases hp),(fun p hp=>by cases hp),List.nodup_nil⟩
 | p::l,n,m,hb,h=>by
   unfold zij at h
   split at h
   · cases h
   · rename_i h1
     split at h
     · cases h
     · rename_i h2
       obtain ⟨e,h3,h4,h5⟩:=zii (fun q hq=>hb q (by simp [hq])) h
       have hh:zdn n (lowS p.n)=false:=by cases hx:zdn n (lowS p.n) with
        | false=>rfl
        | true=>exact absurd (.inr (.inr (.inr hx))) h1
       have hF:FOK k (lowP p):=⟨zcr (hb p (by simp)).1,(hb p (by simp)).2,fun h=>h1 (.inl h),zhb _,by
        cases hx:zc7 (lowP p).n with
        | true=>rfl
        | false=>exact absurd (.inr (.inl hx)) h1,by
        cases hx:zc7 (lowP p).v with
        | true=>rfl
        | false=>exact absurd (.inr (.inr (.inl hx))) h1,h2⟩
       rw [List.map_cons];refine ⟨by rw [e,List.append_assoc];rfl,fun q hq => ?_,fun q hq => ?_,?_⟩
       · rcases List.mem_cons.1 hq with rfl|hq
         · exact hF
         · exact h3 q hq
       · rcases List.mem_cons.1 hq with rfl|hq
         · exact zki.1 hh
         · have:=h4 q hq
           rw [List.map_append,List.mem_append,not_or] at this;exact this.1
       · rw [List.map_cons,List.nodup_cons]
         refine ⟨fun hm => ?_,h5⟩;obtain ⟨q,hq,e⟩:=List.mem_map.1 hm;have:=h4 q hq;rw [List.map_append,List.mem_append,not_or] at this;exact this.2 (by rw [e];simp [lowP])
theorem zr4 {k:Int}:∀ {l n:List Pm},(∀ p∈l.map lowP,FOK k p)→(∀ p∈l.map lowP,p.n ∉ n.map (·.n))→((l.map lowP).map (·.n)).Nodup→zij k l n=some (n++l.map lowP)
 | [],n,_,_,_=>by unfold zij;simp
 | p::l,n,h3,h4,h5=>by
   rw [List.map_cons] at h3 h4 h5;have hF:=h3 (lowP p) (by simp);rw [List.map_cons,List.nodup_cons] at h5;unfold zij
   rw [if_neg (by
    rintro (h|h|h|h)
    · exact hF.ne h
    · rw [show zc7 (lowS p.n)=true from hF.cn] at h;cases h
    · rw [show zc7 p.v=true from hF.cv] at h;cases h
    · rw [show zdn n (lowS p.n)=false from zki.2 (h4 (lowP p) (by simp))] at h;cases h),if_neg (show ¬ ((k=2∧p.h=false)∨(k=1∧p.h ≠ !p.v.isEmpty)) from hF.h)]
   rw [zr4 (fun q hq=>h3 q (by simp [hq])) (fun q hq => ?_) h5.2,List.map_cons,List.append_assoc]
   · rfl
   · rw [List.map_append,List.mem_append,not_or]
     refine ⟨h4 q (by simp [hq]),fun hm=>h5.1 ?_⟩;simp at hm;exact List.mem_map.2 ⟨q,hq,hm⟩
theorem LOK.sort {k:Int} {l:List Pm} (h:LOK k l):LOK k (zbb l):=⟨fun p hp=>h.f p ((zdf l).mem_iff.1 hp),(((zdf l).map _).nodup_iff).2 h.nd,by rw [zyz];exact h.len⟩
theorem zkq {k:Int} {l m:List Pm} (hb:PmBy l):zeh l k=some m ↔ LOK k (l.map lowP)∧m=zbb (l.map lowP):=by
 unfold zeh
 constructor
 · intro h
   split at h
   · cases h
   · rename_i hl
     rw [Option.map_eq_some_iff] at h;obtain ⟨x,hx,e⟩:=h;obtain ⟨h1,h2,h3,h4⟩:=zii hb hx;rw [List.nil_append] at h1;exact ⟨⟨h2,h4,by rw [List.length_map];omega⟩,by rw [← e,h1]⟩
 · rintro ⟨h,rfl⟩
   have hl:=h.len;rw [List.length_map] at hl;rw [if_neg (by omega),zr4 h.f (fun p _=>by simp) h.nd];rfl
theorem zr5 {k:Int} {l m:List Pm} (hb:PmBy l) (h:zeh l k=some m):LOK k m∧Asc m:=by
 obtain ⟨h1,rfl⟩:=(zkq hb).1 h;exact ⟨h1.sort,zg3 _⟩
theorem LOK.by {k:Int} {l:List Pm} (h:LOK k l):PmBy l:=fun p hp=>⟨(h.f p hp).n,(h.f p hp).v⟩

theorem ze7 {f:Int→Bool}:∀ {z r:List Int},(∀ c∈z,f c=true)→(r=[]∨f (r.getD 0 0)=false)→(z++r).takeWhile f=z
 | [],[],_,_=>rfl
 | [],c::r,_,h=>by
   rcases h with h|h
   · cases h
   · rw [List.nil_append,List.takeWhile_cons,if_neg (by rw [show f c=false from h];decide)]
 | c::z,r,hz,hr=>by
   rw [List.cons_append,List.takeWhile_cons,if_pos (hz c (by simp)),ze7 (fun d hd=>hz d (by simp [hd])) hr]
theorem ycv (p z r:List Int):subL (p++(z++r)) p.length (p.length+z.length)=z:=by
 unfold subL;rw [List.drop_left,Nat.add_sub_cancel_left,List.take_left]
theorem zyu {xs:List Int} {a b:Nat} (hab:a≤b):xs.take b=xs.take a++subL xs a b:=by
 unfold subL;rw [← List.take_add,Nat.add_sub_cancel' hab]
theorem yel (c:Int):zdc (lowC c)=zdc c:=by
 unfold lowC
 split
 · unfold zdc
   rw [Bool.eq_iff_iff];simp;omega
 · rfl
theorem zo6 {l:List Int} (h:zc7 l=true):zc7 (lowS l)=true:=by
 unfold zc7 lowS at *;rw [List.all_map];rw [List.all_eq_true] at h ⊢;intro c hc;have:=h c hc;simp only [Function.comp];rw [yel];exact this
theorem zp9 {l:List Int}:lowS l=[] ↔ l=[]:=by unfold lowS;simp
theorem zm4 {xs:List Int} {a e:Nat} (hae:a≤e) (he:e≤xs.length):a≤eqAt xs a e∧eqAt xs a e≤e:=by
 unfold eqAt;have h:=(List.takeWhile_sublist (· != 61) (l:=subL xs a e)).length_le;rw [zdr he] at h;omega
theorem zjk {xs:List Int} {k:Int} {a b:Nat} (hab:a≤b) (hb:b≤xs.length):zck (xs.take b) k a=(zck (subL xs a b) k 0).map (a + ·):=by
 have hl:(xs.take a).length=a:=by rw [List.length_take];omega
 have h:=zso (xs.take a) (subL xs a b) k
 rwa [hl,← zyu hab] at h
theorem zja {xs:List Int} {k:Int} {a b i:Nat} (hb:b≤xs.length) (h:zck (xs.take b) k a=some i):a≤i∧i<b:=by
 have:=zjm _ _ h;rw [List.length_take] at this;omega
theorem zrm {k:Int} {l:List Pm} {q:Pm} (h:zbz l q.n=0) (hl:LOK k l) (hq:FOK k q):LOK k (l++[q]):=by
 unfold zbz at h
 split at h
 · cases h
 · rename_i h1
   split at h
   · cases h
   · have h2:=zki.1 (by simpa using h1)
     refine ⟨fun p hp => ?_,?_,by rw [List.length_append,List.length_singleton];omega⟩
     · rcases List.mem_append.1 hp with h|h
       · exact hl.f p h
       · rw [List.mem_singleton] at h;subst h;exact hq
     · rw [List.map_append,List.nodup_append]
       refine ⟨hl.nd,by simp,fun a ha b hb => ?_⟩;simp at hb;subst hb;exact fun e=>h2 (e ▸ ha)
theorem zjj {xs:List Int} {l m:List Pm} {a e:Nat} {k:Int} (hx:By xs) (hae:a≤e) (he:e≤xs.length) (hk:k=1∨k=2) (hl:LOK k l) (h:zcg xs l a e k = .ok m):LOK k m∧(l.length<m.length∧m.length≤l.length+1):=by
 obtain ⟨hb1,hb2⟩:=zm4 hae he;unfold zcg at h;dsimp only at h;generalize eqAt xs a e=b at *;have hz:∀ i j,By (subL xs i j):=fun i j=>hx.sub (zbk xs i j)
 split at h
 · cases h
 · rename_i hw
   rw [zjk hb1 (by omega),Option.map_eq_none_iff] at hw;obtain ⟨c1,c2,c3,c4⟩:=zm9 (hz a b) hw
   split at h
   · cases h
   · rename_i hba
     have hne:zb2 (subL xs a b)≠[]:=fun h=>by
      have:=congrArg List.length (c3.1 h);rw [zdr (by omega)] at this;simp at this;omega
     split at h
     · split at h
       · cases h
       · rename_i hbe _ hw2
         rw [zjk (by omega) he,Option.map_eq_none_iff] at hw2;obtain ⟨d1,d2,d3,d4⟩:=zm9 (hz (b+1) e) hw2
         split at h
         · cases h
         · rename_i hv
           split at h
           · cases h
           · rename_i hr
             injection h with h
             subst h;refine ⟨zrm (by simpa using hr) hl ⟨zcr c1,d1,fun h=>hne (zp9.1 h),zhb _,zo6 c2,d2,?_⟩,by simp⟩;rintro (⟨_,h⟩|⟨h,h2⟩)
             · cases h
             · apply h2
               have hv2:zb2 (subL xs (b+1) e)≠[]:=fun h0=>by
                have:=congrArg List.length (d3.1 h0);rw [zdr he] at this;simp at this;exact hv ⟨by omega,h⟩
               cases hq:zb2 (subL xs (b+1) e) with
               | nil=>exact absurd hq hv2
               | cons x y=>rfl
     · split at h
       · cases h
       · rename_i hk2
         split at h
         · cases h
         · rename_i hr
           injection h with h
           subst h;refine ⟨zrm (by simpa using hr) hl ⟨zcr c1,(fun x hx=>by cases hx),fun h=>hne (zp9.1 h),zhb _,zo6 c2,rfl,?_⟩,by simp⟩;rintro (⟨h,_⟩|⟨_,h⟩)
           · exact hk2 h
           · exact h rfl
theorem zoz {xs:List Int} {l:List Pm} {a e i:Nat} {k c:Int} (hae:a≤e) (he:e≤xs.length) (h:zcg xs l a e k = .error (i,c)):i≤xs.length∧c≠0:=by
 obtain ⟨hb1,hb2⟩:=zm4 hae he;unfold zcg at h;dsimp only at h;generalize eqAt xs a e=b at *
 split at h
 · rename_i hw
   injection h with h;injection h with h h2;subst h;subst h2
   have:=zja (by omega) hw;exact ⟨by omega,by decide⟩
 · split at h
   · injection h with h;injection h with h h2;subst h;subst h2
     exact ⟨by omega,by decide⟩
   · split at h
     · split at h
       · rename_i hw
         injection h with h;injection h with h h2;subst h;subst h2
         have:=zja he hw;exact ⟨by omega,by decide⟩
       · split at h
         · injection h with h;injection h with h h2;subst h;subst h2
           exact ⟨by omega,by decide⟩
         · split at h
           · rename_i hr
             injection h with h;injection h with h h2;subst h;subst h2
             exact ⟨by omega,hr⟩
           · cases h
     · split at h
       · injection h with h;injection h with h h2;subst h;subst h2
         exact ⟨by omega,by decide⟩
       · split at h
         · rename_i hr
           injection h with h;injection h with h h2;subst h;subst h2
           exact ⟨by omega,hr⟩
         · cases h
theorem zbf {xs:List Int} {a:Nat} {st:List Int} (h:a≤xs.length):a≤zaj xs a st∧zaj xs a st≤xs.length:=⟨zcp _ _ _,za5 h⟩
theorem zgk {xs:List Int} {a:Nat} {c:Int} (h:¬ atL xs a c=false):a<xs.length∧xs.getD a 0=c:=by
 have h2:atL xs a c=true:=by simpa using h
 unfold atL at h2
 simpa using h2
theorem ps_ok {xs stops:List Int} (hx:By xs):∀ (f a:Nat) (l:List Pm),a≤xs.length→LOK 1 l→match psN xs stops f a l with
  | .ok r=>LOK 1 r.1∧r.2≤xs.length
  | .error e=>e.1≤xs.length∧e.2≠0
 | 0,a,l,ha,hl=>by unfold psN;exact ⟨hl,ha⟩
 | f+1,a,l,ha,hl=>by
   unfold psN
   by_cases h0:atL xs a 59=false
   · rw [if_pos h0];exact ⟨hl,ha⟩
   · rw [if_neg h0]
     have h1:=(zgk h0).1;obtain ⟨u1,u2⟩:=zbf (st:=stops) (show a+1≤xs.length by omega)
     cases hf:zcg xs l (a+1) (zaj xs (a+1) stops) 1 with
     | error e=>exact zoz u1 u2 hf
     | ok m=>exact ps_ok hx f _ m u2 (zjj hx u1 u2 (.inl rfl) hl hf).1
theorem hs_ok {xs:List Int} (hx:By xs):∀ (f a:Nat) (l:List Pm),a≤xs.length→LOK 2 l→match hsN xs f a l with
  | .ok r=>LOK 2 r
  | .error e=>e.1≤xs.length∧e.2≠0
 | 0,a,l,ha,hl=>by unfold hsN;exact hl
 | f+1,a,l,ha,hl=>by
   unfold hsN
   by_cases h0:xs.length≤a
   · rw [if_pos h0];exact hl
   · rw [if_neg h0]
     obtain ⟨u1,u2⟩:=zbf (st:=[38]) (show a+1≤xs.length by omega)
     cases hf:zcg xs l (a+1) (zaj xs (a+1) [38]) 2 with
     | error e=>exact zoz u1 u2 hf
     | ok m=>exact hs_ok hx f _ m u2 (zjj hx u1 u2 (.inr rfl) hl hf).1
end Go.Proofs.YtfnmkedncfdceaaGreatDoor
