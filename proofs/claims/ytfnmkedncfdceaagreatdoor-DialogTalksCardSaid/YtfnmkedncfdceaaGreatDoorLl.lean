/- Plain: what an address holds. And what stands behind it. -/
import Derived.Test.YtfnmkedncfdceaaGreatDoorUu
set_option linter.unusedVariables false
set_option linter.unusedSimpArgs false
set_option maxRecDepth 100000
set_option maxHeartbeats 4000000
namespace Go.Proofs.YtfnmkedncfdceaaGreatDoor
open Go.RowKit

theorem zlx {l:List (List Int)} {k:Nat} (h:∀ p∈l,p.length≤k):(zbj [32] l).length≤(k+1)*l.length:=by
 induction l with
 | nil=>simp [zdy]
 | cons p r ih =>
   have h1:=h p (by simp);have h2:=ih fun q hq=>h q (List.mem_cons_of_mem _ hq)
   cases r with
   | nil=>rw [zc2,List.length_singleton];omega
   | cons q r =>
     rw [zch,List.length_append,List.length_append,List.length_cons (a:=p),Nat.mul_succ];have:([32]:List Int).length=1:=rfl;omega
theorem znl {xs:List Int} {f a e:Nat} {l:List (List Int)} (h:atL xs a 60=false) (he:zag zbp xs a=e) (hne:e≠a):zdt xs (f+1) a l=zdt xs f (zag isBlank xs e) (l++[subL xs a e]):=by
 subst he
 conv=>lhs;unfold zdt
 rw [if_neg (by rw [h];decide)];dsimp only;rw [if_neg hne]
theorem zlh {xs:List Int} {f a:Nat} {l:List (List Int)} (h:atL xs a 60=false) (he:zag zbp xs a=a):zdt xs (f+1) a l = .error a:=by
 conv=>lhs;unfold zdt
 rw [if_neg (by rw [h];decide)];dsimp only;rw [if_pos he]
theorem zmc {xs:List Int} (hx:By xs):∀ (f a:Nat) (l:List (List Int)),a≤xs.length→(∀ p∈l,By p∧p.length≤xs.length)→l.length≤a→xs.length+1≤f+a→match zdt xs f a l with
  | .ok r=>(∀ p∈r.1,By p∧p.length≤xs.length)∧r.1.length≤r.2∧r.2≤xs.length∧atL xs r.2 60=true
  | .error e=>e≤xs.length
 | 0,a,l,ha,hl,hn,hf=>by omega
 | f+1,a,l,ha,hl,hn,hf=>by
   by_cases h:atL xs a 60=true
   · rw [znm h];exact ⟨hl,hn,ha,h⟩
   have h0:atL xs a 60=false:=by simpa using h
   by_cases he:zag zbp xs a=a
   · rw [zlh h0 he];exact ha
   · have e1:a≤zag zbp xs a:=zcp _ _ _
     have e2:zag zbp xs a≤xs.length:=za5 ha;have e3:zag zbp xs a≤zag isBlank xs (zag zbp xs a):=zcp _ _ _;rw [znl h0 rfl he];refine zmc hx f _ _ (za5 e2) (fun p hp => ?_) (by rw [List.length_append,List.length_singleton];omega) (by omega)
     rcases List.mem_append.1 hp with hp|hp
     · exact hl p hp
     · rw [List.mem_singleton] at hp
       subst hp;exact ⟨hx.sub (zbk _ _ _),(zbk xs _ _).length_le⟩
theorem zp0 {xs:List Int} (hx:By xs) (hl:xs.length≤1024):match zod xs with
  | .ok r=>By r.1∧r.1.length≤1100000∧r.2≤xs.length
  | .error e=>e.1≤xs.length∧e.2≠0:=by
 obtain ⟨a,ha⟩:∃ a,zag isBlank xs 0=a:=⟨_,rfl⟩;obtain ⟨b,hb⟩:∃ b,zag isBlank xs (unq xs (a:Nat)).2.1=b:=⟨_,rfl⟩
 have as_:a≤xs.length:=by rw [← ha];exact za5 zNz
 have us:=zgm as_
 have bs:b≤xs.length:=by rw [← hb];exact za5 us.1
 obtain ⟨q4,q5⟩:=zu6 xs (a:Nat);rw [zrq ha hb]
 by_cases h1:atL xs a 34=true
 · rw [if_pos h1]
   by_cases h2:(unq xs (a:Nat)).2.2≠0
   · rw [if_pos h2];exact ⟨us.1,h2⟩
   · rw [if_neg h2]
     by_cases h3:atL xs b 60=false
     · rw [if_pos h3];exact ⟨bs,show (5:Int)≠0 by decide⟩
     · rw [if_neg h3];exact ⟨fun x hx2=>hx x (q4 x hx2),Nat.le_trans q5 (by omega),bs⟩
 · rw [if_neg h1]
   by_cases h2:xs.contains 60=true
   · rw [if_pos h2]
     have hw:=zmc hx (xs.length+1) a [] as_ (fun p hp=>by cases hp) zNz (by omega)
     cases hr:zdt xs (xs.length+1) a [] with
     | error e=>rw [hr] at hw;exact ⟨hw,show (5:Int)≠0 by decide⟩
     | ok r =>
       rw [hr] at hw;obtain ⟨l,c⟩:=r;obtain ⟨w1,w2,w3,_⟩:=hw;dsimp only at w1 w2 w3 ⊢;refine ⟨zhe (fun x hx=>by rw [List.mem_singleton] at hx;subst hx;decide) fun p hp=>(w1 p hp).1,?_,w3⟩;have:=zlx (k:=1024) fun p hp=>Nat.le_trans (w1 p hp).2 hl
       have:(1024+1)*l.length≤1025*1024:=Nat.mul_le_mul zNr (by omega);omega
   · rw [if_neg h2];exact ⟨(fun x hx=>by cases hx),Nat.zero_le _,as_⟩
theorem has_60 {xs:List Int} {a:Nat} (ha:zag isBlank xs 0=a):xs.contains 60=decide (zaj xs a [60]<xs.length):=by
 have hs:xs=xs.take a++xs.drop a:=(List.take_append_drop a xs).symm
 have ht:xs.take a=xs.takeWhile isBlank:=by
  have h0:a=(xs.takeWhile isBlank).length:=by
   rw [← ha];unfold zag;rw [List.drop_zero,Nat.zero_add]
  rw [h0];exact (List.prefix_iff_eq_take.1 (List.takeWhile_prefix isBlank)).symm
 have hno:(60:Int) ∉ xs.take a:=fun hm=>by
  rw [ht] at hm;have:(xs.takeWhile isBlank).all isBlank=true:=List.all_takeWhile;have:=List.all_eq_true.1 this 60 hm
  cases this
 have as_:a≤xs.length:=by rw [← ha];exact za5 zNz
 rw [Bool.eq_iff_iff,decide_eq_true_iff,List.contains_iff_mem];have hl:(xs.drop a).length=xs.length - a:=List.length_drop
 have hu:zaj xs a [60]<xs.length ↔ ((xs.drop a).takeWhile fun c => !([60]:List Int).contains c).length<(xs.drop a).length:=by
  unfold zaj zag;omega
 rw [hu]
 constructor
 · intro hm
   rw [hs] at hm
   rcases List.mem_append.1 hm with hm|hm
   · exact absurd hm hno
   · refine Nat.lt_of_le_of_ne (List.takeWhile_sublist _).length_le fun e => ?_
     have ht:=(List.takeWhile_sublist (fun c => !([60]:List Int).contains c) (l:=xs.drop a)).eq_of_length e;have ha2:((xs.drop a).takeWhile fun c => !([60]:List Int).contains c).all (fun c => !([60]:List Int).contains c)=true:=List.all_takeWhile;rw [ht] at ha2
     have:=List.all_eq_true.1 ha2 60 hm;simp at this
 · intro hlt
   refine List.mem_of_mem_drop (i:=a) (Classical.byContradiction fun hm => ?_)
   have:(xs.drop a).takeWhile (fun c => !([60]:List Int).contains c)=xs.drop a:=by
    have:=ze7 (f:=fun c => !([60]:List Int).contains c) (z:=xs.drop a) (r:=[]) (fun c hc=>by
     have:c≠60:=fun e=>hm (e ▸ hc)
     simpa using this) (.inl rfl)
    rwa [List.append_nil] at this
   rw [this] at hlt;omega

def LA (cb ab:Nat) (s:ByteArray) (a:Nat) (us:List Value):List Blk:=[(cb,148,[.string s,.int .i64 a]),(ab,168,us)]
def aC (d:List Int) (u1 u2 u3:ByteArray) (po:Int) (v1 v2 v3:Value):List Value:=[.string (strOfNums d),.string u1,.string u2,.string u3,.int .i64 po,v1,v2,v3]
abbrev aC0 (d:List Int):List Value:=aC d ⟨#[]⟩ ⟨#[]⟩ ⟨#[]⟩ 0 (.slice none 0 0) (.slice none 0 0) (.slice none 0 0)
section
variable {w wr w' : World} {cb ab a : Nat} {s : ByteArray} {us : List Value}
theorem la_c (h:Mine w wr (LA cb ab s a us) []):Row wr cb 148 [.string s,.int .i64 a]:=h.row (i:=0) rfl
theorem la_a (h:Mine w wr (LA cb ab s a us) []):Row wr ab 168 us:=h.row (i:=1) rfl
theorem zwq (h:Mine w wr (LA cb ab s a us) []) (a':Nat) {z:Int} (hz:z=a'):Mine w (wr.setCell ⟨cb,1,none⟩ (.int .i64 z)) (LA cb ab s a' us) []:=by
 subst hz;exact h.setCell (i:=0) (off:=1) _ rfl rfl
theorem zmy (h:Mine w wr (LA cb ab s a us) []) (i:Nat) (u:Value):Mine w (wr.setCell ⟨ab,i,none⟩ u) (LA cb ab s a (us.set i u)) []:=h.setCell (i:=1) (off:=i) u rfl rfl
theorem zwp {a':Nat} (h:Mine w wr (LA cb ab s a us) []) (hg:CG wr cb s a' w'):Mine w w' (LA cb ab s a' us) []:=by
 have hne:cb≠ab:=zft (la_c h) (la_a h) (by decide);refine ⟨h.bw.grown hg.g h.bw.size (fun k hk=>by cases hk;exact h.ge (i:=0) rfl),fun r hr => ?_,by simpa [LA] using hne,fun F hF=>by cases hF⟩;simp only [LA,List.mem_cons,List.not_mem_nil,or_false] at hr
 rcases hr with rfl|rfl
 · exact ⟨hg.r,h.ge (i:=0) rfl⟩
 · exact ⟨(la_a h).heap (hg.g.block ab (la_a h).lt (fun e=>hne (Option.some.inj e).symm)),h.ge (i:=1) rfl⟩
theorem zzp {v:Value} (h:Mine w wr (LA cb ab s a us) []) (hg:wr.grownBy w' v.ownBlock) (hb:∀ k,v.ownBlock=some k→w.heap.size≤k) (h1:∀ k,v.ownBlock=some k→k≠cb) (h2:∀ k,v.ownBlock=some k→k≠ab):Mine w w' (LA cb ab s a us) []:=by
 have hne:cb≠ab:=zft (la_c h) (la_a h) (by decide);refine ⟨h.bw.grown hg h.bw.size hb,fun r hr => ?_,by simpa [LA] using hne,fun F hF=>by cases hF⟩;simp only [LA,List.mem_cons,List.not_mem_nil,or_false] at hr
 rcases hr with rfl|rfl
 · exact ⟨(la_c h).heap (hg.block cb (la_c h).lt (fun e=>h1 cb e.symm rfl)),h.ge (i:=0) rfl⟩
 · exact ⟨(la_a h).heap (hg.block ab (la_a h).lt (fun e=>h2 ab e.symm rfl)),h.ge (i:=1) rfl⟩
theorem zjx {b n:Nat} {T T':TypeId} {sz:Nat} {vs cs:List Value} {v:Value} (h:Row wr b T vs) (H:VX T' sz w v n cs wr) (ht:T≠T'):∀ g,v.ownBlock=some g→g≠b:=fun g hg e=>by
 obtain ⟨cur,h1⟩:=H.row hg;unfold Row at h;rw [e,h] at h1
 injection h1 with h1
 injection h1 with _ h1
 exact ht h1
end
def QnP (w:World) (cb ab:Nat) (s:ByteArray) (R:Except (Nat × Int) (List Int × Nat)) (e:Ending) (w':World):Prop:=match R with
 | .error q=>e = .returned (.tuple #[.int .i64 (q.1:Nat),.int .u8 q.2])∧Below w.heap.size w w'∧q.2≠0
 | .ok (d,b)=>e = .returned (.tuple #[.int .i64 0,.int .u8 0])∧Mine w w' (LA cb ab s b (aC0 d)) []
theorem QnP.bad {w w':World} {cb ab z:Nat} {k:Int} {s:ByteArray} {R:Except (Nat × Int) (List Int × Nat)} (h:R = .error (z,k)) (hb:Below w.heap.size w w') (hk:k≠0):QnP w cb ab s R (.returned (.tuple #[.int .i64 (z:Nat),.int .u8 k])) w':=by
 subst h;exact ⟨rfl,hb,hk⟩
theorem QnP.good {w w':World} {cb ab b:Nat} {d:List Int} {s:ByteArray} {R:Except (Nat × Int) (List Int × Nat)} (h:R = .ok (d,b)) (hb:Mine w w' (LA cb ab s b (aC0 d)) []):QnP w cb ab s R (.returned (.tuple #[.int .i64 0,.int .u8 0])) w':=by
 subst h;exact ⟨rfl,hb⟩
def qnL (xs:List Int) (a:Nat):Except (Nat × Int) (List Int × Nat):=
 if (unq xs (a:Nat)).2.2≠0 then .error ((unq xs (a:Nat)).2.1,(unq xs (a:Nat)).2.2)
 else if atL xs (zag isBlank xs (unq xs (a:Nat)).2.1) 60=false then .error (zag isBlank xs (unq xs (a:Nat)).2.1,5)
 else .ok ((unq xs (a:Nat)).1,zag isBlank xs (unq xs (a:Nat)).2.1)
theorem zta (w wr:World) (cb ab a:Nat) (s:ByteArray) (H:Mine w wr (LA cb ab s a (aC0 [])) []) (ha:a≤s.size) (hs:s.size≤4000000) :
  Calls Tryz.prog 256 #[.pointer (some ⟨cb,0,none⟩),.pointer (some ⟨ab,0,none⟩)] wr (QnP w cb ab s (qnL (zaa s) a)):=by
 have HM:=kd H;have HL:=zac s;have BAD:=kd (fun w' z k (h:qnL (zaa s) a = .error (z,k)) hb hk=>QnP.bad (w:=w) (w':=w') (cb:=cb) (ab:=ab) (s:=s) h hb hk)
 have GOOD:=kd (fun w' d b (h:qnL (zaa s) a = .ok (d,b)) hb=>QnP.good (w:=w) (w':=w') (cb:=cb) (ab:=ab) (s:=s) h hb);obtain ⟨U,hU⟩:∃ U,unq (zaa s) (a:Nat)=U:=⟨_,rfl⟩
 have RE:=kd (show qnL (zaa s) a=if U.2.2≠0 then .error (U.2.1,U.2.2) else if atL (zaa s) (zag isBlank (zaa s) U.2.1) 60=false then .error (zag isBlank (zaa s) U.2.1,5) else .ok (U.1,zag isBlank (zaa s) U.2.1) by subst hU;rfl);have UNQ:=kd (fun w=>zjp s a U w hU ha hs)
 obtain ⟨up,_⟩:=zgm (xs:=zaa s) (i:=a) (by rw [HL];exact ha);rw [hU,HL] at up;generalize QnP w cb ab s (qnL (zaa s) a)=PP at *;generalize qnL (zaa s) a=R at *;obtain ⟨u1,u2,u3⟩:=U;dsimp only at RE up;have BLK:=kd (fun w h1=>zdj w cb u2 s h1 up hs)
 obtain ⟨b,hb⟩:∃ b,zag isBlank (zaa s) u2=b:=⟨_,rfl⟩;rw [hb] at RE BLK;have SE:=kd (fun w h1=>zb4 w cb b 60 s h1);rw [show zcw (zaa s) b 60=atL (zaa s) b 60 from rfl] at SE;generalize atL (zaa s) b 60=s60 at *;clear H hU hb HL
 go_enter Tryz.func256,Tryz.ntmps256
 go_upto_region 1 with (fail);have q0:=fun x:BW wr=>(la_c HM.out).later x 0;have q1:=fun x:BW wr=>(la_c HM.out).later x 1;simp only [List.getElem?_cons_succ,List.getElem?_cons_zero] at q0 q1;refine zcf (by kernel_rfl) (by kernel_rfl) ?_
 iterate 9 go_big_quiet_step (fail)
 go_big_quiet_step (exact zcj (UNQ.out _))
 iterate 7 go_big_quiet_step (fail)
 refine wpQuiet_nil ?_;rintro _ ⟨x,rfl⟩;have M:=kd (HM.out.call x.h);clear q0 q1 HM UNQ;generalize x.w=w2 at *
 by_cases h3:u3=0
 · subst h3
   have RE2:=kd (RE.out.trans (if_neg (fun h=>h rfl)));clear RE;have k0:=(la_a M.out).cell 0;simp only [aC,List.getElem?_cons_succ,List.getElem?_cons_zero] at k0;have f0:=(la_a M.out).frozen 0
   have M3:=kd (show Mine w (w2.setCell ⟨ab,0,none⟩ (.string (strOfNums u1))) (LA cb ab s a (aC0 u1)) [] from zmy M.out 0 (.string (strOfNums u1)));have k1:=(la_c M3.out).cell 1;simp only [List.getElem?_cons_succ,List.getElem?_cons_zero] at k1;have f1:=(la_c M3.out).frozen 1
   have M4:=kd (zwq M3.out u2 (z:=(u2:Int)) rfl);clear M;go_upto_region 5 with (fail);clear k0 f0 k1 f1 M3;generalize (w2.setCell ⟨ab,0,none⟩ (.string (strOfNums u1))).setCell ⟨cb,1,none⟩ (.int .i64 (u2:Int))=w4 at *;go_wp2_with fail;refine (BLK.out w4 (la_c M4.out)).mono ?_
   rintro _ w5 ⟨rfl,hc⟩;have M5:=kd (zwp M4.out hc);clear hc M4 BLK;go_wp2_with fail;refine (SE.out w5 (la_c M5.out)).mono ?_;rintro _ _ ⟨rfl,nq,rfl⟩;have M6:=kd (M5.out.call (zam _ nq));clear M5 SE;generalize w5.drewN nq=w6 at *
   cases s60 with
   | false =>
     have E:=kd (show R = .error (b,5) from RE2.out);clear RE2;have k1:=(la_c M6.out).cell 1;simp only [List.getElem?_cons_succ,List.getElem?_cons_zero] at k1;go_wp2_with fail
     first|exact BAD.out _ _ _ E.out M6.out.bw (by decide)|(go_ret2;exact BAD.out _ _ _ E.out M6.out.bw (by decide))
   | true =>
     have E:=kd (show R = .ok (u1,b) from RE2.out);clear RE2;go_wp2_with fail
     first|exact GOOD.out _ _ _ E.out M6.out|(go_ret2;exact GOOD.out _ _ _ E.out M6.out)
 · have hb3:(u3 != 0)=true:=by simpa using h3
   have E:=kd (RE.out.trans (if_pos h3));have H3:=kd h3;clear RE h3;go_wp2_with fail
   first|exact BAD.out _ _ _ E.out M.out.bw H3.out|(go_ret2;exact BAD.out _ _ _ E.out M.out.bw H3.out)
structure WdR (w:World) (cb ab:Nat) (s:ByteArray) (a:Nat) (l:List (List Int)) (v:Value) (wr:World):Prop where
 m:Mine w wr (LA cb ab s a (aC0 [])) []
 o:SXL w v l wr
section
variable {w wr w' : World} {cb ab a a' : Nat} {s : ByteArray} {l : List (List Int)} {v : Value}
theorem WdR.call (h:WdR w cb ab s a l v wr) (hb:Below wr.heap.size wr w'):WdR w cb ab s a l v w':=⟨h.m.call hb,h.o.step hb⟩
theorem WdR.cur (h:WdR w cb ab s a l v wr) (hg:CG wr cb s a' w'):WdR w cb ab s a' l v w':=
 ⟨zwp h.m hg,h.o.other (zwp h.m hg).bw fun g hg2=>hg.g.block g (h.o.own_lt hg2) (fun e=>zjx (la_c h.m) h.o (by decide) g hg2 (Option.some.inj e))⟩
end
theorem zni {w wr:World} {cb ab a0:Nat} {s:ByteArray} {l:List (List Int)} {v:Value} {ops:Array Oper} {rest:List Oper} {o:Oper} {a:Act} {Q:Exit→Act→World→Prop} (hgd:o.guard=none) (x y:Operand)
  (ho:o.op = .call { callee := .builtin .append,args:=#[x,y],argTypes:=#[23,23] }) (hs:a.eval x=v) (H:WdR w cb ab s a0 l v wr) (p:List Int) (hy:a.eval y = .slice (some ⟨wr.heap.size,0,none⟩) 1 1) (hb:l.length+1≤16777216)
  (h:∀ v' w',Hid (WdR w cb ab s a0 (l++[p]) v' w')→wpList Tryz.prog ops Q rest (a.put o.dst v') w'):wpList Tryz.prog ops Q (o::rest) a (wr.alloc (.cells #[.string (strOfNums p)] 9)):=by
 obtain ⟨i,hi,hz,hsz,hbt⟩:=ztt;have ha:Below wr.heap.size wr (wr.alloc (.cells #[.string (strOfNums p)] 9)):=zBr.alloc zNr _
 have hbase:w.heap.size≤(wr.alloc (.cells #[.string (strOfNums p)] 9)).heap.size:=by have:=H.o.bw.size;simp;omega
 refine wpList_append_own_at _ hgd x y 23 ho w.heap.size 9 i _ 1 16 Tryz.underlying23 hi hz hsz hbt rfl (by omega) v l.length (strs l) hs (H.o.o.alloc _) ⟨wr.heap.size,0,none⟩ 1 1 [.string (strOfNums p)] hy rfl (fun j u hu => ?_) (fun u hu=>by simp at hu;subst hu;rfl) (by unfold maxLen;omega) ?_ hbase ?_
 · rw [Addr.add_mid,Nat.zero_add]
   exact ((Row.new wr 9 [.string (strOfNums p)]).cell j).trans hu
 · omega
 · intro v' w' h2 h3 _ _
   have H1:=H.call ha;refine h v' w' (kd ⟨zzp H1.m h3 (zb8 H1.o.o) (zjx (la_c H1.m) H1.o (by decide)) (zjx (la_a H1.m) H1.o (by decide)),?_⟩);unfold SXL;rw [znv,List.length_append];exact ⟨h2,H1.o.bw.grown h3 hbase (zb8 H1.o.o)⟩
theorem zwt {w w0:World} {v:Value} {l:List (List Int)} (H:SXL w0 v l w) (hb:∀ p∈l,By p) (h4:(zbj [32] l).length≤1000000000) (hl:l.length≤1000000) :
  Calls Tryz.prog 224 #[v,.string ⟨#[32]⟩] w fun e w'=>e = .returned (.string (strOfNums (zbj [32] l)))∧Below w.heap.size w w':=by
 have hm:(l.map strOfNums).map zaa=l:=by
  rw [List.map_map];exact (List.map_congr_left fun p hp=>zal (hb p hp)).trans (List.map_id _)
 have hs:strs l=(l.map strOfNums).map Value.string:=by unfold strs;rw [List.map_map];rfl
 have h:=zrv (w:=w) (w0:=w0) (v:=v) (zs:=l.map strOfNums) ⟨by rw [List.length_map,← hs];exact H.o,H.bw⟩ ⟨#[32]⟩ (by rw [List.length_map];exact hl) (by rw [hm,show zaa ⟨#[32]⟩=[32] from rfl];omega);rw [hm,show zaa ⟨#[32]⟩=[32] from rfl] at h;exact h
def wdM (T:Except Nat (List (List Int) × Nat)):Except (Nat × Int) (List Int × Nat):=match T with
 | .error e => .error (e,5)
 | .ok (l,b) => .ok (zbj [32] l,b)
def wdL (xs:List Int) (a:Nat):Except (Nat × Int) (List Int × Nat):=wdM (zdt xs (xs.length+1) a [])
theorem wdL_eq {xs:List Int} {a:Nat} {T:Except Nat (List (List Int) × Nat)} (h:zdt xs (xs.length+1) a []=T):wdL xs a=wdM T:=by subst h;rfl
def PnR (w:World) (cb ab:Nat) (s:ByteArray) (T:Except Nat (List (List Int) × Nat)) (g:Nat) (v:Value) (wx:World):Prop := ∃ (a f n c:Nat) (A:Option Addr) (l:List (List Int)),a≤s.size∧a+g=s.size+1∧s.size+1≤f+a∧n=l.length∧l.length≤a∧v = .slice A n c∧Hid (T=zdt (zaa s) f a l)∧Hid (WdR w cb ab s a l v wx)
theorem zms (w wr:World) (cb ab a:Nat) (s:ByteArray) (H:Mine w wr (LA cb ab s a (aC0 [])) []) (ha:a≤s.size) (hs:s.size≤1024) :
  Calls Tryz.prog 257 #[.pointer (some ⟨cb,0,none⟩),.pointer (some ⟨ab,0,none⟩)] wr (QnP w cb ab s (wdL (zaa s) a)):=by
 have HM:=kd H;have HL:=zac s;have HBY:=kd (zas s);have BAD:=kd (fun w' z k (h:wdL (zaa s) a = .error (z,k)) hb hk=>QnP.bad (w:=w) (w':=w') (cb:=cb) (ab:=ab) (s:=s) h hb hk)
 have GOOD:=kd (fun w' d b (h:wdL (zaa s) a = .ok (d,b)) hb=>QnP.good (w:=w) (w':=w') (cb:=cb) (ab:=ab) (s:=s) h hb);obtain ⟨T,hT⟩:∃ T,zdt (zaa s) (s.size+1) a []=T:=⟨_,rfl⟩;have RE:=kd (wdL_eq (xs:=zaa s) (a:=a) (T:=T) (by rw [HL];exact hT))
 have WO:=kd (zmc HBY.out (s.size+1) a [] (by rw [HL];exact ha) (fun p hp=>by cases hp) zNz (by omega));rw [hT] at WO;have TOK:=kd (fun w a h1 h2=>zi0 w cb a s h1 h2 (by omega));have BLK:=kd (fun w a h1 h2=>zdj w cb a s h1 h2 (by omega))
 have SE:=kd (fun w a h1=>zb4 w cb a 60 s h1);generalize QnP w cb ab s (wdL (zaa s) a)=PP at *;generalize wdL (zaa s) a=R at *;have W0:=kd (show WdR w cb ab s a [] (.slice none 0 0) wr from ⟨H,World.ownsRow_nil _ _ _ _,H.bw⟩);have TE0:=kd hT.symm;clear H hT
 go_enter Tryz.func257,Tryz.ntmps257
 go_wp2_with fail
 go_loopg [6] (s.size+1 - a) (fun g v wx=>PnR w cb ab s T g v wx)
 case atStart=>exact ⟨a,s.size+1,0,0,none,[],ha,by omega,by omega,rfl,Nat.zero_le _,rfl,TE0,W0⟩
 case round =>
  clear W0 TE0 HM ha;obtain ⟨i,f,n,c,A,l,hi,hg,hf,hn,hl,rfl,TE,WD⟩:=hrel;subst hn;obtain ⟨f,rfl⟩:∃ f',f=f'+1:=⟨f - 1,by omega⟩;go_wp2_with fail;refine (SE.out wr i (la_c WD.out.m)).mono ?_;rintro _ _ ⟨rfl,nq,rfl⟩;have W1:=kd (WD.out.call (zam _ nq));clear WD
  generalize wr.drewN nq=w1 at *
  cases h60:zcw (zaa s) i 60 with
  | true =>
    have TE2:=kd (TE.out.trans (znm h60));have E:=kd (show R = .ok (zbj [32] l,i) by rw [RE.out,TE2.out];rfl);have WO2:=WO.out;rw [TE2.out] at WO2;obtain ⟨o1,o2,_,_⟩:=WO2;dsimp only at o1 o2
    have JL:(zbj [32] l).length≤1000000000:=by
     have:=zlx (k:=1024) fun p hp=>Nat.le_trans (o1 p hp).2 (by omega);have:(1024+1)*l.length≤1025*1024:=Nat.mul_le_mul zNr (by omega);omega
    have JO:=kd (zwt W1.out.o (fun p hp=>(o1 p hp).1) JL (by omega));clear TE TE2 RE WO o1 o2 JL h60;go_wp2_with fail;refine JO.out.mono ?_;rintro _ w2 ⟨rfl,hb2⟩;have W2:=kd (W1.out.m.call hb2);clear W1 JO hb2;have k0:=(la_a W2.out).cell 0
    simp only [aC,List.getElem?_cons_succ,List.getElem?_cons_zero] at k0;have f0:=(la_a W2.out).frozen 0;have M3:=kd (show Mine w (w2.setCell ⟨ab,0,none⟩ (.string (strOfNums (zbj [32] l)))) (LA cb ab s i (aC0 (zbj [32] l))) [] from zmy W2.out 0 (.string (strOfNums (zbj [32] l))))
    go_wp2_with fail
    first|exact GOOD.out _ _ _ E.out M3.out|(go_ret2;exact GOOD.out _ _ _ E.out M3.out)
  | false =>
    go_wp2_with fail;refine (TOK.out w1 i (la_c W1.out.m) hi).mono ?_;rintro _ w2 ⟨rfl,hc⟩;have W2:=kd (W1.out.cur hc);clear hc W1;obtain ⟨e,he⟩:∃ e,zag zbp (zaa s) i=e:=⟨_,rfl⟩;rw [he] at W2
    have ei:i≤e:=by rw [← he];exact zcp _ _ _
    have es:e≤s.size:=by rw [← he,← HL];exact za5 (by rw [HL];exact hi)
    by_cases h0:e=i
    · have TE2:=kd (TE.out.trans (zlh h60 (he.trans h0)))
      have E:=kd (show R = .error (i,5) by rw [RE.out,TE2.out];rfl)
      have EB:((strOfNums (subL (zaa s) i e)).toList == ([]:List UInt8))=true:=by rw [zb1,zf5 (by rw [HL];exact es) ei,decide_eq_true h0]
      rw [he];have HI:=kd h0;generalize subL (zaa s) i e=tk at *;clear TE TE2 RE WO h60 he h0;have k1:=(la_c W2.out.m).cell 1;simp only [List.getElem?_cons_succ,List.getElem?_cons_zero] at k1;go_wp2_with fail
      first|exact BAD.out _ _ _ (by rw [HI.out];exact E.out) W2.out.m.bw (by decide)|(go_ret2;exact BAD.out _ _ _ (by rw [HI.out];exact E.out) W2.out.m.bw (by decide))
    · have TE2:=kd (TE.out.trans (znl h60 he h0))
      have EB:((strOfNums (subL (zaa s) i e)).toList == ([]:List UInt8))=false:=by rw [zb1,zf5 (by rw [HL];exact es) ei,decide_eq_false h0]
      rw [he];obtain ⟨b,hb⟩:∃ b,zag isBlank (zaa s) e=b:=⟨_,rfl⟩
      have eb:e≤b:=by rw [← hb];exact zcp _ _ _
      have bs:b≤s.size:=by rw [← hb,← HL];exact za5 (by rw [HL];exact es)
      rw [hb] at TE2;have BL2:=kd (fun w h1=>BLK.out w e h1 es);rw [hb] at BL2;generalize subL (zaa s) i e=tk at *;clear TE RE h60 he hb;go_wp2_with (with_reducible refine zni rfl (.tmp 19) (.tmp 21) rfl rfl W2.out tk rfl (by omega) ?_);intro v9 w9 W9;clear W2
      obtain ⟨A9,c9,hv9⟩:=zjd W9.out.o;subst hv9;go_wp2_with fail;refine (BL2.out w9 (la_c W9.out.m)).mono ?_;rintro _ w10 ⟨rfl,hc⟩;have W10:=kd (W9.out.cur hc);clear hc W9;go_wp2_with fail
      go_roundg (s.size+1 - b)
      case measure=>omega
      case rel =>
       rw [show (l++[tk]).length=l.length+1 by simp] at W10;exact ⟨b,f,l.length+1,c9,A9,l++[tk],bs,by omega,by omega,by simp,by rw [List.length_append,List.length_singleton];omega,rfl,TE2,W10⟩
end Go.Proofs.YtfnmkedncfdceaaGreatDoor
namespace Go.Proofs
open Go.Shelf
def Tryz.lays103_ren:Go.Shelf.Ren:=⟨fun|103=>298|210=>308|206=>288|n=>n,fun|9=>9|4=>4|24=>98|3=>3|n=>n,fun|n=>n⟩
theorem Tryz.lays103:Go.Proofs.Lays.n103 Tryz.prog Tryz.lays103_ren:={
 mixed:=by kernel_rfl
 f103:=Tryz.func298.trans (congrArg some (by kernel_rfl))
 f206:=Tryz.func288.trans (congrArg some (by kernel_rfl))
 f210:=Tryz.func308.trans (congrArg some (by kernel_rfl))
 t3:=Tryz.underlying3
 a3:=Tryz.isAgg3
 z3:=Tryz.sizeOf3
 v3:=Tryz.zeroValue3
 t4:=Tryz.underlying4
 a4:=Tryz.isAgg4
 z4:=Tryz.sizeOf4
 v4:=Tryz.zeroValue4
 t9:=Tryz.underlying9
 a9:=Tryz.isAgg9
 z9:=Tryz.sizeOf9
 v9:=Tryz.zeroValue9
 t24:=Tryz.underlying98
 a24:=Tryz.isAgg98
 z24:=Tryz.sizeOf98
 v24:=Tryz.zeroValue98 }
open Go.RowKit in
theorem Tryz.strings_CutPrefix (s p:ByteArray) (w:World) :
  Calls Tryz.prog 298 #[.string s,.string p] w fun e w'=>e = .returned (.tuple #[.string ⟨(Lib.trimPrefix s.data.toList p.data.toList).toArray⟩,.bool (Lib.hasPrefix s.data.toList p.data.toList)])∧w'=w:=Any.strings_CutPrefix Tryz.lays103 s p w
def Tryz.lays101_ren:Go.Shelf.Ren:=⟨fun|101=>175|208=>236|206=>288|n=>n,fun|9=>9|4=>4|3=>3|n=>n,fun|n=>n⟩
theorem Tryz.lays101:Go.Proofs.Lays.n101 Tryz.prog Tryz.lays101_ren:={
 mixed:=by kernel_rfl
 f101:=Tryz.func175.trans (congrArg some (by kernel_rfl))
 f206:=Tryz.func288.trans (congrArg some (by kernel_rfl))
 f208:=Tryz.func236.trans (congrArg some (by kernel_rfl))
 t3:=Tryz.underlying3
 a3:=Tryz.isAgg3
 z3:=Tryz.sizeOf3
 v3:=Tryz.zeroValue3
 t4:=Tryz.underlying4
 a4:=Tryz.isAgg4
 z4:=Tryz.sizeOf4
 v4:=Tryz.zeroValue4
 t9:=Tryz.underlying9
 a9:=Tryz.isAgg9
 z9:=Tryz.sizeOf9
 v9:=Tryz.zeroValue9 }
open Go.RowKit Go.Lib in
theorem Tryz.strings_TrimPrefix (s p:ByteArray) (w:World) :
  Calls Tryz.prog 175 #[.string s,.string p] w fun e w'=>e = .returned (.string ⟨(Lib.trimPrefix s.data.toList p.data.toList).toArray⟩)∧w'=w:=Any.strings_TrimPrefix Tryz.lays101 s p w
end Go.Proofs
