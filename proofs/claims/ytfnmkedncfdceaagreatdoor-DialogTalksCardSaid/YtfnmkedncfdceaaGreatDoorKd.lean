/- A drawn region that makes variables (alloc, free in the order) and lays into each what an operation hands back: 'x, m, e := call(..)'. And what stands behind it. -/
import Derived.Test.YtfnmkedncfdceaaGreatDoorBb
set_option linter.unusedVariables false
set_option linter.unusedSimpArgs false
namespace Go.Proofs.YtfnmkedncfdceaaGreatDoor
open Go.RowKit

structure VarD where
 k:Nat
 s:Nat
 o:Nat
 p:Tmp
 q:Tmp
 T:TypeId
 zs:List Value
def ze1 (K:List VarD) (i:Nat):Bool:=K.all fun κ=>i != κ.k && i != κ.s
section
variable {P : Program} {ops : Array Oper} {Q : Exit → Act → World → Prop}
structure VarOK (P:Program) (ops:Array Oper) (κ:VarD):Prop where
 al:∃ oA,ops[κ.k]? = some oA∧oA.op = .alloc κ.T∧oA.dst=some κ.p∧oA.guard=none
 va:∃ oB,ops[κ.o]? = some oB∧oB.dst=some κ.q
 st:∃ oS,ops[κ.s]? = some oS∧oS.op = .store κ.T (.tmp κ.p) (.tmp κ.q)∧oS.dst=none∧oS.guard=none∧(oS.after.any fun e=>Region.binds .any e && e.on == κ.k)=true∧(oS.after.any fun e=>Region.binds .any e && e.on == κ.o)=true
 z:(P.info? κ.T).bind (·.zero)=some (.agg κ.zs.toArray)
 i:(P.info? κ.T).map (·.size)=some κ.zs.length
def yb5 (K:List VarD) (w:World) (o:Oper) (a':Act) (W:World):Prop := ∀ κ∈K,(o.after.toList.any fun e=>Region.binds .any e && (e.on == κ.k || e.on == κ.s))=true →
 ∃ b,a'.eval (.tmp κ.p) = .pointer (some ⟨b,0,none⟩)∧w.heap.size≤b∧((o.after.toList.any fun e=>Region.binds .any e && e.on == κ.s)=true→∃ us:List Value,a'.eval (.tmp κ.q) = .agg us.toArray∧Row W b κ.T us)
theorem zvm {W:World} {b:Nat} (us:List Value):W.heap.size≤(W.setCells b 0 us).heap.size:=(zbs zNz us 0 W (Below.refl 0 W)).size
theorem zjz (hm:P.follows .mixedOrders=true) (hA:ahead ops=true) (A:Nat→World→Value→Prop) (V:Nat→Value→Nat→Prop) (K:List VarD) {id:Nat} {a:Act} {w:World} (hS:ssa ops a.tmps.size=true)
  (hK:∀ κ∈K,VarOK P ops κ) (hkk:∀ x∈K,∀ y∈K,x.k=y.k∨x.s=y.s→x=y)
  (hpo:∀ κ∈K,ze1 K κ.o=true)
  (hAb:∀ i v W W',Below W.heap.size W W'→A i W v→A i W' v)
  (hAs:∀ i v W W' b,A i W v→V i v b→W.heap.size≤W'.heap.size→(∀ b',b'≠b→W'.heap[b']? = W.heap[b']?)→A i W' v)
  (hAn:∀ i v W,A i W v→V i v W.heap.size)
  (hval:∀ κ∈K,∀ W v,A κ.o W v→∃ us:List Value,v = .agg us.toArray∧us.length=κ.zs.length∧∀ u∈us,u.oneCell'=true)
  (hstep:∀ (i:Nat) (o:Oper),ze1 K i=true→ops[i]? = some o→∀ a' W,Below w.heap.size w W→Fr ops a a'→zeb ops (fun j W v=>ze1 K j=true→A j W v) o a' W→yb5 K w o a' W→wpOp P ops Q i (fun a2 W2 => ∃ v,a2=a'.put o.dst v∧Below W.heap.size W W2∧∀ d,o.dst=some d→A i W2 v∧∀ b,b<W.heap.size→zeb ops (fun j _ v=>ze1 K j=true→V j v b) o a' W→V i v b) a' W)
  (hend:∀ vs W,Below w.heap.size w W→vs.length=ops.size→(∀ (i:Nat) (o:Oper) (d:Tmp) (v:Value),ze1 K i=true→ops[i]? = some o→o.dst=some d→vs[i]? = some v→A i W v) →
    (∀ κ∈K,∃ (b:Nat) (us:List Value),vs[κ.k]? = some (.pointer (some ⟨b,0,none⟩))∧w.heap.size≤b∧vs[κ.o]? = some (.agg us.toArray)∧Row W b κ.T us∧∀ (i:Nat) (o:Oper) (d:Tmp) (v:Value),ze1 K i=true→ops[i]? = some o→o.dst=some d→vs[i]? = some v→V i v b)→Q .normal (putL a ops.toList vs) W) :
  (Code.region id ops true).wp P Q a w:=by
 have PN:∀ i,ze1 K i=true→∀ κ∈K,i≠κ.k∧i≠κ.s:=fun i h κ hκ=>by
  have h2:=List.all_eq_true.1 h κ hκ
  simpa using h2
 have EF:∀ (oS:Oper) (n:Nat),(oS.after.any fun e=>Region.binds .any e && e.on == n)=true→∃ e∈oS.after,Region.binds .any e=true∧e.on=n:=fun oS n h=>by
  obtain ⟨k,hk,h2⟩:=Array.any_eq_true.1 h;rw [Bool.and_eq_true,beq_iff_eq] at h2;exact ⟨_,Array.getElem_mem _,h2.1,h2.2⟩
 have KS:∀ x∈K,∀ y∈K,x.k≠y.s:=fun x hx y hy e=>by
  obtain ⟨oA,h1,h2,h3,_⟩:=(hK x hx).al;obtain ⟨oS,g1,g2,g3,_⟩:=(hK y hy).st;rw [e,g1] at h1
  injection h1 with h1
  subst h1;rw [g3] at h3
  cases h3
 let G:(Nat→Bool)→Act→World→Prop:=fun L a' W =>
  Below w.heap.size w W∧(∀ (j:Nat) (o:Oper) (d:Tmp),ze1 K j=true→ops[j]? = some o→o.dst=some d→L j=true→A j W (a'.tmps.getD d undef)) ∧
  (∀ κ∈K,L κ.s=true→L κ.k=true∧L κ.o=true) ∧
  (∀ κ∈K,L κ.k=true→∃ (b:Nat) (cs:List Value),a'.tmps.getD κ.p undef = .pointer (some ⟨b,0,none⟩)∧w.heap.size≤b∧Row W b κ.T cs∧cs.length=κ.zs.length∧(L κ.s=true→a'.tmps.getD κ.q undef = .agg cs.toArray)∧(∀ (j:Nat) (o:Oper) (d:Tmp),ze1 K j=true→ops[j]? = some o→o.dst=some d→L j=true→V j (a'.tmps.getD d undef) b)) ∧
  (∀ x∈K,∀ y∈K,x.k≠y.k→L x.k=true→L y.k=true→a'.tmps.getD x.p undef≠a'.tmps.getD y.p undef)
 refine zdo hm hA (fun _ _ _=>True) G hS ⟨zBr.drew,(fun _ _ _ _ _ _ h=>by cases h),(fun _ _ h=>by cases h),(fun _ _ h=>by cases h),fun _ _ _ _ _ h=>by cases h⟩ (fun L a' W i o hI ho hL hdp => ?_) (fun L a' W hF hall hL hG => ?_)
 · obtain ⟨hF,_,hB,g2,g3,g4,g5⟩:=hI
   have lt0:∀ {j:Nat} {oj:Oper} {d:Tmp},ops[j]? = some oj→oj.dst=some d→d<a'.tmps.size:=fun h1 h2=>by rw [hF.1];exact zgh hS h1 h2
   by_cases h1:∃ κ∈K,i=κ.k
   · obtain ⟨κ,hκ,rfl⟩:=h1
     obtain ⟨oA,q1,q2,q3,q4⟩:=(hK κ hκ).al;obtain rfl:oA=o:=Option.some.inj (q1.symm.trans ho);refine zbw ho q4 (znh q2 (hK κ hκ).z ?_);have hb2:Below W.heap.size W (W.alloc (.cells κ.zs.toArray κ.T)):=zBr.alloc zNr _
     have up:∀ {n:Nat},n≠κ.k→upd L κ.k n=L n:=fun h=>by simp [upd,h]
     have pl:∀ {j:Nat},ze1 K j=true→upd L κ.k j=L j:=fun h=>up (PN _ h κ hκ).1
     have oth:∀ {j:Nat} {oj:Oper} {d:Tmp},j≠κ.k→ops[j]? = some oj→oj.dst=some d→(a'.put oA.dst (.pointer (some ⟨W.heap.size,0,none⟩))).tmps.getD d undef=a'.tmps.getD d undef:=fun hne hoj hd=>zau (zd7 hS hoj hd ho (Ne.symm hne))
     have nw:(a'.put oA.dst (.pointer (some ⟨W.heap.size,0,none⟩))).tmps.getD κ.p undef = .pointer (some ⟨W.heap.size,0,none⟩):=by
      rw [q3,za1 (lt0 ho q3)]
     have old:∀ y∈K,y.k≠κ.k→(a'.put oA.dst (.pointer (some ⟨W.heap.size,0,none⟩))).tmps.getD y.p undef=a'.tmps.getD y.p undef:=fun y hy hne=>by
      obtain ⟨oY,r1,_,r3,_⟩:=(hK y hy).al;exact oth hne r1 r3
     refine ⟨_,rfl,fun _ _ h=>h,fun _ _=>trivial,zao hB hb2,fun j oj d hp hoj hd hLj => ?_,fun y hy hs => ?_,fun y hy hk => ?_,fun x hx y hy hne hLx hLy => ?_⟩
     · rw [pl hp] at hLj
       rw [oth (PN _ hp κ hκ).1 hoj hd];exact hAb _ _ _ _ hb2 (g2 j oj d hp hoj hd hLj)
     · rw [up (Ne.symm (KS κ hκ y hy))] at hs
       obtain ⟨r1,r2⟩:=g3 y hy hs;exact ⟨by simp [upd,r1],by simp [upd,r2]⟩
     · by_cases hyk:y.k=κ.k
       · obtain rfl:=hkk y hy κ hκ (.inl hyk)
         refine ⟨W.heap.size,y.zs,nw,hB.size,Row.new W y.T y.zs,rfl,fun hs => ?_,fun j oj d hp hoj hd hLj => ?_⟩
         · rw [up (Ne.symm (KS y hy y hy))] at hs
           have:=(g3 y hy hs).1;rw [hL] at this
           cases this
         · rw [pl hp] at hLj
           rw [oth (PN _ hp y hy).1 hoj hd];exact hAn _ _ _ (g2 j oj d hp hoj hd hLj)
       · rw [up hyk] at hk
         obtain ⟨b,cs,r1,r2,r3,r4,r5,r6⟩:=g4 y hy hk;refine ⟨b,cs,by rw [old y hy hyk];exact r1,r2,r3.below hb2,r4,fun hs => ?_,fun j oj d hp hoj hd hLj => ?_⟩
         · rw [up (Ne.symm (KS κ hκ y hy))] at hs
           obtain ⟨oB,v1,v2⟩:=(hK y hy).va;rw [oth (PN _ (hpo y hy) κ hκ).1 v1 v2];exact r5 hs
         · rw [pl hp] at hLj
           rw [oth (PN _ hp κ hκ).1 hoj hd];exact r6 j oj d hp hoj hd hLj
     · have key:∀ z∈K,z.k≠κ.k→L z.k=true→a'.tmps.getD z.p undef ≠ .pointer (some ⟨W.heap.size,0,none⟩):=fun z hz hzk hLz e=>by
        obtain ⟨b,cs,r1,r2,r3,_⟩:=g4 z hz hLz;rw [r1] at e
        injection e with e
        injection e with e
        injection e with e
        have:=r3.lt;omega
       by_cases hxk:x.k=κ.k
       · obtain rfl:=hkk x hx κ hκ (.inl hxk)
         rw [nw,old y hy (Ne.symm hne)];rw [up (Ne.symm hne)] at hLy;exact fun e=>key y hy (Ne.symm hne) hLy e.symm
       · rw [up hxk] at hLx
         by_cases hyk:y.k=κ.k
         · obtain rfl:=hkk y hy κ hκ (.inl hyk)
           rw [nw,old x hx hxk];exact key x hx hxk hLx
         · rw [up hyk] at hLy
           rw [old x hx hxk,old y hy hyk];exact g5 x hx y hy hne hLx hLy
   by_cases h2:∃ κ∈K,i=κ.s
   · obtain ⟨κ,hκ,rfl⟩:=h2
     obtain ⟨oS,q1,q2,q3,q4,q5,q6⟩:=(hK κ hκ).st;obtain rfl:oS=o:=Option.some.inj (q1.symm.trans ho);obtain ⟨e1,he1,hb1,on1⟩:=EF _ _ q5;obtain ⟨e2,he2,hb2,on2⟩:=EF _ _ q6
     have hLk:L κ.k=true:=by rw [← on1];exact hdp e1 he1 hb1
     have hLo:L κ.o=true:=by rw [← on2];exact hdp e2 he2 hb2
     obtain ⟨b,cs,r1,r2,r3,r4,r5,r6⟩:=g4 κ hκ hLk;obtain ⟨oB,v1,v2⟩:=(hK κ hκ).va;obtain ⟨us,hus,hul,huo⟩:=hval κ hκ W _ (g2 κ.o oB κ.q (hpo κ hκ) v1 v2 hLo)
     have hx:a'.eval (.tmp κ.p) = .pointer (some ⟨b,0,none⟩):=by rw [← r1];simp [Act.eval]
     have hy:a'.eval (.tmp κ.q) = .agg us.toArray:=by rw [← hus];simp [Act.eval]
     have hu:us.toArray.size=us.length:=by simp
     refine zbw ho q4 (wp_store_mid κ.T (.tmp κ.p) (.tmp κ.q) q2 b 0 us.toArray hx hy (by rw [hu,hul,← r4];exact r3.there) (by rw [hu,hul];exact (hK κ hκ).i) (all_oneCell_toArray huo) ?_);have hr2:Row (W.setCells b 0 us) b κ.T us:=r3.setAll us (by rw [r4,hul])
     have hoth:∀ b',b'≠b→(W.setCells b 0 us).heap[b']? = W.heap[b']? := fun b' hb'=>zcc us 0 W b' hb';have hsz:W.heap.size≤(W.setCells b 0 us).heap.size:=zvm us
     have up:∀ {n:Nat},n≠κ.s→upd L κ.s n=L n:=fun h=>by simp [upd,h]
     have pl:∀ {j:Nat},ze1 K j=true→upd L κ.s j=L j:=fun h=>up (PN _ h κ hκ).2
     have same:∀ d,(a'.put oS.dst undef).tmps.getD d undef=a'.tmps.getD d undef:=fun d=>by rw [q3];rfl
     refine ⟨undef,rfl,fun _ _ h=>h,(fun d hd=>by rw [q3] at hd;cases hd),zbs r2 us 0 _ hB,fun j oj d hp hoj hd hLj => ?_,fun y hy hs => ?_,fun y hy hk => ?_,fun x hx y hy hne hLx hLy => ?_⟩
     · rw [pl hp] at hLj
       rw [same];exact hAs _ _ _ _ b (g2 j oj d hp hoj hd hLj) (r6 j oj d hp hoj hd hLj) hsz hoth
     · by_cases hys:y.s=κ.s
       · obtain rfl:=hkk y hy κ hκ (.inr hys)
         exact ⟨by simp [upd,hLk],by simp [upd,hLo]⟩
       · rw [up hys] at hs
         obtain ⟨r1,r2⟩:=g3 y hy hs;exact ⟨by simp [upd,r1],by simp [upd,r2]⟩
     · rw [up (KS y hy κ hκ)] at hk
       by_cases hyk:y.k=κ.k
       · obtain rfl:=hkk y hy κ hκ (.inl hyk)
         refine ⟨b,us,by rw [same];exact r1,r2,hr2,hul,fun _=>by rw [same];exact hus,fun j oj d hp hoj hd hLj => ?_⟩;rw [pl hp] at hLj;rw [same];exact r6 j oj d hp hoj hd hLj
       · have hys:y.s≠κ.s:=fun e=>hyk (by rw [hkk y hy κ hκ (.inr e)])
         obtain ⟨b',cs',s1,s2,s3,s4,s5,s6⟩:=g4 y hy hk;have hne:b'≠b:=fun e=>g5 y hy κ hκ hyk hk hLk (by rw [s1,r1,e]);refine ⟨b',cs',by rw [same];exact s1,s2,s3.heap (hoth b' hne),s4,fun hs => ?_,fun j oj d hp hoj hd hLj => ?_⟩
         · rw [up hys] at hs
           rw [same];exact s5 hs
         · rw [pl hp] at hLj
           rw [same];exact s6 j oj d hp hoj hd hLj
     · rw [up (KS x hx κ hκ)] at hLx
       rw [up (KS y hy κ hκ)] at hLy;rw [same,same];exact g5 x hx y hy hne hLx hLy
   · have hp:ze1 K i=true:=List.all_eq_true.2 fun κ hκ=>by
      have n1:i≠κ.k:=fun e=>h1 ⟨κ,hκ,e⟩;have n2:i≠κ.s:=fun e=>h2 ⟨κ,hκ,e⟩;simp [n1,n2]
     have hD:zeb ops (fun j W v=>ze1 K j=true→A j W v) o a' W:=fun e he hb oj d hoj hd hpe=>g2 e.on oj d hpe hoj hd (hdp e he hb)
     have hV:yb5 K w o a' W:=fun κ hκ he=>by
      obtain ⟨e,he1,he2⟩:=List.any_eq_true.1 he;simp only [Bool.and_eq_true,Bool.or_eq_true,beq_iff_eq] at he2;have hL1:L e.on=true:=hdp e (by simpa using he1) he2.1
      have hLk:L κ.k=true:=by
       rcases he2.2 with h|h
       · rw [← h];exact hL1
       · exact (g3 κ hκ (by rw [← h];exact hL1)).1
      obtain ⟨b,cs,r1,r2,r3,r4,r5,r6⟩:=g4 κ hκ hLk;refine ⟨b,by rw [← r1];simp [Act.eval],r2,fun hs => ?_⟩;obtain ⟨e2,hs1,hs2⟩:=List.any_eq_true.1 hs;simp only [Bool.and_eq_true,beq_iff_eq] at hs2
      have hLs:L κ.s=true:=by rw [← hs2.2];exact hdp e2 (by simpa using hs1) hs2.1
      exact ⟨cs,by rw [← r5 hLs];simp [Act.eval],r3⟩
     refine wpOp_mono (fun a2 W2 h => ?_) (hstep i o hp ho a' W hB hF hD hV);obtain ⟨v,rfl,hb2,hv⟩:=h
     have up:∀ {n:Nat},n≠i→upd L i n=L n:=fun h=>by simp [upd,h]
     have oth:∀ {j:Nat} {oj:Oper} {d:Tmp},j≠i→ops[j]? = some oj→oj.dst=some d→(a'.put o.dst v).tmps.getD d undef=a'.tmps.getD d undef:=fun hne hoj hd=>zau (zd7 hS hoj hd ho (Ne.symm hne));have upk:∀ y∈K,upd L i y.k=L y.k:=fun y hy=>up (Ne.symm (PN i hp y hy).1)
     have ups:∀ y∈K,upd L i y.s=L y.s:=fun y hy=>up (Ne.symm (PN i hp y hy).2)
     have old:∀ y∈K,(a'.put o.dst v).tmps.getD y.p undef=a'.tmps.getD y.p undef:=fun y hy=>by
      obtain ⟨oY,r1,_,r3,_⟩:=(hK y hy).al;exact oth (Ne.symm (PN i hp y hy).1) r1 r3
     refine ⟨v,rfl,fun _ _ h=>h,fun _ _=>trivial,zao hB hb2,fun j oj d hpj hoj hd hLj => ?_,fun y hy hs => ?_,fun y hy hk => ?_,fun x hx y hy hne hLx hLy => ?_⟩
     · by_cases hji:j=i
       · subst hji
         obtain rfl:o=oj:=Option.some.inj (ho.symm.trans hoj);rw [hd,za1 (lt0 ho hd)];exact (hv d hd).1
       · rw [up hji] at hLj
         rw [oth hji hoj hd];exact hAb _ _ _ _ hb2 (g2 j oj d hpj hoj hd hLj)
     · rw [ups y hy] at hs
       obtain ⟨r1,r2⟩:=g3 y hy hs;exact ⟨by simp [upd,r1],by simp [upd,r2]⟩
     · rw [upk y hy] at hk
       obtain ⟨b,cs,r1,r2,r3,r4,r5,r6⟩:=g4 y hy hk;refine ⟨b,cs,by rw [old y hy];exact r1,r2,r3.below hb2,r4,fun hs => ?_,fun j oj d hpj hoj hd hLj => ?_⟩
       · rw [ups y hy] at hs
         obtain ⟨oB,v1,v2⟩:=(hK y hy).va
         have hyo:y.o≠i:=fun e=>by
          have:=(g3 y hy hs).2;rw [e,hL] at this
          cases this
         rw [oth hyo v1 v2];exact r5 hs
       · by_cases hji:j=i
         · subst hji
           obtain rfl:o=oj:=Option.some.inj (ho.symm.trans hoj);rw [hd,za1 (lt0 ho hd)];exact (hv d hd).2 b r3.lt fun e he hb oj dj h1 h2 hpe=>r6 e.on oj dj hpe h1 h2 (hdp e he hb)
         · rw [up hji] at hLj
           rw [oth hji hoj hd];exact r6 j oj d hpj hoj hd hLj
     · rw [upk x hx] at hLx
       rw [upk y hy] at hLy;rw [old x hx,old y hy];exact g5 x hx y hy hne hLx hLy
 · obtain ⟨hB,g2,g3,g4,g5⟩:=hG
   rw [zen hS hF];have LT:∀ {j:Nat} {oj:Oper},ops[j]? = some oj→L j=true:=fun h=>hL _ (Array.getElem?_eq_some_iff.1 h).1;refine hend _ W hB (by simp [zcl]) (fun i o d v hp ho hd hv => ?_) (fun κ hκ => ?_)
   · simp only [zcl,List.getElem?_map,Array.getElem?_toList,ho,Option.map_some,hd,Option.some.injEq] at hv
     rw [← hv];exact g2 i o d hp ho hd (LT ho)
   · obtain ⟨oA,q1,_,q3,_⟩:=(hK κ hκ).al
     obtain ⟨oB,v1,v2⟩:=(hK κ hκ).va;obtain ⟨oS,s1,_⟩:=(hK κ hκ).st;obtain ⟨b,cs,r1,r2,r3,r4,r5,r6⟩:=g4 κ hκ (LT q1);refine ⟨b,cs,?_,r2,?_,r3,fun i o d v hp ho hd hv => ?_⟩
     · simp only [zcl,List.getElem?_map,Array.getElem?_toList,q1,Option.map_some,q3,r1]
     · simp only [zcl,List.getElem?_map,Array.getElem?_toList,v1,Option.map_some,v2,r5 (LT s1)]
     · simp only [zcl,List.getElem?_map,Array.getElem?_toList,ho,Option.map_some,hd,Option.some.injEq] at hv
       rw [← hv];exact r6 i o d hp ho hd (LT ho)
end

section
variable {P : Program} {ops : Array Oper} {Q : Exit → Act → World → Prop}
theorem zlq (hm:P.follows .mixedOrders=true) (hA:ahead ops=true) (A:Nat→World→Value→Prop) (n:Nat) (aw lt:List Nat) {id:Nat} {a:Act} {w:World} (hS:ssa ops a.tmps.size=true)
  (hAm:∀ i v W W',Below W.heap.size W W'→A i W v→A i W' v)
  (hAk:∀ i v W W',aw.contains i=false→lt.contains i=false→i≠n→Below w.heap.size w W'→A i W v→A i W' v)
  (oN:Oper) (hoN:ops[n]? = some oN) (hnw:aw.contains n=false)
  (hdep:aw.all (fun j=>(List.range (n+1)).any fun i=>decide (j<i) && (i == n || aw.contains i) && (ops[i]?).any fun o=>o.after.any fun e=>Region.binds .any e && e.on == j)=true)
  (hlt:lt.all (fun i=>(ops[i]?).any fun o=>o.after.any fun e=>Region.binds .any e && e.on == n)=true)
  (hstep:∀ (i:Nat) (o:Oper),i≠n→ops[i]? = some o→∀ a' W,Below w.heap.size w W→Fr ops a a'→zeb ops (fun j W v=>(aw.contains i=true∨aw.contains j=false)→A j W v) o a' W→wpOp P ops Q i (fun a2 W2 => ∃ v,a2=a'.put o.dst v∧Below W.heap.size W W2∧(∀ d,o.dst=some d→A i W2 v)) a' W)
  (hlast:∀ a' W,Below w.heap.size w W→Fr ops a a'→zeb ops A oN a' W→wpOp P ops Q n (fun a2 W2 => ∃ v,a2=a'.put oN.dst v∧Below w.heap.size w W2∧(∀ d,oN.dst=some d→A n W2 v)) a' W)
  (hend:∀ vs W,Below w.heap.size w W→vs.length=ops.size→(∀ (i:Nat) (o:Oper) (d:Tmp) (v:Value),ops[i]? = some o→o.dst=some d→vs[i]? = some v→aw.contains i=false→A i W v)→Q .normal (putL a ops.toList vs) W) :
  (Code.region id ops true).wp P Q a w:=by
 have DD:∀ j,aw.contains j=true→∃ (i:Nat) (o:Oper),j<i∧i≤n∧(i=n∨aw.contains i=true)∧ops[i]? = some o∧∃ e∈o.after,Region.binds .any e=true∧e.on=j:=fun j hj=>by
  have h:=List.all_eq_true.1 hdep j (by simpa using hj);obtain ⟨i,hi,h2⟩:=List.any_eq_true.1 h;rw [Bool.and_eq_true,Bool.and_eq_true,decide_eq_true_iff,Bool.or_eq_true,beq_iff_eq] at h2
  obtain ⟨o,ho,h3⟩:∃ o,ops[i]? = some o∧(o.after.any fun e=>Region.binds .any e && e.on == j)=true:=by
   have h3:=h2.2
   cases hq:ops[i]? with
   | none=>rw [hq] at h3;cases h3
   | some o=>rw [hq] at h3;exact ⟨o,rfl,h3⟩
  obtain ⟨k,hk,h4⟩:=Array.any_eq_true.1 h3;rw [Bool.and_eq_true,beq_iff_eq] at h4;exact ⟨i,o,h2.1.1,by have:=List.mem_range.1 hi;omega,h2.1.2,ho,_,Array.getElem_mem _,h4.1,h4.2⟩
 have KEY:∀ L:Nat→Bool,(∀ (j:Nat) (o:Oper),ops[j]? = some o→L j=true→∀ e∈o.after,Region.binds .any e=true→L e.on=true)→(∀ e∈oN.after,Region.binds .any e=true→L e.on=true)→∀ d j,aw.contains j=true→n - j≤d→L j=true:=by
  intro L hc hd d
  induction d with
  | zero =>
    intro j hj h0;obtain ⟨i,o,hji,hin,_⟩:=DD j hj;omega
  | succ d ih =>
    intro j hj h0;obtain ⟨i,o,hji,hin,hor,ho,e,he,hb,rfl⟩:=DD j hj
    rcases hor with rfl|hor
    · obtain rfl:oN=o:=Option.some.inj (hoN.symm.trans ho)
      exact hd e he hb
    · exact hc i o ho (ih i hor (by omega)) e he hb
 let G:(Nat→Bool)→Act→World→Prop:=fun L a' W =>
  Below w.heap.size w W∧(∀ (j:Nat) (o:Oper) (d:Tmp),ops[j]? = some o→o.dst=some d→L j=true→(aw.contains j=false∨L n=false)→A j W (a'.tmps.getD d undef))∧∀ (j:Nat) (o:Oper),ops[j]? = some o→L j=true→∀ e∈o.after,Region.binds .any e=true→L e.on=true
 refine zdo hm hA (fun _ _ _=>True) G hS ⟨zBr.drew,(fun _ _ _ _ _ h=>by cases h),fun _ _ _ h=>by cases h⟩ (fun L a' W i o hI ho hL hdp => ?_) (fun L a' W hF hall hL hG=>by
  rw [zen hS hF];refine hend _ W hG.1 (by simp [zcl]) fun i o d v ho hd hv ha => ?_;simp only [zcl,List.getElem?_map,Array.getElem?_toList,ho,Option.map_some,hd,Option.some.injEq] at hv;rw [← hv]
  exact hG.2.1 i o d ho hd (hL i (Array.getElem?_eq_some_iff.1 ho).1) (.inl ha))
 obtain ⟨hF,_,hB,g2,g3⟩:=hI
 have clo:∀ (j:Nat) (o':Oper),ops[j]? = some o'→upd L i j=true→∀ e∈o'.after,Region.binds .any e=true→upd L i e.on=true:=fun j oj hoj hLj e he hb=>by
  by_cases hji:j=i
  · subst hji
    obtain rfl:o=oj:=Option.some.inj (ho.symm.trans hoj);have:=hdp e he hb;simp [upd,this]
  · have hLj2:L j=true:=by simpa [upd,hji] using hLj
    have:=g3 j oj hoj hLj2 e he hb;simp [upd,this]
 by_cases hin:i=n
 · subst hin
   obtain rfl:oN=o:=Option.some.inj (hoN.symm.trans ho);have LA:=KEY L g3 hdp;refine wpOp_mono (fun a2 W2 h => ?_) (hlast a' W hB hF (fun e he hb oj d hoj hd=>g2 e.on oj d hoj hd (hdp e he hb) (.inr hL)));obtain ⟨v,rfl,hb2,hv⟩:=h
   refine ⟨v,rfl,fun _ _ h=>h,fun _ _=>trivial,hb2,fun j oj d hoj hd hLj hor => ?_,clo⟩
   by_cases hji:j=i
   · subst hji
     obtain rfl:oN=oj:=Option.some.inj (hoN.symm.trans hoj);rw [hd,za1 (by rw [hF.1];exact zgh hS hoN hd)];exact hv d hd
   · have hLj2:L j=true:=by simpa [upd,hji] using hLj
     have haw:aw.contains j=false:=by
      rcases hor with h|h
      · exact h
      · simp [upd] at h
     rw [zau (zd7 hS hoj hd hoN (Ne.symm hji))]
     have hlj:lt.contains j=false:=by
      cases h:lt.contains j with
      | false=>rfl
      | true =>
        have h1:=List.all_eq_true.1 hlt j (by simpa using h);rw [hoj] at h1;obtain ⟨k,hk,h4⟩:=Array.any_eq_true.1 (show (oj.after.any fun e=>Region.binds .any e && e.on == i)=true from h1);rw [Bool.and_eq_true,beq_iff_eq] at h4;have h5:=g3 j oj hoj hLj2 _ (Array.getElem_mem hk) h4.1
        rw [h4.2,hL] at h5
        cases h5
     exact hAk _ _ _ _ haw hlj hji hb2 (g2 j oj d hoj hd hLj2 (.inl haw))
 · have hdeps:zeb ops (fun j W v=>(aw.contains i=true∨aw.contains j=false)→A j W v) o a' W:=fun e he hb oj d hoj hd hor=>by
    have hLe:=hdp e he hb
    cases hLn:L n with
    | false=>exact g2 e.on oj d hoj hd hLe (.inr hLn)
    | true =>
      rcases hor with h|h
      · have:=KEY L g3 (g3 n oN hoN hLn) _ i h zNr
        rw [hL] at this
        cases this
      · exact g2 e.on oj d hoj hd hLe (.inl h)
   refine wpOp_mono (fun a2 W2 h => ?_) (hstep i o hin ho a' W hB hF hdeps);obtain ⟨v,rfl,hb2,hv⟩:=h
   have un:upd L i n=L n:=by simp [upd,show n≠i from Ne.symm hin]
   refine ⟨v,rfl,fun _ _ h=>h,fun _ _=>trivial,zao hB hb2,fun j oj d hoj hd hLj hor => ?_,clo⟩;rw [un] at hor
   by_cases hji:j=i
   · subst hji
     obtain rfl:o=oj:=Option.some.inj (ho.symm.trans hoj);rw [hd,za1 (by rw [hF.1];exact zgh hS ho hd)];exact hv d hd
   · have hLj2:L j=true:=by simpa [upd,hji] using hLj
     rw [zau (zd7 hS hoj hd ho (Ne.symm hji))];exact hAm _ _ _ _ hb2 (g2 j oj d hoj hd hLj2 hor)
end
theorem ybb {o:Oper} {a:Act} {w:World} {next:Act→World→Prop} {Q:Exit→Act→World→Prop} {g k n cap:Nat} (x y:Operand) (ho:o.op = .indexAddr 23 x y) (hx:a.eval x = .slice (some ⟨g,k,none⟩) n cap) (hy:a.eval y = .int .i64 0) (hN:0<n)
  (hn:next (a.put o.dst (.pointer (some ⟨g,k,none⟩))) w):o.wp Tryz.prog a w next Q:=by
 refine zdq (.pointer (some ⟨g,k,none⟩)) ?_ hn
 have hr:(Instr.indexAt 23 (.slice (some ⟨g,k,none⟩) n cap) (.int .i64 0)).run Tryz.prog w = .ok (.pointer (some ⟨g,k,none⟩)) w:=by
  rw [run_indexAt_slice w 23 ⟨g,k,none⟩ n cap .i64 0 (by kernel_rfl),if_pos ⟨by omega,by omega⟩,show Tryz.prog.elem 23=9 by kernel_rfl,Tryz.sizeOf9 w]
  rfl
 unfold execOp;simp only [ho,hx,hy,Sem.run_bind,hr,Result.andThen_ok]
 rfl
theorem yba {o:Oper} {a:Act} {w:World} {next:Act→World→Prop} {Q:Exit→Act→World→Prop} {g k n cap:Nat} (x:Operand) (ho:o.op = .slice 23 x (some (.const (.int .i64 1))) none none) (hx:a.eval x = .slice (some ⟨g,k,none⟩) n cap) (hN:1≤n)
  (hn:next (a.put o.dst (.slice (if cap=1 then some ⟨g,k,none⟩ else some ⟨g,k+1,none⟩) (n - 1) (cap - 1))) w):o.wp Tryz.prog a w next Q:=by
 refine zdq _ ?_ hn;have h:=run_slice_l (P:=Tryz.prog) w 23 (some ⟨g,k,none⟩) n cap (by kernel_rfl) .i64 (1:Int) (by omega) (by omega)
 have hs:(sizeOf (Tryz.prog.elem 23)).run Tryz.prog w = .ok 1 w:=by kernel_rfl
 have hlo:a.eval (.const (.int .i64 1)) = .int .i64 1:=rfl;unfold execOp
 simp only [ho,hx,Option.map_some,Option.map_none,hlo,run_sliceAt_slice w 23 _ _ _ _ (show Tryz.prog.underlying 23=some (.slice (Tryz.prog.elem 23)) by kernel_rfl),Sem.run_bind,h,hs,Result.andThen_ok,sliced,Sem.run_pure,show ((1:Int).toNat)=1 from rfl,Nat.mul_one,Option.map_some,Addr.add_mid]
theorem zy5 {w:World} {B g k c:Nat} {r:List Int} {rest:List (List Int)} (h:Rds w B (some ⟨g,k,none⟩) (strs (r::rest))) (hc:(r::rest).length≤c):Rds w B (if c=1 then some ⟨g,k,none⟩ else some ⟨g,k+1,none⟩) (strs rest):=fun hn=>by
 have hl:0<rest.length:=by simpa [strs] using hn
 have hc1:c≠1:=by simp at hc;omega
 obtain ⟨b,o,h1,h2,h3⟩:=h (by simp [strs])
 injection h1 with h1
 injection h1 with e1 e2
 subst e1 e2;refine ⟨g,k+1,by rw [if_neg hc1],h2,fun j u hu => ?_⟩;rw [show k+1+j=k+(j+1) by omega];exact h3 (j+1) u (by simpa [strs] using hu)
end Go.Proofs.YtfnmkedncfdceaaGreatDoor
