/- A drawn region with guards: one assertion for each operation. And what stands behind it. -/
import Derived.Test.YtfnmkedncfdceaaGreatDoorEr
import Derived.Lib.ItoaLen
set_option linter.unusedVariables false
set_option linter.unusedSimpArgs false
namespace Go.Proofs.YtfnmkedncfdceaaGreatDoor
open Go.RowKit

section
variable {P : Program} {ops : Array Oper} {Q : Exit → Act → World → Prop}
theorem zaf {i:Nat} {o:Oper} {a:Act} {w:World} {K:Act→World→Prop} (ho:ops[i]? = some o) (hg:o.guard=none) (h:o.wp P a w K Q):wpOp P ops Q i K a w:=zbw ho hg h
end
section
variable {P : Program} {o : Oper} {a : Act} {w : World} {next : Act → World → Prop} {Q : Exit → Act → World → Prop}
theorem zdm (T:TypeId) (x:Operand) (k:Nat) (ho:o.op = .fieldAddr T x k) (b off:Nat) (hx:a.eval x = .pointer (some ⟨b,0,none⟩)) (hr:∀ w:World,(Instr.fieldAt T (.pointer (some ⟨b,0,none⟩)) k).run P w = .ok (.pointer (some ⟨b,off,none⟩)) w)
  (hn:next (a.put o.dst (.pointer (some ⟨b,off,none⟩))) w):o.wp P a w next Q:=
 zdq _ (by unfold execOp;simp only [ho,hx,Sem.run_bind,hr,Result.andThen_ok];rfl) hn
theorem zjn (op:BinOp) (T:TypeId) (x y:Operand) (rt:TypeId) (ho:o.op = .binOp op T x y rt) (p q r:Value) (hx:a.eval x=p) (hy:a.eval y=q) (hg:∀ w:World,(eqGuard op T x y p q).run P w = .ok () w) (hr:∀ w:World,(binOp op T p q).run P w = .ok r w) (hn:next (a.put o.dst r) w):o.wp P a w next Q:=
 zdq _ (by unfold execOp;simp only [ho,hx,hy,Sem.run_bind,hg,hr,Result.andThen_ok];rfl) hn
theorem zbu (ty:TypeId) (x:Operand) (ho:o.op = .load ty x) (b off:Nat) (v:Value) (hx:a.eval x = .pointer (some ⟨b,off,none⟩)) (hc:w.cell? ⟨b,off,none⟩=some v) (d:TypeDesc) (hu:P.underlying ty=some d) (hd:d.isRow=false)
  (hn:next (a.put o.dst v) w):o.wp P a w next Q:=
 zdq v (by
  have hagg:(isAgg ty).run P w = .ok false w:=by
   unfold isAgg;rw [Sem.run_bind,run_underlying hu w]
   cases d<;>simp_all
  have hl:(loadVar ty ⟨b,off,none⟩).run P w = .ok v w:=by
   simp [loadVar,Sem.run_bind,hagg,hc]
  unfold execOp
  simp only [ho,hx,Instr.loadAt,Instr.sureAddr,Sem.run_bind,Sem.run_pure,Result.andThen_ok,hl]) hn
end

theorem zg4:∀ (us:List Value) (b o:Nat) (w:World),(w.setCells b o us).heap.size=w.heap.size
 | [],_,_,_=>rfl
 | u::us,b,o,w=>by
   show ((w.setCell ⟨b,o,none⟩ u).setCells b (o+1) us).heap.size=_;rw [zg4 us b (o+1) _];simp

theorem zjb {P:Program} {o:Oper} {a:Act} {w:World} {next:Act→World→Prop} {Q:Exit→Act→World→Prop} (t:Nat) (args:Array Operand) (tys:Array TypeId) (ho:o.op = .call { callee := .value (.tmp t),args:=args,argTypes:=tys }) (f:FuncId) (hx:a.eval (.tmp t) = .func (.func f) #[] #[]) (vs:Array Value) (ha:args.map a.eval=vs) (he:∀ args w,(callFunc f args).run P w = .ok (.enter f args) w) (hc:Calls P f vs w fun e w' => ∃ v,e = .returned v∧next (a.put o.dst v) w'):o.wp P a w next Q:=
 zq7 f vs (by
  have hx2:a.tmps[t]?.getD undef = .func (.func f) #[] #[]:=by simpa [Act.eval] using hx
  unfold execOp;simp [ho,resolve,invoke,Act.eval,hx2,go_sem,he]
  exact ha) hc
section
variable {P : Program} {ops : Array Oper} {Q : Exit → Act → World → Prop}
theorem znh {o:Oper} {a:Act} {w:World} {next:Act→World→Prop} {T:TypeId} {zs:List Value} (ho:o.op = .alloc T) (hz:(P.info? T).bind (·.zero)=some (.agg zs.toArray)) (hn:next (a.put o.dst (.pointer (some ⟨w.heap.size,0,none⟩))) (w.alloc (.cells zs.toArray T))):o.wp P a w next Q:=by
 unfold Oper.wp;rw [zl4 ho hz];exact hn
theorem zj0 (hm:P.follows .mixedOrders=true) (hA:ahead ops=true) (A:Nat→Value→Prop) (kA kB n:Nat) (T:TypeId) (zs us:List Value) (p q:Tmp) {id:Nat} {a:Act} {w:World} (hS:ssa ops a.tmps.size=true)
  (hz:(P.info? T).bind (·.zero)=some (.agg zs.toArray)) (hi:(P.info? T).map (·.size)=some us.length) (hl:zs.length=us.length) (h1:∀ u∈us,u.oneCell'=true)
  (oA oB oS:Oper) (hoA:ops[kA]? = some oA) (hpA:oA.op = .alloc T) (hdA:oA.dst=some p) (hgA:oA.guard=none)
  (hoB:ops[kB]? = some oB) (hdB:oB.dst=some q) (hBA:∀ v,A kB v→v = .agg us.toArray)
  (hoS:ops[n]? = some oS) (hpS:oS.op = .store T (.tmp p) (.tmp q)) (hdS:oS.dst=none) (hgS:oS.guard=none)
  (hlt:kA<n∧kB<n∧kB≠kA) (hdep:(List.range n).all (fun j=>oS.after.any fun e=>Region.binds .any e && e.on == j)=true) (hsz:n+1=ops.size) (hAk:∀ v,A kA v)
  (hstep:∀ (i:Nat) (o:Oper),i≠kA→i≠n→ops[i]? = some o→∀ a' W,Below w.heap.size w W→Fr ops a a'→zeb ops (fun j _ v=>A j v) o a' W→wpOp P ops Q i (fun a2 W2 => ∃ v,a2=a'.put o.dst v∧Below W.heap.size W W2∧(∀ d,o.dst=some d→A i v)) a' W)
  (hend:∀ vs W b,vs.length=ops.size→(∀ (i:Nat) (o:Oper) (d:Tmp) (v:Value),ops[i]? = some o→o.dst=some d→vs[i]? = some v→A i v)→vs[kA]? = some (.pointer (some ⟨b,0,none⟩))→w.heap.size≤b→Row W b T us→Below w.heap.size w W→Q .normal (putL a ops.toList vs) W) :
  (Code.region id ops true).wp P Q a w:=by
 have DD:∀ j,j<n→∃ e∈oS.after,Region.binds .any e=true∧e.on=j:=fun j hj=>by
  have h:=List.all_eq_true.1 hdep j (List.mem_range.2 hj);obtain ⟨k,hk,h2⟩:=Array.any_eq_true.1 h;rw [Bool.and_eq_true,beq_iff_eq] at h2;exact ⟨_,Array.getElem_mem _,h2.1,h2.2⟩
 let AA:Nat→World→Value→Prop:=fun i W v=>A i v∧(i=kA→∃ b vs,v = .pointer (some ⟨b,0,none⟩)∧w.heap.size≤b∧Row W b T vs∧vs.length=us.length)
 let G:(Nat→Bool)→Act→World→Prop:=fun L a' W=>Below w.heap.size w W∧(L n=true→(∀ j,j<n→L j=true)∧∃ b,a'.tmps.getD p undef = .pointer (some ⟨b,0,none⟩)∧w.heap.size≤b∧Row W b T us)
 have AM:∀ W W',Below W.heap.size W W'→∀ j u,AA j W u→AA j W' u:=fun W W' hb j u h=>⟨h.1,fun e=>by
  obtain ⟨b,vs,h1,h2,h3,h4⟩:=h.2 e
  exact ⟨b,vs,h1,h2,h3.below hb,h4⟩⟩
 refine zdo hm hA AA G hS ⟨zBr.drew,fun h=>by cases h⟩ (fun L a' W i o hI ho hL hdp => ?_) (fun L a' W hF hall hL hG => ?_)
 · obtain ⟨hF,hAll,hB,hDone⟩:=hI
   have notDone:i<n→L n=true→False:=fun hi hn=>by
    have:=(hDone hn).1 i hi;rw [hL] at this
    cases this
   have hin:i<ops.size:=(Array.getElem?_eq_some_iff.1 ho).1
   by_cases hi2:i=n
   · subst hi2
     obtain rfl:oS=o:=Option.some.inj (hoS.symm.trans ho)
     have LA:∀ j,j<i→L j=true:=fun j hj=>by
      obtain ⟨e,he,hb,rfl⟩:=DD j hj;exact hdp e he hb
     obtain ⟨_,hpt⟩:=hAll kA oA p hoA hdA (LA kA hlt.1);obtain ⟨b,vs,hv,hge,hr,hvs⟩:=hpt rfl;have hq:=hBA _ (hAll kB oB q hoB hdB (LA kB hlt.2.1)).1
     have hx:a'.eval (.tmp p) = .pointer (some ⟨b,0,none⟩):=by rw [← hv];simp [Act.eval]
     have hy:a'.eval (.tmp q) = .agg us.toArray:=by rw [← hq];simp [Act.eval]
     have hu:us.toArray.size=us.length:=by simp
     refine zbw ho hgS (wp_store_mid T (.tmp p) (.tmp q) hpS b 0 us.toArray hx hy (by rw [hu,← hvs];exact hr.there) (by rw [hu];exact hi) (all_oneCell_toArray h1) ?_);have hr2:Row (W.setCells b 0 us) b T us:=hr.setAll us hvs
     have hoth:∀ b',b'≠b→(W.setCells b 0 us).heap[b']? = W.heap[b']? := fun b' hb'=>zcc us 0 W b' hb';refine ⟨undef,rfl,fun j u h=>⟨h.1,fun e => ?_⟩,(fun d hd=>by rw [hdS] at hd;cases hd),zbs hge us 0 _ hB,fun _=>⟨fun j hj => ?_,b,?_,hge,hr2⟩⟩
     · obtain ⟨b',vs',g1,g2,g3,g4⟩:=h.2 e
       by_cases hbb:b'=b
       · subst hbb
         exact ⟨b',us,g1,g2,hr2,rfl⟩
       · exact ⟨b',vs',g1,g2,g3.heap (hoth b' hbb),g4⟩
     · have:=LA j hj
       simp [upd,this]
     · rw [hdS]
       exact hv
   · have hlt2:i<n:=by omega
     by_cases hiA:i=kA
     · subst hiA
       obtain rfl:oA=o:=Option.some.inj (hoA.symm.trans ho);refine zbw ho hgA (znh hpA hz ?_);have hb2:Below W.heap.size W (W.alloc (.cells zs.toArray T)):=zBr.alloc zNr _
       refine ⟨_,rfl,AM _ _ hb2,fun d hd=>⟨hAk _,fun _=>⟨W.heap.size,zs,rfl,hB.size,Row.new W T zs,hl⟩⟩,zao hB hb2,fun h => ?_⟩
       have:L n=true:=by
        simpa [upd,show n≠i by omega] using h
       exact (notDone hlt2 this).elim
     · refine wpOp_mono (fun a2 W2 h => ?_) (hstep i o hiA hi2 ho a' W hB hF (fun e he hb oj d g1 g2=>(hAll e.on oj d g1 g2 (hdp e he hb)).1))
       obtain ⟨v,rfl,hb2,hv⟩:=h;refine ⟨v,rfl,AM _ _ hb2,fun d hd=>⟨hv d hd,fun e=>absurd e hiA⟩,zao hB hb2,fun h => ?_⟩
       have:L n=true:=by
        simpa [upd,show n≠i by omega] using h
       exact (notDone hlt2 this).elim
 · obtain ⟨hB,hDone⟩:=hG
   obtain ⟨_,b,g1,g2,g3⟩:=hDone (hL n (by omega));rw [zen hS hF];refine hend _ W b (by simp [zcl]) (fun i o d v ho hd hv => ?_) ?_ g2 g3 hB
   · simp only [zcl,List.getElem?_map,Array.getElem?_toList,ho,Option.map_some,hd,Option.some.injEq] at hv
     rw [← hv];exact (hall i o d ho hd).1
   · simp only [zcl,List.getElem?_map,Array.getElem?_toList,hoA,Option.map_some,hdA,g1]
end

section
variable {P : Program} {ops : Array Oper} {Q : Exit → Act → World → Prop}
theorem zpy (hm:P.follows .mixedOrders=true) (hA:ahead ops=true) (A:Nat→World→Value→Prop) (A1:Value→Prop) (n:Nat) (FA:World→Value→Prop) (FW:World→Prop) (p q:Tmp) {id:Nat} {a:Act} {w:World} (hS:ssa ops a.tmps.size=true)
  (hAm:∀ i v W W',Below W.heap.size W W'→A i W v→A i W' v)
  (oN o1 oE:Oper) (hoN:ops[n]? = some oN) (hdN:oN.dst=some q) (ho1:ops[n+1]? = some o1) (hd1:o1.dst=some p) (hoE:ops[n+2]? = some oE) (hdE:oE.dst=none)
  (hdep:(List.range n).all (fun j=>(List.range (n+1)).any fun i=>decide (j<i) && (ops[i]?).any fun o=>o.after.any fun e=>Region.binds .any e && e.on == j)=true) (hdepE:oE.after.any (fun e=>Region.binds .any e && e.on == n)=true) (hdepF:oE.after.any (fun e=>Region.binds .any e && e.on == n+1)=true) (hsz:n+3=ops.size)
  (hstep:∀ (i:Nat) (o:Oper),i<n→ops[i]? = some o→∀ a' W,Below w.heap.size w W→Fr ops a a'→zeb ops A o a' W→wpOp P ops Q i (fun a2 W2 => ∃ v,a2=a'.put o.dst v∧Below W.heap.size W W2∧(∀ d,o.dst=some d→A i W2 v)) a' W)
  (hn1:∀ a' W,Fr ops a a'→wpOp P ops Q (n+1) (fun a2 W2 => ∃ v,a2=a'.put o1.dst v∧W2=W∧A1 v) a' W)
  (hlow:(List.range n).all (fun j=>(ops[j]?).all fun o=>o.after.all fun e => !(Region.binds .any e) || decide (e.on<n))=true)
  (hlast:∀ a' W,Below w.heap.size w W→Fr ops a a'→(∀ (j:Nat) (o:Oper) (d:Tmp),j<n→ops[j]? = some o→o.dst=some d→A j W (a'.tmps.getD d undef))→wpOp P ops Q n (fun a2 W2 => ∃ v,a2=a'.put oN.dst v∧FA W2 v) a' W)
  (hfin:∀ a' W,Fr ops a a'→FA W (a'.tmps.getD q undef)→A1 (a'.tmps.getD p undef)→wpOp P ops Q (n+2) (fun a2 W2 => ∃ v,a2=a'.put oE.dst v∧FW W2) a' W)
  (hend:∀ vs W,vs.length=ops.size→FW W→Q .normal (putL a ops.toList vs) W) :
  (Code.region id ops true).wp P Q a w:=by
 have DD:∀ j,j<n→∃ (i:Nat) (o:Oper),j<i∧i≤n∧ops[i]? = some o∧∃ e∈o.after,Region.binds .any e=true∧e.on=j:=fun j hj=>by
  have h:=List.all_eq_true.1 hdep j (List.mem_range.2 hj);obtain ⟨i,hi,h2⟩:=List.any_eq_true.1 h;rw [Bool.and_eq_true,decide_eq_true_iff] at h2
  obtain ⟨o,ho,h3⟩:∃ o,ops[i]? = some o∧(o.after.any fun e=>Region.binds .any e && e.on == j)=true:=by
   have h3:=h2.2
   cases hq:ops[i]? with
   | none=>rw [hq] at h3;cases h3
   | some o=>rw [hq] at h3;exact ⟨o,rfl,h3⟩
  obtain ⟨k,hk,h4⟩:=Array.any_eq_true.1 h3;rw [Bool.and_eq_true,beq_iff_eq] at h4;exact ⟨i,o,h2.1,by have:=List.mem_range.1 hi;omega,ho,_,Array.getElem_mem _,h4.1,h4.2⟩
 have EF:∀ (k:Nat),(oE.after.any fun e=>Region.binds .any e && e.on == k)=true→∃ e∈oE.after,Region.binds .any e=true∧e.on=k:=fun k h=>by
  obtain ⟨k',hk,h2⟩:=Array.any_eq_true.1 h;rw [Bool.and_eq_true,beq_iff_eq] at h2;exact ⟨_,Array.getElem_mem _,h2.1,h2.2⟩
 have LOW:∀ (i:Nat) (o:Oper),i<n→ops[i]? = some o→∀ e∈o.after,Region.binds .any e=true→e.on<n:=fun i o hi ho e he hb=>by
  have h:=List.all_eq_true.1 hlow i (List.mem_range.2 hi);rw [ho] at h;have h2:=Array.all_eq_true_iff_forall_mem.1 (show (o.after.all fun e => !(Region.binds .any e) || decide (e.on<n))=true from h) e he;rw [hb] at h2
  simpa using h2
 obtain ⟨e1,he1,hb1,on1⟩:=EF n hdepE;obtain ⟨e2,he2,hb2,on2⟩:=EF (n+1) hdepF
 let G:(Nat→Bool)→Act→World→Prop:=fun L a' W =>
  (L n=false→L (n+2)=false∧Below w.heap.size w W∧(∀ (j:Nat) (o:Oper) (d:Tmp),j<n→ops[j]? = some o→o.dst=some d→L j=true→A j W (a'.tmps.getD d undef))∧∀ (j:Nat) (o:Oper),j<n→ops[j]? = some o→L j=true→∀ e∈o.after,Region.binds .any e=true→L e.on=true) ∧
  (L n=true→(∀ j,j<n→L j=true)∧(L (n+2)=false→FA W (a'.tmps.getD q undef))∧(L (n+2)=true→L (n+1)=true∧FW W)) ∧
  (L (n+1)=true→A1 (a'.tmps.getD p undef))
 have hpq:p≠q:=fun e=>zd7 hS ho1 hd1 hoN (by omega) (by rw [hdN,e])
 refine zdo hm hA (fun _ _ _=>True) G hS ⟨(fun _=>⟨rfl,zBr.drew,(fun _ _ _ _ _ _ h=>by cases h),fun _ _ _ _ h=>by cases h⟩),(fun h=>by cases h),fun h=>by cases h⟩ (fun L a' W i o hI ho hL hdp => ?_) (fun L a' W hF hall hL hG => ?_)
 · obtain ⟨hF,_,hG1,hG2,hG3⟩:=hI
   have hin:i<ops.size:=(Array.getElem?_eq_some_iff.1 ho).1
   have sz:∀ {j:Nat} {oj:Oper} {d:Tmp},ops[j]? = some oj→oj.dst=some d→d<a'.tmps.size:=fun h1 h2=>by rw [hF.1];exact zgh hS h1 h2
   by_cases h1:i<n
   · have hLn:L n=false:=by
      cases hh:L n with
      | false=>rfl
      | true =>
        have:=(hG2 hh).1 i h1;rw [hL] at this
        cases this
     obtain ⟨g1,g2,g3,g4⟩:=hG1 hLn;have hdeps:zeb ops A o a' W:=fun e he hb oj d hoj hd=>g3 _ oj d (LOW i o h1 ho e he hb) hoj hd (hdp e he hb);refine wpOp_mono (fun a2 W2 h => ?_) (hstep i o h1 ho a' W g2 hF hdeps);obtain ⟨v,rfl,hbw,hv⟩:=h
     have un:upd L i n=false:=by simp [upd,hLn,show n≠i by omega]
     have u2:upd L i (n+2)=false:=by simp [upd,g1,show n+2≠i by omega]
     refine ⟨v,rfl,fun _ _ h=>h,fun _ _=>trivial,fun _=>⟨u2,zao g2 hbw,fun j oj d hj hoj hd hLj => ?_,fun j oj hj hoj hLj e he hb => ?_⟩,(fun h=>by rw [un] at h;cases h),fun h => ?_⟩
     · by_cases hji:j=i
       · subst hji
         obtain rfl:o=oj:=Option.some.inj (ho.symm.trans hoj);rw [hd,za1 (sz ho hd)];exact hv d hd
       · have hLj2:L j=true:=by simpa [upd,hji] using hLj
         rw [zau (zd7 hS hoj hd ho (Ne.symm hji))];exact hAm _ _ _ _ hbw (g3 j oj d hj hoj hd hLj2)
     · by_cases hji:j=i
       · subst hji
         obtain rfl:o=oj:=Option.some.inj (ho.symm.trans hoj);have:=hdp e he hb;simp [upd,this]
       · have hLj2:L j=true:=by simpa [upd,hji] using hLj
         have:=g4 j oj hj hoj hLj2 e he hb;simp [upd,this]
     · have:L (n+1)=true:=by simpa [upd,show n+1≠i by omega] using h
       rw [zau (zd7 hS ho1 hd1 ho (by omega))];exact hG3 this
   · rcases (show i=n∨i=n+1∨i=n+2 by omega) with h2|h2|h2
     · subst h2
       obtain rfl:oN=o:=Option.some.inj (hoN.symm.trans ho);obtain ⟨g1,g2,g3,g4⟩:=hG1 hL
       have LA2:∀ d j,j<i→i - j≤d→L j=true:=by
        intro d
        induction d with
        | zero=>intro j hj hd;omega
        | succ d ih =>
          intro j hj hd;obtain ⟨k,o,hjk,hkn,hko,e,he,hb,rfl⟩:=DD j hj
          by_cases hki:k=i
          · subst hki
            obtain rfl:oN=o:=Option.some.inj (hoN.symm.trans hko);exact hdp e he hb
          · exact g4 k o (by omega) hko (ih k (by omega) (by omega)) e he hb
       have LA:∀ j,j<i→L j=true:=fun j hj=>LA2 _ j hj zNr;refine wpOp_mono (fun a2 W2 h => ?_) (hlast a' W g2 hF (fun j oj d hj hoj hd=>g3 j oj d hj hoj hd (LA j hj)));obtain ⟨v,rfl,hf⟩:=h
       have u2:upd L i (i+2)=false:=by simp [upd,g1]
       refine ⟨v,rfl,fun _ _ h=>h,fun _ _=>trivial,(fun h=>by simp [upd] at h),(fun _=>⟨fun j hj=>by have:=LA j hj;simp [upd,this],fun _ => ?_,fun h=>by rw [u2] at h;cases h⟩),fun h => ?_⟩
       · rw [hdN,za1 (sz hoN hdN)]
         exact hf
       · have:L (i+1)=true:=by simpa [upd] using h
         rw [zau (zd7 hS ho1 hd1 hoN (by omega))];exact hG3 this
     · subst h2
       obtain rfl:o1=o:=Option.some.inj (ho1.symm.trans ho);refine wpOp_mono (fun a2 W2 h => ?_) (hn1 a' W hF);obtain ⟨v,rfl,rfl,hv⟩:=h
       have un:upd L (n+1) n=L n:=by simp [upd]
       have u2:upd L (n+1) (n+2)=L (n+2):=by simp [upd]
       have un':∀ j,j<n→upd L (n+1) j=L j:=fun j hj=>by simp [upd,show j≠n+1 by omega]
       have oth:∀ {j:Nat} {oj:Oper} {d:Tmp},j≠n+1→ops[j]? = some oj→oj.dst=some d→(a'.put o1.dst v).tmps.getD d undef=a'.tmps.getD d undef:=fun hne hoj hd=>zau (zd7 hS hoj hd ho (Ne.symm hne))
       refine ⟨v,rfl,fun _ _ h=>h,fun _ _=>trivial,fun h => ?_,fun h => ?_,fun _ => ?_⟩
       · rw [un] at h
         obtain ⟨g1,g2,g3,g4⟩:=hG1 h;refine ⟨by rw [u2];exact g1,g2,fun j oj d hj hoj hd hLj => ?_,fun j oj hj hoj hLj e he hb => ?_⟩
         · rw [un' j hj] at hLj
           rw [oth (by omega) hoj hd];exact g3 j oj d hj hoj hd hLj
         · rw [un' j hj] at hLj
           have:=g4 j oj hj hoj hLj e he hb;simp [upd,this]
       · rw [un] at h
         obtain ⟨g1,g2,g3⟩:=hG2 h;refine ⟨fun j hj=>by rw [un' j hj];exact g1 j hj,fun h2 => ?_,fun h2 => ?_⟩
         · rw [u2] at h2
           rw [oth (by omega) hoN hdN];exact g2 h2
         · rw [u2] at h2
           have:=(g3 h2).1;rw [hL] at this
           cases this
       · rw [hd1,za1 (sz ho1 hd1)]
         exact hv
     · subst h2
       obtain rfl:oE=o:=Option.some.inj (hoE.symm.trans ho)
       have hLn:L n=true:=by rw [← on1];exact hdp e1 he1 hb1
       have hL1:L (n+1)=true:=by rw [← on2];exact hdp e2 he2 hb2
       obtain ⟨g1,g2,g3⟩:=hG2 hLn;refine wpOp_mono (fun a2 W2 h => ?_) (hfin a' W hF (g2 hL) (hG3 hL1));obtain ⟨v,rfl,hf⟩:=h
       have un:upd L (n+2) n=true:=by simp [upd,hLn]
       refine ⟨v,rfl,fun _ _ h=>h,fun _ _=>trivial,(fun h=>by rw [un] at h;cases h),(fun _=>⟨fun j hj=>by have:=g1 j hj;simp [upd,this],(fun h=>by simp [upd] at h),fun _=>⟨by simp [upd,hL1],hf⟩⟩),fun _ => ?_⟩;rw [hdE];exact hG3 hL1
 · obtain ⟨_,hG2,_⟩:=hG
   obtain ⟨_,_,g3⟩:=hG2 (hL n (by omega));rw [zen hS hF];exact hend _ W (by simp [zcl]) (g3 (hL (n+2) (by omega))).2
end

section
variable {P : Program} {ops : Array Oper} {Q : Exit → Act → World → Prop}
theorem zlr (hm:P.follows .mixedOrders=true) (hA:ahead ops=true) (A:Nat→World→Value→Prop) (n:Nat) (FW:World→Value→Prop) (p q:Tmp) {id:Nat} {a:Act} {w:World} (hS:ssa ops a.tmps.size=true)
  (hAm:∀ i v W W',Below W.heap.size W W'→A i W v→A i W' v)
  (oN oE:Oper) (hoN:ops[n]? = some oN) (hdN:oN.dst=some q) (hoE:ops[n+1]? = some oE) (hpE:oE.op = .assign (.tmp q)) (hdE:oE.dst=some p) (hgE:oE.guard=none)
  (hdep:(List.range n).all (fun j=>(List.range (n+1)).any fun i=>decide (j<i) && (ops[i]?).any fun o=>o.after.any fun e=>Region.binds .any e && e.on == j)=true) (hdepE:oE.after.any (fun e=>Region.binds .any e && e.on == n)=true) (hsz:n+2=ops.size)
  (hstep:∀ (i:Nat) (o:Oper),i<n→ops[i]? = some o→∀ a' W,Below w.heap.size w W→Fr ops a a'→a'.tmps.getD p undef=a.tmps.getD p undef→zeb ops A o a' W→wpOp P ops Q i (fun a2 W2 => ∃ v,a2=a'.put o.dst v∧Below W.heap.size W W2∧(∀ d,o.dst=some d→A i W2 v)) a' W)
  (hlast:∀ a' W,Below w.heap.size w W→Fr ops a a'→(∀ (j:Nat) (o:Oper) (d:Tmp),j<n→ops[j]? = some o→o.dst=some d→A j W (a'.tmps.getD d undef))→wpOp P ops Q n (fun a2 W2 => ∃ v,a2=a'.put oN.dst v∧FW W2 v) a' W)
  (hend:∀ vs W v,vs.length=ops.size→FW W v→vs[n]? = some v→vs[n+1]? = some v→Q .normal (putL a ops.toList vs) W) :
  (Code.region id ops true).wp P Q a w:=by
 have DD:∀ j,j<n→∃ (i:Nat) (o:Oper),j<i∧i≤n∧ops[i]? = some o∧∃ e∈o.after,Region.binds .any e=true∧e.on=j:=fun j hj=>by
  have h:=List.all_eq_true.1 hdep j (List.mem_range.2 hj);obtain ⟨i,hi,h2⟩:=List.any_eq_true.1 h;rw [Bool.and_eq_true,decide_eq_true_iff] at h2
  obtain ⟨o,ho,h3⟩:∃ o,ops[i]? = some o∧(o.after.any fun e=>Region.binds .any e && e.on == j)=true:=by
   have h3:=h2.2
   cases hq:ops[i]? with
   | none=>rw [hq] at h3;cases h3
   | some o=>rw [hq] at h3;exact ⟨o,rfl,h3⟩
  obtain ⟨k,hk,h4⟩:=Array.any_eq_true.1 h3;rw [Bool.and_eq_true,beq_iff_eq] at h4;exact ⟨i,o,h2.1,by have:=List.mem_range.1 hi;omega,ho,_,Array.getElem_mem _,h4.1,h4.2⟩
 obtain ⟨eE,heE,hbE,hnE⟩:∃ e∈oE.after,Region.binds .any e=true∧e.on=n:=by
  obtain ⟨k,hk,h2⟩:=Array.any_eq_true.1 hdepE;rw [Bool.and_eq_true,beq_iff_eq] at h2;exact ⟨_,Array.getElem_mem _,h2.1,h2.2⟩
 have hqp:oE.dst≠some q:=zd7 hS hoN hdN hoE (by omega)
 let G:(Nat→Bool)→Act→World→Prop:=fun L a' W =>
  (L n=false→L (n+1)=false∧Below w.heap.size w W∧a'.tmps.getD p undef=a.tmps.getD p undef∧(∀ (j:Nat) (o:Oper) (d:Tmp),j<n→ops[j]? = some o→o.dst=some d→L j=true→A j W (a'.tmps.getD d undef))∧∀ (j:Nat) (o:Oper),j<n→ops[j]? = some o→L j=true→∀ e∈o.after,Region.binds .any e=true→L e.on=true) ∧
  (L n=true→(∀ j,j<n→L j=true)∧FW W (a'.tmps.getD q undef)∧(L (n+1)=true→a'.tmps.getD p undef=a'.tmps.getD q undef))
 refine zdo hm hA (fun _ _ _=>True) G hS ⟨fun _=>⟨rfl,zBr.drew,rfl,(fun _ _ _ _ _ _ h=>by cases h),fun _ _ _ _ h=>by cases h⟩,fun h=>by cases h⟩ (fun L a' W i o hI ho hL hdp => ?_) (fun L a' W hF hall hL hG => ?_)
 · obtain ⟨hF,_,hG1,hG2⟩:=hI
   have hin:i<ops.size:=(Array.getElem?_eq_some_iff.1 ho).1
   by_cases h1:i<n
   · have hLn:L n=false:=by
      cases hh:L n with
      | false=>rfl
      | true =>
        have:=(hG2 hh).1 i h1;rw [hL] at this
        cases this
     obtain ⟨g1,g2,gp,g3,g4⟩:=hG1 hLn
     have hdeps:zeb ops A o a' W:=fun e he hb oj d hoj hd=>by
      have hLe:=hdp e he hb
      have hen:e.on<n:=by
       rcases Nat.lt_or_ge e.on n with h|h
       · exact h
       · have h2:e.on<ops.size:=(Array.getElem?_eq_some_iff.1 hoj).1
         rcases (show e.on=n∨e.on=n+1 by omega) with h3|h3
         · rw [h3,hLn] at hLe;cases hLe
         · rw [h3,g1] at hLe;cases hLe
      exact g3 _ oj d hen hoj hd hLe
     refine wpOp_mono (fun a2 W2 h => ?_) (hstep i o h1 ho a' W g2 hF gp hdeps);obtain ⟨v,rfl,hb2,hv⟩:=h
     have un:upd L i n=false:=by simp [upd,hLn,show n≠i by omega]
     have un1:upd L i (n+1)=false:=by simp [upd,g1,show n+1≠i by omega]
     refine ⟨v,rfl,fun _ _ h=>h,fun _ _=>trivial,fun _=>⟨un1,zao g2 hb2,?_,fun j oj d hj hoj hd hLj => ?_,fun j oj hj hoj hLj e he hb => ?_⟩,fun h=>by rw [un] at h;cases h⟩
     · rw [zau (fun e=>zd7 hS hoE hdE ho (by omega) e)]
       exact gp
     · by_cases hji:j=i
       · subst hji
         obtain rfl:o=oj:=Option.some.inj (ho.symm.trans hoj);rw [hd,za1 (by rw [hF.1];exact zgh hS ho hd)];exact hv d hd
       · have hLj2:L j=true:=by simpa [upd,hji] using hLj
         rw [zau (zd7 hS hoj hd ho (Ne.symm hji))];exact hAm _ _ _ _ hb2 (g3 j oj d hj hoj hd hLj2)
     · by_cases hji:j=i
       · subst hji
         obtain rfl:o=oj:=Option.some.inj (ho.symm.trans hoj);have:=hdp e he hb;simp [upd,this]
       · have hLj2:L j=true:=by simpa [upd,hji] using hLj
         have:=g4 j oj hj hoj hLj2 e he hb;simp [upd,this]
   · rcases (show i=n∨i=n+1 by omega) with h2|h2
     · subst h2
       obtain rfl:oN=o:=Option.some.inj (hoN.symm.trans ho);obtain ⟨g1,g2,_,g3,g4⟩:=hG1 hL
       have LA2:∀ d j,j<i→i - j≤d→L j=true:=by
        intro d
        induction d with
        | zero=>intro j hj hd;omega
        | succ d ih =>
          intro j hj hd;obtain ⟨k,o,hjk,hkn,hko,e,he,hb,rfl⟩:=DD j hj
          by_cases hki:k=i
          · subst hki
            obtain rfl:oN=o:=Option.some.inj (hoN.symm.trans hko);exact hdp e he hb
          · exact g4 k o (by omega) hko (ih k (by omega) (by omega)) e he hb
       have LA:∀ j,j<i→L j=true:=fun j hj=>LA2 _ j hj zNr;refine wpOp_mono (fun a2 W2 h => ?_) (hlast a' W g2 hF (fun j oj d hj hoj hd=>g3 j oj d hj hoj hd (LA j hj)));obtain ⟨v,rfl,hf⟩:=h
       refine ⟨v,rfl,fun _ _ h=>h,fun _ _=>trivial,fun h => ?_,fun _=>⟨fun j hj => ?_,?_,fun h => ?_⟩⟩
       · simp [upd] at h
       · have:=LA j hj
         simp [upd,this]
       · rw [hdN,za1 (by rw [hF.1];exact zgh hS hoN hdN)]
         exact hf
       · have:L (i+1)=true:=by simpa [upd] using h
         rw [g1] at this
         cases this
     · subst h2
       obtain rfl:oE=o:=Option.some.inj (hoE.symm.trans ho)
       have hLn:L n=true:=by
        have:=hdp eE heE hbE
        rwa [hnE] at this
       obtain ⟨g1,g2,g3⟩:=hG2 hLn;refine zbw ho hgE (zb5 (.tmp q) (.inr hpE) ?_)
       have un:upd L (n+1) n=true:=by simp [upd,hLn]
       refine ⟨_,rfl,fun _ _ h=>h,fun _ _=>trivial,fun h=>by (rw [un] at h;cases h),fun _=>⟨fun j hj => ?_,?_,fun _ => ?_⟩⟩
       · have:=g1 j hj
         simp [upd,this]
       · rw [zau hqp]
         exact g2
       · rw [zau hqp,hdE,za1 (by rw [hF.1];exact zgh hS hoE hdE)]
         simp [Act.eval]
 · obtain ⟨_,hG2⟩:=hG
   obtain ⟨_,g2,g3⟩:=hG2 (hL n (by omega));rw [zen hS hF];refine hend _ W _ (by simp [zcl]) g2 ?_ ?_
   · simp only [zcl,List.getElem?_map,Array.getElem?_toList,hoN,Option.map_some,hdN]
   · simp only [zcl,List.getElem?_map,Array.getElem?_toList,hoE,Option.map_some,hdE]
     rw [g3 (hL (n+1) (by omega))]
end

def decL (n:Int):List Int:=bl (Lib.itoa n)
theorem zqu (n:Int):By (decL n):=yeq _
theorem zsb {n:Nat} (h:n<10):decL (n:Int)=[48+(n:Int)]:=by
 unfold decL;rw [Lib.itoa_nonneg,Lib.decDigits,dif_pos h];unfold bl;simp;omega
theorem dd_big {n:Nat} (h:¬ n<10):decL (n:Int)=decL ((n / 10:Nat):Int)++[48+((n % 10:Nat):Int)]:=by
 unfold decL;rw [Lib.itoa_nonneg,Lib.itoa_nonneg,Lib.decDigits,dif_neg h];unfold bl;rw [List.map_append];simp;omega
theorem yeg (n:Nat):∀ k:Nat,n<10 ^ (k+1)→(decL n).length≤k+1:=by
 intro k
 induction k generalizing n with
 | zero=>intro h;rw [zsb (by simpa using h)];simp
 | succ k ih =>
   intro h
   by_cases h2:n<10
   · rw [zsb h2];simp
   · rw [dd_big h2,List.length_append]
     have:=ih (n / 10) ((Nat.div_lt_iff_lt_mul (by decide)).2 (by rwa [Nat.pow_succ] at h));rw [List.length_singleton];omega
def TAILC:List Int:=[59,114,101,102,114,101,115,104,101,114,61,117,97,99]
def TAILS:List Int:=[59,114,101,102,114,101,115,104,101,114,61,117,97,115]
def TAIL (c:Bool):List Int:=if c=true then TAILC else TAILS

def zgv (c:Int):Bool:=(decide (97≤c) && decide (c≤122)) || (decide (65≤c) && decide (c≤90))
def ya7:List Int:=[45,95,46,33,126,42,39,40,41]
def clsL (k:Int):List Int:=if k=0 then [38,61,43,36,44,59,63,47] else if k=1 then [91,93,47,58,38,43,36] else if k=2 then [91,93,47,63,58,43,36] else []
def inC (k c:Int):Bool:=(zgv c || (zbc c || ya7.contains c)) || (clsL k).contains c
def hexU (n:Int):Int:=if n<10 then 48+n else 55+n
def zi8 (k c:Int):List Int:=if inC k c=true then [c] else [37,hexU (c / 16),hexU (c % 16)]
def escT (k:Int) (xs:List Int):List Int:=xs.flatMap (zi8 k)
def hexV (c:Int):Int:=if 48≤c∧c≤57 then c - 48 else if 97≤c∧c≤102 then c - 87 else if 65≤c∧c≤70 then c - 55 else -1
def zbm (xs:List Int) (i:Nat):Int:=if xs.length≤i+2∨xs.getD i 0≠37∨hexV (xs.getD (i+1) 0)<0∨hexV (xs.getD (i+2) 0)<0 then -1 else 16*hexV (xs.getD (i+1) 0)+hexV (xs.getD (i+2) 0)
def zb6 (xs:List Int):Nat→Nat→List Int→List Int × Nat × Int
 | 0,_,acc=>(acc,0,0)
 | f+1,i,acc =>
   if xs.length≤i then (acc,0,0)
   else if xs.getD i 0≠37 then zb6 xs f (i+1) (acc++[xs.getD i 0])
   else if zbm xs i<0 then ([],i,5)
   else zb6 xs f (i+3) (acc++[zbm xs i])
def zfk (xs:List Int):List Int × Nat × Int:=zb6 xs (xs.length+1) 0 []
def zb2 (xs:List Int):List Int:=(zfk xs).1
def zc0 (xs:List Int) (k:Int):Nat→Nat→Option Nat
 | 0,_=>none
 | f+1,i =>
   if xs.length≤i then none
   else if inC k (xs.getD i 0)=true then zc0 xs k f (i+1)
   else if zbm xs i<0∨zdc (zbm xs i)=true then some i
   else zc0 xs k f (i+3)
def zck (xs:List Int) (k:Int) (i:Nat):Option Nat:=zc0 xs k (xs.length+1) i
theorem zw3 {n:Int} (h:0≤n∧n<16):0≤hexU n∧hexU n<256:=by unfold hexU;split<;>omega
theorem zf9 (c:Int) : -1≤hexV c∧hexV c<16:=by unfold hexV;split<;>(try split)<;>(try split)<;>omega
theorem zgx (xs:List Int) (i:Nat) : -1≤zbm xs i∧zbm xs i<256:=by
 unfold zbm;have h1:=zf9 (xs.getD (i+1) 0);have h2:=zf9 (xs.getD (i+2) 0)
 split<;>omega
theorem zez {k:Int} {xs:List Int} (h:By xs):By (escT k xs):=fun x hx=>by
 unfold escT at hx;obtain ⟨c,hc,hx⟩:=List.mem_flatMap.1 hx;have h1:=h c hc;unfold zi8 at hx
 split at hx
 · rw [List.mem_singleton] at hx;subst hx;exact h1
 · simp at hx
   rcases hx with rfl|rfl|rfl
   · omega
   · exact zw3 (by omega)
   · exact zw3 (by omega)
theorem zxh (k:Int) (xs:List Int) (c:Int):escT k (xs++[c])=escT k xs++zi8 k c:=by unfold escT;simp
theorem zhi (k:Int) (xs:List Int):xs.length≤(escT k xs).length∧(escT k xs).length≤3*xs.length:=by
 induction xs with
 | nil=>exact ⟨Nat.le_refl _,Nat.le_refl _⟩
 | cons c xs ih =>
   have h1:escT k (c::xs)=zi8 k c++escT k xs:=rfl
   have h2:1≤(zi8 k c).length∧(zi8 k c).length≤3:=by unfold zi8;split<;>simp
   rw [h1,List.length_append,List.length_cons];omega
theorem zhv {xs:List Int} {f i:Nat} {acc:List Int} (h:xs.length≤i):zb6 xs (f+1) i acc=(acc,0,0):=by unfold zb6;rw [if_pos h]
theorem zfr {xs:List Int} {f i:Nat} {acc:List Int} (h:i<xs.length) (h2:xs.getD i 0≠37):zb6 xs (f+1) i acc=zb6 xs f (i+1) (acc++[xs.getD i 0]):=by
 rw [show zb6 xs (f+1) i acc=if xs.length≤i then (acc,0,0) else if xs.getD i 0≠37 then zb6 xs f (i+1) (acc++[xs.getD i 0]) else if zbm xs i<0 then ([],i,5) else zb6 xs f (i+3) (acc++[zbm xs i]) from rfl,if_neg (by omega),if_pos h2]
theorem zll {xs:List Int} {f i:Nat} {acc:List Int} (h:i<xs.length) (h2:xs.getD i 0=37) (h3:zbm xs i<0):zb6 xs (f+1) i acc=([],i,5):=by
 rw [show zb6 xs (f+1) i acc=if xs.length≤i then (acc,0,0) else if xs.getD i 0≠37 then zb6 xs f (i+1) (acc++[xs.getD i 0]) else if zbm xs i<0 then ([],i,5) else zb6 xs f (i+3) (acc++[zbm xs i]) from rfl,if_neg (by omega),if_neg (fun h=>h h2),if_pos h3]
theorem zhu {xs:List Int} {f i:Nat} {acc:List Int} (h:i<xs.length) (h2:xs.getD i 0=37) (h3:¬ zbm xs i<0):zb6 xs (f+1) i acc=zb6 xs f (i+3) (acc++[zbm xs i]):=by
 rw [show zb6 xs (f+1) i acc=if xs.length≤i then (acc,0,0) else if xs.getD i 0≠37 then zb6 xs f (i+1) (acc++[xs.getD i 0]) else if zbm xs i<0 then ([],i,5) else zb6 xs f (i+3) (acc++[zbm xs i]) from rfl,if_neg (by omega),if_neg (fun h=>h h2),if_neg h3]

def zfp (g:List Int):Bool:=(decide (1≤g.length) && decide (g.length≤4)) && g.all fun c=>decide (0≤hexV c)
def grpN (g:List Int):List Int:=let t:=(lowS g).dropWhile (· == 48);if t=[] then [48] else t
def grpL (s:List Int):Option (List (List Int)):=if (cutL 58 s).all zfp=true then some ((cutL 58 s).map grpN) else none
def dblL:List Int→Option (List Int × List Int)
 | []=>none
 | [_]=>none
 | c::d::r=>if c=58∧d=58 then some ([],r) else (dblL (d::r)).map fun p=>(c::p.1,p.2)
def zcz (s:List Int):Option (List (List Int)):=if s=[] then some [] else grpL s
def zb9 (s:List Int):Option (List Int):=
 if 39<s.length then none else
 match dblL s with
 | none=>match grpL s with
   | some l=>if l.length=8 then some (zbj [58] l) else none
   | none=>none
 | some p=>match zcz p.1,zcz p.2 with
   | some x,some y=>if 7<x.length+y.length then none else some (zbj [58] x++[58,58]++zbj [58] y)
   | _,_=>none
def zk7 (n:List Int):Bool:=(n.all zbc && !n.isEmpty) && (decide (valL n≤255) && n == decL (valL n))
def zee (s:List Int):Bool:=decide (s.length≤15) && ((cutL 46 s).all zk7 && decide ((cutL 46 s).length=4))
def labC (c:Int):Bool:=zgv c || (zbc c || c == 45)
def zgu (p:List Int):Bool:=(decide (1≤p.length) && decide (p.length≤63)) && ((p.getD 0 0 != 45 && p.getD (p.length - 1) 0 != 45) && p.all labC)
def zi6 (p:List Int):Bool:=p.any fun c => !zbc c
def zfm (s:List Int):Bool:=(decide (1≤s.length) && decide (s.length≤255)) && ((cutL 46 s).all zgu && (cutL 46 s).any zi6)
def zb3 (s:List Int):Option (List Int):=
 if 2≤s.length∧s.getD 0 0=91∧s.getD (s.length - 1) 0=93 then (zb9 (subL s 1 (s.length - 1))).map fun g=>[91]++g++[93]
 else if zee s=true then some s
 else if zfm s=true then some (lowS s)
 else none
theorem yd8 {g:List Int} (h:By g):By (grpN g):=by
 unfold grpN;dsimp only
 split
 · unfold By;decide
 · exact (zcr h).sub (List.dropWhile_sublist _)
theorem zqy {sep:Int} {s:List Int} (h:By s):∀ p∈cutL sep s,By p:=by
 induction s with
 | nil=>intro p hp;rw [show cutL sep []=[[]] from rfl,List.mem_singleton] at hp;subst hp;exact fun x hx=>by cases hx
 | cons c r ih =>
   have hr:By r:=fun x hx=>h x (List.mem_cons_of_mem _ hx);have hc:0≤c∧c<256:=h c (by simp);intro p hp
   by_cases he:c=sep
   · subst he
     rw [zdi] at hp
     rcases List.mem_cons.1 hp with rfl|hp
     · exact fun x hx=>by cases hx
     · exact ih hr p hp
   · rw [zdp sep c r he] at hp
     cases hq:cutL sep r with
     | nil=>rw [hq] at hp;simp [glue] at hp;subst hp;intro x hx;rw [List.mem_singleton] at hx;subst hx;exact hc
     | cons q qs =>
       rw [hq] at hp;simp only [glue] at hp
       rcases List.mem_cons.1 hp with rfl|hp
       · intro x hx
         rcases List.mem_append.1 hx with hx|hx
         · rw [List.mem_singleton] at hx;subst hx;exact hc
         · exact ih hr q (by rw [hq];simp) x hx
       · exact ih hr p (by rw [hq];exact List.mem_cons_of_mem _ hp)
theorem zhe {sep:List Int} (hs:By sep):∀ {l:List (List Int)},(∀ p∈l,By p)→By (zbj sep l)
 | [],_=>fun x hx=>by rw [zdy] at hx;cases hx
 | [p],h=>by rw [zc2];exact h p (by simp)
 | p::q::r,h=>fun x hx=>by
   rw [zch] at hx
   rcases List.mem_append.1 hx with h1|h1
   · exact h p (by simp) x h1
   · rcases List.mem_append.1 h1 with h2|h2
     · exact hs x h2
     · exact zhe hs (fun t ht=>h t (by simp [List.mem_cons.1 ht])) x h2
theorem zxs:∀ {s:List Int} {p:List Int × List Int},By s→dblL s=some p→By p.1∧By p.2
 | [],_,_,h=>by cases h
 | [_],_,_,h=>by cases h
 | c::d::r,p,hs,h=>by
   unfold dblL at h
   split at h
   · injection h with h
     subst h;exact ⟨(fun x hx=>absurd hx (by simp)),(fun x hx=>hs x (by simp [show x∈r from hx]))⟩
   · cases hq:dblL (d::r) with
     | none=>rw [hq] at h;cases h
     | some q =>
       rw [hq] at h
       injection h with h
       subst h;obtain ⟨h1,h2⟩:=zxs (fun x hx=>hs x (List.mem_cons_of_mem _ hx)) hq;refine ⟨fun x hx => ?_,h2⟩
       rcases List.mem_cons.1 hx with rfl|hx
       · exact hs _ (by simp)
       · exact h1 x hx
theorem zw9 {s:List Int} {l:List (List Int)} (hs:By s) (h:grpL s=some l):∀ p∈l,By p:=by
 unfold grpL at h
 split at h
 · injection h with h
   subst h;intro p hp;obtain ⟨q,hq,rfl⟩:=List.mem_map.1 hp;exact yd8 (zqy hs q hq)
 · cases h
end Go.Proofs.YtfnmkedncfdceaaGreatDoor
