/- Contracts: the reference 02's find and Get. And what stands behind it. -/
import Derived.Test.YtfnmkedncfdceaaGreatDoorMd
import Derived.StillTail
import Derived.Deep.Quiet
set_option linter.unusedVariables false
set_option linter.unusedSimpArgs false
set_option maxRecDepth 100000
namespace Go.Proofs.YtfnmkedncfdceaaGreatDoor
open Go.RowKit

def Rds (w:World) (B:Nat) (A:Option Addr) (cs:List Value):Prop:=0<cs.length→∃ b o,A=some ⟨b,o,none⟩∧b<B∧∀ j u,cs[j]? = some u→w.cell? ⟨b,o+j,none⟩=some u
theorem Rds.keep {w w':World} {B:Nat} {A:Option Addr} {cs:List Value} (h:Rds w B A cs) (hk:∀ p:Addr,p.block<B→w'.cell? p=w.cell? p):Rds w' B A cs:=fun hn=>by
 obtain ⟨b,o,e,hb,hc⟩:=h hn;exact ⟨b,o,e,hb,fun j u hu=>(hk ⟨b,o+j,none⟩ hb).trans (hc j u hu)⟩
theorem Rds.below {w w':World} {B:Nat} {A:Option Addr} {cs:List Value} (h:Rds w B A cs) (hb:Below B w w'):Rds w' B A cs:=h.keep fun _ hp=>hb.cell hp
theorem Rds.up {w:World} {B B':Nat} {A:Option Addr} {cs:List Value} (h:Rds w B A cs) (hB:B≤B'):Rds w B' A cs:=fun hn=>by
 obtain ⟨b,o,e,hb,hc⟩:=h hn;exact ⟨b,o,e,Nat.lt_of_lt_of_le hb hB,hc⟩
theorem zb7 {a b:List Int} (ha:By a) (hb:By b):((strOfNums a).toList == (strOfNums b).toList)=(a == b):=by
 rw [Bool.eq_iff_iff,beq_iff_eq,beq_iff_eq,toList_inj,ydi ha hb]

section
variable {P : Program} {ops : Array Oper} {md : Region.Mode} {C : World → Prop}
def zw4 (P:Program) (md:Region.Mode) (ops:Array Oper) (C:World→Prop) (n:Nat) (L:Array Bool→Act→Prop):Nat→Array Bool→Act→Prop
 | 0,done,a=>L done a
 | f+1,done,a=>Region.ready md ops done≠[]∧∀ i∈Region.ready md ops done,i<n∧qOp P ops C i (zw4 P md ops C n L f (done.setIfInBounds i true)) a
theorem zor {n g:Nat} {L:Array Bool→Act→Prop} {R:Exit→Act→World→Prop} (hL:∀ done a w,C w→L done a→wpAny P md ops R g done a w) :
  ∀ (f:Nat) (done:Array Bool) (a:Act) (w:World),C w→zw4 P md ops C n L f done a→wpAny P md ops R (f+g) done a w
 | 0,done,a,w,hw,h=>by
   rw [Nat.zero_add];exact hL _ _ _ hw h
 | f+1,done,a,w,hw,h=>by
   rw [Nat.add_right_comm];exact ⟨fun e=>absurd e h.1,fun i hi=>wpOp_of_qOp hw (fun a' w' hw' h'=>zor hL f _ a' w' hw' h') (h.2 i hi).2⟩
theorem zty {n i:Nat} {oi:Oper} {v:Value} {L:Array Bool→Act→Prop} (hi:ops[i]? = some oi) (hsel:∀ (j:Nat) (o:Oper) cs b,ops[j]? = some o→o.op ≠ .select cs b)
  (hs:Region.sinkB md ops n=true) (hc:Region.chainB md ops n=true) (hn:n<ops.size) (hin:i<n) (hend:∀ done a,L done a→∀ j∈Region.ready md ops done,n≤j) (f:Nat) :
  ∀ (done:Array Bool) (a:Act),HeadInv md ops n done →
   (∀ j oj,ops[j]? = some oj→j≠i→done.getD j true=false→(∀ e∈oj.after,Region.binds md e=true→e.on≠i)→oi.apart ops oj=true) →
   i∈Region.ready md ops done→YieldsIn P ops C oi v a→zw4 P md ops C n L f (done.setIfInBounds i true) (a.put oi.dst v)→zw4 P md ops C n L (f+1) done a:=by
 induction f with
 | zero =>
   intro done a inv _ hr hy H;have low:∀ j∈Region.ready md ops done,j<n:=fun j hj=>Nat.lt_of_not_le fun h=>tail_waits hs hc hn inv _ i rfl hin (mem_ready.1 hr).1 j h hj;refine ⟨List.ne_nil_of_mem hr,fun j hj=>⟨low j hj,?_⟩⟩
   by_cases e:j=i
   · rw [e];exact hy.qOp hi H
   · exact absurd (hend _ _ H j (ready_mono hj e)) (Nat.not_le.2 (low j hj))
 | succ f ih =>
   intro done a inv hfree hr hy H;have low:∀ j∈Region.ready md ops done,j<n:=fun j hj=>Nat.lt_of_not_le fun h=>tail_waits hs hc hn inv _ i rfl hin (mem_ready.1 hr).1 j h hj;refine ⟨List.ne_nil_of_mem hr,fun j hj=>⟨low j hj,?_⟩⟩
   by_cases e:j=i
   · rw [e];exact hy.qOp hi H
   · obtain ⟨hju,oj,hoj,hall⟩:=mem_ready.1 hj
     have hno:∀ d∈oj.after,Region.binds md d=true→d.on≠i:=fun d hd hb he=>by
      have h1:=hall d hd hb;rw [he,getD_both (mem_ready.1 hr).1] at h1
      cases h1
     refine qOp_mono (fun a' h3=>ih _ a' (inv.set hj (low j hj)) (fun k ok hk hki hun hw=>hfree k ok hk hki ?_ hw) (ready_mono hr (Ne.symm e)) h3.1 ?_)
      (qOp_put hoj (hfree j oj hoj e hju hno) (fun cs b=>hsel i oi cs b hi) (fun cs b=>hsel j oj cs b hoj) hy (H.2 j (ready_mono hj e)).2)
     · by_cases hjk:j=k
       · rw [← hjk];exact hju
       · rwa [getD_set_ne true hjk] at hun
     · rw [Array.setIfInBounds_comm _ _ e]
       exact h3.2
theorem zlz {n g:Nat} {R:Act→Prop} (hsel:Region.noSelect ops=true) (hs:Region.sinkB md ops n=true) (hc:Region.chainB md ops n=true) (hn:n<ops.size) :
  ∀ (l:List Oper) (k:Nat) (done:Array Bool) (a:Act),(∀ j,j<l.length→l[j]? = ops[k+j]?)→k+l.length=n→HeadInv md ops n done→Region.lexHead md ops g l.length k done=true→wpQuiet P ops C R l a →
   zw4 P md ops C n (fun d' a'=>Region.seqB md ops g n d'=true∧R a') l.length done a
 | [],k,done,a,_,hk,_,hB,h=>by
   rw [List.length_nil,Nat.add_zero] at hk;subst hk;exact ⟨by simpa [Region.lexHead] using hB,h⟩
 | o::l,k,done,a,hl,hk,inv,hB,h=>by
   have h0:ops[k]? = some o:=by simpa using (hl 0 (by simp)).symm
   simp only [List.length_cons,Region.lexHead,Bool.and_eq_true] at hB;obtain ⟨⟨hr,hf⟩,hB'⟩:=hB;rw [List.length_cons] at hk
   have hkn:k<n:=by omega
   have hr':k∈Region.ready md ops done:=by simpa using hr
   obtain ⟨v,hy,hK⟩:=yieldsIn_of_qOp (K:=wpQuiet P ops C R l) h0 (by unfold qOp;simp only [h0];exact h)
   exact zty h0 (Region.noSelect_spec hsel) hs hc hn hkn (fun d' a' hL=>seqB_ready hL.1) l.length done a inv (Region.free_spec h0 hf) hr' hy
    (zlz hsel hs hc hn l (k+1) _ _ (fun j hj=>by have:=hl (j+1) (by simp;omega);simpa [Nat.add_assoc,Nat.add_comm 1 j] using this) (by omega) (inv.set hr' hkn) hB' hK)
theorem zh4 {id:Nat} {Q:Exit→Act→World→Prop} {a:Act} {w:World} {l:List Oper} (n:Nat) (hm:P.follows .mixedOrders=true) (hB:Region.lexTailB .any l.toArray n=true) (hC:C w.drew)
  (h:wpQuiet P l.toArray C (fun a' => ∀ w',C w'→wpList P l.toArray Q (l.drop n) a' w') (l.take n) a):(Code.region id l.toArray true).wp P Q a w:=by
 simp only [Region.lexTailB,Bool.and_eq_true,decide_eq_true_eq] at hB;obtain ⟨⟨⟨⟨hsel,hn⟩,hs⟩,hc⟩,hlex⟩:=hB
 have hn':n<l.length:=by simpa using hn
 have ht:(l.take n).length=n:=by rw [List.length_take];omega
 have hd:(l.drop n).length=l.toArray.size - n:=by simp
 have inv0:HeadInv .any l.toArray n (Array.replicate l.toArray.size false):=
  ⟨by simp,fun j oj _ hl=>(by rw [getD_replicate_false] at hl;cases hl),fun t _ hlt=>getD_in (by simpa using hlt) (getD_replicate_false _ _)⟩
 have H:=zlz (md := .any) (g:=l.toArray.size - n) hsel hs hc hn (l.take n) 0 _ a (fun j hj=>by
  rw [ht] at hj
  simp [hj]) (by simpa using ht) inv0 (by rw [ht];exact hlex) h
 refine wp_region_any hm ?_
 have F:=zor (R:=Q) (g:=l.toArray.size - n) (fun d a' w' hw' hL=>by
  have:=wpAny_of_seq (md := .any) (Q':=Q) (l.drop n) n d a' w' (fun j=>by simp [List.getElem?_drop]) (by rw [hd];exact hL.1) (hL.2 w' hw')
  rwa [hd] at this) _ _ _ _ hC H
 rw [ht,show n+(l.toArray.size - n)=l.toArray.size by omega] at F;exact F
end

structure BW (w0:World) where
 w:World
 h:Below w0.heap.size w0 w
instance (w0:World):Nonempty (BW w0):=⟨⟨w0,Below.refl _ _⟩⟩
section
variable {P : Program}
theorem zcf {id:Nat} {Q:Exit→Act→World→Prop} {a:Act} {w:World} {l:List Oper} (hm:P.follows .mixedOrders=true) (hB:Region.lexB .any l.toArray=true)
  (h:wpQuiet P l.toArray (fun w' => ∃ x:BW w,w'=x.w) (fun a' => ∀ w',(∃ x:BW w,w'=x.w)→Q .normal a' w') l a):(Code.region id l.toArray true).wp P Q a w:=
 wp_region_quiet (C:=fun w' => ∃ x:BW w,w'=x.w) hm hB ⟨⟨w.drew,zBr.drew⟩,rfl⟩ (by simpa using h)
theorem zcj {f:FuncId} {args:Array Value} {w:World} {x:BW w} {v:Value} (h:Calls P f args x.w fun e w'=>e = .returned v∧Below x.w.heap.size x.w w') :
  Calls P f args x.w fun e w''=>e = .returned v∧∃ y:BW w,w''=y.w:=
 h.mono fun _ w' ⟨he,hb⟩=>⟨he,⟨w',x.h.trans (hb.mono x.h.size)⟩,rfl⟩
end
theorem zf7 {P:Program} {id:Nat} {Q:Exit→Act→World→Prop} {a:Act} {w:World} {l:List Oper} (n:Nat) (hm:P.follows .mixedOrders=true) (hB:Region.lexTailB .any l.toArray n=true)
  (h:wpQuiet P l.toArray (fun w' => ∃ x:BW w,w'=x.w) (fun a' => ∀ w',(∃ x:BW w,w'=x.w)→wpList P l.toArray Q (l.drop n) a' w') (l.take n) a):(Code.region id l.toArray true).wp P Q a w:=
 zh4 n hm hB ⟨⟨w.drew,zBr.drew⟩,rfl⟩ h
theorem Row.later {w:World} {b:Nat} {T:TypeId} {vs:List Value} (h:Row w b T vs) (x:BW w) (i:Nat):x.w.cell? ⟨b,i,none⟩=vs[i]? := (h.below x.h).cell i

structure CG (w:World) (b:Nat) (s:ByteArray) (a:Nat) (w':World):Prop where
 r:Row w' b 148 [.string s,.int .i64 a]
 g:w.grownBy w' (some b)
theorem zr2 (w:World) (r:Option Nat):w.grownBy w r:=⟨rfl,rfl,rfl,Nat.le_refl _,fun _ _ _=>rfl⟩
theorem zla {w w1:World} (r:Option Nat) (h:Below w.heap.size w w1):w.grownBy w1 r:=⟨h.os,h.tape,h.output,h.size,fun k hk _=>h.block k hk⟩
theorem zkn {a b c:World} {r:Option Nat} (h:a.grownBy b r) (h2:b.grownBy c r):a.grownBy c r:=
 ⟨h2.os.trans h.os,h2.tape.trans h.tape,h2.output.trans h.output,Nat.le_trans h.size h2.size,fun k hk hn=>(h2.block k (Nat.lt_of_lt_of_le hk h.size) hn).trans (h.block k hk hn)⟩
theorem zl0 {w w1:World} {b i:Nat} (u:Value) (h:w.grownBy w1 (some b)):w.grownBy (w1.setCell ⟨b,i,none⟩ u) (some b):=
 ⟨h.os,h.tape,h.output,by rw [World.size_setCell];exact h.size,fun k hk hn=>(Below.heap_setCell w1 ⟨b,i,none⟩ u k (fun e=>hn (by rw [e]))).trans (h.block k hk hn)⟩
theorem CG.refl {w:World} {b:Nat} {s:ByteArray} {a:Nat} (r:Row w b 148 [.string s,.int .i64 a]):CG w b s a w:=⟨r,zr2 _ _⟩
theorem CG.call {w w1 w2:World} {b:Nat} {s:ByteArray} {a:Nat} (h:CG w b s a w1) (hb:Below w1.heap.size w1 w2):CG w b s a w2:=⟨h.r.below hb,zkn h.g (zla _ hb)⟩
theorem CG.set {w w1:World} {b:Nat} {s:ByteArray} {a:Nat} (h:CG w b s a w1) (a':Nat) {z:Int} (hz:z=a'):CG w b s a' (w1.setCell ⟨b,1,none⟩ (.int .i64 z)):=by
 subst hz;exact ⟨h.r.set 1 _,zl0 _ h.g⟩
theorem CG.trans {w w1 w2:World} {b:Nat} {s:ByteArray} {a a':Nat} (h:CG w b s a w1) (h2:CG w1 b s a' w2):CG w b s a' w2:=⟨h2.r,zkn h.g h2.g⟩
def zcw (xs:List Int) (a:Nat) (c:Int):Bool:=decide (a<xs.length) && (xs.getD a 0 == c)
theorem zex (w:World) (b a:Nat) (s:ByteArray) (h:Row w b 148 [.string s,.int .i64 a]) :
  Calls Tryz.prog 126 #[.pointer (some ⟨b,0,none⟩)] w fun e w'=>e = .returned (.bool (decide (s.size≤a)))∧∃ q,w'=w.drewN q:=by
 have k0:w.cell? ⟨b,0,none⟩=some (.string s):=h.cell 0;have k1:w.cell? ⟨b,1,none⟩=some (.int .i64 a):=h.cell 1;clear h
 go_enter Tryz.func126,Tryz.ntmps126
 go_wp2_with fail
 go_quiet (fail)
 go_wp2_with fail;go_ret;exact ⟨zax (by first|rfl|simp),_,rfl⟩
theorem zb4 (w:World) (b a:Nat) (c:Int) (s:ByteArray) (h:Row w b 148 [.string s,.int .i64 a]) :
  Calls Tryz.prog 123 #[.pointer (some ⟨b,0,none⟩),.int .u8 c] w fun e w'=>e = .returned (.bool (zcw (zaa s) a c))∧∃ q,w'=w.drewN q:=by
 have k0:w.cell? ⟨b,0,none⟩=some (.string s):=h.cell 0;have k1:w.cell? ⟨b,1,none⟩=some (.int .i64 a):=h.cell 1;have EN:=kd (fun n=>zex (w.drewN n) b a s (h.drewN n));have HL:=kd (zac s);clear h
 by_cases hlt:a<s.size
 · have d:decide (s.size≤a)=false:=by simp;omega
   have dx:=fun w=>zbe s (i:=a) hlt (z:=(a:Int)) rfl w;rw [d] at EN;have E:=kd (show zcw (zaa s) a c=((zaa s).getD a 0 == c) by unfold zcw;rw [HL.out,decide_eq_true hlt];rfl);generalize (zaa s).getD a 0=x at *;clear d hlt
   go_enter Tryz.func123,Tryz.ntmps123
   go_wp2_with fail
   go_quiet ((go_at_call 126;exact Calls.quiet_of (EN.out _)))
   go_wp2_with fail;go_ret;exact ⟨zax E.out.symm,_,rfl⟩
 · have d:decide (s.size≤a)=true:=by simp;omega
   rw [d] at EN;have E:=kd (show zcw (zaa s) a c=false by unfold zcw;rw [HL.out,decide_eq_false hlt];rfl);clear d hlt
   go_enter Tryz.func123,Tryz.ntmps123
   go_wp2_with fail
   go_quiet ((go_at_call 126;exact Calls.quiet_of (EN.out _)))
   go_wp2_with fail;go_ret;exact ⟨zax E.out.symm,_,rfl⟩
theorem zdj (w:World) (b a:Nat) (s:ByteArray) (h:Row w b 148 [.string s,.int .i64 a]) (ha:a≤s.size) (hs:s.size≤4000000) :
  Calls Tryz.prog 169 #[.pointer (some ⟨b,0,none⟩)] w fun e w'=>e = .returned (.tuple #[])∧CG w b s (zag isBlank (zaa s) a) w':=by
 have R:=kd h;have k0:w.cell? ⟨b,0,none⟩=some (.string s):=h.cell 0;have k1:w.cell? ⟨b,1,none⟩=some (.int .i64 a):=h.cell 1;have BL:=kd (fun w=>yeo s (a:Int) a w (zag isBlank (zaa s) a) rfl ha rfl hs);generalize zag isBlank (zaa s) a=a2 at *;clear h ha
 go_enter Tryz.func169,Tryz.ntmps169
 go_wp2_with fail;clear k0 k1;have q0:=fun x:BW w=>R.out.later x 0;have q1:=fun x:BW w=>R.out.later x 1;simp only [List.getElem?_cons_succ,List.getElem?_cons_zero] at q0 q1;refine zf7 13 (by kernel_rfl) (by kernel_rfl) ?_
 simp only [List.take_succ_cons,List.take_zero,List.drop_succ_cons,List.drop_zero]
 iterate 10 go_big_quiet_step (fail)
 go_big_quiet_step (exact zcj (BL.out _))
 iterate 2 go_big_quiet_step (fail)
 refine wpQuiet_nil ?_;rintro _ ⟨x,rfl⟩;have G:=kd ((CG.refl R.out).call x.h);have k1:x.w.cell? ⟨b,1,none⟩=some (.int .i64 a):=G.out.r.cell 1;have f1:x.w.frozen? ⟨b,1,none⟩=false:=G.out.r.frozen 1;clear q0 q1;go_wp2_with fail
 go_end0
 exact ⟨rfl,G.out.set a2 rfl⟩
theorem zi0 (w:World) (b a:Nat) (s:ByteArray) (h:Row w b 148 [.string s,.int .i64 a]) (ha:a≤s.size) (hs:s.size≤4000000) :
  Calls Tryz.prog 229 #[.pointer (some ⟨b,0,none⟩)] w fun e w'=>e = .returned (.string (strOfNums (subL (zaa s) a (zag zbp (zaa s) a))))∧CG w b s (zag zbp (zaa s) a) w':=by
 have R:=kd h;have k0:w.cell? ⟨b,0,none⟩=some (.string s):=h.cell 0;have k1:w.cell? ⟨b,1,none⟩=some (.int .i64 a):=h.cell 1
 have BL:=kd (fun w=>by
  have h:=zhw s a w (by omega) (by omega);rw [yat ha] at h
  exact h)
 have S:=kd (show s.extract a (zag zbp (zaa s) a)=strOfNums (subL (zaa s) a (zag zbp (zaa s) a)) by rw [← zbh (s.extract _ _),zar];rfl);have le1:a≤zag zbp (zaa s) a:=zcp _ _ _
 have le2:zag zbp (zaa s) a≤s.size:=by rw [← zac s];exact za5 (by rw [zac];exact ha)
 generalize zag zbp (zaa s) a=a2 at *;clear h ha
 go_enter Tryz.func229,Tryz.ntmps229
 go_wp2_with fail;clear k0 k1;refine (BL.out _).mono ?_;rintro e w1 ⟨rfl,hb⟩;have G:=kd ((CG.refl R.out).call hb);have k1:w1.cell? ⟨b,1,none⟩=some (.int .i64 a):=G.out.r.cell 1;have f1:w1.frozen? ⟨b,1,none⟩=false:=G.out.r.frozen 1;have G2:=kd (G.out.set a2 rfl);clear hb
 go_wp2_with fail;generalize w1.setCell ⟨b,1,none⟩ (.int .i64 (a2:Int))=w2 at *;clear k1 f1;have k1:w2.cell? ⟨b,1,none⟩=some (.int .i64 a2):=G2.out.r.cell 1;have k0:w2.cell? ⟨b,0,none⟩=some (.string s):=G2.out.r.cell 0
 have i1:(0:Int)≤(a:Int):=by omega
 have i2:(a:Int)≤(a2:Int):=by omega
 have i3:(a2:Int)≤(s.size:Int):=by omega
 go_quiet (fail)
 go_wp2_with fail;go_ret;exact ⟨by rw [← S.out];rfl,G2.out.call (zam _ _)⟩
end Go.Proofs.YtfnmkedncfdceaaGreatDoor
