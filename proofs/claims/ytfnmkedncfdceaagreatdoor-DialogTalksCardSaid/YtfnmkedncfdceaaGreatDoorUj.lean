/- Plain laws: an address text that is read is in normal form; where an error lies. And what stands behind it. -/
import Derived.Test.YtfnmkedncfdceaaGreatDoorBq
set_option linter.unusedVariables false
set_option linter.unusedSimpArgs false
namespace Go.Proofs.YtfnmkedncfdceaaGreatDoor
open Go.RowKit

theorem zvj {p:Int→Bool} {xs:List Int} {i:Nat} (h:zag p xs i<xs.length):p (xs.getD (zag p xs i) 0)=false:=by
 have e:xs.drop i=(xs.drop i).takeWhile p++(xs.drop i).dropWhile p:=(List.takeWhile_append_dropWhile).symm;unfold zag at h ⊢
 have hg:xs.getD (i+((xs.drop i).takeWhile p).length) 0=((xs.drop i).dropWhile p).getD 0 0:=by
  rw [List.getD_eq_getElem?_getD,← List.getElem?_drop,List.getD_eq_getElem?_getD]
  conv=>lhs;rw [e]
  rw [List.getElem?_append_right (by rw [← e];exact Nat.le_refl _),← e,Nat.sub_self]
 rw [hg]
 cases hd:(xs.drop i).dropWhile p with
 | nil =>
   rw [hd,List.append_nil] at e;have:=congrArg List.length e;rw [List.length_drop] at this;omega
 | cons c r =>
   have:=List.head?_dropWhile_not p (xs.drop i);rw [hd] at this
   simpa using this
theorem zu3 {xs:List Int} {a:Nat} (hx:By xs) (ha:a≤xs.length):match zk6 xs a with
  | .ok r=>By r.1∧zc7 r.1=true∧r.2≤xs.length
  | .error e=>e.1≤xs.length∧e.2≠0:=by
 obtain ⟨u1,u2⟩:=zbf (st:=[64]) ha;unfold zk6;dsimp only;generalize zaj xs a [64]=k at *
 by_cases h:xs.length≤k
 · rw [if_pos h];exact ⟨(fun x hx=>by cases hx),rfl,ha⟩
 · rw [if_neg h]
   cases hw:zck (xs.take k) 0 a with
   | some i =>
     have:=zja (by omega) hw
     exact ⟨by dsimp only;omega,by dsimp only;split<;>decide⟩
   | none =>
     dsimp only
     by_cases hk:k=a
     · rw [if_pos hk];exact ⟨u2,by simp⟩
     · rw [if_neg hk]
       rw [zjk u1 u2,Option.map_eq_none_iff] at hw;obtain ⟨c1,c2,_,_⟩:=zm9 (hx.sub (zbk xs a k)) hw;exact ⟨c1,c2,by dsimp only;omega⟩
theorem zif {xs:List Int} {a:Nat} (ha:a≤xs.length):a≤zci xs a∧zci xs a≤xs.length:=by
 unfold zci
 split
 · have h1:=zbf (st:=[93]) ha
   omega
 · exact zbf ha
theorem yai (l:List Int):(zcd l).2=0∨(zcd l).2=5∨(zcd l).2=3:=by
 unfold zcd
 split
 · exact .inr (.inl rfl)
 · split
   · exact .inr (.inr rfl)
   · exact .inl rfl
theorem zvy {xs:List Int} {a:Nat} (ha:a≤xs.length):match zh8 xs a with
  | .ok r=>0≤r.1∧r.1≤65535∧a≤r.2∧r.2≤xs.length
  | .error e=>e.1≤xs.length∧e.2≠0:=by
 unfold zh8
 by_cases h:atL xs a 58=true
 · rw [if_pos h]
   have h1:=(zgk (by rw [h];decide)).1;obtain ⟨u1,u2⟩:=zbf (st:=[59,63]) (show a+1≤xs.length by omega);dsimp only;generalize zaj xs (a+1) [59,63]=k at *;generalize zcd (subL xs (a+1) k)=p at *
   by_cases h2:p.2≠0
   · rw [if_pos h2];exact ⟨h1,h2⟩
   · rw [if_neg h2]
     by_cases h3:p.1<1∨65535<p.1
     · rw [if_pos h3];exact ⟨h1,by simp⟩
     · rw [if_neg h3]
       have e1:¬ p.1<1:=fun h=>h3 (.inl h);have e2:¬ 65535<p.1:=fun h=>h3 (.inr h);exact ⟨by dsimp only;omega,by dsimp only;omega,by dsimp only;omega,u2⟩
 · rw [if_neg h]
   by_cases h2:a<xs.length∧atL xs a 59=false∧atL xs a 63=false
   · rw [if_pos h2];exact ⟨ha,by simp⟩
   · rw [if_neg h2];exact ⟨by simp,by simp,Nat.le_refl _,ha⟩
theorem zvc {xs:List Int} {sg:Bool}:∀ (f i:Nat) (acc:List Int),acc.all (telC sg)=true→match telN xs sg f i acc with
  | .ok d=>d.all (telC sg)=true
  | .error j=>j≤xs.length
 | 0,i,acc,h=>by unfold telN;exact h
 | f+1,i,acc,h=>by
   unfold telN
   by_cases h1:xs.length≤i
   · rw [if_pos h1];exact h
   · rw [if_neg h1]
     by_cases h2:telC sg (xs.getD i 0)=true
     · rw [if_pos h2]
       exact zvc f (i+1) _ (by rw [List.all_append,h];simp;exact h2)
     · rw [if_neg h2]
       by_cases h3:telS (xs.getD i 0)=true
       · rw [if_pos h3];exact zvc f (i+1) _ h
       · rw [if_neg h3];show i≤xs.length;omega
theorem ycr {sg:Bool} {d:List Int} (h:d.all (telC sg)=true):By d:=fun x hx=>by
 have:=zhy (List.all_eq_true.1 h x hx);omega
theorem zro {xs:List Int} {a:Nat} (ha:a≤xs.length):match zd8 xs a with
  | .ok r=>By r.1∧zep r.1=true∧r.2≤xs.length
  | .error e=>e.1≤xs.length∧e.2≠0:=by
 obtain ⟨u1,u2⟩:=zbf (st:=[59]) ha;unfold zd8;dsimp only;generalize zaj xs a [59]=k at *;generalize atL xs a 43=sg at *;have ht:=zvc (xs:=xs.take k) (sg:=sg) (xs.length+1) (if sg=true then a+1 else a) [] rfl
 cases hd:telN (xs.take k) sg (xs.length+1) (if sg=true then a+1 else a) [] with
 | error j =>
   rw [hd] at ht;have ht2:j≤(xs.take k).length:=ht;rw [List.length_take] at ht2;exact ⟨by dsimp only;omega,by simp⟩
 | ok d =>
   rw [hd] at ht;have ht2:d.all (telC sg)=true:=ht;dsimp only
   by_cases h0:d=[]
   · rw [if_pos h0];exact ⟨ha,by simp⟩
   · rw [if_neg h0]
     by_cases h3:30<d.length
     · rw [if_pos h3];exact ⟨ha,by simp⟩
     · rw [if_neg h3]
       refine ⟨?_,?_,u2⟩
       · intro x hx
         rcases List.mem_append.1 hx with h|h
         · cases sg<;>simp at h
           omega
         · exact ycr ht2 x h
       · unfold zep
         dsimp only
         have e:decide (((if sg=true then [43] else [])++d).head? = some 43)=sg:=by
          cases sg with
          | true=>rfl
          | false =>
            cases d with
            | nil=>exact absurd rfl h0
            | cons c d =>
              have:=zhy (List.all_eq_true.1 ht2 c (by simp));simp;omega
         rw [e]
         have e2:(if sg=true then ((if sg=true then [43] else [])++d).drop 1 else (if sg=true then [43] else [])++d)=d:=by cases sg<;>rfl
         rw [e2,ht2,decide_eq_true h0,decide_eq_true (show d.length≤30 by omega)];rfl
theorem LOK.nil (k:Int):LOK k []:=⟨(fun p hp=>by cases hp),List.nodup_nil,by decide⟩
theorem zvf {xs stops:List Int} {sc us ho:List Int} {po:Int} {a:Nat} (hx:By xs) (ha:a≤xs.length):match zhz xs stops sc us ho po a with
  | .ok u=>u.sc=sc∧u.us=us∧u.ho=ho∧u.po=po∧LOK 1 u.ps∧Asc u.ps∧LOK 2 u.hs∧Asc u.hs
  | .error e=>e.1≤xs.length∧e.2≠0:=by
 have h1:=ps_ok (stops:=stops) hx (xs.length+1) a [] ha (LOK.nil 1);unfold zhz
 cases hp:psN xs stops (xs.length+1) a [] with
 | error e=>rw [hp] at h1;exact h1
 | ok r =>
   rw [hp] at h1;obtain ⟨ps,b⟩:=r;obtain ⟨h2,h3⟩:=h1;dsimp only at h2 h3 ⊢;have h4:=hs_ok hx (xs.length+1) b [] h3 (LOK.nil 2)
   cases hh:hsN xs (xs.length+1) b [] with
   | error e=>rw [hh] at h4;exact h4
   | ok hs =>
     rw [hh] at h4;exact ⟨rfl,rfl,rfl,rfl,h2.sort,zg3 _,LOK.sort h4,zg3 _⟩
theorem zlk {xs:List Int} {a:Nat} {st:List Int} (h:zaj xs a st<xs.length):st.contains (xs.getD (zaj xs a st) 0)=true:=by
 have:(!st.contains (xs.getD (zaj xs a st) 0))=false:=zvj h;rw [Bool.not_eq_false'] at this;exact this
theorem ybi {xs:List Int}:∀ (f a:Nat) (l:List Pm),a≤xs.length→xs.length+1≤f+a→(a=xs.length∨atL xs a 59=true)→∀ r,psN xs [59] f a l = .ok r→r.2=xs.length
 | 0,a,l,ha,hf,_,_,_=>by omega
 | f+1,a,l,ha,hf,h0,r,hr=>by
   unfold psN at hr
   by_cases h:atL xs a 59=false
   · rw [if_pos h] at hr
     injection hr with hr
     subst hr
     rcases h0 with h0|h0
     · exact h0
     · rw [h] at h0;cases h0
   · rw [if_neg h] at hr
     have h1:=(zgk h).1;obtain ⟨u1,u2⟩:=zbf (st:=[59]) (show a+1≤xs.length by omega)
     split at hr
     · cases hr
     · refine ybi f _ _ u2 (by omega) ?_ r hr
       by_cases hk:zaj xs (a+1) [59]=xs.length
       · exact .inl hk
       · right
         have hlt:zaj xs (a+1) [59]<xs.length:=by omega
         have:=zlk hlt;rw [List.contains_iff_mem,List.mem_singleton] at this;unfold atL;rw [decide_eq_true hlt,this];rfl
theorem zrd {xs:List Int} (hx:By xs):match uriL xs with
  | .ok u=>UriN u
  | .error e=>e.1≤xs.length∧e.2≠0:=by
 unfold uriL
 by_cases h0:1024<xs.length
 · rw [if_pos h0];exact ⟨by dsimp only;omega,by simp⟩
 rw [if_neg h0];obtain ⟨u1,u2⟩:=zbf (xs:=xs) (a:=0) (st:=[58]) zNz;dsimp only;generalize hk:zaj xs 0 [58]=k at *
 by_cases h1:xs.length≤k
 · rw [if_pos h1];exact ⟨Nat.le_refl _,by simp⟩
 rw [if_neg h1]
 by_cases h2:lowS (xs.take k)=SIPT∨lowS (xs.take k)=zes
 · rw [if_pos h2]
   have p1:=zu3 hx (show k+1≤xs.length by omega);unfold zew
   cases hu:zk6 xs (k+1) with
   | error e=>rw [hu] at p1;exact p1
   | ok r =>
     obtain ⟨us,b⟩:=r;rw [hu] at p1;obtain ⟨c1,c2,c3⟩:=p1;dsimp only at c1 c2 c3 ⊢;obtain ⟨e1,e2⟩:=zif c3
     cases hh:zb3 (subL xs b (zci xs b)) with
     | none=>exact ⟨c3,by simp⟩
     | some ho =>
       dsimp only;have p2:=zvy e2
       cases hp:zh8 xs (zci xs b) with
       | error e=>rw [hp] at p2;exact p2
       | ok q =>
         obtain ⟨po,c⟩:=q;rw [hp] at p2;obtain ⟨d1,d2,d3,d4⟩:=p2;dsimp only at d1 d2 d3 d4 ⊢;have p3:=zvf (stops:=[59,63]) (sc:=lowS (xs.take k)) (us:=us) (ho:=ho) (po:=po) hx d4
         cases ht:zhz xs [59,63] (lowS (xs.take k)) us ho po c with
         | error e=>rw [ht] at p3;exact p3
         | ok u =>
           rw [ht] at p3;obtain ⟨f1,f2,f3,f4,f5,f6,f7,f8⟩:=p3;refine ⟨by rw [f2];exact c1,f5,f6,f7,f8,.inl ⟨by rw [f1];exact h2,by rw [f3];exact zom hh,by rw [f3];exact zqi hh (hx.sub (zbk _ _ _)),by rw [f4];exact d1,by rw [f4];exact d2,by rw [f2];exact c2⟩⟩
 rw [if_neg h2]
 by_cases h3:lowS (xs.take k)=TELT
 · rw [if_pos h3]
   have p1:=zro (xs:=xs) (show k+1≤xs.length by omega)
   cases hp:zd8 xs (k+1) with
   | error e=>rw [hp] at p1;exact p1
   | ok r =>
     obtain ⟨us,c⟩:=r;rw [hp] at p1;obtain ⟨c1,c2,c3⟩:=p1;dsimp only at c1 c2 c3 ⊢
     have hc:c=zaj xs (k+1) [59]:=by
      unfold zd8 at hp;dsimp only at hp
      split at hp
      · cases hp
      · split at hp
        · cases hp
        · split at hp
          · cases hp
          · injection hp with hp
            injection hp with _ hp
            exact hp.symm
     have p3:=zvf (stops:=[59]) (sc:=lowS (xs.take k)) (us:=us) (ho:=[]) (po:=0) hx c3
     cases ht:zhz xs [59] (lowS (xs.take k)) us [] 0 c with
     | error e=>rw [ht] at p3;exact p3
     | ok u =>
       rw [ht] at p3;obtain ⟨f1,f2,f3,f4,f5,f6,f7,f8⟩:=p3
       have fh:u.hs=[]:=by
        unfold zhz at ht
        cases hq:psN xs [59] (xs.length+1) c [] with
        | error e=>rw [hq] at ht;cases ht
        | ok r =>
          obtain ⟨ps,b⟩:=r
          have hb:=ybi _ _ _ c3 (by omega) (by
           by_cases hl:c=xs.length
           · exact .inl hl
           · right
             unfold atL;have:=zlk (xs:=xs) (a:=k+1) (st:=[59]) (by rw [← hc];omega);rw [← hc] at this;rw [List.contains_iff_mem,List.mem_singleton] at this
             rw [decide_eq_true (show c<xs.length by omega),this];rfl) _ hq
          rw [hq] at ht;dsimp only at hb ht
          have he:hsN xs (xs.length+1) b [] = .ok []:=by unfold hsN;rw [if_pos (by omega)]
          rw [he] at ht
          injection ht with ht
          rw [← ht];rfl
       exact ⟨by rw [f2];exact c1,f5,f6,f7,f8,.inr ⟨by rw [f1];exact h3,f3,f4,fh,by rw [f2];exact c2⟩⟩
 · rw [if_neg h3];exact ⟨Nat.zero_le _,by simp⟩

def idxZ (X:List Int) (a:Nat) (c:Int):Int:=if X.length≤zaj X a [c] then -1 else (zaj X a [c]:Int) - a
theorem skip1 (X:List Int) (a:Nat) (c:Int):zaj X a [c]=a+zag (fun x=>x != c) (X.drop a) 0:=by
 unfold zaj zag;rw [List.drop_zero,Nat.zero_add]
 congr 3
 funext x
 rw [List.contains_cons,List.contains_nil,Bool.or_false];rfl
theorem zwz (s:ByteArray) (a:Nat) (c:UInt8) (ha:a≤s.size) (w:World):Calls Tryz.prog 119 #[.string (s.extract a s.size),.int .u8 (c.toNat:Int)] w fun r w'=>r = .returned (.int .i64 (idxZ (zaa s) a c.toNat))∧w=w':=by
 have h:=zef (s.extract a s.size) c w;have HL:=zac s
 have ZL:zaa (s.extract a s.size)=(zaa s).drop a:=by
  rw [zar,List.take_of_length_le (by rw [List.length_drop,HL];exact Nat.le_refl _)]
 have ZS:(s.extract a s.size).size=s.size - a:=by rw [← zac,ZL,List.length_drop,HL]
 rw [ZL,ZS] at h;refine h.mono fun r w' h1=>⟨?_,h1.2⟩;rw [h1.1];unfold idxZ;rw [skip1,HL];generalize zag (fun x=>x != (c.toNat:Int)) ((zaa s).drop a) 0=k
 by_cases hk:s.size - a≤k
 · rw [if_pos hk,if_pos (by omega)]
 · rw [if_neg hk,if_neg (by omega)]
   congr 2
   omega
def LP (cb ub:Nat) (s:ByteArray) (a:Nat) (us:List Value):List Blk:=[(cb,148,[.string s,.int .i64 a]),(ub,117,us)]
theorem zha {w wr:World} {cb ub a:Nat} {s:ByteArray} {us:List Value} {FS:List (World→Prop)} (h:Mine w wr (LP cb ub s a us) FS) (a':Nat) {z:Int} (hz:z=a'):Mine w (wr.setCell ⟨cb,1,none⟩ (.int .i64 z)) (LP cb ub s a' us) FS:=by
 subst hz;exact h.setCell (i:=0) (off:=1) _ rfl rfl
theorem zg9 {w wr:World} {cb ub a:Nat} {s:ByteArray} {us:List Value} {FS:List (World→Prop)} (h:Mine w wr (LP cb ub s a us) FS) (i:Nat) (u:Value):Mine w (wr.setCell ⟨ub,i,none⟩ u) (LP cb ub s a (us.set i u)) FS:=h.setCell (i:=1) (off:=i) u rfl rfl
section
variable {w wr : World} {cb ub a : Nat} {s : ByteArray} {us : List Value} {FS : List (World → Prop)}
theorem zbd (h:Mine w wr (LP cb ub s a us) FS):Row wr cb 148 [.string s,.int .i64 a]:=h.row (i:=0) rfl
theorem zfx (h:Mine w wr (LP cb ub s a us) FS):Row wr ub 117 us:=h.row (i:=1) rfl
end
def uCs (sc:ByteArray) (u h:List Int) (p:Int):List Value:=[.string sc,.string (strOfNums u),.string (strOfNums h),.int .i64 p,.slice none 0 0,.slice none 0 0]
def PlP (w:World) (cb ub:Nat) (s sc:ByteArray) (FS:List (World→Prop)) (R:Except (Nat × Int) (List Int × List Int × Int × Nat)) (r:Ending) (w':World):Prop:=match R with
 | .error q=>r = .returned (.tuple #[.int .i64 (q.1:Nat),.int .u8 q.2])∧Below w.heap.size w w'∧q.2≠0
 | .ok (u,h,p,b)=>r = .returned (.tuple #[.int .i64 0,.int .u8 0])∧Mine w w' (LP cb ub s b (uCs sc u h p)) FS
theorem PlP.bad {w w':World} {cb ub z:Nat} {k:Int} {s sc:ByteArray} {L:List Blk} {FS FS':List (World→Prop)} {R:Except (Nat × Int) (List Int × List Int × Int × Nat)} (h:R = .error (z,k)) (hb:Mine w w' L FS') (hk:k≠0):PlP w cb ub s sc FS R (.returned (.tuple #[.int .i64 (z:Nat),.int .u8 k])) w':=by
 subst h;exact ⟨rfl,hb.bw,hk⟩
theorem PlP.good {w w':World} {cb ub b:Nat} {p:Int} {u h:List Int} {s sc:ByteArray} {FS:List (World→Prop)} {R:Except (Nat × Int) (List Int × List Int × Int × Nat)} (hR:R = .ok (u,h,p,b)) (hb:Mine w w' (LP cb ub s b (uCs sc u h p)) FS):PlP w cb ub s sc FS R (.returned (.tuple #[.int .i64 0,.int .u8 0])) w':=by
 subst hR;exact ⟨rfl,hb⟩
def plcV (xs:List Int) (u:List Int) (b:Nat):Except (Nat × Int) (List Int × List Int × Int × Nat):=
 match zb3 (subL xs b (zci xs b)) with
 | none => .error (b,5)
 | some h =>
   match zh8 xs (zci xs b) with
   | .error e => .error e
   | .ok (p,c) => .ok (u,h,p,c)
theorem zv0 (xs:List Int) (a:Nat):zew xs a=match zk6 xs a with
  | .error e => .error e
  | .ok (u,b)=>plcV xs u b:=rfl
def UsrR (w:World) (cb ub:Nat) (s sc:ByteArray) (FS:List (World→Prop)) (U:Except (Nat × Int) (List Int × Nat)) (wx:World):Prop := ∃ (u:List Int) (b:Nat),b≤s.size∧Hid (U = .ok (u,b))∧Hid (Mine w wx (LP cb ub s b (uCs sc u [] 0)) FS)
theorem asc_58:Asc7 ⟨#[58,59,63]⟩:=fun j b h=>by
 have hm:=List.mem_of_getElem? h;simp only [List.mem_cons,List.not_mem_nil,or_false] at hm
 rcases hm with rfl|rfl|rfl<;>decide
theorem yb1:Asc7 ⟨#[59,63]⟩:=fun j b h=>by
 have hm:=List.mem_of_getElem? h;simp only [List.mem_cons,List.not_mem_nil,or_false] at hm
 rcases hm with rfl|rfl<;>decide
theorem yb0:Asc7 ⟨#[93]⟩:=fun j b h=>by
 have hm:=List.mem_of_getElem? h;simp only [List.mem_cons,List.not_mem_nil,or_false] at hm;subst hm;decide
theorem ziu (a:Value):(Tryz.prog.info? 146).map (·.size)=some [a].length:=show (Tryz.prog.info? 146).map (·.size)=some 1 by kernel_rfl
theorem Row.text {w:World} {cb:Nat} {s:ByteArray} {a:Int} (h:Row w cb 148 [.string s,.int .i64 a]):w.rangeAt cb 0 [.string s]:=fun j v hv=>by
 cases j with
 | zero=>simp only [List.getElem?_cons_zero,Option.some.injEq] at hv;subst hv;exact h.cell 0
 | succ j=>simp at hv
theorem zh6 {P:Program} {o:Oper} {a:Act} {w:World} {K:Act→Prop} (ty:TypeId) (x:Operand) (ho:o.op = .load ty x) (b:Nat) (hx:a.eval x = .pointer (some ⟨b,0,none⟩)) (cs:List Value) (d:TypeDesc) (hr:∀ y:BW w,y.w.rangeAt b 0 cs)
  (hu:P.underlying ty=some d) (hd:d.isRow=true) (hi:(P.info? ty).map (·.size)=some cs.length) (h:K (a.put o.dst (.agg cs.toArray))):o.quiet P a (fun w' => ∃ y:BW w,w'=y.w) K:=
 ⟨.agg cs.toArray,fun w' ⟨y,hy⟩=>by
   subst hy;unfold Oper.quietAt execOp;simp only [ho,hx,Instr.loadAt,Instr.sureAddr,Sem.run_bind,Sem.run_pure,Result.andThen_ok,run_loadVar_mid y.w b 0 ty cs d (hr y) hu hd hi]
   exact ⟨rfl,rfl⟩,h⟩
set_option maxRecDepth 100000 in
set_option maxHeartbeats 4000000 in
theorem zvz (w wr:World) (cb ub a:Nat) (s sc:ByteArray) (FS:List (World→Prop)) (H:Mine w wr (LP cb ub s a (uCs sc [] [] 0)) FS) (ha:a≤s.size) (hs:s.size≤4000000) (hC:CLS w) (hG:GM w) (hP:PT w) :
  Calls Tryz.prog 121 #[.pointer (some ⟨cb,0,none⟩),.pointer (some ⟨ub,0,none⟩)] wr (PlP w cb ub s sc FS (zew (zaa s) a)):=by
 have HM:=kd H;have HC:=kd hC;have HG:=kd hG;have HP:=kd hP;have HL:=zac s;obtain ⟨u1,u2⟩:=zbf (xs:=zaa s) (a:=a) (st:=[64]) (by rw [HL];exact ha)
 have IX:=kd (fun w=>(zwz s a 64 ha w).mono (R':=fun r w'=>r = .returned (.int .i64 (idxZ (zaa s) a 64))∧∃ q,w'=w.drewN q) fun r w' h=>⟨h.1,0,h.2.symm⟩)
 have ZE:=kd (show idxZ (zaa s) a 64=if s.size≤zaj (zaa s) a [64] then -1 else (zaj (zaa s) a [64]:Int) - a by unfold idxZ;rw [HL]);have PE:=kd (zv0 (zaa s) a)
 have UE:=kd (show zk6 (zaa s) a=if s.size≤zaj (zaa s) a [64] then .ok ([],a) else
  match zck ((zaa s).take (zaj (zaa s) a [64])) 0 a with
  | some i => .error (i,if (zaa s).getD i 0=58 then 15 else 5)
  | none=>if zaj (zaa s) a [64]=a then .error (zaj (zaa s) a [64],5) else .ok (zb2 (subL (zaa s) a (zaj (zaa s) a [64])),zaj (zaa s) a [64]+1) by rw [← HL];rfl)
 have BAD:=kd (fun w' z k' L FS' (h:zew (zaa s) a = .error (z,k')) hb hk=>PlP.bad (w:=w) (w':=w') (cb:=cb) (ub:=ub) (z:=z) (k:=k') (s:=s) (sc:=sc) (L:=L) (FS:=FS) (FS':=FS') h hb hk)
 have GOOD:=kd (fun w' u h p b (hR:zew (zaa s) a = .ok (u,h,p,b)) hb=>PlP.good (w:=w) (w':=w') (cb:=cb) (ub:=ub) (b:=b) (p:=p) (u:=u) (h:=h) (s:=s) (sc:=sc) (FS:=FS) hR hb);generalize PlP w cb ub s sc FS (zew (zaa s) a)=PP at *;generalize zew (zaa s) a=R at *
 generalize zk6 (zaa s) a=U at *;generalize zaj (zaa s) a [64]=k at *;generalize idxZ (zaa s) a 64=z at *;have k0:wr.cell? ⟨cb,0,none⟩=some (.string s):=(zbd HM.out).cell 0;have k1:wr.cell? ⟨cb,1,none⟩=some (.int .i64 a):=(zbd HM.out).cell 1
 have i1:(a:Int)≤(s.size:Int):=by omega
 rw [HL] at u2;clear H hC hG hP HL
 go_enter Tryz.func121,Tryz.ntmps121
 go_wp2_with fail
 go_quiet ((go_at_call 119;exact Calls.quiet_of (IX.out _)))
 have M1:=kd (HM.out.call (zam wr nq));clear k0 k1 HM;generalize wr.drewN nq=w1 at *;go_upto_if 28 with (fail)
 go_cut [6] (fun _ wx=>UsrR w cb ub s sc FS U wx)
 case first =>
  by_cases hk:s.size≤k
  · have Z2:=ZE.out.trans (if_pos hk)
    have U2:=kd (UE.out.trans (if_pos hk));subst Z2;clear ZE UE;go_wp2_with fail;go_meet;exact ⟨[],a,ha,U2,M1⟩
  · have Z2:=ZE.out.trans (if_neg hk)
    have U2:=kd (UE.out.trans (if_neg hk))
    have z0:decide ((0:Int)≤z)=true:=by simp;omega
    have z1:(a:Int)+z=(k:Int):=by omega
    have z2:(z == 0)=decide (k=a):=by rw [Bool.eq_iff_iff];simp;omega
    clear Z2 ZE UE;have k1:w1.cell? ⟨cb,1,none⟩=some (.int .i64 a):=(zbd M1.out).cell 1;have WR:=kd (zjl w1 cb a k 0 s (zbd M1.out) u2 hs ha (HC.out.below M1.out.bw))
    have WL:=kd (fun i (h:zck ((zaa s).take k) 0 a=some i)=>zja (xs:=zaa s) (k:=0) (a:=a) (b:=k) (by rw [zac];exact u2) h);generalize zck ((zaa s).take k) 0 a=W at *;go_wp2_with fail;clear k1;refine WR.out.mono ?_;rintro r w2 ⟨rfl,hb⟩;have M2:=kd (M1.out.call hb);clear hb M1 WR
    cases W with
    | some i =>
      rw [show wrV (some i) = .tuple #[.int .i64 i,.bool true] from rfl];obtain ⟨w1l,w2l⟩:=WL.out i rfl;have jx:=fun w=>zbe s (i:=i) (by omega) (z:=(i:Int)) rfl w;have k0:w2.cell? ⟨cb,0,none⟩=some (.string s):=(zbd M2.out).cell 0
      have E:=kd (show R = .error (i,if (zaa s).getD i 0=58 then 15 else 5) by rw [PE.out,U2.out]);generalize (zaa s).getD i 0=c at *
      by_cases hc:c=58
      · subst hc
        have E2:=kd (show R = .error (i,15) from E.out);go_wp2_with fail;exact BAD.out _ _ _ _ _ E2.out M2.out (by decide)
      · have E2:=kd (show R = .error (i,5) by rw [E.out,if_neg hc])
        have q0:(c == 58)=false:=by simpa using hc
        clear E hc;go_wp2_with fail;exact BAD.out _ _ _ _ _ E2.out M2.out (by decide)
    | none =>
      rw [show wrV none = .tuple #[.int .i64 0,.bool false] from rfl]
      by_cases hka:k=a
      · have E:=kd (show R = .error (k,5) by rw [PE.out,U2.out];dsimp only;rw [if_pos hka])
        rw [decide_eq_true hka] at z2;clear hka;go_wp2_with fail;exact BAD.out _ _ _ _ _ E.out M2.out (by decide)
      · have U3:=kd (show U = .ok (zb2 (subL (zaa s) a k),k+1) from U2.out.trans (if_neg hka))
        rw [decide_eq_false hka] at z2;have ZL:zaa (s.extract a k)=subL (zaa s) a k:=zar s a k
        have ZS:(s.extract a k).size≤4000000:=by rw [← zac,ZL];have:=(zbk (zaa s) a k).length_le;rw [zac] at this;omega
        have CT:=kd (fun w=>zgz (s.extract a k) w ZS);rw [ZL] at CT;generalize zb2 (subL (zaa s) a k)=ct at *
        have i2:(a:Int)≤(k:Int):=by omega
        have i3:(k:Int)≤(s.size:Int):=by omega
        have kl:k+1≤s.size:=by omega
        clear ZL ZS U2 hka PE WL;go_upto_region 11 with (fail);have q0:∀ x:BW w2,x.w.cell? ⟨cb,0,none⟩=some (.string s):=fun x=>(zbd M2.out).later x 0;have q1:∀ x:BW w2,x.w.cell? ⟨cb,1,none⟩=some (.int .i64 a):=fun x=>(zbd M2.out).later x 1
        refine zf7 15 (by kernel_rfl) (by kernel_rfl) ?_;simp only [List.take_succ_cons,List.take_zero,List.drop_succ_cons,List.drop_zero]
        iterate 12 go_big_quiet_step (fail)
        go_big_quiet_step (exact zcj (CT.out _))
        iterate 2 go_big_quiet_step (fail)
        refine wpQuiet_nil ?_;rintro _ ⟨x,rfl⟩;have M3:=kd (M2.out.call x.h);clear q0 q1 M2;generalize x.w=w3 at *;have f1:w3.frozen? ⟨ub,1,none⟩=false:=(zfx M3.out).frozen 1;have c1:w3.cell? ⟨ub,1,none⟩=some (.string (strOfNums [])):=(zfx M3.out).cell 1
        have M4:=kd (show Mine w (w3.setCell ⟨ub,1,none⟩ (.string (strOfNums ct))) (LP cb ub s a (uCs sc ct [] 0)) FS from zg9 M3.out 1 _);go_upto_region 12 with (fail);clear f1 c1 M3;generalize w3.setCell ⟨ub,1,none⟩ (.string (strOfNums ct))=w4 at *
        have f1:w4.frozen? ⟨cb,1,none⟩=false:=(zbd M4.out).frozen 1;have c1:w4.cell? ⟨cb,1,none⟩=some (.int .i64 a):=(zbd M4.out).cell 1;have M5:=kd (zha M4.out (k+1) (z:=(k:Int)+1) (by push_cast;rfl));go_wp2_with fail;go_meet;exact ⟨ct,k+1,kl,U3,M5⟩
 case rest =>
 rename_i KK hKK;obtain ⟨u,b,hb,HU,M⟩:=hcut;refine hKK _ _ ?_;clear hKK KK;have PE2:=kd (show R=plcV (zaa s) u b by rw [PE.out,HU.out]);clear PE UE HU IX ZE M1 u1 u2 i1 ha;obtain ⟨q1,q2⟩:=zbf (xs:=zaa s) (a:=b) (st:=[58,59,63]) (by rw [zac];exact hb)
 obtain ⟨q3,q4⟩:=zbf (xs:=zaa s) (a:=b) (st:=[93]) (by rw [zac];exact hb);obtain ⟨q5,q6⟩:=zif (xs:=zaa s) (a:=b) (by rw [zac];exact hb);rw [zac] at q2 q4 q6
 have HE:=kd (show zci (zaa s) b=if zcw (zaa s) b 91=true then min (zaj (zaa s) b [93]+1) s.size else zaj (zaa s) b [58,59,63] by rw [← zac];rfl);have UN1:=kd (fun w=>zcm s ⟨#[58,59,63]⟩ b w hs hb (by decide) (by decide) asc_58)
 have UN2:=kd (fun w=>zcm s ⟨#[93]⟩ b w hs hb (by decide) (by decide) yb0);simp only [show zaa ⟨#[58,59,63]⟩=[58,59,63] by rfl] at UN1;simp only [show zaa ⟨#[93]⟩=[93] by rfl] at UN2
 have PV:=kd (show plcV (zaa s) u b=match zb3 (subL (zaa s) b (zci (zaa s) b)) with
  | none => .error (b,5)
  | some h=>match zh8 (zaa s) (zci (zaa s) b) with
    | .error e => .error e
    | .ok (p,c) => .ok (u,h,p,c) from rfl)
 have SE:=kd (fun w wr (h:Mine w wr (LP cb ub s b (uCs sc u [] 0)) FS)=>zb4 wr cb b 91 s (zbd h));generalize zci (zaa s) b=he at *;generalize zaj (zaa s) b [58,59,63]=e58 at *;generalize zaj (zaa s) b [93]=e93 at *;generalize zcw (zaa s) b 91=s91 at *
 have k0:wc.cell? ⟨cb,0,none⟩=some (.string s):=(zbd M.out).cell 0;have k1:wc.cell? ⟨cb,1,none⟩=some (.int .i64 b):=(zbd M.out).cell 1;have RG:=kd (zbd M.out).text
 have i1:(b:Int)≤(he:Int):=by omega
 have i2:(he:Int)≤(s.size:Int):=by omega
 go_wp2_with (with_reducible refine wpList_load_mid rfl 146 (.tmp 81) rfl cb 0 rfl [.string s] _ RG.out Tryz.underlying146 rfl (ziu _) ?_);refine (UN1.out _).mono ?_;rintro _ w2 ⟨rfl,hb2⟩;have M2:=kd (M.out.call hb2);clear k0 k1 RG hb2 M
 have k0:w2.cell? ⟨cb,0,none⟩=some (.string s):=(zbd M2.out).cell 0;go_wp2_with fail;refine (SE.out _ _ M2.out).mono ?_;rintro _ _ ⟨rfl,nq3,rfl⟩;have M3:=kd (M2.out.call (zam w2 nq3));clear k0 M2;generalize w2.drewN nq3=w3 at *;go_upto_if 86 with (fail)
 go_cut [11] (fun v wx=>v = .int .i64 (he:Int)∧Hid (Mine w wx (LP cb ub s b (uCs sc u [] 0)) FS))
 case first =>
  cases s91 with
  | false =>
    have E:=kd (HE.out.trans (if_neg (by decide)));obtain rfl:=E.out;go_wp2_with fail;go_meet;exact ⟨rfl,M3⟩
  | true =>
    have E:=kd (HE.out.trans (if_pos rfl))
    have E2:min ((e93:Int)+1) (s.size:Int)=(he:Int):=by rw [E.out];omega
    go_upto_region 16 with (fail);have q0:∀ x:BW w3,x.w.cell? ⟨cb,0,none⟩=some (.string s):=fun x=>(zbd M3.out).later x 0;refine zcf (by kernel_rfl) (by kernel_rfl) ?_
    iterate 3 go_big_quiet_step (fail)
    go_big_quiet_want
    refine zh6 146 (.tmp 89) rfl cb rfl [.string s] _ (fun y=>((zbd M3.out).below y.h).text) Tryz.underlying146 rfl (ziu _) ?_;simp only [Act.put,List.setIfInBounds_toArray,List.set_cons_zero,List.set_cons_succ]
    go_big_quiet_on
    go_big_quiet_step (fail)
    go_big_quiet_step (exact zcj (UN2.out _))
    iterate 6 go_big_quiet_step (fail)
    iterate 3 go_big_quiet_step (fail)
    refine wpQuiet_nil ?_;rintro _ ⟨x,rfl⟩;have M4:=kd (M3.out.call x.h);clear q0 M3;generalize x.w=w4 at *;go_wp2_with fail;go_meet;exact ⟨rfl,M4⟩
 case rest =>
 obtain ⟨rfl,M4⟩:=hcut;clear HE SE UN1 UN2 M3 q1 q2 q3 q4;have k0:wc.cell? ⟨cb,0,none⟩=some (.string s):=(zbd M4.out).cell 0;have ZL:zaa (s.extract b he)=subL (zaa s) b he:=zar s b he
 have ZS:(s.extract b he).size≤4000000:=by rw [← zac,ZL];have:=(zbk (zaa s) b he).length_le;rw [zac] at this;omega
 have HO:=kd (zge (s.extract b he) wc ZS (HG.out.below M4.out.bw) (HP.out.below M4.out.bw));rw [ZL] at HO;clear ZL ZS;generalize zb3 (subL (zaa s) b he)=H at *;go_wp2_with fail;refine (HO.out).mono ?_;rintro _ w5 ⟨rfl,hb5⟩;have M5:=kd (M4.out.call hb5);clear k0 hb5 M4 HO
 cases H with
 | none =>
   rw [show zhf none = .tuple #[.string ⟨#[]⟩,.bool false] from rfl];have E:=kd (show R = .error (b,5) by rw [PE2.out,PV.out]);clear PE2 PV;go_wp2_with fail;exact BAD.out _ _ _ _ _ E.out M5.out (by decide)
 | some h =>
   rw [show zhf (some h) = .tuple #[.string (strOfNums h),.bool true] from rfl];have RE1:=kd (fun z k (hq:zh8 (zaa s) he = .error (z,k))=>show R = .error (z,k) by rw [PE2.out,PV.out,hq])
   have RE2:=kd (fun p c (hq:zh8 (zaa s) he = .ok (p,c))=>show R = .ok (u,h,p,c) by rw [PE2.out,PV.out,hq]);clear PE2 PV
   have PO1:=kd (fun (hq:zcw (zaa s) he 58=true)=>show zh8 (zaa s) he=if (zcd (subL (zaa s) (he+1) (zaj (zaa s) (he+1) [59,63]))).2≠0 then .error (he+1,(zcd (subL (zaa s) (he+1) (zaj (zaa s) (he+1) [59,63]))).2) else if (zcd (subL (zaa s) (he+1) (zaj (zaa s) (he+1) [59,63]))).1<1∨65535<(zcd (subL (zaa s) (he+1) (zaj (zaa s) (he+1) [59,63]))).1 then .error (he+1,3) else .ok ((zcd (subL (zaa s) (he+1) (zaj (zaa s) (he+1) [59,63]))).1,zaj (zaa s) (he+1) [59,63]) from if_pos hq)
   have PO0:=kd (fun (hq:zcw (zaa s) he 58=false)=>show zh8 (zaa s) he=if he<s.size∧zcw (zaa s) he 59=false∧zcw (zaa s) he 63=false then .error (he,5) else .ok (0,he) by rw [← zac];exact if_neg (by rw [show atL (zaa s) he 58=false from hq];decide))
   have AT:=kd (fun (hq:zcw (zaa s) he 58=true)=>show he+1≤s.size by have:=(zgk (show atL (zaa s) he 58≠false by rw [show atL (zaa s) he 58=true from hq];decide)).1;rw [zac] at this;exact this)
   have SE1:=kd (fun w wr (hh:Mine w wr (LP cb ub s he (uCs sc u h 0)) FS) c=>zb4 wr cb he c s (zbd hh));have EN:=kd (fun w wr (hh:Mine w wr (LP cb ub s he (uCs sc u h 0)) FS)=>zex wr cb he s (zbd hh));go_upto_region 20 with (fail)
   have f1:w5.frozen? ⟨ub,2,none⟩=false:=(zfx M5.out).frozen 2;have c1:w5.cell? ⟨ub,2,none⟩=some (.string (strOfNums [])):=(zfx M5.out).cell 2;have M6:=kd (show Mine w (w5.setCell ⟨ub,2,none⟩ (.string (strOfNums h))) (LP cb ub s b (uCs sc u h 0)) FS from zg9 M5.out 2 _)
   have f2:(w5.setCell ⟨ub,2,none⟩ (.string (strOfNums h))).frozen? ⟨cb,1,none⟩=false:=(zbd M6.out).frozen 1;have c2:(w5.setCell ⟨ub,2,none⟩ (.string (strOfNums h))).cell? ⟨cb,1,none⟩=some (.int .i64 b):=(zbd M6.out).cell 1;have M7:=kd (zha M6.out he (z:=(he:Int)) rfl)
   go_upto_region 21 with (fail);clear f1 c1 f2 c2 M5 M6;generalize (w5.setCell ⟨ub,2,none⟩ (.string (strOfNums h))).setCell ⟨cb,1,none⟩ (.int .i64 (he:Int))=w7 at *;go_wp2_with fail;refine (SE1.out _ _ M7.out 58).mono ?_;rintro _ _ ⟨rfl,nq8,rfl⟩;have M8:=kd (M7.out.call (zam w7 nq8))
   clear M7;generalize w7.drewN nq8=w8 at *;generalize zh8 (zaa s) he=PO at *
   cases h58:zcw (zaa s) he 58 with
   | true =>
     have PO2:=kd (PO1.out h58);have A2:=AT.out h58;obtain ⟨a1,ha1⟩:∃ a1,a1=he+1:=⟨_,rfl⟩;rw [← ha1] at PO2 A2
     have i3:(he:Int)+1=(a1:Int):=by omega
     obtain ⟨q1,q2⟩:=zbf (xs:=zaa s) (a:=a1) (st:=[59,63]) (by rw [zac];exact A2);rw [zac] at q2;have UN:=kd (fun w=>zcm s ⟨#[59,63]⟩ a1 w hs A2 (by decide) (by decide) yb1);simp only [show zaa ⟨#[59,63]⟩=[59,63] by rfl] at UN;generalize zaj (zaa s) a1 [59,63]=k at *
     have ZL:zaa (s.extract a1 k)=subL (zaa s) a1 k:=zar s a1 k;have NU:=kd (fun w=>zf8 (s.extract a1 k) w);rw [ZL] at NU;have DV:=yai (subL (zaa s) a1 k);generalize zcd (subL (zaa s) a1 k)=p at *;obtain ⟨n,er⟩:=p
     rw [show decV (n,er) = .tuple #[.int .i64 n,.int .u8 er] from rfl] at NU;dsimp only at DV PO2;clear PO1 PO0 AT EN SE1 h58 ZL ha1 q5 q6;have k1:w8.cell? ⟨cb,1,none⟩=some (.int .i64 he):=(zbd M8.out).cell 1;have f1:w8.frozen? ⟨cb,1,none⟩=false:=(zbd M8.out).frozen 1
     have M9:=kd (zha M8.out a1 (z:=(a1:Int)) rfl);go_upto_region 23 with (fail);clear k1 f1 M8 i3;generalize w8.setCell ⟨cb,1,none⟩ (.int .i64 (a1:Int))=w9 at *;have q0:∀ x:BW w9,x.w.cell? ⟨cb,0,none⟩=some (.string s):=fun x=>(zbd M9.out).later x 0
     have q1':∀ x:BW w9,x.w.cell? ⟨cb,1,none⟩=some (.int .i64 a1):=fun x=>(zbd M9.out).later x 1;refine zcf (by kernel_rfl) (by kernel_rfl) ?_
     iterate 7 go_big_quiet_step (fail)
     go_big_quiet_want
     refine zh6 146 (.tmp 139) rfl cb rfl [.string s] _ (fun y=>((zbd M9.out).below y.h).text) Tryz.underlying146 rfl (ziu _) ?_;simp only [Act.put,List.setIfInBounds_toArray,List.set_cons_zero,List.set_cons_succ]
     go_big_quiet_on
     iterate 4 go_big_quiet_step (fail)
     go_big_quiet_step (exact zcj (UN.out _))
     iterate 2 go_big_quiet_step (fail)
     refine wpQuiet_nil ?_;rintro _ ⟨x,rfl⟩;have MA:=kd (M9.out.call x.h);clear q0 q1' M9 UN;generalize x.w=wa at *;have k0:wa.cell? ⟨cb,0,none⟩=some (.string s):=(zbd MA.out).cell 0;have k1:wa.cell? ⟨cb,1,none⟩=some (.int .i64 a1):=(zbd MA.out).cell 1
     have i4:(a1:Int)≤(k:Int):=by omega
     have i5:(k:Int)≤(s.size:Int):=by omega
     go_wp2_with fail;refine (NU.out _).mono ?_;rintro _ _ ⟨rfl,rfl⟩;clear k0 k1 NU
     by_cases he0:er=0
     · subst he0
       clear DV
       by_cases hn1:n<1
       · have d1:decide (n<1)=true:=by simp [hn1]
         have E:=kd (RE1.out a1 3 (by rw [PO2.out,if_neg (by simp),if_pos (.inl hn1)]));clear PO2 hn1 RE1 RE2;go_wp2_with fail;exact BAD.out _ _ _ _ _ E.out MA.out (by decide)
       · have d1:decide (n<1)=false:=by simp;omega
         by_cases hn2:65535<n
         · have d2:decide (65535<n)=true:=by simp [hn2]
           have E:=kd (RE1.out a1 3 (by rw [PO2.out,if_neg (by simp),if_pos (.inr hn2)]));clear PO2 hn1 hn2 RE1 RE2;go_wp2_with fail;exact BAD.out _ _ _ _ _ E.out MA.out (by decide)
         · have d2:decide (65535<n)=false:=by simp;omega
           have E:=kd (RE2.out n k (by rw [PO2.out,if_neg (by simp),if_neg (by omega)]));clear PO2 hn1 hn2 RE1 RE2;go_upto_region 29 with (fail);have f1:wa.frozen? ⟨ub,3,none⟩=false:=(zfx MA.out).frozen 3;have c1:wa.cell? ⟨ub,3,none⟩=some (.int .i64 0):=(zfx MA.out).cell 3
           have MB:=kd (show Mine w (wa.setCell ⟨ub,3,none⟩ (.int .i64 n)) (LP cb ub s a1 (uCs sc u h n)) FS from zg9 MA.out 3 _);have f2:(wa.setCell ⟨ub,3,none⟩ (.int .i64 n)).frozen? ⟨cb,1,none⟩=false:=(zbd MB.out).frozen 1
           have c2:(wa.setCell ⟨ub,3,none⟩ (.int .i64 n)).cell? ⟨cb,1,none⟩=some (.int .i64 a1):=(zbd MB.out).cell 1;have MC:=kd (zha MB.out k (z:=(k:Int)) rfl);go_wp2_with fail;exact GOOD.out _ _ _ _ _ E.out MC.out
     · have d0:(er == 0)=false:=by simpa using he0
       have E:=kd (RE1.out a1 er (by rw [PO2.out,if_pos he0]));clear PO2 DV RE1 RE2;have HN:=kd he0;clear he0;go_wp2_with fail;exact BAD.out _ _ _ _ _ E.out MA.out HN.out
   | false =>
     have PO2:=kd (PO0.out h58);clear PO1 PO0 AT h58;go_wp2_with fail;refine (EN.out _ _ M8.out).mono ?_;rintro _ _ ⟨rfl,nq9,rfl⟩;have M9:=kd (M8.out.call (zam w8 nq9));clear M8 EN;generalize w8.drewN nq9=w9 at *
     have HEq:=kd (show decide (s.size≤he)=true→R = .ok (u,h,0,he) from fun h=>RE2.out 0 he (by rw [PO2.out,if_neg (fun hh=>by have:=of_decide_eq_true h;omega)]))
     have H59:=kd (show zcw (zaa s) he 59=true→R = .ok (u,h,0,he) from fun h=>RE2.out 0 he (by rw [PO2.out,if_neg (fun hh=>by rw [hh.2.1] at h;cases h)]))
     have H63:=kd (show zcw (zaa s) he 63=true→R = .ok (u,h,0,he) from fun h=>RE2.out 0 he (by rw [PO2.out,if_neg (fun hh=>by rw [hh.2.2] at h;cases h)]))
     have HNO:=kd (show decide (s.size≤he)=false→zcw (zaa s) he 59=false→zcw (zaa s) he 63=false→R = .error (he,5) from fun h1 h2 h3=>RE1.out he 5 (by rw [PO2.out,if_pos ⟨by have:=of_decide_eq_false h1;omega,h2,h3⟩]));have S59:=kd (fun w wr hh=>SE1.out w wr hh 59)
     have S63:=kd (fun w wr hh=>SE1.out w wr hh 63);clear PO2 RE1 RE2 SE1;generalize decide (s.size≤he)=de at *;generalize zcw (zaa s) he 59=s59 at *;generalize zcw (zaa s) he 63=s63 at *
     cases de with
     | true =>
       have E:=kd (HEq.out rfl);clear HEq H59 H63 HNO S59 S63;go_wp2_with fail;exact GOOD.out _ _ _ _ _ E.out M9.out
     | false =>
       go_wp2_with fail;refine (S59.out _ _ M9.out).mono ?_;rintro _ _ ⟨rfl,nqa,rfl⟩;have MA:=kd (M9.out.call (zam w9 nqa));clear M9 S59 HEq;generalize w9.drewN nqa=wa at *
       cases s59 with
       | true =>
         have E:=kd (H59.out rfl);clear H59 H63 HNO S63;go_wp2_with fail;exact GOOD.out _ _ _ _ _ E.out MA.out
       | false =>
         go_wp2_with fail;refine (S63.out _ _ MA.out).mono ?_;rintro _ _ ⟨rfl,nqb,rfl⟩;have MB:=kd (MA.out.call (zam wa nqb));clear MA S63 H59;generalize wa.drewN nqb=wb at *
         cases s63 with
         | true =>
           have E:=kd (H63.out rfl);clear H63 HNO;go_wp2_with fail;exact GOOD.out _ _ _ _ _ E.out MB.out
         | false =>
           have E:=kd (show R = .error (he,5) by have h:=HNO.out;simpa using h);clear H63 HNO;have k1:wb.cell? ⟨cb,1,none⟩=some (.int .i64 he):=(zbd MB.out).cell 1;go_wp2_with fail;exact BAD.out _ _ _ _ _ E.out MB.out (by decide)
end Go.Proofs.YtfnmkedncfdceaaGreatDoor
