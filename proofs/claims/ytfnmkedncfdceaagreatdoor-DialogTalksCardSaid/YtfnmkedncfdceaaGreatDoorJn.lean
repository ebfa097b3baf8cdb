/- What 'd, e := dialog.Receive(..)', or Response, leaves in a drawn region that makes a variable. And what stands behind it. -/
import Derived.Test.YtfnmkedncfdceaaGreatDoorYp
import Derived.Test.YtfnmkedncfdceaaGreatDoorKb
set_option linter.unusedVariables false
set_option linter.unusedSimpArgs false
namespace Go.Proofs.YtfnmkedncfdceaaGreatDoor
open Go.RowKit
theorem yfb (a:Addr) (n:Nat):(a.add n).block=a.block:=by unfold Addr.add;split<;>rfl
section
variable {P:Program} {ops:Array Oper} {Q:Exit→Act→World→Prop}
theorem yfr {tmps:Array Value} {g:Nat} {og:Oper} {d:Tmp} {b:Bool} (ho:ops[g]? = some og) (hd:og.dst=some d) (h:tmps.getD d undef = .bool b):yielded ops tmps g=some b:=by
 unfold yielded;rw [ho];show (match (Option.bind (some og) (·.dst)).bind (tmps[·]?) with|some (.bool b)=>some b|_=>none)=some b;rw [Option.bind_some,hd,Option.bind_some];rw [Array.getD_eq_getD_getElem?] at h
 cases hq:tmps[d]? with
 | none=>rw [hq] at h;cases h
 | some v =>
   rw [hq] at h;have hv:v = .bool b:=h;subst hv
   rfl
theorem ye0 {i g:Nat} {o og:Oper} {d:Tmp} {b:Bool} {a:Act} {w:World} {K:Act→World→Prop} (ho:ops[i]? = some o) (hg:o.guard=some (g,b)) (hog:ops[g]? = some og) (hd:og.dst=some d) (hv:a.eval (.tmp d) = .bool b) (h:o.wp P a w K Q):wpOp P ops Q i K a w:=by
 unfold wpOp;rw [ho];dsimp only;rw [if_pos (by simp [Region.wanted,hg,yfr hog hd hv])];exact Or.inl h
theorem yfv (hm:P.follows .mixedOrders=true) (hA:ahead ops=true) (A:Nat→World→Value→Prop) {id:Nat} {a:Act} {w:World} (hS:ssa ops a.tmps.size=true)
  (hAm:∀ i v W W',Below W.heap.size W W'→A i W v→A i W' v)
  (hstep:∀ (i:Nat) (o:Oper),ops[i]? = some o→∀ a' W,Below w.heap.size w W→Fr ops a a'→zeb ops A o a' W→wpOp P ops Q i (fun a2 W2 => ∃ v,a2=a'.put o.dst v∧Below W.heap.size W W2∧(∀ d,o.dst=some d→A i W2 v)) a' W)
  (hend:∀ a' W,Fr ops a a'→Below w.heap.size w W→(∀ (i:Nat) (o:Oper) (d:Tmp),ops[i]? = some o→o.dst=some d→A i W (a'.tmps.getD d undef))→Q .normal a' W) :
  (Code.region id ops true).wp P Q a w:=by
 refine zdo hm hA A (fun _ _ W=>Below w.heap.size w W) hS zBr.drew (fun L a' W i o hI ho hL hdep => ?_) (fun L a' W hfr hall hL hB=>hend a' W hfr hB hall);refine wpOp_mono (fun a2 W2 h => ?_) (hstep i o ho a' W hI.2.2 hI.1 (fun e he hb oj d h1 h2=>hI.2.1 e.on oj d h1 h2 (hdep e he hb)))
 obtain ⟨v,rfl,hb,hv⟩:=h;exact ⟨v,rfl,fun j u h=>hAm j u _ _ hb h,hv,zao hI.2.2 hb⟩
end
section
variable {P:Program} {o:Oper} {a:Act} {w:World} {next:Act→World→Prop} {Q:Exit→Act→World→Prop}
theorem ygn (T:TypeId) (x:Operand) (ho:o.op = .unOp .not T x) (b:Bool) (hx:a.eval x = .bool b) (hn:next (a.put o.dst (.bool !b)) w):o.wp P a w next Q:=
 zdq _ (by unfold execOp;simp only [ho,hx,Sem.run_bind,Op.unary,Sem.run_pure,Result.andThen_ok]) hn
end
theorem yf6:∀ n:Nat,(decL n).all zbc=true∧valL (decL n)=n∧1≤(decL n).length:=by
 intro n
 induction n using Nat.strongRecOn with
 | _ n ih =>
 by_cases h:n<10
 · rw [zsb h]
   refine ⟨?_,?_,by simp⟩
   · simp [zbc];omega
   · simp [valL];omega
 · obtain ⟨h1,h2,h3⟩:=ih (n / 10) (by omega)
   rw [dd_big h];refine ⟨?_,?_,by simp⟩
   · rw [List.all_append,h1]
     simp [zbc];omega
   · rw [zno,h2]
     omega
theorem yfa {c:Int} (h:zbc c=true):isBlank c=false:=by
 unfold zbc at h;unfold isBlank;simp at h ⊢;omega
theorem yfz {a b:Int} (m:List Int) (ha:isBlank a=false) (hb:isBlank b=false):zca (a::(m++[b]))=a::(m++[b]):=by
 unfold zca zi7 zgp;rw [List.dropWhile_cons,if_neg (by rw [ha];decide)]
 rw [← List.cons_append,List.reverse_append,List.reverse_singleton,List.singleton_append,List.dropWhile_cons,if_neg (by rw [hb];decide),← List.singleton_append,List.reverse_append,List.reverse_reverse,List.reverse_singleton]

theorem yf1 {l:List Int} (h:zc5 l=true):l≠[]∧∀ c∈l,zbp c=true:=by
 unfold zc5 at h;rw [Bool.and_eq_true,Bool.not_eq_true',List.isEmpty_eq_false_iff,beq_iff_eq] at h;refine ⟨h.1,?_⟩;have h2:=h.2;unfold zag at h2;rw [List.drop_zero,Nat.zero_add] at h2;have h3:l.takeWhile zbp=l:=(List.takeWhile_sublist zbp).eq_of_length h2;intro c hc
 have h4:(l.takeWhile zbp).all zbp=true:=List.all_takeWhile;rw [h3] at h4;exact List.all_eq_true.1 h4 c hc
theorem yfl {f:Int→Bool} {p z r:List Int} (hz:∀ c∈z,f c=true) (hr:r=[]∨f (r.getD 0 0)=false):zag f (p++(z++r)) p.length=p.length+z.length:=by
 unfold zag;rw [List.drop_left,ze7 hz hr]
theorem yf0 {c:Int} (h:zbp c=true):isBlank c=false∧c≠34∧c≠91∧c≠59∧c≠61:=by
 refine ⟨?_,?_,?_,?_,?_⟩
 · by_cases hb:isBlank c=true
   · unfold isBlank at hb
     rw [Bool.or_eq_true,beq_iff_eq,beq_iff_eq] at hb
     rcases hb with rfl|rfl<;>cases h
   · simpa using hb
 all_goals (rintro rfl;cases h)
theorem tok_nb {m:List Int} (h:zc5 m=true):∀ c∈m,isBlank c=false:=fun c hc=>(yf0 ((yf1 h).2 c hc)).1
theorem ygj (n:Nat) (hn:n≤2147483647):zcd (decL n)=((n:Int),0):=by
 obtain ⟨h1,h2,h3⟩:=yf6 n;rw [yaj h3 (yeg n 9 (by omega)) h1 (by rw [h2];omega),h2]
theorem yf7 (n:Nat) (hn:n≤2147483647) {m:List Int} (hm:zc5 m=true):zlb (decL n++32::m) = .ok ((n:Int),m):=by
 have hne:=(yf1 hm).1;have hb:=tok_nb hm;obtain ⟨hd1,_,hd3⟩:=yf6 n
 have htrim:zca (decL n++32::m)=decL n++32::m:=by
  have e:m=m.dropLast++[m.getLast hne]:=(List.dropLast_concat_getLast hne).symm
  match h:decL n,hd3 with
  | c::D,_ =>
    rw [h,List.all_cons,Bool.and_eq_true] at hd1
    conv=>lhs;rw [e]
    rw [show c::D++32::(m.dropLast++[m.getLast hne])=c::((D++32::m.dropLast)++[m.getLast hne]) by simp,yfz _ (yfa hd1.1) (hb _ (List.getLast_mem hne))]
    conv=>rhs;rw [e]
    simp
 have h0:isBlank (m.getD 0 0)=false:=by
  match m,hne with
  | c::r,_=>exact hb c (by simp)
 have s1:zaj (decL n++32::m) 0 [32,9]=(decL n).length:=by
  have:=yfl (f:=fun c => !([32,9]:List Int).contains c) (p:=[]) (z:=decL n) (r:=32::m) (fun c hc=>by
   have h:=yfa (List.all_eq_true.1 hd1 c hc);unfold isBlank at h;simp at h ⊢
   exact h) (.inr rfl)
  simpa [zaj] using this
 have s2:zag isBlank (decL n++32::m) (decL n).length=(decL n).length+1:=by
  have:=yfl (f:=isBlank) (p:=decL n) (z:=[32]) (r:=m) (fun c hc=>by rw [List.mem_singleton.1 hc];rfl) (.inr h0)
  simpa using this
 unfold zlb zgf;rw [htrim];dsimp only;rw [s1,s2,List.take_left,ygj n hn,show (decL n++32::m).drop ((decL n).length+1)=m by rw [← List.drop_drop,List.drop_left];rfl];dsimp only;rw [if_neg (by decide),if_neg (by rw [hm];decide)]

def tkD (k:Bool) (n r i:Int):Dlg:=match k with
 | false=>⟨2,false,[99,49],[121],[120],[115,105,112,58,98,64,98,46,101,120,97,109,112,108,101],[115,105,112,58,97,64,97,46,101,120,97,109,112,108,101],[115,105,112,58,97,64,49,46,50,46,51,46,52],[SP2,SP3],n,r,i⟩
 | true=>⟨2,true,[99,49],[120],[121],[115,105,112,58,97,64,97,46,101,120,97,109,112,108,101],[115,105,112,58,98,64,98,46,101,120,97,109,112,108,101],[115,105,112,58,98,64,53,46,54,46,55,46,56],[SP3,SP2],n,r,i⟩
theorem ygo:viaK VIA2=0:=by kernel_rfl
theorem tk_may {k:Bool} {n r i:Int} {m:List Int} (hm:zc5 m=true) (hc:m≠zho) (n0:0≤n) (n1:n≤1000) (i0:0≤i) (i1:i≤1000):zc1 (tkD k n r i) m VIA2=if m=ACKT∧i=0 then 9 else 0:=by
 have e1:(tkD k n r i).ls=n:=by cases k<;>rfl
 have e2:(tkD k n r i).iq=i:=by cases k<;>rfl
 have e3:(tkD k n r i).st=2:=by cases k<;>rfl
 have r1:zfd n=true:=by unfold zfd;simp;omega
 have r2:zfd i=true:=by unfold zfd;simp;omega
 have o:zdw (tkD k n r i)=true:=by unfold zdw;rw [e3];rfl
 unfold zc1;rw [e1,e2,e3,r1,r2,o,hm,ygo,if_neg (by simp [hc]),if_neg (by decide),if_neg (by decide),if_neg (by simp)]
 by_cases ha:m=ACKT∧i=0
 · rw [if_pos ha,if_pos ha]
 · rw [if_neg ha,if_neg ha,if_neg (by omega)]
def tkM (k:Bool) (n r i num:Int) (m:List Int):Msg:=⟨m,(wayL (tkD k n r i)).1,0,[],zpx (tkD k n r i) m VIA2 num⟩
theorem yfj (k:Bool) (n r i:Int) (num:Nat) (hn:num≤2147483647) {m:List Int} (hm:zc5 m=true) (hb:By m):zan (zpx (tkD k n r i) m VIA2 num)=((num:Int),m,true):=by
 have e:val0 (zpx (tkD k n r i) m VIA2 num) zdl=zaa (strOfNums (decL num++32::m)):=by cases k<;>kernel_rfl
 unfold zan
 have hB:By (decL num++32::m):=fun x hx=>by
  rcases List.mem_append.1 hx with hx|hx
  · exact zqu _ x hx
  · rcases List.mem_cons.1 hx with rfl|hx
    · decide
    · exact hb x hx
 rw [e,zal hB];unfold zlc;rw [yf7 num hn hm]
theorem ygb (k:Bool) (n r i num:Int) (m:List Int):zba (zpx (tkD k n r i) m VIA2 num)=([],false):=by cases k<;>kernel_rfl
theorem ye6 (k:Bool) (n r i num n' r' i':Int) (m:List Int):za4 (tkD (!k) n' r' i') (tkM k n r i num m)=true:=by cases k<;>kernel_rfl
theorem yf2 (k:Bool) (n r i num n' r' i':Int) (m:List Int):za4 (tkD k n' r' i') (tkM k n r i num m)=false:=by cases k<;>kernel_rfl
theorem ye8 (k:Bool) (n r i n' r' i':Int) (num:Nat) (hn:num≤2147483647) {m:List Int} (hm:zc5 m=true) (hb:By m) (hc:m≠zho) (hy:m≠BYET) :
  zbl (tkD (!k) n' r' i') (tkM k n r i num m)=if m=ACKT then .ok (tkD (!k) n' r' i') else if (num:Int)≤r' then .error 9 else .ok (tkD (!k) n' num i'):=by
 have hs:zan (tkM k n r i num m).hs=((num:Int),m,true):=yfj k n r i num hn hm hb
 have o:zdw (tkD (!k) n' r' i')=true:=by cases k<;>rfl
 have e1:(tkD (!k) n' r' i').rq=r':=by cases k<;>rfl
 have hcont:zba (tkM k n r i num m).hs=([],false):=ygb k n r i num m;unfold zbl;rw [hs,ye6,o,e1];dsimp only;rw [if_neg (show ¬ ((tkM k n r i (num:Int) m).co≠0∨true=false∨m≠(tkM k n r i (num:Int) m).me) by simp [tkM]),if_neg (by decide),if_neg (by decide)]
 by_cases ha:m=ACKT
 · rw [if_pos (.inl ha),if_pos ha]
 · rw [if_neg (by simp [ha,hc]),if_neg ha]
   by_cases hr:(num:Int)≤r'
   · rw [if_pos hr,if_pos hr]
   · rw [if_neg hr,if_neg hr]
     have hmv:zgi { tkD (!k) n' r' i' with rq:=(num:Int) } (tkM k n r i num m).hs=tkD (!k) n' num i':=by
      unfold zgi;rw [hcont]
      cases k<;>rfl
     rw [hmv]
     split
     · rfl
     · first
        | (rw [if_neg hy];cases k<;>rfl)
        | (cases k<;>rfl)
theorem yfs (k:Bool) (n r i:Int) {m:List Int} (hm:zc5 m=true) (hc:m≠zho) (n0:0≤n) (n1:n≤1000) (i0:0≤i) (i1:i≤1000) :
  zcb (tkD k n r i) m VIA2=if m=ACKT∧i=0 then .error 9 else .ok (if m=ACKT then tkD k n r i else tkD k (n+1) r (if m=INVT then n+1 else i),tkM k n r i (if m=ACKT then i else n+1) m):=by
 unfold zcb;rw [tk_may hm hc n0 n1 i0 i1]
 by_cases ha:m=ACKT∧i=0
 · rw [if_pos ha,if_pos (show (9:Int)≠0 by decide),if_pos ha]
 · rw [if_neg ha,if_neg (show ¬ (0:Int)≠0 by decide),if_neg ha]
   congr 2
   · unfold zvu
     by_cases h2:m=ACKT
     · subst h2
       cases k<;>rfl
     · rw [if_neg h2,if_neg h2]
       cases k<;>rfl
   · unfold zjy tkM
     cases k<;>rfl


def AC (w0:World) (d:Dlg) (W:World) (v:Value):Prop := ∃ A c,v = .tuple #[.agg (dgC d A c).toArray,.int .u8 0]∧SF w0 A c d.rs W
def VC (d:Dlg) (v:Value) (b:Nat):Prop := ∀ A c,v = .tuple #[.agg (dgC d A c).toArray,.int .u8 0]→VS (strs d.rs).length A b
section
variable {w0 : World} {d : Dlg} {W W' : World} {v : Value} {b n : Nat} {cs : List Value}
theorem AC.below (h:AC w0 d W v) (hb:Below W.heap.size W W'):AC w0 d W' v:=by
 obtain ⟨A,c,rfl,s⟩:=h;exact ⟨A,c,rfl,s.step hb⟩
theorem AC.off (h:AC w0 d W v) (hv:VC d v b) (hs:W.heap.size≤W'.heap.size) (hh:∀ b',b'≠b→W'.heap[b']? = W.heap[b']?):AC w0 d W' v:=by
 obtain ⟨A,c,rfl,s⟩:=h;exact ⟨A,c,rfl,s.nil,s.fresh,s.cap,zmq s.r (hv A c rfl) hs hh⟩
theorem AC.inj {A B:Option Addr} {c e:Nat} (he:(.tuple #[.agg (dgC d A c).toArray,.int .u8 0]:Value) = .tuple #[.agg (dgC d B e).toArray,.int .u8 0]):A=B:=by
 injection he with he
 injection he with he
 injection he with h1 h2
 exact zkv h1
theorem AC.new (h:AC w0 d W v):VC d v W.heap.size:=by
 obtain ⟨A,c,rfl,s⟩:=h;intro B e he;obtain rfl:=AC.inj he;exact zq9 s.r
theorem CrP.at {w W2:World} {e:Ending} {R:Except Int Dlg} (hR:R = .ok d) (h:CrP W R e W2) (hb:Below w.heap.size w W):∃ v,e = .returned v∧Below W.heap.size W W2∧AC w d W2 v∧∀ b,b<W.heap.size→VC d v b:=by
 subst hR;obtain ⟨A,c,rfl,hB,s⟩:=h;refine ⟨_,rfl,hB,⟨A,c,rfl,s.base hb⟩,fun b hlt B e he => ?_⟩;obtain rfl:=AC.inj he;exact zra (fun b o x e=>(s.fresh b o x e).1) hlt
end

structure TS where
 n:Bool→Nat
 i:Bool→Nat
 A:Bool→Option Addr
 c:Bool→Nat
def tsD (s:TS) (k:Bool):Dlg:=tkD k (s.n k) (s.n (!k)) (s.i k)
def tsC1 (s:TS) (k:Bool):List Value:=dgC (tsD s k) (s.A k) (s.c k)
def tsC (s:TS):List Value:=tsC1 s false++tsC1 s true
def ofB (k:Bool):Nat:=match k with
 | false=>0
 | true=>12
def MT (m:List Int):Prop:=m=INVT∨m=UPDT∨m=INFOT∨m=ACKT
theorem ye3 {m:List Int} (h:MT m):zc5 m=true∧By m∧m≠zho∧m≠BYET∧m.length≤100:=by
 rcases h with rfl|rfl|rfl|rfl<;>exact ⟨by decide,by unfold By;decide,by decide,by decide,by decide⟩
def tsN (s:TS) (k:Bool) (m:List Int) (A:Bool→Option Addr) (c:Bool→Nat):TS:=⟨fun b=>if b=k∧m≠ACKT then s.n k+1 else s.n b,fun b=>if b=k∧m=INVT then s.n k+1 else s.i b,A,c⟩
def ye1 (s:TS) (k:Bool) (m:List Int):Nat:=if m=ACKT then s.i k else s.n k+1
def tsM (s:TS) (k:Bool) (m:List Int):Msg:=tkM k (s.n k) (s.n (!k)) (s.i k) (ye1 s k m) m
theorem ygd {s:TS} {k:Bool} {m:List Int} (hm:MT m) (h1:s.n k≤1000) (h2:s.i k≤1000) (A:Bool→Option Addr) (c:Bool→Nat):zcb (tsD s k) m VIA2=if m=ACKT∧s.i k=0 then .error 9 else .ok (tsD (tsN s k m A c) k,tsM s k m):=by
 obtain ⟨t1,t2,t3,t4,_⟩:=ye3 hm;unfold tsD;rw [yfs k _ _ _ t1 t3 (by omega) (by omega) (by omega) (by omega)]
 by_cases hE:m=ACKT∧s.i k=0
 · rw [if_pos hE,if_pos ⟨hE.1,by rw [hE.2];rfl⟩]
 · rw [if_neg hE,if_neg (fun h=>hE ⟨h.1,by have:=h.2;omega⟩)]
   have hne:(!k)≠k:=by cases k<;>decide
   unfold tsM ye1 tsN
   by_cases ha:m=ACKT
   · have hni:m≠INVT:=by rw [ha];decide
     simp [ha,show ACKT≠INVT by decide]
   · by_cases hi:m=INVT
     · simp [ha,hi,hne,show INVT≠ACKT by decide]
     · simp [ha,hi,hne]
theorem yge {s:TS} {k:Bool} {m:List Int} (hm:MT m) (h1:s.n k≤1000) (h2:s.i k≤1000) (A:Bool→Option Addr) (c:Bool→Nat):zbl (tsD s (!k)) (tsM s k m) = .ok (tsD (tsN s k m A c) (!k)):=by
 obtain ⟨t1,t2,t3,t4,_⟩:=ye3 hm
 have hn:ye1 s k m≤2147483647:=by unfold ye1;split<;>omega
 have hkk:(!(!k))=k:=Bool.not_not k
 have hne:(!k)≠k:=by cases k<;>decide
 unfold tsM;have h:=ye8 k (s.n k) (s.n (!k)) (s.i k) (s.n (!k)) (s.n k) (s.i (!k)) (ye1 s k m) hn t1 t2 t3 t4
 have e:tsD s (!k)=tkD (!k) (s.n (!k)) (s.n k) (s.i (!k)):=by unfold tsD;rw [hkk]
 rw [e,h];unfold tsD tsN;dsimp only
 by_cases ha:m=ACKT
 · rw [if_pos ha,hkk]
   simp [ha,hne,show ACKT≠INVT by decide]
 · have hnum:ye1 s k m=s.n k+1:=by unfold ye1;rw [if_neg ha]
   rw [if_neg ha,hnum,if_neg (by omega),hkk];simp [ha,hne]
theorem yft {s:TS} {k:Bool} {m:List Int} (hm:MT m) (h1:s.n k≤1000) (h2:s.i k≤1000) (A:Bool→Option Addr) (c:Bool→Nat):zbl (tsD (tsN s k m A c) (!k)) (tsM s k m)=if m=ACKT then .ok (tsD (tsN s k m A c) (!k)) else .error 9:=by
 obtain ⟨t1,t2,t3,t4,_⟩:=ye3 hm
 have hn:ye1 s k m≤2147483647:=by unfold ye1;split<;>omega
 have hkk:(!(!k))=k:=Bool.not_not k
 have hne:(!k)≠k:=by cases k<;>decide
 unfold tsM;have h:=ye8 k (s.n k) (s.n (!k)) (s.i k) ((tsN s k m A c).n (!k)) ((tsN s k m A c).n k) ((tsN s k m A c).i (!k)) (ye1 s k m) hn t1 t2 t3 t4
 have e:tsD (tsN s k m A c) (!k)=tkD (!k) ((tsN s k m A c).n (!k)) ((tsN s k m A c).n k) ((tsN s k m A c).i (!k)):=by unfold tsD;rw [hkk]
 rw [e,h]
 by_cases ha:m=ACKT
 · rw [if_pos ha,if_pos ha]
 · have hnum:ye1 s k m=s.n k+1:=by unfold ye1;rw [if_neg ha]
   rw [if_neg ha,if_neg ha,hnum,if_pos];unfold tsN;simp [ha]
theorem ygc {s:TS} {k:Bool} {m:List Int} (hm:MT m) (h1:s.n k≤1000) (h2:s.i k≤1000):zan (tsM s k m).hs=(((ye1 s k m:Nat):Int),m,true):=by
 obtain ⟨t1,t2,_⟩:=ye3 hm
 exact yfj k (s.n k) (s.n (!k)) (s.i k) (ye1 s k m) (by unfold ye1;split<;>omega) t1 t2
theorem ygf (s:TS) (k:Bool) (m:List Int):za4 (tsD s (!k)) (tsM s k m)=true∧za4 (tsD s k) (tsM s k m)=false:=
 ⟨ye6 k _ _ _ _ _ _ _ m,yf2 k _ _ _ _ _ _ _ m⟩
theorem yfi (s:TS) (k:Bool):(tsC1 s k).length=12:=rfl
theorem yf8 {w:World} {g:Nat} {T:TypeId} {s:TS} (h:Row w g T (tsC s)) (k:Bool):w.rangeAt g (ofB k) (tsC1 s k):=by
 cases k
 · exact zmm (pre:=[]) (cs:=tsC1 s false) (post:=tsC1 s true) h
 · exact zmm (pre:=tsC1 s false) (cs:=tsC1 s true) (post:=[]) (by rw [List.append_nil];exact h)
def mixB (k:Bool) (x y:List Value):List Value:=match k with
 | false=>x++y
 | true=>y++x
theorem yfk {w:World} {b:Nat} {T:TypeId} {vs:List Value} (h:Row w b T vs) {o n:Nat} (hn:o+n≤vs.length):w.there b o n:=fun j hj=>by
 rw [h.cell (o+j),List.getElem?_eq_getElem (by omega)];exact ⟨rfl,h.frozen _⟩
theorem yfm {w:World} {b:Nat} {T:TypeId} {x y:List Value} {k:Bool} (h:Row w b T (mixB k x y)) (us:List Value) (hx:x.length=12) (hy:y.length=12) (hu:us.length=12):Row (w.setCells b (ofB k) us) b T (mixB k us y):=by
 cases k
 · have h1:=Row.setCells us x [] y w h (by rw [hx,hu])
   exact h1
 · have h1:=Row.setCells us x y [] w (by rw [List.append_nil];exact h) (by rw [hx,hu])
   rw [List.append_nil,hy] at h1;exact h1
theorem ygt (s:TS) (k:Bool):tsC s=mixB k (tsC1 s k) (tsC1 s (!k)):=by cases k<;>rfl
theorem yfo (k:Bool) (x y:List Value):mixB (!k) x y=mixB k y x:=by cases k<;>rfl
theorem yfp {k:Bool} {x y:List Value} (hx:x.length=12) (hy:y.length=12):(mixB k x y).length=24:=by
 cases k<;>simp [mixB,hx,hy]
theorem ygm (k:Bool):ofB k+12≤24:=by cases k<;>decide
theorem yfu {P:Program} {ops:Array Oper} {Q:Exit→Act→World→Prop} (hm:P.follows .mixedOrders=true) (hA:ahead ops=true) (A:Nat→World→Value→Prop) (k:Bool) (s1 o1 j1 s2 o2 j2:Nat) (p1 q1 p2 q2:Tmp) (b:Nat) (T ty:TypeId) (X Y X0 Y0:List Value) {id:Nat} {a:Act} {w:World} (hS:ssa ops a.tmps.size=true)
  {w0:World} {L:List Blk} {FS:List (World→Prop)} (M:Mine w0 w ((b,T,mixB k X0 Y0)::L) FS) (lX0:X0.length=12) (lY0:Y0.length=12) (lX:X.length=12) (lY:Y.length=12) (h12:s1≠s2)
  (oS1 oB1 oJ1 oS2 oB2 oJ2:Oper) (a1:ops[s1]? = some oS1) (a2:oS1.op = .store ty (.tmp p1) (.tmp q1)) (a3:oS1.dst=none) (a4:oS1.guard=none) (a5:(oS1.after.toList.any fun e=>Region.binds .any e && e.on == o1)=true) (a6:(oS1.after.toList.any fun e=>Region.binds .any e && e.on == j1)=true)
  (b1:ops[o1]? = some oB1) (b2:oB1.dst=some q1) (c1:ops[j1]? = some oJ1) (c2:oJ1.dst=some p1)
  (d1:ops[s2]? = some oS2) (d2:oS2.op = .store ty (.tmp p2) (.tmp q2)) (d3:oS2.dst=none) (d4:oS2.guard=none) (d5:(oS2.after.toList.any fun e=>Region.binds .any e && e.on == o2)=true) (d6:(oS2.after.toList.any fun e=>Region.binds .any e && e.on == j2)=true)
  (e1:ops[o2]? = some oB2) (e2:oB2.dst=some q2) (f1:ops[j2]? = some oJ2) (f2:oJ2.dst=some p2)
  (hB1:∀ W v,A o1 W v→v = .agg X.toArray) (hJ1:∀ W v,A j1 W v→v = .pointer (some ⟨b,ofB k,none⟩)) (hB2:∀ W v,A o2 W v→v = .agg Y.toArray) (hJ2:∀ W v,A j2 W v→v = .pointer (some ⟨b,ofB (!k),none⟩))
  (hi:(P.info? ty).map (·.size)=some 12) (hX1:∀ u∈X,u.oneCell'=true) (hY1:∀ u∈Y,u.oneCell'=true)
  (hAm:∀ i v W W',A i W v→A i W' v)
  (hstep:∀ (i:Nat) (o:Oper),i≠s1→i≠s2→ops[i]? = some o→∀ a' W cs,Mine w0 W ((b,T,cs)::L) FS→Fr ops a a'→zeb ops A o a' W→wpOp P ops Q i (fun a2 W2 => ∃ v,a2=a'.put o.dst v∧Below W.heap.size W W2∧∀ d,o.dst=some d→A i W2 v) a' W)
  (hend:∀ vs W,Mine w0 W ((b,T,mixB k X Y)::L) FS→vs.length=ops.size→(∀ (i:Nat) (o:Oper) (d:Tmp) (v:Value),ops[i]? = some o→o.dst=some d→vs[i]? = some v→A i W v)→Q .normal (putL a ops.toList vs) W) :
  (Code.region id ops true).wp P Q a w:=by
 refine zdo hm hA A (fun L' _ W => ∃ x y,x.length=12∧y.length=12∧Mine w0 W ((b,T,mixB k x y)::L) FS∧(L' s1=true→x=X)∧(L' s2=true→y=Y)) hS ⟨X0,Y0,lX0,lY0,M.call zBr.drew,(fun h=>by cases h),fun h=>by cases h⟩ (fun L' a' W i oi hI ho hL hdp => ?_) (fun L' a' W hF hall hL hG => ?_)
 · obtain ⟨hF,hD0,x,y,lx,ly,MW,hx1,hy1⟩:=hI
   have hD:zeb ops A oi a' W:=fun e he hb oj d hoj hd=>hD0 e.on oj d hoj hd (hdp e he hb);have hr:Row W b T (mixB k x y):=MW.row (i:=0) rfl
   by_cases h1:i=s1
   · subst h1
     obtain rfl:=Option.some.inj (a1.symm.trans ho);have hp:a'.eval (.tmp p1) = .pointer (some ⟨b,ofB k,none⟩):=hJ1 W _ (zai hD j1 a6 c1 c2);have hq:a'.eval (.tmp q1) = .agg X.toArray:=hB1 W _ (zai hD o1 a5 b1 b2)
     have hu:X.toArray.size=12:=by rw [List.size_toArray];exact lX
     refine zbw ho a4 (wp_store_mid ty (.tmp p1) (.tmp q1) a2 b (ofB k) X.toArray hp hq (by rw [hu];exact yfk hr (by rw [yfp lx ly];exact ygm k)) (by rw [hu];exact hi) (all_oneCell_toArray hX1) ?_)
     refine ⟨undef,rfl,fun j u h=>hAm j u _ _ h,(fun d hd=>by rw [a3] at hd;cases hd),X,y,lX,ly,?_,fun _=>rfl,fun h=>hy1 ?_⟩
     · exact MW.store (i:=0) rfl rfl (yfm hr X lx ly lX) (zbs (MW.ge (i:=0) rfl) X _ _ MW.bw) ⟨zg4 X b _ W,fun b' hb'=>zcc X _ W b' hb'⟩
     · simpa [upd,Ne.symm h12] using h
   by_cases h2:i=s2
   · subst h2
     obtain rfl:=Option.some.inj (d1.symm.trans ho);have hp:a'.eval (.tmp p2) = .pointer (some ⟨b,ofB (!k),none⟩):=hJ2 W _ (zai hD j2 d6 f1 f2);have hq:a'.eval (.tmp q2) = .agg Y.toArray:=hB2 W _ (zai hD o2 d5 e1 e2)
     have hu:Y.toArray.size=12:=by rw [List.size_toArray];exact lY
     refine zbw ho d4 (wp_store_mid ty (.tmp p2) (.tmp q2) d2 b (ofB (!k)) Y.toArray hp hq (by rw [hu];exact yfk hr (by rw [yfp lx ly];exact ygm (!k))) (by rw [hu];exact hi) (all_oneCell_toArray hY1) ?_)
     refine ⟨undef,rfl,fun j u h=>hAm j u _ _ h,(fun d hd=>by rw [d3] at hd;cases hd),x,Y,lx,lY,?_,fun h=>hx1 ?_,fun _=>rfl⟩
     · have h3:=yfm (k := !k) (x:=y) (y:=x) (by rw [yfo];exact hr) Y ly lx lY
       rw [yfo] at h3;exact MW.store (i:=0) rfl rfl h3 (zbs (MW.ge (i:=0) rfl) Y _ _ MW.bw) ⟨zg4 Y b _ W,fun b' hb'=>zcc Y _ W b' hb'⟩
     · simpa [upd,h12] using h
   refine wpOp_mono (fun a2 W2 h => ?_) (hstep i oi h1 h2 ho a' W _ MW hF hD);obtain ⟨v,rfl,hb2,hv⟩:=h;refine ⟨v,rfl,fun j u h=>hAm j u _ _ h,hv,x,y,lx,ly,MW.call hb2,(fun h=>hx1 ?_),fun h=>hy1 ?_⟩
   · simpa [upd,Ne.symm h1] using h
   · simpa [upd,Ne.symm h2] using h
 · obtain ⟨x,y,lx,ly,MW,hx1,hy1⟩:=hG
   obtain rfl:=hx1 (hL s1 (Array.getElem?_eq_some_iff.1 a1).1);obtain rfl:=hy1 (hL s2 (Array.getElem?_eq_some_iff.1 d1).1);rw [zen hS hF];refine hend _ W MW (by simp [zcl]) fun i o d v ho hd hv => ?_
   simp only [zcl,List.getElem?_map,Array.getElem?_toList,ho,Option.map_some,hd,Option.some.injEq] at hv;rw [← hv];exact hall i o d ho hd

theorem ye4:SPs [SP2,SP3]:=fun r hr=>by simp at hr;rcases hr with rfl|rfl<;>simp
def kI (k:Bool):Int:=match k with
 | false=>0
 | true=>1
def kN (k:Bool):Nat:=match k with
 | false=>0
 | true=>1
theorem yf5 (d:Dlg) (A:Option Addr) (c:Nat):∀ u∈dgC d A c,u.oneCell'=true:=zat
theorem dg_two (d d2:Dlg) (A A2:Option Addr) (c c2:Nat):∀ u∈dgC d A c++dgC d2 A2 c2,u.oneCell'=true:=fun u hu=>(List.mem_append.1 hu).elim (yf5 d A c u) (yf5 d2 A2 c2 u)
def tsL (gs gn:Nat) (s:TS):List Blk:=[(gs,45,tsC s),(gn,46,[.int .i64 (s.n false),.int .i64 (s.n true)])]
def tsF (s:TS):List (World→Prop):=[fun W=>Rds W W.heap.size (s.A true) (strs (tsD s true).rs),fun W=>Rds W W.heap.size (s.A false) (strs (tsD s false).rs)]
def tsS (s:TS):Prop := ∀ k,(s.A k=none→(tsD s k).rs.length=0∧s.c k=0)∧(tsD s k).rs.length≤s.c k
theorem ygl (s:TS) (k:Bool):DOK (tsD s k):=by
 cases k
 · exact (zo4 (c:=200) ye4 (by decide)).same rfl rfl rfl rfl rfl rfl rfl
 · exact (zku (c:=200) ye4 (by decide)).same rfl rfl rfl rfl rfl rfl rfl
theorem ygr {w0 W:World} {L:List Blk} {s:TS} {FS:List (World→Prop)} (M:Mine w0 W L FS) (h:∀ F∈tsF s,F∈FS) (k:Bool):Rds W W.heap.size (s.A k) (strs (tsD s k).rs):=by
 cases k
 · exact (M.fs _ (h (fun W=>Rds W W.heap.size (s.A false) (strs (tsD s false).rs)) (List.mem_cons_of_mem _ (List.mem_cons_self ..)))).out
 · exact (M.fs _ (h (fun W=>Rds W W.heap.size (s.A true) (strs (tsD s true).rs)) (List.mem_cons_self ..))).out
theorem yfh {w0 W:World} {L:List Blk} {s:TS} {FS:List (World→Prop)} (M:Mine w0 W L FS) (h:∀ F∈tsF s,F∈FS) (hS:tsS s) (k:Bool):DArg W (tsD s k) (s.A k) (s.c k):=⟨(hS k).1,(hS k).2,ygr M h k,ygl s k⟩
theorem ygv {n:Int} (h0:0≤n) (h1:n≤9223372036854775807):(decL n).length≤21:=by
 unfold decL bl;rw [List.length_map];exact Lib.itoa_length_le n (by omega) h1
def yf9 (k:Bool):List Hd:=match k with
 | false=>(zpx (tkD false 0 0 0) [] VIA2 0).take 7
 | true=>(zpx (tkD true 0 0 0) [] VIA2 0).take 7
theorem yfy (s:TS) (k:Bool) (m:List Int):(tsM s k m).hs=yf9 k++[hdL zdl (decL (ye1 s k m:Nat)++32::m)]:=by
 cases k<;>kernel_rfl
theorem tsM_ok {s:TS} {k:Bool} {m:List Int} (hm:MT m) (h1:s.n k≤1000) (h2:s.i k≤1000):HOK (tsM s k m).hs∧By (tsM s k m).me∧By (tsM s k m).ur∧(tsM s k m).me.length≤4000000∧(tsM s k m).ur.length≤4000000:=by
 obtain ⟨t1,t2,t3,t4,t5⟩:=ye3 hm
 have hl:(decL (ye1 s k m:Nat)++32::m).length≤200:=by
  have:=ygv (n:=(ye1 s k m:Nat)) (by omega) (by unfold ye1;split<;>omega)
  rw [List.length_append,List.length_cons];omega
 have hz:(strOfNums (decL (ye1 s k m:Nat)++32::m)).size≤200:=by rw [zaq];exact hl
 have hp:(yf9 k).length≤100∧(∀ x∈yf9 k,x.1.size≤4000000∧x.2.size≤4000000)∧((yf9 k).map fun h=>h.2.size+1).sum≤100000:=by
  cases k<;>exact ⟨by decide +kernel,by decide +kernel,by decide +kernel⟩
 have hu:By (tsM s k m).ur∧(tsM s k m).ur.length≤4000000:=by
  cases k
  · exact (show By (wayL (tkD false 0 0 0)).1∧(wayL (tkD false 0 0 0)).1.length≤4000000 by unfold By;decide +kernel)
  · exact (show By (wayL (tkD true 0 0 0)).1∧(wayL (tkD true 0 0 0)).1.length≤4000000 by unfold By;decide +kernel)
 refine ⟨⟨?_,fun x hx => ?_,?_⟩,t2,hu.1,(show m.length≤4000000 by omega),hu.2⟩
 · rw [yfy,List.length_append]
   have:=hp.1;simp;omega
 · rw [yfy] at hx
   rcases List.mem_append.1 hx with hx|hx
   · exact hp.2.1 x hx
   · rw [List.mem_singleton.1 hx]
     exact ⟨(show (strOfNums zdl).size≤4000000 by decide +kernel),(show (strOfNums (decL (ye1 s k m:Nat)++32::m)).size≤4000000 by omega)⟩
 · rw [yfy,List.map_append,List.sum_append]
   have:=hp.2.2
   have e:([hdL zdl (decL (ye1 s k m:Nat)++32::m)].map fun h=>h.2.size+1).sum=(strOfNums (decL (ye1 s k m:Nat)++32::m)).size+1:=by simp [hdL]
   rw [e];omega
theorem ye2 (k:Bool) (g:Nat) (w:World):(Instr.indexAt 45 (.pointer (some ⟨g,0,none⟩)) (.int .i64 (kI k))).run Tryz.prog w = .ok (.pointer (some ⟨g,ofB k,none⟩)) w:=by
 cases k<;>kernel_rfl
theorem yf4 (k:Bool):IntKind.i64.wrap (1 - kI k)=kI (!k):=by cases k<;>kernel_rfl
theorem ye7 {o:Oper} {a:Act} {w:World} {next:Act→World→Prop} {Q:Exit→Act→World→Prop} (T:TypeId) (x y:Operand) (ho:o.op = .indexAddr T x y) {p z q:Value} (hx:a.eval x=p) (hy:a.eval y=z) (hr:(Instr.indexAt T p z).run Tryz.prog w = .ok q w) (hn:next (a.put o.dst q) w):o.wp Tryz.prog a w next Q:=
 zdq q (by unfold execOp;simp only [ho,hx,hy,Sem.run_bind,hr,Result.andThen_ok];rfl) hn
theorem yfe (z1 z2 z:Int) (hz:IntKind.i64.wrap (z1 - z2)=z) (w:World):(binOp .sub 3 (.int .i64 z1) (.int .i64 z2)).run Tryz.prog w = .ok (.int .i64 z) w:=by
 subst hz;simp [go_sem]
theorem yfg (x y:Operand) (p q:Value) (w:World):(eqGuard .sub 3 x y p q).run Tryz.prog w = .ok () w:=by
 simp [eqGuard,go_sem]
theorem yfw {n:Nat} (h:n≤1000):IntKind.i64.wrap ((n:Int)+1)=((n+1:Nat):Int):=by
 rw [IntKind.wrap_i64];omega
theorem yfn (P:Program) (T:TypeId) (k:IntKind) (z:Int) (w:World):(binOp .neq T (.int k z) (.int k z)).run P w = .ok (.bool false) w:=by
 simp [go_sem]
theorem ygg (P:Program) (T:TypeId) (s:ByteArray) (w:World):(binOp .neq T (.string s) (.string s)).run P w = .ok (.bool false) w:=by
 simp [go_sem]
theorem yfq (P:Program) (T:TypeId) (k:IntKind) (x y:Operand) (z z':Int) (w:World):(eqGuard .neq T x y (.int k z) (.int k z')).run P w = .ok () w:=by
 simp [go_sem]
theorem ygi (P:Program) (T:TypeId) (x y:Operand) (z z':ByteArray) (w:World):(eqGuard .neq T x y (.string z) (.string z')).run P w = .ok () w:=by
 simp [go_sem]
theorem ye5 {P:Program} {o:Oper} {a:Act} {w:World} {next:Act→World→Prop} {Q:Exit→Act→World→Prop} (x y z:Operand) (ho:o.op = .pick x y z) (hx:a.eval x = .bool false) (hn:next (a.put o.dst (a.eval z)) w):o.wp P a w next Q:=
 zdq _ (by unfold execOp;simp only [ho,hx];rfl) hn
section
variable {P : Program} {ops : Array Oper} {Q : Exit → Act → World → Prop}
theorem yff (hm:P.follows .mixedOrders=true) (hA:ahead ops=true) (A:Nat→World→Value→Prop) {id:Nat} {a:Act} {w:World} (hS:ssa ops a.tmps.size=true)
  (hAm:∀ i v W W',Below W.heap.size W W'→A i W v→A i W' v)
  (hstep:∀ (i:Nat) (o:Oper),ops[i]? = some o→∀ a' W,Below w.heap.size w W→Fr ops a a'→zeb ops A o a' W→wpOp P ops Q i (fun a2 W2 => ∃ v,a2=a'.put o.dst v∧Below W.heap.size W W2∧(∀ d,o.dst=some d→A i W2 v)) a' W)
  (hend:∀ vs W,Below w.heap.size w W→vs.length=ops.size→(∀ (i:Nat) (o:Oper) (d:Tmp) (v:Value),ops[i]? = some o→o.dst=some d→vs[i]? = some v→A i W v)→Q .normal (putL a ops.toList vs) W) :
  (Code.region id ops true).wp P Q a w:=by
 refine yfv hm hA A hS hAm hstep fun a' W hF hB hall => ?_;rw [zen hS hF];refine hend _ W hB (by simp [zcl]) fun i o d v ho hd hv => ?_;simp only [zcl,List.getElem?_map,Array.getElem?_toList,ho,Option.map_some,hd,Option.some.injEq] at hv;rw [← hv];exact hall i o d ho hd
end
section
variable {w : World} {g b : Nat} {T : TypeId} {s : TS} {k : Bool} {m : List Int} {A7 A9 A : Option Addr} {c7 c9 c : Nat} {Af : Bool → Option Addr} {cf : Bool → Nat}
theorem ts_iq (h:Row w g T (mixB k (tsC1 s k) (tsC1 s (!k)))):w.cell? ⟨g,ofB k+11,none⟩=some (.int .i64 (s.i k:Nat)):=by
 rw [h.cell]
 cases k<;>rfl
theorem ye9 (h:Row w g T [.int .i64 (s.n false),.int .i64 (s.n true)]) (k:Bool):w.cell? ⟨g,kN k,none⟩=some (.int .i64 (s.n k:Nat)):=by
 rw [h.cell]
 cases k<;>rfl
theorem ygu (h:Row w b T (dgC (tsD s k) A c)):w.cell? ⟨b,9,none⟩=some (.int .i64 (s.n k:Nat)):=by
 rw [h.cell]
 cases k<;>rfl
theorem dl_rs (h:Row w b T (dgC (tsD s (!k)) A c)):w.cell? ⟨b,10,none⟩=some (.int .i64 (s.n k:Nat)):=by
 rw [h.cell]
 cases k<;>rfl
theorem yfd (h:m=ACKT) (x:Bool):(tsN s k m Af cf).n x=s.n x:=by
 unfold tsN;simp [h]
theorem yfc (h:m≠ACKT):(tsN s k m Af cf).n k=s.n k+1:=by
 unfold tsN;simp [h]
theorem yfx (x:Bool) (h:x≠k):(tsN s k m Af cf).n x=s.n x:=by
 unfold tsN;simp [h]
theorem yga (h:m≠ACKT):[Value.int .i64 (s.n false),.int .i64 (s.n true)].set (kN k) (.int .i64 ((s.n k+1:Nat):Int))=[Value.int .i64 ((tsN s k m Af cf).n false),.int .i64 ((tsN s k m Af cf).n true)]:=by
 cases k
 · rw [yfc h,yfx true (by decide)]
   rfl
 · rw [yfc h,yfx false (by decide)]
   rfl
theorem ygk {j:Nat} (h1:∀ x,s.n x≤j) (h2:∀ x,s.i x≤j):(∀ x,(tsN s k m Af cf).n x≤j+1)∧∀ x,(tsN s k m Af cf).i x≤j+1:=by
 unfold tsN;refine ⟨fun x => ?_,fun x => ?_⟩
 · dsimp only
   have:=h1 k;have:=h1 x
   split<;>omega
 · dsimp only
   have:=h1 k;have:=h2 x
   split<;>omega
theorem tsN_i1 (h:s.i true≠0):(tsN s k m Af cf).i true≠0:=by
 unfold tsN;dsimp only
 split<;>omega
def tsN2 (s:TS) (k:Bool) (m:List Int) (A7 A9:Option Addr) (c7 c9:Nat):TS:=tsN s k m (fun x=>if x=k then A7 else A9) (fun x=>if x=k then c7 else c9)
theorem ygh:mixB k (dgC (tsD (tsN s k m Af cf) k) A7 c7) (dgC (tsD (tsN s k m Af cf) (!k)) A9 c9)=tsC (tsN2 s k m A7 A9 c7 c9):=by cases k<;>rfl
theorem tsF_in:∀ F∈tsF (tsN2 s k m A7 A9 c7 c9),F∈[(fun W=>Rds W W.heap.size A9 (strs (tsD (tsN s k m Af cf) (!k)).rs):World→Prop),fun W=>Rds W W.heap.size A7 (strs (tsD (tsN s k m Af cf) k).rs)]:=fun F hF=>by
 cases k<;>simp only [tsF,List.mem_cons,List.not_mem_nil,or_false] at hF ⊢ <;> rcases hF with rfl|rfl<;>first|exact .inl rfl|exact .inr rfl
theorem ygs (h7:(A7=none→(tsD (tsN s k m Af cf) k).rs.length=0∧c7=0)∧(tsD (tsN s k m Af cf) k).rs.length≤c7) (h9:(A9=none→(tsD (tsN s k m Af cf) (!k)).rs.length=0∧c9=0)∧(tsD (tsN s k m Af cf) (!k)).rs.length≤c9):tsS (tsN2 s k m A7 A9 c7 c9):=fun x=>by
 cases k<;>cases x<;>first|exact h7|exact h9
end
end Go.Proofs.YtfnmkedncfdceaaGreatDoor
