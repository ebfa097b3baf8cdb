/- Contract: address's field. And what stands behind it. -/
import Derived.Test.YtfnmkedncfdceaaGreatDoorUh
import Derived.Maps.AppendAt
set_option linter.unusedVariables false
set_option linter.unusedSimpArgs false
namespace Go.Proofs.YtfnmkedncfdceaaGreatDoor
open Go.RowKit

theorem zjq {xs:List Int} (hx:By xs):∀ (f i:Nat) (acc:List Int),By acc→By (zb6 xs f i acc).1∧(zb6 xs f i acc).1.length≤acc.length+(xs.length - i)
 | 0,i,acc,h=>⟨h,by unfold zb6;simp⟩
 | f+1,i,acc,h=>by
   have hs:∀ c:Int,0≤c∧c<256→By (acc++[c]):=fun c hc x hx=>by
    rcases List.mem_append.1 hx with h1|h1
    · exact h x h1
    · rw [List.mem_singleton] at h1;subst h1;exact hc
   by_cases h1:xs.length≤i
   · rw [zhv h1];exact ⟨h,by simp⟩
   · by_cases h2:xs.getD i 0=37
     · by_cases h3:zbm xs i<0
       · rw [zll (by omega) h2 h3];exact ⟨(fun x hx=>by cases hx),by simp⟩
       · rw [zhu (by omega) h2 h3]
         have r:=zgx xs i;obtain ⟨a,b⟩:=zjq hx f (i+3) _ (hs (zbm xs i) (by omega));refine ⟨a,?_⟩;rw [List.length_append,List.length_singleton] at b;omega
     · rw [zfr (by omega) h2]
       obtain ⟨a,b⟩:=zjq hx f (i+1) _ (hs (xs.getD i 0) (hx _ (zbg (by omega))));refine ⟨a,?_⟩;rw [List.length_append,List.length_singleton] at b;omega
theorem yar {xs:List Int} (hx:By xs):By (zb2 xs)∧(zb2 xs).length≤xs.length:=by
 have h:=zjq hx (xs.length+1) 0 [] (fun x hx=>by cases hx);unfold zb2 zfk
 simpa using h
theorem zwy (s:ByteArray) (a e:Nat) (hae:a≤e) (he:e≤s.size) (w:World):Calls Tryz.prog 119 #[.string (s.extract a e),.int .u8 61] w fun r w'=>(∃ z:Int,r = .returned (.int .i64 z)∧((eqAt (zaa s) a e=e∧z = -1)∨(eqAt (zaa s) a e<e∧0≤z∧(a:Int)+z=eqAt (zaa s) a e)))∧w=w':=by
 have h:=zef (s.extract a e) 61 w;have ZL:zaa (s.extract a e)=subL (zaa s) a e:=zar s a e
 have ZS:(s.extract a e).size=e - a:=by rw [← zac,ZL,zdr (by rw [zac];exact he)]
 rw [show (((61:UInt8)).toNat:Int)=61 from rfl,ZL,ZS] at h
 have E:zag (fun x=>x != (61:Int)) (subL (zaa s) a e) 0=eqAt (zaa s) a e - a:=by
  unfold zag eqAt;rw [List.drop_zero];omega
 have L:=zm4 (xs:=zaa s) hae (by rw [zac];exact he);rw [E] at h;refine h.mono fun r w' ⟨h1,h2⟩=>⟨⟨_,h1,?_⟩,h2⟩
 by_cases hk:e - a≤eqAt (zaa s) a e - a
 · left;rw [if_pos hk];exact ⟨by omega,rfl⟩
 · right;rw [if_neg hk];exact ⟨by omega,by omega,by omega⟩
theorem PS.put {w wr:World} {cb a pb i:Nat} {s:ByteArray} {l:List Pm} {v u:Value} (h:PS w cb s a l v wr) (h1:pb≠cb) (h2:w.heap.size≤pb) (h3:∀ g,v.ownBlock=some g→g≠pb):PS w cb s a l v (wr.setCell ⟨pb,i,none⟩ u):=
 ⟨h.c.setOther h1 u,h.ge,h.o.other (h.o.bw.setCell h2 u) (fun g hg=>Below.heap_setCell wr ⟨pb,i,none⟩ u g (h3 g hg))⟩
structure PK (w:World) (cb:Nat) (s:ByteArray) (a:Nat) (l:List Pm) (v:Value) (K:List Blk) (wr:World):Prop where
 ps:PS w cb s a l v wr
 k:∀ r∈K,Row wr r.1 r.2.1 r.2.2
 t1:∀ r∈K,∀ g,v.ownBlock=some g→g≠r.1
 t2:∀ r∈K,r.1≠cb
theorem zft {w:World} {b b':Nat} {T T':TypeId} {us vs:List Value} (h:Row w b T us) (h2:Row w b' T' vs) (ht:T≠T'):b≠b':=fun e=>by
 subst e;unfold Row at h h2;rw [h] at h2
 injection h2 with h2
 injection h2 with _ h2
 exact ht h2
theorem zpw {w0 w:World} {b:Nat} {T:TypeId} {us:List Value} {v:Value} {n:Nat} {cs:List Value} (h:Row w b T us) (H:VX 155 3 w0 v n cs w) (ht:T≠155):∀ g,v.ownBlock=some g→g≠b:=fun g hg e=>by
 obtain ⟨cur,h1⟩:=H.row hg;unfold Row at h;rw [e,h] at h1
 injection h1 with h1
 injection h1 with _ h1
 exact ht h1
section
variable {w wr w' : World} {cb a a' pb i : Nat} {s : ByteArray} {l : List Pm} {v u : Value} {K : List Blk}
theorem PK.c (h:PK w cb s a l v K wr):Row wr cb 148 [.string s,.int .i64 a]:=h.ps.c
theorem PK.o (h:PK w cb s a l v K wr):VX 155 3 w v l.length (pms l) wr:=h.ps.o
theorem PK.call (h:PK w cb s a l v K wr) (hb:Below wr.heap.size wr w'):PK w cb s a l v K w':=⟨h.ps.call hb,fun r hr=>(h.k r hr).below hb,h.t1,h.t2⟩
theorem PK.cset (h:PK w cb s a l v K wr) (a':Nat) {z:Int} (hz:z=a'):PK w cb s a' l v K (wr.setCell ⟨cb,1,none⟩ (.int .i64 z)):=⟨h.ps.cset a' hz,fun r hr=>(h.k r hr).setOther (h.t2 r hr).symm _,h.t1,h.t2⟩
theorem PK.put (h:PK w cb s a l v K wr) (h1:pb≠cb) (h2:w.heap.size≤pb) (h3:∀ g,v.ownBlock=some g→g≠pb) (h4:∀ r∈K,pb≠r.1):PK w cb s a l v K (wr.setCell ⟨pb,i,none⟩ u):=⟨h.ps.put h1 h2 h3,fun r hr=>(h.k r hr).setOther (h4 r hr) u,h.t1,h.t2⟩
end
theorem zis {w wr:World} {cb a0:Nat} {s:ByteArray} {l:List Pm} {v:Value} {K:List Blk} {ops:Array Oper} {rest:List Oper} {o:Oper} {a:Act} {Q:Exit→Act→World→Prop} (hgd:o.guard=none) (x y:Operand)
  (ho:o.op = .call { callee := .builtin .append,args:=#[x,y],argTypes:=#[83,83] }) (hs:a.eval x=v) (H:PK w cb s a0 l v K wr) (p:Pm) (hy:a.eval y = .slice (some ⟨wr.heap.size,0,none⟩) 1 1) (hb:l.length+1≤16777216)
  (h:∀ v' w',Hid (PK w cb s a0 (l++[p]) v' K w')→wpList Tryz.prog ops Q rest (a.put o.dst v') w'):wpList Tryz.prog ops Q (o::rest) a (wr.alloc (.cells #[.string (strOfNums p.n),.string (strOfNums p.v),.bool p.h] 155)):=by
 obtain ⟨i,hi,hz,hsz,hbt⟩:=zry
 have hbase:w.heap.size≤(wr.alloc (.cells #[.string (strOfNums p.n),.string (strOfNums p.v),.bool p.h] 155)).heap.size:=by have:=H.ps.o.bw.size;simp;omega
 refine wpList_append_own_at _ hgd x y 83 ho w.heap.size 155 i _ 3 40 Tryz.underlying83 hi hz hsz hbt rfl (by omega) v l.length (pms l) hs (H.ps.o.o.alloc _) ⟨wr.heap.size,0,none⟩ 1 1 [.string (strOfNums p.n),.string (strOfNums p.v),.bool p.h] hy rfl (fun j u hu => ?_) (zfl _ _ _) (by unfold maxLen;omega) ?_ hbase ?_
 · rw [Addr.add_mid,Nat.zero_add]
   exact ((Row.new wr 155 [.string (strOfNums p.n),.string (strOfNums p.v),.bool p.h]).cell j).trans hu
 · omega
 · intro v' w' h2 h3 _ h5
   refine h v' w' (kd ⟨⟨(H.ps.c.alloc _).heap (h3.block cb (by rw [World.size_alloc];have:=H.ps.c.lt;omega) (fun e=>H.ps.far cb e.symm rfl)),H.ps.ge,?_⟩,fun r hr=>((H.k r hr).alloc _).heap (h3.block r.1 (by rw [World.size_alloc];have:=(H.k r hr).lt;omega) (fun e=>H.t1 r hr r.1 e.symm rfl)),(fun r hr g hg=>by
    rcases h5 with h5|h5
    · exact H.t1 r hr g (h5 ▸ hg)
    · rw [h5] at hg;cases hg;have:=(H.k r hr).lt;rw [World.size_alloc];omega),H.t2⟩)
   rw [zmr,List.length_append];exact ⟨h2,(H.ps.o.bw.alloc H.ps.o.bw.size _).grown h3 hbase (zb8 H.ps.o.o)⟩
structure FS (w:World) (cb:Nat) (s:ByteArray) (a:Nat) (l:List Pm) (v:Value) (K:List Blk) (pb:Nat) (us:List Value) (wr:World):Prop where
 ps:PK w cb s a l v K wr
 rp:Row wr pb 155 us
 ge:w.heap.size≤pb
 nc:pb≠cb
 nv:∀ g,v.ownBlock=some g→g≠pb
 nk:∀ r∈K,pb≠r.1
theorem VX.own_lt {T:TypeId} {sz:Nat} {w wr:World} {v:Value} {n:Nat} {cs:List Value} {g:Nat} (H:VX T sz w v n cs wr) (hg:v.ownBlock=some g):g<wr.heap.size:=by
 obtain ⟨cur,h⟩:=H.row hg;exact lt_of_block h
section
variable {w wr w' : World} {cb a a' pb : Nat} {s : ByteArray} {l : List Pm} {v : Value} {us : List Value} {K : List Blk}
theorem FS.new (h:PK w cb s a l v K wr) (us:List Value):FS w cb s a l v K wr.heap.size us (wr.alloc (.cells us.toArray 155)):=
 ⟨h.call (zBr.alloc zNr _),Row.new wr _ us,h.o.bw.size,fun e=>by have:=h.c.lt;omega,fun g hg e=>by have:=h.o.own_lt hg;omega,fun r hr e=>by have:=(h.k r hr).lt;omega⟩
theorem FS.call (h:FS w cb s a l v K pb us wr) (hb:Below wr.heap.size wr w'):FS w cb s a l v K pb us w':=⟨h.ps.call hb,h.rp.below hb,h.ge,h.nc,h.nv,h.nk⟩
theorem FS.cset (h:FS w cb s a l v K pb us wr) (a':Nat) {z:Int} (hz:z=a'):FS w cb s a' l v K pb us (wr.setCell ⟨cb,1,none⟩ (.int .i64 z)):=⟨h.ps.cset a' hz,h.rp.setOther h.nc.symm _,h.ge,h.nc,h.nv,h.nk⟩
theorem FS.pset (h:FS w cb s a l v K pb us wr) (i:Nat) (u:Value):FS w cb s a l v K pb (us.set i u) (wr.setCell ⟨pb,i,none⟩ u):=⟨h.ps.put h.nc h.ge h.nv h.nk,h.rp.set i u,h.ge,h.nc,h.nv,h.nk⟩
end
def FldP (w:World) (cb:Nat) (s:ByteArray) (K:List Blk) (e:Nat) (R:Except (Nat × Int) (List Pm)) (r:Ending) (w':World):Prop:=match R with
 | .error q=>r = .returned (.tuple #[.slice none 0 0,.int .i64 (q.1:Nat),.int .u8 q.2])∧Below w.heap.size w w'∧(∀ r∈K,Row w' r.1 r.2.1 r.2.2)∧q.2≠0
 | .ok m => ∃ v,r = .returned (.tuple #[v,.int .i64 0,.int .u8 0])∧PK w cb s e m v K w'
theorem FldP.bad {w w':World} {cb e z a':Nat} {k:Int} {s:ByteArray} {l:List Pm} {v:Value} {K:List Blk} {R:Except (Nat × Int) (List Pm)} (h:R = .error (z,k)) (hb:PK w cb s a' l v K w') (hk:k≠0):FldP w cb s K e R (.returned (.tuple #[.slice none 0 0,.int .i64 (z:Nat),.int .u8 k])) w':=by
 subst h;exact ⟨rfl,hb.o.bw,hb.k,hk⟩
theorem FldP.good {w w':World} {cb e:Nat} {s:ByteArray} {m:List Pm} {v:Value} {K:List Blk} {R:Except (Nat × Int) (List Pm)} (h:R = .ok m) (hb:PK w cb s e m v K w'):FldP w cb s K e R (.returned (.tuple #[v,.int .i64 0,.int .u8 0])) w':=by
 subst h;exact ⟨v,rfl,hb⟩
theorem PK.form {w wr:World} {cb a:Nat} {s:ByteArray} {l:List Pm} {v:Value} {K:List Blk} (h:PK w cb s a l v K wr):∃ A c,v = .slice A l.length c∧Rds wr wr.heap.size A (pms l):=by
 obtain ⟨A,c,h1,_,h3⟩:=zj4 h.o;exact ⟨A,c,h1,h3⟩
def ybt (xs:List Int) (l:List Pm) (a b e:Nat) (k:Int):Except (Nat × Int) (List Pm):=
 if b<e then
  match zck (xs.take e) k (b+1) with
  | some i => .error (i,5)
  | none =>
    if b+1=e∧k=1 then .error (e,5)
    else if zbz l (lowS (zb2 (subL xs a b)))≠0 then .error (a,zbz l (lowS (zb2 (subL xs a b))))
    else .ok (l++[⟨lowS (zb2 (subL xs a b)),zb2 (subL xs (b+1) e),true⟩])
 else if k=2 then .error (e,5)
 else if zbz l (lowS (zb2 (subL xs a b)))≠0 then .error (a,zbz l (lowS (zb2 (subL xs a b))))
 else .ok (l++[⟨lowS (zb2 (subL xs a b)),[],false⟩])
theorem zxe {xs:List Int} {l:List Pm} {a b e:Nat} {k:Int} (hb:eqAt xs a e=b):zcg xs l a e k=match zck (xs.take b) k a with
  | some i => .error (i,5)
  | none=>if b=a then .error (a,5) else ybt xs l a b e k:=by subst hb;rfl
set_option maxRecDepth 100000 in
set_option maxHeartbeats 1000000 in
theorem zo0 (w wr:World) (cb a e:Nat) (k:Int) (s:ByteArray) (l:List Pm) (v:Value) (K:List Blk) (H:PK w cb s a l v K wr) (hae:a≤e) (he:e≤s.size) (hs:s.size≤4000000) (hk:k=1∨k=2) (hl:∀ p∈l,By p.n) (hl16:l.length≤16) (hC:CLS w) :
  Calls Tryz.prog 124 #[.pointer (some ⟨cb,0,none⟩),v,.int .i64 e,.int .i64 k] wr (FldP w cb s K e (zcg (zaa s) l a e k)):=by
 have HS:=kd H;have HC:=kd hC;have HLN:=kd hl;have HL:=zac s;obtain ⟨b,hb⟩:∃ b,eqAt (zaa s) a e=b:=⟨_,rfl⟩;obtain ⟨b1,b2⟩:=zm4 (xs:=zaa s) hae (by rw [HL];exact he);rw [hb] at b1 b2;have IX:=kd (fun w=>zwy s a e hae he w);rw [hb] at IX
 have FE:=kd (zxe (xs:=zaa s) (l:=l) (a:=a) (e:=e) (k:=k) hb);have W1:=kd (fun w1 (h:PK w cb s a l v K w1)=>zjl w1 cb a b k s h.c (by omega) hs (by omega) (hC.below h.o.bw))
 have FV:=kd (show ybt (zaa s) l a b e k=if b<e then
  match zck ((zaa s).take e) k (b+1) with
  | some i => .error (i,5)
  | none =>
    if b+1=e∧k=1 then .error (e,5)
    else if zbz l (lowS (zb2 (subL (zaa s) a b)))≠0 then .error (a,zbz l (lowS (zb2 (subL (zaa s) a b))))
    else .ok (l++[⟨lowS (zb2 (subL (zaa s) a b)),zb2 (subL (zaa s) (b+1) e),true⟩])
 else if k=2 then .error (e,5)
 else if zbz l (lowS (zb2 (subL (zaa s) a b)))≠0 then .error (a,zbz l (lowS (zb2 (subL (zaa s) a b))))
 else .ok (l++[⟨lowS (zb2 (subL (zaa s) a b)),[],false⟩]) from rfl)
 have ZL:zaa (s.extract a b)=subL (zaa s) a b:=zar s a b
 have ZS:(s.extract a b).size≤4000000:=by rw [← zac,ZL];have:=(zbk (zaa s) a b).length_le;omega
 have CT:=kd (fun w=>zgz (s.extract a b) w ZS);rw [ZL] at CT
 have CB:By (zb2 (subL (zaa s) a b))∧(zb2 (subL (zaa s) a b)).length≤4000000:=by
  obtain ⟨h1,h2⟩:=yar ((zas s).sub (zbk (zaa s) a b));exact ⟨h1,by rw [← zac,ZL] at ZS;omega⟩
 have LW:=kd (fun w=>zce (strOfNums (zb2 (subL (zaa s) a b))) w (by rw [zaq];exact CB.2));rw [zal CB.1] at LW;have NB:=kd (zcr CB.1);obtain ⟨nm,hnm⟩:∃ nm,lowS (zb2 (subL (zaa s) a b))=nm:=⟨_,rfl⟩;rw [hnm] at FV LW NB;obtain ⟨ct,hct⟩:∃ ct,zb2 (subL (zaa s) a b)=ct:=⟨_,rfl⟩
 rw [hct] at CT LW;generalize zcg (zaa s) l a e k=R at *;have W1R:∃ W,zck ((zaa s).take b) k a=W:=⟨_,rfl⟩;obtain ⟨W,hW⟩:=W1R;rw [hW] at FE W1
 have BAD:=kd (fun w' z a' v' l' k' (h:R = .error (z,k')) hb hk=>FldP.bad (w:=w) (w':=w') (cb:=cb) (e:=e) (z:=z) (a':=a') (k:=k') (s:=s) (l:=l') (v:=v') (K:=K) (R:=R) h hb hk)
 have GOOD:=kd (fun w' v' m (h:R = .ok m) hb=>FldP.good (w:=w) (w':=w') (cb:=cb) (e:=e) (s:=s) (m:=m) (v:=v') (K:=K) (R:=R) h hb);generalize FldP w cb s K e R=PP at *;clear H hC hl hb hnm hct hW CB ZL ZS HL
 have k0:wr.cell? ⟨cb,0,none⟩=some (.string s):=HS.out.c.cell 0;have k1:wr.cell? ⟨cb,1,none⟩=some (.int .i64 a):=HS.out.c.cell 1
 have i1:(a:Int)≤(e:Int):=by omega
 have i2:(e:Int)≤(s.size:Int):=by omega
 go_enter Tryz.func124,Tryz.ntmps124
 go_wp2_with fail;refine (IX.out _).mono ?_;rintro r w' ⟨⟨z,rfl,hz⟩,rfl⟩;clear k0 k1
 rcases hz with ⟨rfl,rfl⟩|⟨hbe,hz0,hz1⟩
 · -- no '='
   go_wp2_with fail;refine (W1.out _ HS.out).mono ?_;rintro r w1 ⟨rfl,hb⟩;have P1:=kd (HS.out.call hb);clear hb
   cases W with
   | some i =>
     rw [show wrV (some i) = .tuple #[.int .i64 i,.bool true] from rfl];have E:=kd (show R = .error (i,5) from FE.out);go_wp2_with fail
     go_ret3
     exact BAD.out _ _ _ _ _ _ E.out P1.out (by decide)
   | none =>
     rw [show wrV none = .tuple #[.int .i64 0,.bool false] from rfl]
     by_cases hba:b=a
     · subst hba
       have E:=kd (show R = .error (b,5) from FE.out.trans (if_pos rfl));go_wp2_with fail
       go_ret3
       exact BAD.out _ _ _ _ _ _ E.out P1.out (by decide)
     · have q0:((b:Int) == (a:Int))=false:=by simp;omega
       have E:=kd (show R=_ from (FE.out.trans (if_neg hba)).trans (FV.out.trans (if_neg (Nat.lt_irrefl b))));clear FE FV hba W1 HS;have k0:w1.cell? ⟨cb,0,none⟩=some (.string s):=P1.out.c.cell 0;go_wp2_with fail;refine (CT.out _).mono ?_;rintro r w2 ⟨rfl,hb⟩
       have P2:=kd (P1.out.call hb);clear hb k0;go_wp2_with fail;refine (LW.out _).mono ?_;rintro r w3 ⟨rfl,hb⟩;have P3:=kd (P2.out.call hb);have F3:=kd (FS.new P3.out [.string (strOfNums nm),.string ⟨#[]⟩,.bool false]);clear hb;clear P1 P2 P3;go_upto_region 12 with (fail)
       generalize w3.alloc (.cells #[.string (strOfNums nm),.string ⟨#[]⟩,.bool false] 155)=w4 at *;generalize w3.heap.size=pb at *;have f1:w4.frozen? ⟨cb,1,none⟩=false:=F3.out.ps.c.frozen 1;have k1:w4.cell? ⟨cb,1,none⟩=some (.int .i64 a):=F3.out.ps.c.cell 1
       have F4:=kd (F3.out.cset b rfl);go_upto_region 13 with (fail);clear f1 k1 F3;generalize w4.setCell ⟨cb,1,none⟩ (.int .i64 (b:Int))=w5 at *;have k2:w5.cell? ⟨pb,2,none⟩=some (.bool false):=F4.out.rp.cell 2
       rcases hk with rfl|rfl
       · have E1:=kd (show R=if zbz l nm≠0 then .error (a,zbz l nm) else .ok (l++[⟨nm,[],false⟩]) from E.out.trans (if_neg (by decide)))
         clear E;go_upto_region 24 with (fail);clear k2;have RP:=kd (show Row w5 pb 155 [.string (strOfNums nm),.string (strOfNums []),.bool false] from F4.out.rp);have c0:w5.cell? ⟨pb,0,none⟩=some (.string (strOfNums nm)):=RP.out.cell 0;obtain ⟨A,c,hv,hR⟩:=F4.out.ps.form;subst hv
         go_wp2_with fail;refine (zmn A l.length c l nm w5 hR rfl (by omega) HLN.out NB.out).mono ?_;rintro r w8 ⟨rfl,hb⟩;have P8:=kd (F4.out.ps.call hb);have RP8:=kd (RP.out.below hb);clear hb hR c0 RP
         by_cases hr:zbz l nm=0
         · have E2:=kd (E1.out.trans (if_neg (fun h=>h hr)))
           rw [hr];clear E1 hr
           go_wp2_with (first
            | (with_reducible refine zab rfl 155 (.tmp 16) rfl RP8.out rfl Tryz.underlying155 rfl (zbq _ _ _) ?_)
            | (with_reducible refine zis rfl (.tmp 124) (.tmp 126) rfl rfl P8.out ⟨nm,[],false⟩ rfl (by omega) ?_))
           intro v' w9 P9;go_wp2_with fail
           go_ret3
           exact GOOD.out _ _ _ E2.out P9.out
         · have E2:=kd (E1.out.trans (if_pos hr))
           have hkn:(zbz l nm != 0)=true:=by simp [hr]
           go_wp2_with fail
           go_ret3
           exact BAD.out _ _ _ _ _ _ E2.out P8.out hr
       · have E1:=kd (show R = .error (b,5) from E.out.trans (if_pos rfl))
         go_wp2_with fail
         go_ret3
         exact BAD.out _ _ _ _ _ _ E1.out F4.out.ps (by decide)
 · -- with '='
   go_wp2_with fail;refine (W1.out _ HS.out).mono ?_;rintro r w1 ⟨rfl,hb⟩;have P1:=kd (HS.out.call hb);clear hb
   cases W with
   | some i =>
     rw [show wrV (some i) = .tuple #[.int .i64 i,.bool true] from rfl];have E:=kd (show R = .error (i,5) from FE.out);go_wp2_with fail
     go_ret3
     exact BAD.out _ _ _ _ _ _ E.out P1.out (by decide)
   | none =>
   rw [show wrV none = .tuple #[.int .i64 0,.bool false] from rfl]
   by_cases hba:b=a
   · have E:=kd (show R = .error (a,5) from FE.out.trans (if_pos hba))
     have q0:((b:Int) == (a:Int))=true:=by simp [hba]
     go_wp2_with fail
     go_ret3
     exact BAD.out _ _ _ _ _ _ E.out P1.out (by decide)
   have q0:((b:Int) == (a:Int))=false:=by simp;omega
   have E:=kd (show R=_ from (FE.out.trans (if_neg hba)).trans (FV.out.trans (if_pos hbe)));have W2:=kd (fun w1 a' (h:Row w1 cb 148 [.string s,.int .i64 (a':Nat)]) (ha:a'≤s.size) (hc:CLS w1)=>zjl w1 cb a' e k s h (by omega) hs ha hc)
   have ZL2:zaa (s.extract (b+1) e)=subL (zaa s) (b+1) e:=zar s (b+1) e
   have ZS2:(s.extract (b+1) e).size≤4000000:=by rw [← zac,ZL2];have:=(zbk (zaa s) (b+1) e).length_le;rw [zac] at this;omega
   have CT2:=kd (fun w=>zgz (s.extract (b+1) e) w ZS2);rw [ZL2] at CT2;generalize zb2 (subL (zaa s) (b+1) e)=val at *;have k0:w1.cell? ⟨cb,0,none⟩=some (.string s):=P1.out.c.cell 0;clear FE FV hba W1 HS ZL2 ZS2;go_wp2_with fail;refine (CT.out _).mono ?_;rintro r w2 ⟨rfl,hb⟩
   have P2:=kd (P1.out.call hb);clear hb k0;go_wp2_with fail;refine (LW.out _).mono ?_;rintro r w3 ⟨rfl,hb⟩;have P3:=kd (P2.out.call hb);have F3:=kd (FS.new P3.out [.string (strOfNums nm),.string ⟨#[]⟩,.bool true]);clear hb P1 P2 P3
   have bz:decide ((0:Int)≤z)=true:=by simp [hz0]
   go_upto_region 12 with (fail);generalize w3.alloc (.cells #[.string (strOfNums nm),.string ⟨#[]⟩,.bool true] 155)=w4 at *;generalize w3.heap.size=pb at *;have f1:w4.frozen? ⟨cb,1,none⟩=false:=F3.out.ps.c.frozen 1
   have k1:w4.cell? ⟨cb,1,none⟩=some (.int .i64 a):=F3.out.ps.c.cell 1;have F4:=kd (F3.out.cset e rfl);go_upto_region 13 with (fail);clear f1 k1 F3;generalize w4.setCell ⟨cb,1,none⟩ (.int .i64 (e:Int))=w5 at *;have k2:w5.cell? ⟨pb,2,none⟩=some (.bool true):=F4.out.rp.cell 2
   have f1:w5.frozen? ⟨cb,1,none⟩=false:=F4.out.ps.c.frozen 1;have k1:w5.cell? ⟨cb,1,none⟩=some (.int .i64 e):=F4.out.ps.c.cell 1;have F5:=kd (F4.out.cset (b+1) (z:=(b:Int)+1) (by push_cast;rfl));go_upto_region 15 with (fail);clear k2 f1 k1 F4
   generalize w5.setCell ⟨cb,1,none⟩ (.int .i64 ((b:Int)+1))=w6 at *;go_wp2_with fail;refine (W2.out w6 (b+1) F5.out.ps.c (by omega) (HC.out.below F5.out.ps.o.bw)).mono ?_;rintro r w7 ⟨rfl,hb⟩;have F6:=kd (F5.out.call hb);clear hb F5 W2;generalize zck ((zaa s).take e) k (b+1)=V at *
   cases V with
   | some i =>
     rw [show wrV (some i) = .tuple #[.int .i64 i,.bool true] from rfl];have E1:=kd (show R = .error (i,5) from E.out);go_wp2_with fail
     go_ret3
     exact BAD.out _ _ _ _ _ _ E1.out F6.out.ps (by decide)
   | none =>
   rw [show wrV none = .tuple #[.int .i64 0,.bool false] from rfl];have k1:w7.cell? ⟨cb,1,none⟩=some (.int .i64 ((b:Int)+1)):=(F6.out.ps.c.cell 1).trans (by simp)
   have E1:=kd (show R=if b+1=e∧k=1 then .error (e,5) else if zbz l nm≠0 then .error (a,zbz l nm) else .ok (l++[⟨nm,val,true⟩]) from E.out);clear E
   by_cases hx:b+1=e∧k=1
   · have E2:=kd (E1.out.trans (if_pos hx))
     obtain ⟨hx1,rfl⟩:=hx
     have q1:((b:Int)+1 == (e:Int))=true:=by simp;omega
     go_wp2_with fail
     go_ret3
     exact BAD.out _ _ _ _ _ _ E2.out F6.out.ps (by decide)
   have E2:=kd (E1.out.trans (if_neg hx));clear E1;have k0:w7.cell? ⟨cb,0,none⟩=some (.string s):=F6.out.ps.c.cell 0
   have hx2:b+1≠e∨(b+1=e∧k=2):=by
    by_cases h1:b+1=e
    · rcases hk with h|h
      · exact absurd ⟨h1,h⟩ hx
      · exact .inr ⟨h1,h⟩
    · exact .inl h1
   clear hx
   have i3:(b:Int)+1≤(e:Int):=by omega
   have i4:(0:Int)≤(b:Int)+1:=by omega
   have i5:((b:Int)+1).toNat=b+1:=by omega
   rcases hx2 with hx|⟨hx,rfl⟩
   case' inl=>have q1:((b:Int)+1 == (e:Int))=false:=by simp;omega
   case' inr=>have q1:((b:Int)+1 == (e:Int))=true:=by simp;omega
   all_goals
    clear hx;go_upto_region 20 with (fail);clear k0 k1 q1;have q0:∀ x:BW w7,x.w.cell? ⟨cb,0,none⟩=some (.string s):=fun x=>F6.out.ps.c.later x 0;have q1:∀ x:BW w7,x.w.cell? ⟨cb,1,none⟩=some (.int .i64 ((b:Int)+1)):=fun x=>(F6.out.ps.c.later x 1).trans (by simp)
    refine zf7 13 (by kernel_rfl) (by kernel_rfl) ?_;simp only [List.take_succ_cons,List.take_zero,List.drop_succ_cons,List.drop_zero]
    iterate 11 go_big_quiet_step (fail)
    go_big_quiet_step (exact zcj (CT2.out _))
    go_big_quiet_step (fail)
    refine wpQuiet_nil ?_;rintro _ ⟨x,rfl⟩;have F7:=kd (F6.out.call x.h);clear q0 q1 F6;generalize x.w=w8 at *;have f2:w8.frozen? ⟨pb,1,none⟩=false:=F7.out.rp.frozen 1;have k2:w8.cell? ⟨pb,1,none⟩=some (.string ⟨#[]⟩):=F7.out.rp.cell 1
    have F8:=kd (F7.out.pset 1 (.string (strOfNums val)));go_upto_region 21 with (fail);clear f2 k2 F7;generalize w8.setCell ⟨pb,1,none⟩ (.string (strOfNums val))=w9a at *;have f1:w9a.frozen? ⟨cb,1,none⟩=false:=F8.out.ps.c.frozen 1
    have k1:w9a.cell? ⟨cb,1,none⟩=some (.int .i64 ((b:Int)+1)):=(F8.out.ps.c.cell 1).trans (by simp);have F9:=kd (F8.out.cset e rfl);go_upto_region 24 with (fail);clear f1 k1 F8;generalize w9a.setCell ⟨cb,1,none⟩ (.int .i64 (e:Int))=w10 at *
    have RP:=kd (show Row w10 pb 155 [.string (strOfNums nm),.string (strOfNums val),.bool true] from F9.out.rp);have c0:w10.cell? ⟨pb,0,none⟩=some (.string (strOfNums nm)):=RP.out.cell 0;obtain ⟨A,c,hv,hR⟩:=F9.out.ps.form;subst hv;go_wp2_with fail
    refine (zmn A l.length c l nm w10 hR rfl (by omega) HLN.out NB.out).mono ?_;rintro r w18 ⟨rfl,hb⟩;have P8:=kd (F9.out.ps.call hb);have RP8:=kd (RP.out.below hb);clear hb hR c0 RP
    by_cases hr:zbz l nm=0
    · have E3:=kd (E2.out.trans (if_neg (fun h=>h hr)))
      rw [hr];clear E2 hr
      go_wp2_with (first
       | (with_reducible refine zab rfl 155 (.tmp 16) rfl RP8.out rfl Tryz.underlying155 rfl (zbq _ _ _) ?_)
       | (with_reducible refine zis rfl (.tmp 124) (.tmp 126) rfl rfl P8.out ⟨nm,val,true⟩ rfl (by omega) ?_))
      intro v' w9 P9;go_wp2_with fail
      go_ret3
      exact GOOD.out _ _ _ E3.out P9.out
    · have E3:=kd (E2.out.trans (if_pos hr))
      have hkn:(zbz l nm != 0)=true:=by simp [hr]
      go_wp2_with fail
      go_ret3
      exact BAD.out _ _ _ _ _ _ E3.out P8.out hr

structure ya6 (u:Uri):Prop where
 sc:By u.sc
 us:By u.us
 ho:By u.ho
 ps:PmBy u.ps
 hs:PmBy u.hs
structure UriN (u:Uri):Prop where
 us:By u.us
 ps:LOK 1 u.ps
 pa:Asc u.ps
 hs:LOK 2 u.hs
 ha:Asc u.hs
 k:((u.sc=SIPT∨u.sc=zes)∧zb3 u.ho=some u.ho∧By u.ho∧0≤u.po∧u.po≤65535∧zc7 u.us=true)∨(u.sc=TELT∧u.ho=[]∧u.po=0∧u.hs=[]∧zep u.us=true)
theorem ydk {u n:Uri} (hb:ya6 u) (h:zdx u=some n):UriN n:=by
 unfold zdx at h;dsimp only at h
 split at h
 · rename_i ps hs h1 h2
   obtain ⟨p1,p2⟩:=zr5 hb.ps h1;obtain ⟨q1,q2⟩:=zr5 hb.hs h2
   split at h
   · rename_i hsc
     split at h
     · rename_i ho hh
       split at h
       · rename_i hp
         injection h with h
         subst h;exact ⟨hb.us,p1,p2,q1,q2,.inl ⟨hsc,zom hh,zqi hh hb.ho,hp⟩⟩
       · cases h
     · cases h
   · split at h
     · rename_i hsc
       split at h
       · rename_i hp
         injection h with h
         subst h
         have h0:hs=[]:=by
          have:=(zkq hb.hs).1 h2;rw [hp.2.2.1] at this;exact this.2
         exact ⟨hb.us,p1,p2,q1,q2,.inr ⟨hsc,rfl,rfl,h0,hp.2.2.2⟩⟩
       · cases h
     · cases h
 · cases h
def Behind (r:List Int):Prop:=r=[]∨r.getD 0 0=58∨r.getD 0 0=59∨r.getD 0 0=63
theorem zhy {sg:Bool} {c:Int} (h:telC sg c=true):c≠59∧c≠64∧33≤c∧c≤57∧c≠43∧c≠60∧c≠62∧c≠37:=by
 unfold telC at h;rw [Bool.or_eq_true] at h
 rcases h with h|h
 · unfold zbc at h;simp at h;omega
 · simp at h;omega
end Go.Proofs.YtfnmkedncfdceaaGreatDoor
