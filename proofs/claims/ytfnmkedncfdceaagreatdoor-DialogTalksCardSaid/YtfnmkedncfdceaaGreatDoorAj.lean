/- The contract of header's Canon. And what stands behind it. -/
import Derived.Test.YtfnmkedncfdceaaGreatDoorNa
set_option linter.unusedVariables false
set_option linter.unusedSimpArgs false
set_option maxRecDepth 100000
namespace Go.Proofs.YtfnmkedncfdceaaGreatDoor
open Go.RowKit

def SPV:List Value:=SPECIALS.map fun s => .string (strOfNums s)
def SC (w:World):Prop:=0<w.heap.size∧w.rangeAt 0 0 SPV
theorem SC.below {w w1:World} (h:SC w) (hb:Below w.heap.size w w1):SC w1:=⟨Nat.lt_of_lt_of_le h.1 hb.size,fun j v hv=>(hb.cell (p:=⟨0,0+j,none⟩) h.1).trans (h.2 j v hv)⟩
theorem ybo:(Tryz.prog.info? 175).map (·.size)=some SPV.length:=by kernel_rfl
theorem ybf {k:Nat} (hk:k<7) (w:World):(Instr.index 175 (.agg SPV.toArray) (.int .i64 k)).run Tryz.prog w = .ok (.string (strOfNums (SPECIALS.getD k []))) w:=by
 rcases k with _|_|_|_|_|_|_|k
 all_goals first|omega|kernel_rfl
theorem sp_by {k:Nat} (hk:k<7):By (SPECIALS.getD k [])∧(SPECIALS.getD k []).length≤20:=by
 have h1:SPECIALS.getD k []∈SPECIALS:=by
  rw [List.getD_eq_getElem?_getD,List.getElem?_eq_getElem (show k<SPECIALS.length from hk)];exact List.getElem_mem _
 exact ⟨zk4 _ h1,(show ∀ s∈SPECIALS,s.length≤20 by decide) _ h1⟩
theorem zji {α:Type} {p:α→Bool} {d:α}:∀ {l:List α} {k:Nat},k<l.length→(∀ j,j<k→p (l.getD j d)=false)→p (l.getD k d)=true→l.find? p=some (l.getD k d)
 | [],k,hk,_,_=>absurd hk (by simp)
 | x::l,0,_,_,h=>by
   rw [List.find?_cons];rw [show (x::l).getD 0 d=x from rfl] at h ⊢;rw [h]
 | x::l,k+1,hk,hn,h=>by
   have h0:=hn 0 (Nat.succ_pos k);rw [show (x::l).getD 0 d=x from rfl] at h0;rw [List.find?_cons,h0];exact zji (l:=l) (k:=k) (by simpa using hk) (fun j hj=>by have:=hn (j+1) (by omega);rwa [List.getD_cons_succ] at this) (by rwa [List.getD_cons_succ] at h)
theorem zkr {α:Type} {p:α→Bool} {d:α} {l:List α} (h:∀ j,j<l.length→p (l.getD j d)=false):l.find? p=none:=by
 rw [List.find?_eq_none];intro x hx;obtain ⟨j,hj,rfl⟩:=List.getElem_of_mem hx;have:=h j hj;rw [List.getD_eq_getElem?_getD,List.getElem?_eq_getElem hj] at this
 simpa using this
theorem zk0 {X:Option (List Int)} (h:X=none):zi1 X = .tuple #[.string ⟨#[]⟩,.int .u8 5]:=by rw [h];rfl
theorem zq1 {X:Option (List Int)} {x:List Int} (h:X=some x):zi1 X = .tuple #[.string (strOfNums x),.int .u8 0]:=by rw [h];rfl
set_option maxHeartbeats 1000000 in
theorem zgq (s:ByteArray) (w:World) (hM:s.size≤4000000) (hS:SC w) :
  Calls Tryz.prog 106 #[.string s] w fun e w'=>e = .returned (zi1 (zbr (zaa s)))∧Below w.heap.size w w':=by
 have HB:=kd (zas s);have HL:=kd (zac s);have HS:=kd hS
 have CN:=kd (fun (h:zc5 (zaa s)=false∨64<s.size)=>show zbr (zaa s)=none by
  unfold zbr;rw [if_neg];rintro ⟨h1,h2⟩;rw [zac] at h2
  rcases h with h|h
  · rw [h] at h1;cases h1
  · omega)
 have CY:=kd (fun (h:zc5 (zaa s)=true) (h2:s.size≤64)=>show zbr (zaa s)=some (zf2 (zaa s)) by
  unfold zbr
  rw [if_pos ⟨h,by rw [zac];exact h2⟩])
 have CT:=kd (show zf2 (zaa s)=if (zaa s).length=1∧zfy (lowC ((zaa s).getD 0 0))≠[] then zfy (lowC ((zaa s).getD 0 0)) else (SPECIALS.find? (fun q=>lowS q == lowS (zaa s))).getD (capL (zaa s)) from rfl);have EL:=kd (fun (w:World)=>zgy s w hM)
 have EC:=kd (fun (cb:Nat) (w:World)=>zqs s cb w hM);have IX:=kd (fun (h:0<s.size) (w:World)=>zbe s (i:=0) h (z:=0) rfl w);clear hS
 go_enter Tryz.func106,Tryz.ntmps106
 go_wp2_with fail;refine (zfz s _ (by omega)).mono ?_;rintro e w1 ⟨rfl,hb1⟩;have B1:=kd hb1;clear hb1
 cases ht:zc5 (zaa s) with
 | false =>
   have E:=kd (zk0 (CN.out (.inl ht)));clear ht;go_wp2_with fail
   go_ret2
   exact ⟨by rw [E.out];rfl,B1.out⟩
 | true =>
   by_cases h64:64<s.size
   · have E:=kd (zk0 (CN.out (.inr h64)))
     have d1:decide ((64:Int)<(s.size:Int))=true:=by simp;omega
     clear ht h64;go_wp2_with fail
     go_ret2
     exact ⟨by rw [E.out];rfl,B1.out⟩
   · have d1:decide ((64:Int)<(s.size:Int))=false:=by simp;omega
     have E:=kd (zq1 (CY.out ht (by omega)));clear ht h64 CN CY;have XB:=kd HB.out;clear HB;generalize hX:zaa s=X at *;have HX:=kd hX;clear hX
     -- the walk
     have REST0:=kd (fun (h:¬ (X.length=1∧zfy (lowC (X.getD 0 0))≠[]))=>show zf2 X=(SPECIALS.find? (fun q=>lowS q == lowS X)).getD (capL X) by rw [CT.out,if_neg h])
     have LET:=kd (fun (h:X.length=1∧zfy (lowC (X.getD 0 0))≠[])=>show zf2 X=zfy (lowC (X.getD 0 0)) by rw [CT.out,if_pos h]);clear CT
     by_cases h1:s.size=1
     · have e1:((s.size:Int) == 1)=true:=by simp [h1]
       have dx:=IX.out (by omega);have hx:=XB.out _ (zbg (l:=X) (i:=0) (by rw [HL.out];omega));have L1:=kd (show X.length=1 by rw [HL.out];exact h1);have LB:=kd (zqb hx);clear h1;generalize X.getD 0 0=x at *;go_wp2_with fail;refine (zgs x _ hx.1 hx.2).mono ?_;rintro e w' ⟨rfl,rfl⟩
       generalize lowC x=y at *;go_wp2_with fail;refine (zoi y _ LB.out.1 LB.out.2).mono ?_;rintro e w' ⟨rfl,rfl⟩;have LY:=kd (zru y);clear e1 dx
       by_cases hy:zfy y=[]
       · have REST:=kd (REST0.out (fun h=>h.2 hy))
         rw [hy,show strOfNums []=⟨#[]⟩ from rfl];clear hy;go_wp2_with fail;refine (EL.out _).mono ?_;rintro e w2 ⟨rfl,hb2⟩;have B2:=kd (zao B1.out hb2);clear hb2;have SP:=kd ((HS.out.below B2.out).2)
         go_wp2_with (with_reducible refine wpList_load_mid rfl 175 (.global 0) rfl 0 0 rfl SPV _ SP.out Tryz.underlying175 rfl ybo ?_)
         go_loopw [30] (fun v wr => ∃ k:Nat,k≤7∧v = .int .i64 k∧Hid (Below w.heap.size w wr∧∀ j,j<k→(lowS (SPECIALS.getD j []) == lowS X)=false)) (fun v _=>7 - (intOf v).toNat)
         case atStart=>exact ⟨0,by omega,rfl,kd ⟨B2.out,fun j hj=>absurd hj (by omega)⟩⟩
         case round =>
          clear SP B2;obtain ⟨k,hk,rfl,H⟩:=hrel
          by_cases hlt:k<7
          · have hd:decide ((k:Int)<7)=true:=by simp;omega
            have dx:=fun w=>ybf hlt w;obtain ⟨sb1,sb2⟩:=sp_by hlt;have SB:=kd sb1;have SM:=kd (show (strOfNums (SPECIALS.getD k [])).size≤4000000 by rw [zaq];omega)
            have HIT:=kd (fun (h:(lowS (SPECIALS.getD k []) == lowS X)=true)=>show zf2 X=SPECIALS.getD k [] by
             rw [REST.out,zji (d:=[]) (show k<SPECIALS.length from hlt) H.out.2 h];rfl)
            have NXT:=kd (fun (h:(lowS (SPECIALS.getD k []) == lowS X)=false) (j:Nat) (hj:j<k+1)=>show (lowS (SPECIALS.getD j []) == lowS X)=false by
             rcases (show j<k∨j=k by omega) with h1|rfl
             · exact H.out.2 j h1
             · exact h)
            have QE:=kd (zb7 (zcr sb1) (zcr XB.out));clear sb1 sb2;generalize SPECIALS.getD k []=q at *;go_wp2_with fail;refine (zgy _ _ SM.out).mono ?_;rintro e w3 ⟨rfl,hb3⟩;have B3:=kd (zao H.out.1 hb3);clear hb3 dx;rw [zal SB.out]
            cases hc:(lowS q == lowS X) with
            | true =>
              have hq:=QE.out.trans hc;have E2:=kd (HIT.out hc);clear hc;go_wp2_with fail
              go_ret2
              exact ⟨by rw [HX.out,E.out,E2.out];rfl,B3.out⟩
            | false =>
              have hq:=QE.out.trans hc;have N2:=kd (NXT.out hc);clear hc;go_wp2_with fail;go_roundw
              case rel=>exact ⟨k+1,by omega,by go_num,kd ⟨B3.out,N2.out⟩⟩
              case measure=>simp [intOf];omega
          · obtain rfl:k=7:=by omega
            have E2:=kd (show zf2 X=capL X by rw [REST.out,zkr (l:=SPECIALS) (d:=[]) (fun j hj=>H.out.2 j hj)];rfl);have R:=kd (Row.new wr 4 [.bool true]);have BA:=kd (H.out.1.alloc H.out.1.size (.cells #[.bool true] 4));have SZ:=kd H.out.1.size
            rw [show ((7:Nat):Int)=(7:Int) from rfl];clear H;go_wp2_with fail;refine (EC.out wr.heap.size _ R.out.lt (R.out.cell 0) (R.out.frozen 0)).mono ?_;rintro e w4 ⟨rfl,hg⟩;have B4:=kd (BA.out.grown hg BA.out.size (fun k hk=>by cases hk;exact SZ.out));clear hg;go_wp2_with fail
            go_ret2
            exact ⟨by rw [HX.out,E.out,E2.out];rfl,B4.out⟩
       · have E2:=kd (LET.out ⟨L1.out,hy⟩)
         have ob:((strOfNums (zfy y)).toList == ([]:List UInt8))=false:=by
          rw [Bool.eq_false_iff];intro h;apply hy;have h2:strOfNums (zfy y)=⟨#[]⟩:=toList_inj.1 ((by simpa using h:(strOfNums (zfy y)).toList=[]).trans (by rw [ByteArray.toList_eq]));have h3:=congrArg zaa h2;rw [zal LY.out] at h3;exact h3
         clear hy;generalize zfy y=z at *;go_wp2_with fail
         go_ret2
         exact ⟨by rw [HX.out,E.out,E2.out];rfl,B1.out⟩
     · have e1:((s.size:Int) == 1)=false:=by rw [beq_eq_false_iff_ne];omega
       have REST:=kd (REST0.out (fun h=>h1 (by rw [← HL.out];exact h.1)));clear h1;go_wp2_with fail;refine (EL.out _).mono ?_;rintro e w2 ⟨rfl,hb2⟩;have B2:=kd (zao B1.out hb2);clear hb2;have SP:=kd ((HS.out.below B2.out).2)
       go_wp2_with (with_reducible refine wpList_load_mid rfl 175 (.global 0) rfl 0 0 rfl SPV _ SP.out Tryz.underlying175 rfl ybo ?_)
       go_loopw [30] (fun v wr => ∃ k:Nat,k≤7∧v = .int .i64 k∧Hid (Below w.heap.size w wr∧∀ j,j<k→(lowS (SPECIALS.getD j []) == lowS X)=false)) (fun v _=>7 - (intOf v).toNat)
       case atStart=>exact ⟨0,by omega,rfl,kd ⟨B2.out,fun j hj=>absurd hj (by omega)⟩⟩
       case round =>
        clear SP B2;obtain ⟨k,hk,rfl,H⟩:=hrel
        by_cases hlt:k<7
        · have hd:decide ((k:Int)<7)=true:=by simp;omega
          have dx:=fun w=>ybf hlt w;obtain ⟨sb1,sb2⟩:=sp_by hlt;have SB:=kd sb1;have SM:=kd (show (strOfNums (SPECIALS.getD k [])).size≤4000000 by rw [zaq];omega)
          have HIT:=kd (fun (h:(lowS (SPECIALS.getD k []) == lowS X)=true)=>show zf2 X=SPECIALS.getD k [] by
           rw [REST.out,zji (d:=[]) (show k<SPECIALS.length from hlt) H.out.2 h];rfl)
          have NXT:=kd (fun (h:(lowS (SPECIALS.getD k []) == lowS X)=false) (j:Nat) (hj:j<k+1)=>show (lowS (SPECIALS.getD j []) == lowS X)=false by
           rcases (show j<k∨j=k by omega) with h1|rfl
           · exact H.out.2 j h1
           · exact h)
          have QE:=kd (zb7 (zcr sb1) (zcr XB.out));clear sb1 sb2;generalize SPECIALS.getD k []=q at *;go_wp2_with fail;refine (zgy _ _ SM.out).mono ?_;rintro e w3 ⟨rfl,hb3⟩;have B3:=kd (zao H.out.1 hb3);clear hb3 dx;rw [zal SB.out]
          cases hc:(lowS q == lowS X) with
          | true =>
            have hq:=QE.out.trans hc;have E2:=kd (HIT.out hc);clear hc;go_wp2_with fail
            go_ret2
            exact ⟨by rw [HX.out,E.out,E2.out];rfl,B3.out⟩
          | false =>
            have hq:=QE.out.trans hc;have N2:=kd (NXT.out hc);clear hc;go_wp2_with fail;go_roundw
            case rel=>exact ⟨k+1,by omega,by go_num,kd ⟨B3.out,N2.out⟩⟩
            case measure=>simp [intOf];omega
        · obtain rfl:k=7:=by omega
          have E2:=kd (show zf2 X=capL X by rw [REST.out,zkr (l:=SPECIALS) (d:=[]) (fun j hj=>H.out.2 j hj)];rfl);have R:=kd (Row.new wr 4 [.bool true]);have BA:=kd (H.out.1.alloc H.out.1.size (.cells #[.bool true] 4));have SZ:=kd H.out.1.size
          rw [show ((7:Nat):Int)=(7:Int) from rfl];clear H;go_wp2_with fail;refine (EC.out wr.heap.size _ R.out.lt (R.out.cell 0) (R.out.frozen 0)).mono ?_;rintro e w4 ⟨rfl,hg⟩;have B4:=kd (BA.out.grown hg BA.out.size (fun k hk=>by cases hk;exact SZ.out));clear hg;go_wp2_with fail
          go_ret2
          exact ⟨by rw [HX.out,E.out,E2.out];rfl,B4.out⟩

def hdC (h:ByteArray × ByteArray):List Value:=[.string h.1,.string h.2]
def hds (l:List (ByteArray × ByteArray)):List Value:=l.flatMap hdC
theorem zqk (l:List (ByteArray × ByteArray)):(hds l).length=l.length*2:=by
 unfold hds;rw [List.length_flatMap,show (l.map fun a=>(hdC a).length)=l.map (fun _=>2) from List.map_congr_left fun _ _=>rfl];simp [List.map_const',Nat.mul_comm]
theorem zw6 {l:List (ByteArray × ByteArray)} {k:Nat} {p:ByteArray × ByteArray} (h:l[k]? = some p):∀ j u,[Value.string p.1,.string p.2][j]? = some u→(hds l)[k*2+j]? = some u:=fun j u hu=>by
 have hj:j<2:=(List.getElem?_eq_some_iff.1 hu).1;rw [← hu];exact zfg hdC 2 (fun _=>rfl) l k j p h hj
theorem infoH:∃ i,Tryz.prog.info? 56=some i∧i.zero=some (.agg #[.string ⟨#[]⟩,.string ⟨#[]⟩])∧i.size=2∧i.bytes=32:=by
 have h:(Tryz.prog.info? 56).map (fun i=>(i.zero,i.size,i.bytes))=some (some (.agg #[.string ⟨#[]⟩,.string ⟨#[]⟩]),2,32):=by kernel_rfl
 rw [Option.map_eq_some_iff] at h;obtain ⟨i,hi,he⟩:=h
 injection he with h1 h2
 injection h2 with h2 h3
 exact ⟨i,hi,h1,h2,h3⟩
theorem ycz (a b:Value):(Tryz.prog.info? 56).map (·.size)=some [a,b].length:=by
 obtain ⟨i,hi,_,hs,_⟩:=infoH;rw [hi];exact congrArg some hs
theorem Rds.range2 {w:World} {b o:Nat} {cs:List Value} (h:∀ j u,cs[j]? = some u→w.cell? ⟨b,o+j,none⟩=some u) (k:Nat) (us:List Value) (hu:∀ j u,us[j]? = some u→cs[k+j]? = some u):w.rangeAt b (o+k) us:=fun j u hj=>by
 rw [Nat.add_assoc];exact h _ _ (hu j u hj)
structure NM (w:World) (eb cb:Nat) (C:Option (List Int)):Prop where
 c:w.cell? ⟨cb,0,none⟩=some (.string (strOfNums (C.getD [])))
 e:w.cell? ⟨eb,0,none⟩=some (.int .u8 (if C.isSome=true then 0 else 5))
theorem NM.below {w w1:World} {eb cb:Nat} {C:Option (List Int)} (h:NM w eb cb C) (hb:Below w.heap.size w w1):NM w1 eb cb C:=
 ⟨(hb.cell (World.block_lt_of_cell? w _ h.c)).trans h.c,(hb.cell (World.block_lt_of_cell? w _ h.e)).trans h.e⟩
def nmV (eb cb:Nat):Value := .func (.func 107) #[] #[.pointer (some ⟨eb,0,none⟩),.pointer (some ⟨cb,0,none⟩)]
theorem zx4 (C:Option (List Int)):zi1 C = .tuple #[.string (strOfNums (C.getD [])),.int .u8 (if C.isSome=true then 0 else 5)]:=by cases C<;>rfl
theorem zgd {a x:List Int} (ha:By a) (h:zbr a=some x):By x:=by
 unfold zbr at h
 split at h
 · injection h with h
   subst h;exact zx5 ha
 · cases h
theorem zoc (s:ByteArray) (w:World) (hM:s.size≤4000000) (hS:SC w) :
  Calls Tryz.prog 71 #[.string s] w fun e w'=>Below w.heap.size w w'∧∃ eb cb,e = .returned (nmV eb cb)∧NM w' eb cb (zbr (zaa s)):=by
 have CN:=kd (zgq s w hM hS);generalize zbr (zaa s)=C at *;rw [zx4] at CN;obtain ⟨c,hc⟩:∃ c,strOfNums (C.getD [])=c:=⟨_,rfl⟩;obtain ⟨k,hk⟩:∃ k:Int,(if C.isSome=true then 0 else 5)=k:=⟨_,rfl⟩;rw [hc,hk] at CN;have HC:=kd hc;have HK:=kd hk;clear hc hk hS
 go_enter Tryz.func71,Tryz.ntmps71
 go_wp2_with fail;refine CN.out.mono ?_;rintro e w1 ⟨rfl,hb⟩;have B1:=kd hb;clear hb;go_wp2_with fail;go_ret;refine ⟨?_,w1.heap.size+1,w1.heap.size,rfl,?_,?_⟩
 · exact (B1.out.alloc B1.out.size _).alloc (by rw [World.size_alloc];have:=B1.out.size;omega) _
 · rw [HC.out]
   exact ((Row.new w1 9 [.string c]).alloc _).cell 0
 · rw [HK.out]
   have h:=Row.new (w1.alloc (.cells #[.string c] 9)) 32 [.int .u8 k];rw [World.size_alloc] at h;exact h.cell 0
theorem zhh {o c:List Int} (ho:By o) (hc:By c):((strOfNums o).toList == (strOfNums c).toList)=(o == c):=by
 rw [Bool.eq_iff_iff,beq_iff_eq,beq_iff_eq,toList_inj]
 constructor
 · intro h
   rw [← zal ho,h,zal hc]
 · rintro rfl;rfl
theorem zr0 (n v:ByteArray) (eb cb:Nat) (C:Option (List Int)) (w:World) (hM:n.size≤4000000) (hS:SC w) (hN:NM w eb cb C) (hC:∀ c,C=some c→By c) :
  Calls Tryz.prog 107 #[.agg #[.string n,.string v],.pointer (some ⟨eb,0,none⟩),.pointer (some ⟨cb,0,none⟩)] w fun e w'=>e = .returned (.bool (hitN C (n,v)))∧Below w.heap.size w w':=by
 have B0:=kd ((Below.refl w.heap.size w).alloc zNr (.cells #[.string n,.string v] 56));have CN:=kd (zgq n _ hM (hS.below B0.out));have N0:=kd (hN.below B0.out);have HB:=kd (fun x (h:zbr (zaa n)=some x)=>zgd (zas n) h);have HE:=kd (show hitN C (n,v)=eqN (zbr (zaa n)) C from rfl)
 generalize hitN C (n,v)=X at *;generalize zbr (zaa n)=O at *;clear hS hN;have HC:=kd hC;clear hC
 go_enter Tryz.func107,Tryz.ntmps107
 go_wp2_with fail;refine CN.out.mono ?_;rintro e w1 ⟨rfl,hb⟩;have B1:=kd (zao B0.out hb);have N1:=kd (N0.out.below hb);clear hb CN N0;have k0:=N1.out.c;have k1:=N1.out.e
 cases O with
 | none =>
   have E:=kd (show X=false by rw [HE.out];rfl);rw [show zi1 none = .tuple #[.string ⟨#[]⟩,.int .u8 5] from rfl]
   cases C with
   | none =>
     rw [show (if (Option.isSome (none:Option (List Int)))=true then (0:Int) else 5)=5 from rfl] at k1;go_wp2_with fail;go_ret;exact ⟨zax E.out.symm,B1.out⟩
   | some c =>
     rw [show (if (Option.isSome (some c))=true then (0:Int) else 5)=0 from rfl] at k1;go_wp2_with fail;go_ret;exact ⟨zax E.out.symm,B1.out⟩
 | some o =>
   rw [show zi1 (some o) = .tuple #[.string (strOfNums o),.int .u8 0] from rfl]
   cases C with
   | none =>
     have E:=kd (show X=false by rw [HE.out];rfl);rw [show (if (Option.isSome (none:Option (List Int)))=true then (0:Int) else 5)=5 from rfl] at k1;go_wp2_with fail;go_ret;exact ⟨zax E.out.symm,B1.out⟩
   | some c =>
     have E:=kd (show ((strOfNums o).toList == (strOfNums c).toList)=X by rw [HE.out,zhh (HB.out _ rfl) (HC.out _ rfl)];rfl);rw [show (if (Option.isSome (some c))=true then (0:Int) else 5)=0 from rfl] at k1;rw [show (some c).getD []=c from rfl] at k0;go_wp2_with fail;go_ret
     exact ⟨zax E.out,B1.out⟩
def idxV:Option Nat→Value
 | none => .int .i64 (-1)
 | some k => .int .i64 k
def zp2 (l:List (ByteArray × ByteArray)) (C:Option (List Int)) (k:Nat):Prop := ∀ j p,j<k→l[j]? = some p→hitN C p=false
theorem zth (l:List (ByteArray × ByteArray)) (C:Option (List Int)):zp2 l C 0:=fun _ _ h=>absurd h (Nat.not_lt_zero _)
theorem zti {l:List (ByteArray × ByteArray)} {C:Option (List Int)} {k:Nat} {p:ByteArray × ByteArray} (h:zp2 l C k) (hp:l[k]? = some p) (hq:hitN C p=false):zp2 l C (k+1):=fun j q hj hqj=>by
 rcases Nat.lt_or_ge j k with h1|h1
 · exact h j q h1 hqj
 · obtain rfl:j=k:=by omega
   obtain rfl:=Option.some.inj (hp.symm.trans hqj);exact hq
theorem zt4 {l:List (ByteArray × ByteArray)} {C:Option (List Int)} {k:Nat} {p:ByteArray × ByteArray} (h:zp2 l C k) (hp:l[k]? = some p) (hq:hitN C p=true):l.findIdx? (hitN C)=some k:=by
 obtain ⟨h1,h2⟩:=List.getElem?_eq_some_iff.1 hp;rw [List.findIdx?_eq_some_iff_getElem];refine ⟨h1,by rw [h2];exact hq,fun j hj => ?_⟩;have:=h j _ hj (List.getElem?_eq_getElem (by omega));simp [this]
theorem zt5 {l:List (ByteArray × ByteArray)} {C:Option (List Int)} (h:zp2 l C l.length):l.findIdx? (hitN C)=none:=by
 rw [List.findIdx?_eq_none_iff];intro p hp;obtain ⟨j,hj⟩:=List.mem_iff_getElem?.1 hp;exact h j p (List.getElem?_eq_some_iff.1 hj).1 hj
theorem ztv (A:Option Addr) (n c eb cb:Nat) (l:List (ByteArray × ByteArray)) (C:Option (List Int)) (w:World) (hA:Rds w w.heap.size A (hds l)) (hn:l.length=n) (hN:n≤16000000) (hl:∀ h∈l,h.1.size≤4000000) (hS:SC w) (hM:NM w eb cb C) (hC:∀ c,C=some c→By c) :
  Calls Tryz.prog 94 #[.slice A n c,nmV eb cb] w fun e w'=>e = .returned (idxV (l.findIdx? (hitN C)))∧Below w.heap.size w w':=by
 have HA:=kd hA;have HN:=kd hn;have HM:=kd hM;have HS:=kd hS;have HC:=kd hC;have HL:=kd hl;clear hA hn hM hS hC hl;unfold nmV
 go_enter Tryz.func94,Tryz.ntmps94
 go_wp2_with fail
 go_loopw [8] (fun v wr => ∃ k:Nat,k≤n∧v = .int .i64 k∧Hid (zp2 l C k)∧Hid (Below w.heap.size w wr)) (fun v _=>n - (intOf v).toNat)
 case atStart=>exact ⟨0,Nat.zero_le _,rfl,kd (zth _ _),kd zBr⟩
 case round =>
  obtain ⟨k,hk,rfl,HK,BR⟩:=hrel
  by_cases hlt:k<n
  · have hd:decide (k<n)=true:=by simp [hlt]
    have hd2:decide ((k:Int)<(n:Int))=true:=by simp;omega
    obtain ⟨p,hp⟩:∃ p,l[k]? = some p:=⟨_,List.getElem?_eq_getElem (by rw [HN.out];exact hlt)⟩;obtain ⟨x1,o1,rfl,hx1,hc1⟩:=HA.out (by rw [zqk,HN.out];omega)
    have G1:=kd (show wr.rangeAt x1 (o1+k*2) [.string p.1,.string p.2] from fun j v hv=>(BR.out.cell (p:=⟨x1,_,none⟩) hx1).trans (Rds.range2 hc1 (k*2) _ (zw6 hp) j v hv))
    have HI:=kd (zr0 p.1 p.2 eb cb C wr (HL.out p (List.mem_of_getElem? hp)) (HS.out.below BR.out) (HM.out.below BR.out) HC.out);have KS:=kd (fun h=>zti HK.out hp h);have KF:=kd (fun h=>zt4 HK.out hp h);clear hc1 hp HK;obtain ⟨pa,pb⟩:=p;dsimp only at G1 HI
    go_wp2_with (with_reducible refine wpList_load_mid rfl 56 (.tmp 14) rfl x1 (o1+k*2) rfl [.string pa,.string pb] _ G1.out Tryz.underlying56 rfl (ycz _ _) ?_);refine HI.out.mono ?_;rintro e w' ⟨rfl,hb'⟩;have B2:=kd (zao BR.out hb');clear hb' G1 HI
    cases hq:hitN C (pa,pb) with
    | true =>
      have E:=kd (KF.out hq);clear KS KF hq;go_wp2_with fail;go_ret;exact ⟨by rw [E.out];rfl,B2.out⟩
    | false =>
      have K2:=kd (KS.out hq);clear KS KF hq;go_wp2_with fail;go_roundw
      case rel=>exact ⟨k+1,by omega,by go_num,K2,B2⟩
      case measure=>simp [intOf];omega
  · obtain rfl:k=n:=by omega
    have E:=kd (zt5 (show zp2 l C l.length by rw [HN.out];exact HK.out));go_wp2_with fail;go_ret;exact ⟨by rw [E.out];rfl,BR.out⟩

def pmC (p:Pm):List Value:=[.string (strOfNums p.n),.string (strOfNums p.v),.bool p.h]
def pms (l:List Pm):List Value:=l.flatMap pmC
theorem zmr (l:List Pm) (p:Pm):pms (l++[p])=pms l++pmC p:=by simp [pms]
theorem zh9 (l:List Pm):(pms l).length=l.length*3:=by
 unfold pms;rw [List.length_flatMap,show (l.map fun a=>(pmC a).length)=l.map (fun _=>3) from List.map_congr_left fun _ _=>rfl];simp [List.map_const',Nat.mul_comm]
theorem zn7 {l:List Pm} {k:Nat} {p:Pm} (h:l[k]? = some p):∀ j u,(pmC p)[j]? = some u→(pms l)[k*3+j]? = some u:=fun j u hu=>by
 have hj:j<3:=(List.getElem?_eq_some_iff.1 hu).1;rw [← hu];exact zfg pmC 3 (fun _=>rfl) l k j p h hj
theorem zry:∃ i,Tryz.prog.info? 155=some i∧i.zero=some (.agg #[.string ⟨#[]⟩,.string ⟨#[]⟩,.bool false])∧i.size=3∧i.bytes=40:=by
 have h:(Tryz.prog.info? 155).map (fun i=>(i.size,i.zero,i.bytes))=some (3,some (.agg #[.string ⟨#[]⟩,.string ⟨#[]⟩,.bool false]),40):=by kernel_rfl
 rw [Option.map_eq_some_iff] at h;obtain ⟨i,hi,he⟩:=h
 injection he with h1 h2
 injection h2 with h2 h3
 exact ⟨i,hi,h2,h1,h3⟩
theorem zj4 {w wr:World} {v:Value} {n:Nat} {cs:List Value} {T:TypeId} {sz:Nat} (H:VX T sz w v n cs wr):∃ A c,v = .slice A n c∧n≤c∧Rds wr wr.heap.size A cs:=by
 rcases H.form with ⟨rfl,rfl,rfl⟩|⟨g,cap,rfl,hc,_,hg,hcell⟩
 · exact ⟨none,0,rfl,Nat.le_refl _,fun h=>absurd h (by simp)⟩
 · exact ⟨_,cap,rfl,hc,fun _=>⟨g,0,rfl,hg,fun j u hu=>by rw [Nat.zero_add];exact hcell j u hu⟩⟩
def eqPm (nm:List Int) (p:Pm):Bool:=p.n == nm
theorem zzx (n v nm:List Int) (h:Bool) (b:Nat) (w:World) (hn:By n) (hm:By nm) (hb:w.cell? ⟨b,0,none⟩=some (.string (strOfNums nm))) :
  Calls Tryz.prog 287 #[.agg #[.string (strOfNums n),.string (strOfNums v),.bool h],.pointer (some ⟨b,0,none⟩)] w fun e w'=>e = .returned (.bool (n == nm))∧Below w.heap.size w w':=by
 have B0:=kd ((Below.refl w.heap.size w).alloc zNr (.cells #[.string (strOfNums n),.string (strOfNums v),.bool h] 155))
 have c1:(w.alloc (.cells #[.string (strOfNums n),.string (strOfNums v),.bool h] 155)).cell? ⟨b,0,none⟩=some (.string (strOfNums nm)):=(B0.out.cell (World.block_lt_of_cell? w _ hb)).trans hb
 have c0:(w.alloc (.cells #[.string (strOfNums n),.string (strOfNums v),.bool h] 155)).cell? ⟨w.heap.size,0,none⟩=some (.string (strOfNums n)):=(Row.new w 155 [.string (strOfNums n),.string (strOfNums v),.bool h]).cell 0;have E:=kd (zhh hn hm);clear hb
 go_enter Tryz.func287,Tryz.ntmps287
 go_wp2_with fail;go_ret;exact ⟨zax E.out,B0.out⟩
def zlu (l:List Pm) (nm:List Int) (k:Nat):Prop := ∀ j p,j<k→l[j]? = some p→eqPm nm p=false
theorem zp1 {l:List Pm} {nm:List Int} {k:Nat} {p:Pm} (h:zlu l nm k) (hp:l[k]? = some p) (hq:eqPm nm p=false):zlu l nm (k+1):=fun j q hj hqj=>by
 rcases Nat.lt_or_ge j k with h1|h1
 · exact h j q h1 hqj
 · obtain rfl:j=k:=by omega
   obtain rfl:=Option.some.inj (hp.symm.trans hqj);exact hq
theorem zqo {l:List Pm} {nm:List Int} {k:Nat} {p:Pm} (h:zlu l nm k) (hp:l[k]? = some p) (hq:eqPm nm p=true):l.findIdx? (eqPm nm)=some k:=by
 obtain ⟨h1,h2⟩:=List.getElem?_eq_some_iff.1 hp;rw [List.findIdx?_eq_some_iff_getElem];refine ⟨h1,by rw [h2];exact hq,fun j hj => ?_⟩;have:=h j _ hj (List.getElem?_eq_getElem (by omega));simp [this]
theorem zqp {l:List Pm} {nm:List Int} (h:zlu l nm l.length):l.findIdx? (eqPm nm)=none:=by
 rw [List.findIdx?_eq_none_iff];intro p hp;obtain ⟨j,hj⟩:=List.mem_iff_getElem?.1 hp;exact h j p (List.getElem?_eq_some_iff.1 hj).1 hj
theorem zqj (l:List Pm) (nm:List Int):zdn l nm=(l.findIdx? (eqPm nm)).isSome:=by
 unfold zdn;rw [List.findIdx?_isSome]
 rfl
theorem ztu (A:Option Addr) (n c b:Nat) (l:List Pm) (nm:List Int) (w:World) (hA:Rds w w.heap.size A (pms l)) (hn:l.length=n) (hN:n≤16000000) (hl:∀ p∈l,By p.n) (hm:By nm) (hb:w.cell? ⟨b,0,none⟩=some (.string (strOfNums nm))) :
  Calls Tryz.prog 306 #[.slice A n c,.func (.func 287) #[] #[.pointer (some ⟨b,0,none⟩)]] w fun e w'=>e = .returned (idxV (l.findIdx? (eqPm nm)))∧Below w.heap.size w w':=by
 have HA:=kd hA;have HN:=kd hn;have HB:=kd hb;have HL:=kd hl;have HM:=kd hm;clear hA hn hb hl hm
 go_enter Tryz.func306,Tryz.ntmps306
 go_wp2_with fail
 go_loopw [8] (fun v wr => ∃ k:Nat,k≤n∧v = .int .i64 k∧Hid (zlu l nm k)∧Hid (Below w.heap.size w wr)) (fun v _=>n - (intOf v).toNat)
 case atStart=>exact ⟨0,Nat.zero_le _,rfl,kd (fun _ _ h=>absurd h (Nat.not_lt_zero _)),kd zBr⟩
 case round =>
  obtain ⟨k,hk,rfl,HK,BR⟩:=hrel
  by_cases hlt:k<n
  · have hd:decide (k<n)=true:=by simp [hlt]
    have hd2:decide ((k:Int)<(n:Int))=true:=by simp;omega
    obtain ⟨p,hp⟩:∃ p,l[k]? = some p:=⟨_,List.getElem?_eq_getElem (by rw [HN.out];exact hlt)⟩;obtain ⟨x1,o1,rfl,hx1,hc1⟩:=HA.out (by rw [zh9,HN.out];omega)
    have G1:=kd (show wr.rangeAt x1 (o1+k*3) (pmC p) from fun j v hv=>(BR.out.cell (p:=⟨x1,_,none⟩) hx1).trans (Rds.range2 hc1 (k*3) _ (zn7 hp) j v hv));have cb:=(BR.out.cell (World.block_lt_of_cell? w _ HB.out)).trans HB.out
    have HI:=kd (zzx p.n p.v nm p.h b wr (HL.out p (List.mem_of_getElem? hp)) HM.out cb);have KS:=kd (fun h=>zp1 HK.out hp h);have KF:=kd (fun h=>zqo HK.out hp h);clear hc1 hp HK cb;obtain ⟨pn,pv,ph⟩:=p;dsimp only at HI
    have G2:=kd (show wr.rangeAt x1 (o1+k*3) [.string (strOfNums pn),.string (strOfNums pv),.bool ph] from G1.out);clear G1
    go_wp2_with (with_reducible refine wpList_load_mid rfl 155 (.tmp 14) rfl x1 (o1+k*3) rfl [.string (strOfNums pn),.string (strOfNums pv),.bool ph] _ G2.out Tryz.underlying155 rfl (zbq _ _ _) ?_);refine HI.out.mono ?_;rintro e w' ⟨rfl,hb'⟩;have B2:=kd (zao BR.out hb');clear hb' G2 HI
    cases hq:(pn == nm) with
    | true =>
      have E:=kd (KF.out hq);clear KS KF hq;go_wp2_with fail;go_ret;exact ⟨by rw [E.out];rfl,B2.out⟩
    | false =>
      have K2:=kd (KS.out hq);clear KS KF hq;go_wp2_with fail;go_roundw
      case rel=>exact ⟨k+1,by omega,by go_num,K2,B2⟩
      case measure=>simp [intOf];omega
  · obtain rfl:k=n:=by omega
    have E:=kd (zqp (show zlu l nm l.length by rw [HN.out];exact HK.out));go_wp2_with fail;go_ret;exact ⟨by rw [E.out];rfl,BR.out⟩
theorem ydw (X:Option Nat):∃ z:Int,idxV X = .int .i64 z∧decide (0≤z)=X.isSome:=by
 cases X with
 | none=>exact ⟨-1,rfl,rfl⟩
 | some k=>exact ⟨k,rfl,by simp⟩
theorem zm8 (A:Option Addr) (n c b:Nat) (l:List Pm) (nm:List Int) (w:World) (hA:Rds w w.heap.size A (pms l)) (hn:l.length=n) (hN:n≤16000000) (hl:∀ p∈l,By p.n) (hm:By nm) (hb:w.cell? ⟨b,0,none⟩=some (.string (strOfNums nm))) :
  Calls Tryz.prog 286 #[.slice A n c,.func (.func 287) #[] #[.pointer (some ⟨b,0,none⟩)]] w fun e w'=>e = .returned (.bool (zdn l nm))∧Below w.heap.size w w':=by
 have IX:=kd (ztu A n c b l nm w hA hn hN hl hm hb);obtain ⟨z,hz,hz2⟩:=ydw (l.findIdx? (eqPm nm));rw [hz] at IX;have E:=kd (hz2.trans (zqj l nm).symm);clear hA hn hl hm hb hz hz2
 go_enter Tryz.func286,Tryz.ntmps286
 go_wp2_with fail;refine IX.out.mono ?_;rintro e w1 ⟨rfl,hb⟩;have B1:=kd hb;clear hb IX;go_wp2_with fail;go_ret;exact ⟨zax E.out,B1.out⟩
theorem zop (A:Option Addr) (n c:Nat) (l:List Pm) (nm:List Int) (w:World) (hA:Rds w w.heap.size A (pms l)) (hn:l.length=n) (hN:n≤16000000) (hl:∀ p∈l,By p.n) (hm:By nm) :
  Calls Tryz.prog 230 #[.slice A n c,.string (strOfNums nm)] w fun e w'=>e = .returned (.bool (zdn l nm))∧Below w.heap.size w w':=by
 have B0:=kd ((Below.refl w.heap.size w).alloc zNr (.cells #[.string (strOfNums nm)] 9));have HA:=kd ((hA.below B0.out).up B0.out.size);have HN:=kd hn;have HL:=kd hl;have HM:=kd hm
 have c0:(w.alloc (.cells #[.string (strOfNums nm)] 9)).cell? ⟨w.heap.size,0,none⟩=some (.string (strOfNums nm)):=(Row.new w 9 [.string (strOfNums nm)]).cell 0;have IX:=kd (zm8 A n c w.heap.size l nm _ HA.out hn hN hl hm c0);clear hA hn hl hm HA c0;generalize zdn l nm=H at *
 go_enter Tryz.func230,Tryz.ntmps230
 go_wp2_with fail;refine IX.out.mono ?_;rintro e w1 ⟨rfl,hb⟩;have B1:=kd (zao B0.out hb);clear hb IX;go_wp2_with fail;go_ret;exact ⟨rfl,B1.out⟩
theorem zs5 {l:List Pm} {nm:List Int} (h:zdn l nm=true):zbz l nm=7:=if_pos h
theorem zs6 {l:List Pm} {nm:List Int} (h:zdn l nm=false) (h2:16≤l.length):zbz l nm=4:=by unfold zbz;rw [if_neg (by rw [h];decide),if_pos h2]
theorem zy1 {l:List Pm} {nm:List Int} (h:zdn l nm=false) (h2:¬ 16≤l.length):zbz l nm=0:=by unfold zbz;rw [if_neg (by rw [h];decide),if_neg h2]
theorem zmn (A:Option Addr) (n c:Nat) (l:List Pm) (nm:List Int) (w:World) (hA:Rds w w.heap.size A (pms l)) (hn:l.length=n) (hN:n≤16000000) (hl:∀ p∈l,By p.n) (hm:By nm) :
  Calls Tryz.prog 171 #[.slice A n c,.string (strOfNums nm)] w fun e w'=>e = .returned (.int .u8 (zbz l nm))∧Below w.heap.size w w':=by
 have HH:=kd (zop A n c l nm w hA hn hN hl hm);have E1:=kd (fun h=>zs5 (l:=l) (nm:=nm) h);have E2:=kd (fun h (h2:16≤n)=>zs6 (l:=l) (nm:=nm) h (by rw [hn];exact h2));have E3:=kd (fun h (h2:¬ 16≤n)=>zy1 (l:=l) (nm:=nm) h (by rw [hn];exact h2));clear hA hn hl hm
 generalize zbz l nm=R at *;generalize zdn l nm=H at *
 go_enter Tryz.func171,Tryz.ntmps171
 go_wp2_with fail;refine HH.out.mono ?_;rintro e w1 ⟨rfl,hb⟩;have B1:=kd hb;clear hb HH
 cases H with
 | true =>
   have E:=kd (E1.out rfl);go_wp2_with fail;go_ret;exact ⟨by rw [E.out];rfl,B1.out⟩
 | false =>
   by_cases h16:16≤n
   · have d:decide ((16:Int)≤(n:Int))=true:=by simp;omega
     have E:=kd (E2.out rfl h16);go_wp2_with fail;go_ret;exact ⟨by rw [E.out];rfl,B1.out⟩
   · have d:decide ((16:Int)≤(n:Int))=false:=by simp;omega
     have E:=kd (E3.out rfl h16);go_wp2_with fail;go_ret;exact ⟨by rw [E.out];rfl,B1.out⟩

def pmOK (m:Nat) (p:Pm):Prop:=By p.n∧By p.v∧p.n.length≤m∧p.v.length≤m
structure PS (w:World) (cb:Nat) (s:ByteArray) (a:Nat) (l:List Pm) (v:Value) (wr:World):Prop where
 c:Row wr cb 148 [.string s,.int .i64 a]
 ge:w.heap.size≤cb
 o:VX 155 3 w v l.length (pms l) wr
theorem VX.row {T:TypeId} {sz:Nat} {w wr:World} {v:Value} {n:Nat} {cs:List Value} {g:Nat} (H:VX T sz w v n cs wr) (hg:v.ownBlock=some g):∃ cur:Array Value,wr.heap[g]? = some (.cells cur T (0,0)):=by
 rcases H.o.2 with ⟨rfl,_⟩|⟨g2,cap,cur,rfl,_,hb,_⟩
 · cases hg
 · cases hg
   exact ⟨cur,hb⟩
theorem PS.far {w wr:World} {cb a:Nat} {s:ByteArray} {l:List Pm} {v:Value} (h:PS w cb s a l v wr):∀ g,v.ownBlock=some g→g≠cb:=fun g hg e=>by
 obtain ⟨cur,h1⟩:=h.o.row hg;have h2:=h.c;unfold Row at h2;rw [e,h2] at h1
 injection h1 with h1
 injection h1 with _ h1
 exact absurd h1 (by decide)
section
variable {w wr w' : World} {cb a a' : Nat} {s : ByteArray} {l : List Pm} {v : Value}
theorem PS.call (h:PS w cb s a l v wr) (hb:Below wr.heap.size wr w'):PS w cb s a l v w':=⟨h.c.below hb,h.ge,h.o.step hb⟩
theorem PS.cur (h:PS w cb s a l v wr) (hg:CG wr cb s a' w'):PS w cb s a' l v w':=
 ⟨hg.r,h.ge,h.o.other (h.o.bw.grown hg.g h.o.bw.size (fun k hk=>by cases hk;exact h.ge)) (fun g hv=>hg.g.block g (by
   obtain ⟨cur,h1⟩:=h.o.row hv
   exact lt_of_block h1) (fun e=>h.far g hv (by injection e)))⟩
theorem PS.cset (h:PS w cb s a l v wr) (a':Nat) {z:Int} (hz:z=a'):PS w cb s a' l v (wr.setCell ⟨cb,1,none⟩ (.int .i64 z)):=h.cur ((CG.refl h.c).set a' hz)
end
theorem znj {w wr:World} {cb a0:Nat} {s:ByteArray} {l:List Pm} {v:Value} {ops:Array Oper} {rest:List Oper} {o:Oper} {a:Act} {Q:Exit→Act→World→Prop} (hgd:o.guard=none) (x y:Operand)
  (ho:o.op = .call { callee := .builtin .append,args:=#[x,y],argTypes:=#[83,83] }) (hs:a.eval x=v) (H:PS w cb s a0 l v wr) (p:Pm) (hy:a.eval y = .slice (some ⟨wr.heap.size,0,none⟩) 1 1) (hb:l.length+1≤16777216)
  (h:∀ v' w',Hid (PS w cb s a0 (l++[p]) v' w')→wpList Tryz.prog ops Q rest (a.put o.dst v') w'):wpList Tryz.prog ops Q (o::rest) a (wr.alloc (.cells #[.string (strOfNums p.n),.string (strOfNums p.v),.bool p.h] 155)):=by
 obtain ⟨i,hi,hz,hsz,hbt⟩:=zry
 have hbase:w.heap.size≤(wr.alloc (.cells #[.string (strOfNums p.n),.string (strOfNums p.v),.bool p.h] 155)).heap.size:=by have:=H.o.bw.size;simp;omega
 refine wpList_append_own _ hgd x y 83 ho w.heap.size 155 i _ 3 40 Tryz.underlying83 hi hz hsz hbt rfl (by omega) v l.length (pms l) hs (H.o.o.alloc _) ⟨wr.heap.size,0,none⟩ 1 1 [.string (strOfNums p.n),.string (strOfNums p.v),.bool p.h] hy rfl (fun j u hu => ?_) (zfl _ _ _) (by unfold maxLen;omega) ?_ hbase ?_
 · rw [Addr.add_mid,Nat.zero_add]
   exact ((Row.new wr 155 [.string (strOfNums p.n),.string (strOfNums p.v),.bool p.h]).cell j).trans hu
 · omega
 · intro v' w' h2 h3 _
   refine h v' w' (kd ⟨(H.c.alloc _).heap (h3.block cb (by rw [World.size_alloc];have:=H.c.lt;omega) (fun e=>H.far cb e.symm rfl)),H.ge,?_⟩);rw [zmr,List.length_append];exact ⟨h2,(H.o.bw.alloc H.o.bw.size _).grown h3 hbase (zb8 H.o.o)⟩
end Go.Proofs.YtfnmkedncfdceaaGreatDoor
