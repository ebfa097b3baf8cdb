/- Contract: address.groupList. And what stands behind it. -/
import Derived.Test.YtfnmkedncfdceaaGreatDoorUb
import Derived.Lib.AppendIntMem
set_option linter.unusedVariables false
set_option linter.unusedSimpArgs false
set_option maxRecDepth 100000
set_option maxHeartbeats 4000000
namespace Go.Proofs.YtfnmkedncfdceaaGreatDoor
open Go.RowKit

def gsL (ps:List (List Int)) (k:Nat):List (List Int):=(ps.take k).map grpN++ps.drop k
theorem ybq {ps:List (List Int)} {k:Nat} {p:List Int} (h:ps[k]? = some p):(strs (gsL ps k))[k]? = some (.string (strOfNums p)):=by
 have hk:k<ps.length:=(List.getElem?_eq_some_iff.1 h).1;unfold strs gsL;rw [List.getElem?_map,List.getElem?_append_right (by simp;omega)];simp [h,show min k ps.length=k by omega]
theorem yd4 {ps:List (List Int)} {k:Nat} {p:List Int} (h:ps[k]? = some p):(strs (gsL ps k)).set k (.string (strOfNums (grpN p)))=strs (gsL ps (k+1)):=by
 have hk:k<ps.length:=(List.getElem?_eq_some_iff.1 h).1
 have e1:ps.drop k=p::ps.drop (k+1):=by rw [List.drop_eq_getElem_cons hk];congr 1;exact Option.some.inj ((List.getElem?_eq_getElem hk).symm.trans h)
 have e2:ps.take (k+1)=ps.take k++[p]:=zdu h;unfold strs gsL;rw [e2,e1,List.map_append,List.map_append,List.map_append,List.map_cons];rw [List.set_append,if_neg (by simp;omega)];simp [show min k ps.length=k by omega]
def GrpR (w:World) (R:Option (List (List Int))) (e:Ending) (w':World):Prop:=match R with
 | none=>e = .returned (.tuple #[.slice none 0 0,.bool false])∧Below w.heap.size w w'
 | some l => ∃ v,e = .returned (.tuple #[v,.bool true])∧SXL w v l w'
theorem GrpR.bad {w w':World} {R:Option (List (List Int))} (h:R=none) (hb:Below w.heap.size w w'):GrpR w R (.returned (.tuple #[.slice none 0 0,.bool false])) w':=by
 subst h;exact ⟨rfl,hb⟩
theorem GrpR.good {w w':World} {R:Option (List (List Int))} {l:List (List Int)} {v:Value} (h:R=some l) (hb:SXL w v l w'):GrpR w R (.returned (.tuple #[v,.bool true])) w':=by
 subst h;exact ⟨v,rfl,hb⟩
theorem grp_no {s:List Int} {k:Nat} {p:List Int} (hp:(cutL 58 s)[k]? = some p) (h:zfp p=false):grpL s=none:=by
 unfold grpL;rw [if_neg];intro ha;have:=List.all_eq_true.1 ha p (List.mem_of_getElem? hp);rw [h] at this;cases this
theorem zff (s:ByteArray) (w:World) (hs:s.size≤4000000) (hm:GM w):Calls Tryz.prog 223 #[.string s] w (GrpR w (grpL (zaa s))):=by
 have SP:=kd (znx s 58 w hs hm);have PB:=kd (zqy (sep:=58) (zas s));have NO:=kd (fun k p h h2=>grp_no (s:=zaa s) (k:=k) (p:=p) h h2);have YES:=kd (fun (h:(cutL 58 (zaa s)).all zfp=true)=>show grpL (zaa s)=some ((cutL 58 (zaa s)).map grpN) by unfold grpL;rw [if_pos h])
 have PL:=kd (show ∀ p∈cutL 58 (zaa s),p.length≤s.size from fun p hp=>by rw [← zac];exact ((zga 58 _).1 p hp).length_le);rw [show (((58:UInt8)).toNat:Int)=58 from rfl] at SP;generalize grpL (zaa s)=R at *;obtain ⟨ps,hps⟩:∃ ps,cutL 58 (zaa s)=ps:=⟨_,rfl⟩
 rw [hps] at PB NO YES PL;have PSE:=kd hps;clear hps;have PC:=kd (show ps.length≤s.size+1 from by rw [← PSE.out,← zac];exact (zga 58 _).2);have ST:=kd (Mine.refl w);clear hm
 go_enter Tryz.func223,Tryz.ntmps223
 go_wp2_with fail;refine SP.out.mono ?_;clear SP;rintro e W0 ⟨zs,hz,rfl,rfl⟩
 have hz2:zs=ps.map strOfNums:=by rw [← PSE.out,← hz,List.map_map];exact (List.map_id _).symm.trans (List.map_congr_left fun z _=>(zbh z).symm)
 have hz3:zs.map Value.string=strs ps:=by rw [hz2,List.map_map];rfl
 have hz4:zs.length=ps.length:=by rw [hz2,List.length_map]
 rw [hz3,hz4];clear hz hz2 hz3 hz4;obtain ⟨n,hn⟩:∃ n,ps.length=n:=⟨_,rfl⟩;rw [hn];have HN:=kd hn
 have nl:n≤4000001:=by have:=PC.out;omega
 clear hn PC;replace ST:=kd (show Mine w (w.alloc (.cells (strs ps).toArray 9)) [(w.heap.size,9,strs (gsL ps 0))] [] from ST.out.alloc 9 (strs ps));generalize w.alloc (.cells (strs ps).toArray 9)=W at *;go_wp2_with fail
 go_loopw [14] (fun v wr => ∃ k:Nat,k≤n∧v = .int .i64 k∧Hid ((ps.take k).all zfp=true)∧Hid (Mine w wr [(w.heap.size,9,strs (gsL ps k))] [])) (fun v _=>n - (intOf v).toNat)
 case atStart=>exact ⟨0,Nat.zero_le _,rfl,kd rfl,ST⟩
 case round =>
  clear ST;obtain ⟨k,hk,rfl,OK,ST⟩:=hrel
  by_cases hlt:k<n
  · have hd:decide (k<n)=true:=by simp [hlt]
    have hd2:decide ((k:Int)<(n:Int))=true:=by simp;omega
    have i0:(0:Int)≤(k:Int):=by omega
    have i1:(k:Int)<(n:Int):=by omega
    obtain ⟨p,hp⟩:∃ p,ps[k]? = some p:=⟨_,List.getElem?_eq_getElem (by rw [HN.out];exact hlt)⟩;have cx:=((ST.out.row (i:=0) rfl).cell k).trans (ybq hp);have fx:=(ST.out.row (i:=0) rfl).frozen k;have pb:=PB.out p (List.mem_of_getElem? hp)
    have pl:=PL.out p (List.mem_of_getElem? hp);have SET:=kd (yd4 hp);have CX:=kd (ybq hp);have BAD:=kd (NO.out k p hp);have NXT:=kd (fun (h:zfp p=true)=>show (ps.take (k+1)).all zfp=true by rw [zdu hp,List.all_append,OK.out];simp [h]);clear hp
    obtain ⟨g,hg⟩:∃ g,strOfNums p=g:=⟨_,rfl⟩
    have gX:zaa g=p:=by rw [← hg];exact zal pb
    have gS:p.length=g.size:=by rw [← gX,zac]
    rw [hg] at cx;clear hg;subst gX;have HL:=kd (zac g);have HB:=kd pb;have IDX:=kd (fun (i:Nat) (h:i<g.size) (w:World)=>zbe g (i:=i) h (z:=(i:Int)) rfl w);have LW:=kd (zce g wr (by rw [← HL.out];omega))
    have GN:=kd (show grpN (zaa g)=if (lowS (zaa g)).dropWhile (· == 48)=[] then [48] else (lowS (zaa g)).dropWhile (· == 48) from rfl);have GO:=kd (show zfp (zaa g)=((decide (1≤(zaa g).length) && decide ((zaa g).length≤4)) && (zaa g).all hexB) from rfl);have LB:=kd (zcr pb)
    rw [HL.out] at GO;clear pb pl gS;generalize grpN (zaa g)=gn at *;generalize zfp (zaa g)=go at *;generalize lowS (zaa g)=lw at *;generalize zaa g=X at *
    by_cases h1:g.size<1
    · have d1:decide ((g.size:Int)<1)=true:=by simp;omega
      have d3:decide (1≤g.size)=false:=decide_eq_false (by omega);have E:=kd (BAD.out (by rw [GO.out,d3];rfl));go_wp2_with fail
      go_ret2
      exact GrpR.bad E.out ST.out.bw
    have d1:decide ((g.size:Int)<1)=false:=by simp;omega
    by_cases h2:4<g.size
    · have d2:decide ((4:Int)<(g.size:Int))=true:=by simp;omega
      have d3:decide (g.size≤4)=false:=decide_eq_false (by omega);have E:=kd (BAD.out (by rw [GO.out,d3,Bool.and_false];rfl));go_wp2_with fail
      go_ret2
      exact GrpR.bad E.out ST.out.bw
    have d2:decide ((4:Int)<(g.size:Int))=false:=by simp;omega
    have GO2:=kd (show go=X.all hexB by rw [GO.out,decide_eq_true (show 1≤g.size by omega),decide_eq_true (show g.size≤4 by omega)];rfl);clear GO;go_wp2_with fail
    have g4:g.size≤4:=by omega
    clear d1 d2 h1 h2;obtain ⟨wo,rfl⟩:∃ wo:World,wo=wr:=⟨_,rfl⟩
    go_loopw [29] (fun v wr => ∃ j:Nat,j≤g.size∧v = .int .i64 j∧Hid ((X.take j).all hexB=true)∧wr=wo) (fun v _=>g.size - (intOf v).toNat)
    case atStart=>exact ⟨0,Nat.zero_le _,rfl,kd rfl,rfl⟩
    case round =>
     obtain ⟨j,hj,rfl,HJ,rfl⟩:=hrel
     by_cases hjt:j<g.size
     · have e1:decide ((j:Int)<(g.size:Int))=true:=by simp;omega
       have dx:=IDX.out j hjt
       have hjX:j<X.length:=by rw [HL.out];exact hjt
       have hx:=HB.out _ (zbg hjX);have BD2:=kd (fun h=>zsj (p:=hexB) hjX h);have NX2:=kd (fun (h:hexB (X.getD j 0)=true)=>show (X.take (j+1)).all hexB=true by rw [zdk hjX,HJ.out,h];rfl);have HD:=kd (zf1 (X.getD j 0) wr hx.1 hx.2);clear hjX;generalize X.getD j 0=x at *
       generalize hexN x=hn at *
       cases hb:hexB x with
       | false =>
         have E:=kd (BAD.out (by rw [GO2.out,BD2.out hb]));rw [hb] at HD;clear BD2 NX2;go_wp2_with (go_at_call 281;refine HD.out.mono ?_;rintro e w' ⟨rfl,rfl⟩)
         go_ret2
         exact GrpR.bad E.out ST.out.bw
       | true =>
         have N:=kd (NX2.out hb);rw [hb] at HD;clear BD2 NX2;go_wp2_with (go_at_call 281;refine HD.out.mono ?_;rintro e w' ⟨rfl,rfl⟩);go_roundw
         case rel=>exact ⟨j+1,by omega,by go_num,N,by first|rfl|trivial⟩
         case measure=>simp [intOf];omega
     · obtain rfl:j=g.size:=by omega
       have e1:decide ((g.size:Int)<(g.size:Int))=false:=by simp
       have OKp:=kd (NXT.out (by rw [GO2.out];have:=HJ.out;rwa [List.take_of_length_le (by rw [HL.out];exact Nat.le_refl _)] at this));clear HJ BAD NXT GO2 IDX HB;go_wp2_with fail;refine LW.out.mono ?_;rintro e W2 ⟨rfl,hbl⟩;replace ST:=kd (ST.out.call hbl);clear hbl LW cx fx
       have cx:=((ST.out.row (i:=0) rfl).cell k).trans CX.out;have fx:=(ST.out.row (i:=0) rfl).frozen k;obtain ⟨t,ht⟩:∃ t,lw.dropWhile (· == 48)=t:=⟨_,rfl⟩;rw [ht] at GN
       have TB:By t:=by rw [← ht];exact LB.out.sub (List.dropWhile_sublist _)
       have TR:=kd (show Calls Tryz.prog 282 #[.string (strOfNums lw),.string ⟨#[48]⟩] W2 fun e w'=>e = .returned (.string (strOfNums t))∧W2=w' by
        have h:=zu9 (strOfNums lw) W2
        rwa [zal LB.out,ht] at h)
       have q:=zcs TB [];clear ht LB
       by_cases h0:t=[]
       · subst h0
         have GE:gn=[48]:=by rw [GN.out,if_pos rfl]
         subst GE;go_wp2_with (go_at_call 282;refine TR.out.mono ?_;rintro e w' ⟨rfl,rfl⟩);go_roundw
         case rel=>exact ⟨k+1,by omega,by go_num,OKp,kd (ST.out.setCell (i:=0) (off:=k) (.string (strOfNums [48])) rfl (by rw [SET.out];rfl))⟩
         case measure=>simp [intOf];omega
       · have GE:gn=t:=by rw [GN.out,if_neg h0]
         subst GE
         have q2:((strOfNums gn).toList == ([]:List UInt8))=false:=by
          rw [q,beq_eq_false_iff_ne];exact fun h=>h0 h.symm
         clear q h0;go_wp2_with (go_at_call 282;refine TR.out.mono ?_;rintro e w' ⟨rfl,rfl⟩);go_roundw
         case rel=>exact ⟨k+1,by omega,by go_num,OKp,kd (ST.out.setCell (i:=0) (off:=k) (.string (strOfNums gn)) rfl (by rw [SET.out];rfl))⟩
         case measure=>simp [intOf];omega
  · obtain rfl:k=n:=by omega
    have E:=kd (YES.out (by have:=OK.out;rwa [List.take_of_length_le (by rw [HN.out];exact Nat.le_refl _)] at this))
    have V:=kd (show SXL w (.slice (some ⟨w.heap.size,0,none⟩) k k) (ps.map grpN) wr by
     have r:=ST.out.row (i:=0) rfl
     have e:gsL ps k=ps.map grpN:=by
      unfold gsL;rw [List.take_of_length_le (by rw [HN.out];exact Nat.le_refl _),List.drop_of_length_le (by rw [HN.out];exact Nat.le_refl _),List.append_nil]
     rw [e] at r
     have hl:(ps.map grpN).length=k:=by rw [List.length_map];exact HN.out
     show VX 9 1 w _ (ps.map grpN).length _ wr;rw [hl]
     exact ⟨⟨by rw [za8,hl,Nat.mul_one],.inr ⟨w.heap.size,k,(strs (ps.map grpN)).toArray,rfl,Nat.le_refl _,r,Nat.le_refl _,by unfold maxLen;omega,by simp [za8,hl],by rw [Nat.mul_one,← hl,← za8];simp⟩⟩,ST.out.bw⟩)
    go_wp2_with fail
    go_ret2
    exact GrpR.good E.out V.out

theorem zpv {P:Program} (w:World) (dT sT ty elem:TypeId) (b o n dCap sCap sz:Nat) (A:Option Addr) (cs:List Value)
  (hu:P.underlying dT=some (.slice elem)) (hs:(P.info? elem).map (·.size)=some sz) (hn:cs.length=n*sz) (hA:0<n*sz→∃ a,A=some a∧∀ j v,cs[j]? = some v→w.cell? (a.add j)=some v)
  (hc:∀ j,j<cs.length→(w.cell? ⟨b,o+j,none⟩).isSome=true) (hf:∀ j,j<cs.length→w.frozen? ⟨b,o+j,none⟩=false) (h1:∀ v∈cs,v.oneCell'=true) :
  (Builtin.copy_ #[dT,sT] ty #[.slice (some ⟨b,o,none⟩) n dCap,.slice A n sCap]).run P w = .ok (goInt n) (w.setCells b o cs):=by
 have hst:=run_storeCells_cells (P:=P) b o cs 0 w (by simpa using hc) (by simpa using hf) h1
 cases hq:P.info? elem with
 | none=>simp [hq] at hs
 | some i =>
   have hi:i.size=sz:=by simpa [hq] using hs
   by_cases h0:0<n*sz
   · obtain ⟨a,rfl,hsrc⟩:=hA h0
     have hl:=run_loadCells_list (P:=P) w a cs hsrc;rw [hn] at hl;simp [Builtin.copy_,run_underlying hu,Builtin.lenOf,Builtin.firstCells,sizeOf,typeInfo,hq,hi,hl,hst]
   · obtain rfl:=List.eq_nil_of_length_eq_zero (show cs.length=0 by omega)
     have hl:∀ (x:Addr),(loadCells x 0).run P w = .ok #[] w:=fun x=>by simpa using run_loadCells_list (P:=P) w x [] (by simp)
     have h00:n*sz=0:=by omega
     cases A<;>simp [Builtin.copy_,run_underlying hu,Builtin.lenOf,Builtin.firstCells,sizeOf,typeInfo,hq,hi,h00,storeCells,hl,World.setCells]
theorem zuz {w w':World} {T:TypeId} {sz b n:Nat} {cs:List Value} (hb:Below w.heap.size w w') (hg:w.heap.size≤b) (hr:Row w' b T cs) (hn:cs.length=n*sz) (hm:n≤16777216):VX T sz w (.slice (some ⟨b,0,none⟩) n n) n cs w':=
 ⟨⟨hn,.inr ⟨b,n,cs.toArray,rfl,hg,hr,Nat.le_refl _,by unfold maxLen;omega,by simp [hn],by rw [← hn];simp⟩⟩,hb⟩

theorem yd0 (a b:ByteArray):∀ u∈[Value.string a,.string b],u.oneCell'=true:=fun u hu=>by
 simp at hu
 rcases hu with rfl|rfl<;>rfl

end Go.Proofs.YtfnmkedncfdceaaGreatDoor
namespace Go.Proofs
open Go.Shelf
def Tryz.laysM171_ren:Go.Shelf.Ren:=⟨fun|171=>41|243=>80|246=>128|283=>180|284=>181|285=>182|286=>183|129=>240|317=>239|318=>241|319=>242|320=>243|337=>291|338=>292|n=>n,fun|3=>3|9=>9|2=>2|4=>4|171=>197|0=>0|53=>198|37=>29|5=>5|173=>201|212=>247|51=>248|20=>20|213=>249|46=>69|232=>288|233=>289|n=>n,fun|17=>2|18=>5|19=>6|n=>n⟩
theorem Tryz.laysM171:Go.Proofs.LaysM.n171 Tryz.prog Tryz.laysM171_ren:={
 mixed:=by kernel_rfl
 f129:=Tryz.func240.trans (congrArg some (by kernel_rfl))
 f171:=Tryz.func41.trans (congrArg some (by kernel_rfl))
 f243:=Tryz.func80.trans (congrArg some (by kernel_rfl))
 f246:=Tryz.func128.trans (congrArg some (by kernel_rfl))
 f283:=Tryz.func180.trans (congrArg some (by kernel_rfl))
 f284:=Tryz.func181.trans (congrArg some (by kernel_rfl))
 f285:=Tryz.func182.trans (congrArg some (by kernel_rfl))
 f286:=Tryz.func183.trans (congrArg some (by kernel_rfl))
 f317:=Tryz.func239.trans (congrArg some (by kernel_rfl))
 f318:=Tryz.func241.trans (congrArg some (by kernel_rfl))
 f319:=Tryz.func242.trans (congrArg some (by kernel_rfl))
 f320:=Tryz.func243.trans (congrArg some (by kernel_rfl))
 f337:=Tryz.func291.trans (congrArg some (by kernel_rfl))
 f338:=Tryz.func292.trans (congrArg some (by kernel_rfl))
 t0:=Tryz.underlying0
 a0:=Tryz.isAgg0
 z0:=Tryz.sizeOf0
 v0:=Tryz.zeroValue0
 t2:=Tryz.underlying2
 a2:=Tryz.isAgg2
 z2:=Tryz.sizeOf2
 v2:=Tryz.zeroValue2
 t3:=Tryz.underlying3
 a3:=Tryz.isAgg3
 z3:=Tryz.sizeOf3
 v3:=Tryz.zeroValue3
 t4:=Tryz.underlying4
 a4:=Tryz.isAgg4
 z4:=Tryz.sizeOf4
 v4:=Tryz.zeroValue4
 t5:=Tryz.underlying5
 a5:=Tryz.isAgg5
 z5:=Tryz.sizeOf5
 v5:=Tryz.zeroValue5
 t9:=Tryz.underlying9
 a9:=Tryz.isAgg9
 z9:=Tryz.sizeOf9
 v9:=Tryz.zeroValue9
 t20:=Tryz.underlying20
 a20:=Tryz.isAgg20
 z20:=Tryz.sizeOf20
 v20:=Tryz.zeroValue20
 t37:=Tryz.underlying29
 a37:=Tryz.isAgg29
 z37:=Tryz.sizeOf29
 v37:=Tryz.zeroValue29
 t46:=Tryz.underlying69
 a46:=Tryz.isAgg69
 z46:=Tryz.sizeOf69
 v46:=Tryz.zeroValue69
 t51:=Tryz.underlying248
 a51:=Tryz.isAgg248
 z51:=Tryz.sizeOf248
 v51:=Tryz.zeroValue248
 t53:=Tryz.underlying198
 a53:=Tryz.isAgg198
 z53:=Tryz.sizeOf198
 v53:=Tryz.zeroValue198
 t171:=Tryz.underlying197
 a171:=Tryz.isAgg197
 z171:=Tryz.sizeOf197
 v171:=Tryz.zeroValue197
 t173:=Tryz.underlying201
 a173:=Tryz.isAgg201
 z173:=Tryz.sizeOf201
 v173:=Tryz.zeroValue201
 t212:=Tryz.underlying247
 a212:=Tryz.isAgg247
 z212:=Tryz.sizeOf247
 v212:=Tryz.zeroValue247
 t213:=Tryz.underlying249
 a213:=Tryz.isAgg249
 z213:=Tryz.sizeOf249
 t232:=Tryz.underlying288
 a232:=Tryz.isAgg288
 z232:=Tryz.sizeOf288
 v232:=Tryz.zeroValue288
 t233:=Tryz.underlying289
 a233:=Tryz.isAgg289
 z233:=Tryz.sizeOf289
 v233:=Tryz.zeroValue289
 g17:=by kernel_rfl
 g18:=by kernel_rfl
 g19:=by kernel_rfl
 i0:=by kernel_rfl
 i2:=by kernel_rfl
 i3:=by kernel_rfl
 i4:=by kernel_rfl
 i5:=by kernel_rfl
 i9:=by kernel_rfl
 i20:=by kernel_rfl
 i37:=by kernel_rfl
 i46:=by kernel_rfl
 i51:=by kernel_rfl
 i53:=by kernel_rfl
 i171:=by kernel_rfl
 i173:=by kernel_rfl
 i212:=by kernel_rfl
 i232:=by kernel_rfl
 i233:=by kernel_rfl
 m17:=by kernel_rfl
 m18:=by kernel_rfl
 m19:=by kernel_rfl }
open Go.RowKit Go.Sort Go.Lib in
theorem Tryz.strconv_Itoa (n : Int) (h0 : -9223372036854775808 ≤ n) (h1 : n ≤ 9223372036854775807) (w : World) (htab : Lib.TabIs Tryz.prog w "internal/strconv.uint64pow10" .u64 Lib.pow10Tab) :
  Calls Tryz.prog 41 #[.int .i64 n] w fun e w'=>e = .returned (.string ⟨(Lib.itoa n).toArray⟩)∧∃ k os,w'=grow (w.drewN k) os:=Any.strconv_Itoa Tryz.laysM171 n h0 h1 w htab
end Go.Proofs
namespace Go.Proofs.YtfnmkedncfdceaaGreatDoor
open Go.RowKit

def PT (w : World) : Prop := Lib.TabIs Tryz.prog w "internal/strconv.uint64pow10" .u64 Lib.pow10Tab
theorem PT.below {w w':World} (h:PT w) (hb:Below w.heap.size w w'):PT w':=Lib.tabBelow_of_tabIs h w' hb
theorem zmz (n:Int) (w:World) (h0:0≤n) (h1:n≤9223372036854775807) (hP:PT w):Calls Tryz.prog 41 #[.int .i64 n] w fun e w'=>e = .returned (.string (strOfNums (decL n)))∧Below w.heap.size w w':=
 (Tryz.strconv_Itoa n (by omega) h1 w hP).mono fun e w' ⟨he,k,os,hw⟩=>⟨by rw [he,zj8 (rfl:bl (Lib.itoa n)=bl (Lib.itoa n))];rfl,by rw [hw];exact Lib.below_grow _ _ zNr _ _⟩

theorem tl_beq (a b:ByteArray):(a.toList == b.toList)=(zaa a == zaa b):=by
 rw [Bool.eq_iff_iff,beq_iff_eq,beq_iff_eq,toList_inj]
 constructor
 · rintro rfl;rfl
 · intro h;exact zo8 h
theorem zzc (n:List Int):zk7 n=((n.all zbc && !n.isEmpty) && (decide (valL n≤255) && n == decL (valL n))):=rfl
theorem num_no {s:List Int} {k:Nat} {p:List Int} (hp:(cutL 46 s)[k]? = some p) (h:zk7 p=false):(cutL 46 s).all zk7=false:=by
 rw [Bool.eq_false_iff];intro ha;have:=List.all_eq_true.1 ha p (List.mem_of_getElem? hp);rw [h] at this;cases this
theorem zpz (s:ByteArray) (w:World) (hm:GM w) (hP:PT w):Calls Tryz.prog 167 #[.string s] w fun e w'=>e = .returned (.bool (zee (zaa s)))∧Below w.heap.size w w':=by
 have NE:=kd (show zee (zaa s)=(decide (s.size≤15) && ((cutL 46 (zaa s)).all zk7 && decide ((cutL 46 (zaa s)).length=4))) by rw [← zac];rfl);generalize zee (zaa s)=R at *
 by_cases h15:15<s.size
 · have d1:decide ((15:Int)<(s.size:Int))=true:=by simp;omega
   have E:=kd (show R=false by rw [NE.out,decide_eq_false (by omega)];rfl)
   go_enter Tryz.func167,Tryz.ntmps167
   go_wp2_with fail;go_ret;exact ⟨by rw [E.out];rfl,Below.refl _ _⟩
 have d1:decide ((15:Int)<(s.size:Int))=false:=by simp;omega
 have s15:s.size≤15:=by omega
 have HP:=kd hP;have SP:=kd (znx s 46 w (by omega) hm);have PB:=kd (zqy (sep:=46) (zas s));have NO:=kd (fun k p h h2=>num_no (s:=zaa s) (k:=k) (p:=p) h h2)
 have PL:=kd (show ∀ p∈cutL 46 (zaa s),p.length≤s.size from fun p hp=>by rw [← zac];exact ((zga 46 _).1 p hp).length_le);have PC:=kd (show (cutL 46 (zaa s)).length≤s.size+1 from by rw [← zac];exact (zga 46 _).2);rw [show (((46:UInt8)).toNat:Int)=46 from rfl] at SP
 rw [decide_eq_true s15,Bool.true_and] at NE;obtain ⟨ps,hps⟩:∃ ps,cutL 46 (zaa s)=ps:=⟨_,rfl⟩;rw [hps] at PB NO PL PC NE;have PSE:=kd hps;clear hps hm hP h15;have ST:=kd (Mine.refl w)
 go_enter Tryz.func167,Tryz.ntmps167
 go_wp2_with fail;refine SP.out.mono ?_;clear SP;rintro e W0 ⟨zs,hz,rfl,rfl⟩
 have hz2:zs=ps.map strOfNums:=by rw [← PSE.out,← hz,List.map_map];exact (List.map_id _).symm.trans (List.map_congr_left fun z _=>(zbh z).symm)
 have hz3:zs.map Value.string=strs ps:=by rw [hz2,List.map_map];rfl
 have hz4:zs.length=ps.length:=by rw [hz2,List.length_map]
 rw [hz3,hz4];clear hz hz2 hz3 hz4;obtain ⟨n,hn⟩:∃ n,ps.length=n:=⟨_,rfl⟩;rw [hn] at NE PC ⊢;have HN:=kd hn
 have nl:n≤16:=by have:=PC.out;omega
 clear hn PC PSE;replace ST:=kd ((show Mine w (w.alloc (.cells (strs ps).toArray 9)) [(w.heap.size,9,strs ps)] [] from ST.out.alloc 9 (strs ps)).rest);generalize w.alloc (.cells (strs ps).toArray 9)=W at *;go_wp2_with fail;clear d1
 go_loopw [15] (fun v wr => ∃ k:Nat,k≤n∧v = .int .i64 k∧Hid ((ps.take k).all zk7=true)∧Hid (Mine w wr [] [(fun W=>Row W w.heap.size 9 (strs ps))])) (fun v _=>n - (intOf v).toNat)
 case atStart=>exact ⟨0,Nat.zero_le _,rfl,kd rfl,ST⟩
 case round =>
  clear ST;obtain ⟨k,hk,rfl,OK,ST⟩:=hrel
  by_cases hlt:k<n
  · have hd:decide (k<n)=true:=by simp [hlt]
    have hd2:decide ((k:Int)<(n:Int))=true:=by simp;omega
    have i0:(0:Int)≤(k:Int):=by omega
    have i1:(k:Int)<(n:Int):=by omega
    obtain ⟨p,hp⟩:∃ p,ps[k]? = some p:=⟨_,List.getElem?_eq_getElem (by rw [HN.out];exact hlt)⟩;have cx:=((show Row wr w.heap.size 9 (strs ps) from ST.out.fact (i:=0) rfl).cell k).trans (show (strs ps)[k]? = some (.string (strOfNums p)) by unfold strs;rw [List.getElem?_map,hp];rfl)
    have pb:=PB.out p (List.mem_of_getElem? hp);have pl:=PL.out p (List.mem_of_getElem? hp);have BAD:=kd (NO.out k p hp);have NXT:=kd (fun (h:zk7 p=true)=>show (ps.take (k+1)).all zk7=true by rw [zdu hp,List.all_append,OK.out];simp [h]);have NOK:=kd (zzc p);clear hp
    obtain ⟨g,hg⟩:∃ g,strOfNums p=g:=⟨_,rfl⟩
    have gX:zaa g=p:=by rw [← hg];exact zal pb
    have g15:g.size≤15:=by rw [← zac,gX];omega
    rw [hg] at cx;clear hg;subst gX;have HL:=kd (zac g);have HB:=kd pb;have IDX:=kd (fun (i:Nat) (h:i<g.size) (w:World)=>zbe g (i:=i) h (z:=(i:Int)) rfl w);have TB:=kd (fun b=>tl_beq g b);clear pb pl;generalize zk7 (zaa g)=go at *;generalize zaa g=X at *
    go_wp2_with fail;obtain ⟨wo,rfl⟩:∃ wo:World,wo=wr:=⟨_,rfl⟩
    go_loopw [6,21] (fun v6 v wr => ∃ (j:Nat) (m:Int),j≤g.size∧v6 = .int .i64 m∧v = .int .i64 j∧0≤m∧m≤1000000000000000∧Hid (m=valL (X.take j)∧(X.take j).all zbc=true)∧wr=wo) (fun _ v _=>g.size - (intOf v).toNat)
    case atStart=>exact ⟨0,0,Nat.zero_le _,rfl,rfl,by decide,by decide,kd ⟨rfl,rfl⟩,rfl⟩
    case round =>
     obtain ⟨j,m,hj,rfl,rfl,m0,m1,HJ,rfl⟩:=hrel
     by_cases hjt:j<g.size
     · have e1:decide ((j:Int)<(g.size:Int))=true:=by simp;omega
       have dx:=IDX.out j hjt
       have hjX:j<X.length:=by rw [HL.out];exact hjt
       have hx:=HB.out _ (zbg hjX);have BD2:=kd (fun h=>zsj (p:=zbc) hjX h)
       have NX2:=kd (fun (h:zbc (X.getD j 0)=true)=>show 10*m+(X.getD j 0 - 48)=valL (X.take (j+1))∧(X.take (j+1)).all zbc=true by
        rw [zdk hjX,HJ.out.2,h,zcu X hjX,zno,← HJ.out.1]
        exact ⟨rfl,rfl⟩)
       have NR:=kd (fun h=>zli (X.take (j+1)) h);have NL:=kd (show (X.take (j+1)).length≤15 by rw [List.length_take];omega);have HD:=kd (zer (X.getD j 0) wr);clear hjX;generalize X.getD j 0=x at *
       cases hb:zbc x with
       | false =>
         have E:=kd (show R=false by rw [NE.out,BAD.out (by rw [NOK.out,BD2.out hb];rfl)];rfl);rw [hb] at HD;clear BD2 NX2;go_wp2_with (go_at_call 226;refine HD.out.mono ?_;rintro e w' ⟨rfl,rfl⟩);go_ret;exact ⟨by rw [E.out];rfl,ST.out.bw⟩
       | true =>
         have N:=NX2.out hb;have N2:=NR.out N.2;rw [← N.1] at N2
         have N3:10*m+(x - 48)≤1000000000000000:=by
          have h1:(10:Int) ^ (X.take (j+1)).length≤10 ^ 15:=by
           have h:=Nat.pow_le_pow_right (n:=10) (by decide) NL.out
           exact_mod_cast h
          have h2:(10:Int) ^ 15=1000000000000000:=by decide
          omega
         have N0:=N2.1
         have x0:48≤x∧x≤57:=by unfold zbc at hb;simp at hb;exact hb
         obtain ⟨xa,xb⟩:=x0;have NH:=kd N;rw [hb] at HD;clear BD2 NX2 N N2 NR NL BAD hx;go_wp2_with (go_at_call 226;refine HD.out.mono ?_;rintro e w' ⟨rfl,rfl⟩);go_roundw
         case rel=>exact ⟨j+1,10*m+(x - 48),by omega,by go_num,by go_num,N0,N3,NH,by first|rfl|trivial⟩
         case measure=>simp [intOf];omega
     · obtain rfl:j=g.size:=by omega
       have e1:decide ((g.size:Int)<(g.size:Int))=false:=by simp
       have HJO:=HJ.out;rw [List.take_of_length_le (by rw [HL.out];exact Nat.le_refl _)] at HJO;rw [HJO.2,← HJO.1,Bool.true_and] at NOK;clear HJ HJO IDX HB;have q0:=TB.out ⟨#[]⟩;have qd:=TB.out (strOfNums (decL m));rw [zal (zqu m)] at qd;rw [show zaa ⟨#[]⟩=[] from rfl] at q0
       have q0':(g.toList == ([]:List UInt8))=(X == []):=by
        rw [show ([]:List UInt8)=(⟨#[]⟩:ByteArray).toList by kernel_rfl];exact q0
       clear q0 TB
       by_cases h0:X=[]
       · subst h0
         have E:=kd (show R=false by rw [NE.out,BAD.out (by rw [NOK.out];rfl)];rfl);clear qd;go_wp2_with fail;go_ret;exact ⟨by rw [E.out];rfl,ST.out.bw⟩
       · have qf:(g.toList == ([]:List UInt8))=false:=by rw [q0',beq_eq_false_iff_ne];exact h0
         have hne:X.isEmpty=false:=by cases X with
          | nil=>exact absurd rfl h0
          | cons a b=>rfl
         rw [hne] at NOK;clear q0'
         by_cases h255:255<m
         · have d5:decide (255<m)=true:=by simp [h255]
           have E:=kd (show R=false by rw [NE.out,BAD.out (by rw [NOK.out,decide_eq_false (by omega)];rfl)];rfl);clear qd;go_wp2_with fail;go_ret;exact ⟨by rw [E.out];rfl,ST.out.bw⟩
         · have d5:decide (255<m)=false:=by simpa using h255
           have IT:=kd (zmz m wr m0 (by omega) (HP.out.below ST.out.bw));rw [decide_eq_true (show m≤255 by omega)] at NOK
           cases hq:X == decL m with
           | false =>
             rw [hq] at qd NOK;have E:=kd (show R=false by rw [NE.out,BAD.out (by rw [NOK.out];rfl)];rfl);go_wp2_with (go_at_call 41;refine IT.out.mono ?_;rintro e w9 ⟨rfl,hb9⟩;replace ST:=kd (ST.out.call hb9);clear hb9);go_ret;exact ⟨by rw [E.out];rfl,ST.out.bw⟩
           | true =>
             rw [hq] at qd NOK;have OK2:=kd (NXT.out NOK.out);go_wp2_with (go_at_call 41;refine IT.out.mono ?_;rintro e w9 ⟨rfl,hb9⟩;replace ST:=kd (ST.out.call hb9);clear hb9);go_roundw
             case rel=>exact ⟨k+1,by omega,by go_num,OK2,ST⟩
             case measure=>simp [intOf];omega
  · obtain rfl:k=n:=by omega
    have OKA:=OK.out;rw [List.take_of_length_le (by rw [HN.out];exact Nat.le_refl _)] at OKA;rw [OKA,Bool.true_and] at NE
    by_cases h4:k=4
    · subst h4
      have E:=kd (show R=true from NE.out);go_wp2_with fail;go_ret;exact ⟨by rw [E.out];rfl,ST.out.bw⟩
    · have E:=kd (show R=false by rw [NE.out];exact decide_eq_false h4)
      have d4:((k:Int) == 4)=false:=by simp;omega
      go_wp2_with fail;go_ret;exact ⟨by rw [E.out];rfl,ST.out.bw⟩
end Go.Proofs.YtfnmkedncfdceaaGreatDoor
