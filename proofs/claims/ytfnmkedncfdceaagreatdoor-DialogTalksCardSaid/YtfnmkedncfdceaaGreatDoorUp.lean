/- Contracts: header.eachByte (upperByte), strings.LastIndexByte, header.cutPort. And what stands behind it. -/
import Derived.Test.YtfnmkedncfdceaaGreatDoorUx
import Derived.Shelf.Lays2
set_option linter.unusedVariables false
set_option linter.unusedSimpArgs false
set_option maxRecDepth 100000
set_option maxHeartbeats 8000000
namespace Go.Proofs.YtfnmkedncfdceaaGreatDoor
open Go.RowKit

theorem zhs (l:List Int):(upS l).length=l.length:=List.length_map ..
def upK (xs:List Int) (k:Nat):List Int:=upS (xs.take k)++xs.drop k
theorem zu5 (xs:List Int) (k:Nat):(upK xs k).length=xs.length:=by
 unfold upK;rw [List.length_append,zhs,List.length_take,List.length_drop];omega
theorem ych {xs:List Int} {k:Nat} (h:xs.length≤k):upK xs k=upS xs:=by
 unfold upK;rw [List.take_of_length_le h,List.drop_of_length_le h,List.append_nil]
theorem upK_at {xs:List Int} {k:Nat} (h:k<xs.length):(upK xs k)[k]? = some (xs.getD k 0):=by
 unfold upK;rw [List.getElem?_append_right (by rw [zhs,List.length_take];omega),zhs,List.length_take,show k - min k xs.length=0 by omega,za7 xs h]
 rfl
theorem ycg {xs:List Int} {k:Nat} (h:k<xs.length):(upK xs k).set k (upC (xs.getD k 0))=upK xs (k+1):=by
 unfold upK;rw [List.set_append_right _ _ (by rw [zhs,List.length_take];omega),zhs,List.length_take,show k - min k xs.length=0 by omega,za7 xs h,List.set_cons_zero,zcu xs h];unfold upS;simp
def UWR (w:World) (xs:List Int) (v:Value) (wr:World):Prop := ∃ k:Nat,k≤xs.length∧v = .int .i64 k∧Hid (BR wr w.heap.size (upK xs k)∧Below w.heap.size w wr)
theorem zua (s:ByteArray) (w:World) (hM:s.size≤4000000) :
  Calls Tryz.prog 111 #[.string s,.func (.func 112) #[] #[]] w fun e w'=>e = .returned (.string (strOfNums (upS (zaa s))))∧Below w.heap.size w w':=by
 have HB:=kd (zas s);have HL:=kd (zac s)
 go_enter Tryz.func111,Tryz.ntmps111
 go_wp2_with (with_reducible refine zec rfl _ rfl s rfl ?_);intro cap w1 hcap R1 B1;generalize hX:zaa s=X at *;have HX:=kd hX;clear hX;go_wp2_with fail
 go_loopw [12] (fun v wr=>UWR w X v wr) (fun v _=>s.size - (intOf v).toNat)
 case atStart=>exact ⟨0,Nat.zero_le _,rfl,kd ⟨R1.out,B1.out⟩⟩
 case round =>
  obtain ⟨k,hk,rfl,H⟩:=hrel;rw [HL.out] at hk
  by_cases hlt:k<s.size
  · have hlt':k<X.length:=by rw [HL.out];exact hlt
    have hd:decide (k<s.size)=true:=by simp;omega
    have hcell:=H.out.1.c k _ (upK_at hlt');have hfz:=H.out.1.f k (by rw [zu5];exact hlt');have hx2:=HB.out _ (zbg hlt')
    have ST:=kd (show BR (wr.setCell ⟨w.heap.size,k,none⟩ (.int .u8 (upC (X.getD k 0)))) w.heap.size (upK X (k+1)) from by
     rw [← ycg hlt']
     exact H.out.1.set (by rw [zu5];exact hlt') _)
    clear hlt';generalize X.getD k 0=x at *;have UB:=kd (fun w=>zlj x w hx2.1 hx2.2);generalize upC x=y at *;clear hx2;go_wp2_with fail;refine (UB.out _).mono ?_;rintro _ _ ⟨rfl,rfl⟩;go_wp2_with fail;go_roundw
    case rel=>exact ⟨k+1,by rw [HL.out];omega,by go_num,kd ⟨ST.out,H.out.2.setCell zNr _⟩⟩
    case measure=>simp [intOf];omega
  · obtain rfl:k=s.size:=by omega
    have HR:=H.out.1;rw [ych (by rw [HL.out];exact Nat.le_refl _)] at HR;have cv:=HR.conv s.size cap (by rw [zhs];exact HL.out);clear HR;go_wp2_with fail;go_ret;exact ⟨by rw [HX.out];rfl,H.out.2⟩
def zto (s:List Int) (c:Int):Int:=match zmx s c with
 | none => -1
 | some k=>k
theorem ztp {X:List Int} {c:Int} (h:X.contains c=false):zmx X c=none:=by
 unfold zmx;rw [List.findIdx?_eq_none_iff.2 (fun x hx => ?_)]
 · rfl
 · rw [beq_eq_false_iff_ne]
   rintro rfl;rw [List.mem_reverse] at hx;simp [hx] at h
theorem zzm {X:List Int} {j:Nat} {c:Int} (hj:j<X.length) (hc:X.getD j 0=c) (hno:(X.drop (j+1)).contains c=false):zmx X c=some j:=by
 have e:X.reverse=(X.drop (j+1)).reverse++(c::(X.take j).reverse):=by
  have h1:X=X.take j++(c::X.drop (j+1)):=by
   conv=>lhs;rw [← List.take_append_drop j X]
   rw [List.drop_eq_getElem_cons hj,← hc,List.getD_eq_getElem?_getD,List.getElem?_eq_getElem hj];rfl
  conv=>lhs;rw [h1]
  simp
 unfold zmx;rw [e,List.findIdx?_append,List.findIdx?_eq_none_iff.2 (fun x hx => ?_)]
 · simp [List.findIdx?_cons]
   omega
 · rw [beq_eq_false_iff_ne]
   rintro rfl;rw [List.mem_reverse] at hx;simp [hx] at hno
theorem zok (s:ByteArray) (c:Int) (w:World) (hs:s.size≤4000000):Calls Tryz.prog 220 #[.string s,.int .u8 c] w fun e w'=>e = .returned (.int .i64 (zto (zaa s) c))∧w=w':=by
 have HL:=kd (zac s);generalize hX:zaa s=X at *;have HX:=kd hX;obtain ⟨R,hR⟩:∃ R,zto X c=R:=⟨_,rfl⟩;rw [hR];have HA:=kd (fun j (hj:j<X.length) (hc:X.getD j 0=c) (hno:(X.drop (j+1)).contains c=false)=>show R=(j:Int) by rw [← hR];unfold zto;rw [zzm hj hc hno])
 have HN:=kd (fun (hno:(X.drop 0).contains c=false)=>show R = -1 by rw [List.drop_zero] at hno;rw [← hR];unfold zto;rw [ztp hno]);clear hX hR
 go_enter Tryz.func220,Tryz.ntmps220
 go_wp2_with fail
 go_loopw [5] (fun v wr => ∃ j:Nat,j≤s.size∧v = .int .i64 ((j:Int) - 1)∧w=wr∧Hid ((X.drop j).contains c=false)) (fun v _=>(intOf v+1).toNat)
 case atStart=>exact ⟨s.size,Nat.le_refl _,rfl,rfl,kd (by rw [List.drop_eq_nil_of_le (by rw [HL.out];exact Nat.le_refl _)];rfl)⟩
 case round =>
  obtain ⟨j,hj,rfl,rfl,RK⟩:=hrel
  cases j with
  | zero =>
    have F:=kd (HN.out RK.out);rw [show ((0:Nat):Int) - 1 = -1 by rfl];clear RK HA HN;go_wp2_with fail;go_ret;exact ⟨(by rw [F.out];try rfl),rfl⟩
  | succ k =>
    rw [show ((k+1:Nat):Int) - 1=(k:Int) by omega];have d1:=fun w=>zbe s (i:=k) (by omega) (z:=(k:Int)) rfl w;rw [HX.out] at d1
    have E:=kd (show X.drop k=X.getD k 0::X.drop (k+1) by
     have hl:k<X.length:=by rw [HL.out];omega
     rw [List.drop_eq_getElem_cons hl,List.getD_eq_getElem?_getD,List.getElem?_eq_getElem hl];rfl)
    have HK:=kd (HA.out k (by rw [HL.out];omega));generalize X.getD k 0=x at *
    cases he:(x == c) with
    | true =>
      have F:=kd (HK.out (by rw [beq_iff_eq] at he;exact he) RK.out);clear RK E HK HA HN;go_wp2_with fail;go_ret;exact ⟨(by rw [F.out];try rfl),rfl⟩
    | false =>
      have F:=kd (show (X.drop k).contains c=false by
       rw [E.out,List.contains_cons,show (c == x)=false by rw [beq_eq_false_iff_ne] at he ⊢;exact fun h=>he h.symm];exact RK.out)
      clear RK E HK;go_wp2_with fail;go_roundw
      case rel=>exact ⟨k,by omega,by go_num,trivial,F⟩
      case measure=>simp [intOf]
theorem zqf (s:ByteArray) (c:Int) (w:World) (hs:s.size≤4000000):Calls Tryz.prog 164 #[.string s,.int .u8 c] w fun e w'=>e = .returned (.int .i64 (zto (zaa s) c))∧w=w':=by
 go_enter Tryz.func164,Tryz.ntmps164
 go_wp2_with fail;refine (zok s c _ hs).mono ?_;rintro _ _ ⟨rfl,rfl⟩;go_wp2_with fail;go_ret;exact ⟨rfl,rfl⟩
theorem zzl {X:List Int} {c:Int} {k:Nat} (h:zmx X c=some k):k<X.length:=by
 unfold zmx at h;obtain ⟨j,hj,rfl⟩:=Option.map_eq_some_iff.1 h;have:=(List.findIdx?_eq_some_iff_getElem.1 hj).1;rw [List.length_reverse] at this;omega
theorem zqx (s:ByteArray) (w:World) (hs:s.size≤4000000):Calls Tryz.prog 115 #[.string s] w fun e w'=>e = .returned (.tuple #[.string (strOfNums (cutPort (zaa s)).1),.string (strOfNums (cutPort (zaa s)).2.1),.bool (cutPort (zaa s)).2.2])∧Below w.heap.size w w':=by
 have LI:=kd (fun w=>zqf s 58 w hs);unfold zto at LI;obtain ⟨R,hR⟩:∃ R,cutPort (zaa s)=R:=⟨_,rfl⟩;rw [hR];have EQ:=kd hR;clear hR
 cases hl:zmx (zaa s) 58 with
 | none =>
   rw [hl] at LI;have E:=kd (show R=(zaa s,[],false) by rw [← EQ.out];unfold cutPort;rw [hl]);clear EQ hl
   go_enter Tryz.func115,Tryz.ntmps115
   go_wp2_with fail;refine (LI.out _).mono ?_;rintro _ _ ⟨rfl,rfl⟩;go_wp2_with fail
   go_ret3
   exact ⟨by rw [E.out];dsimp only;rw [zbh];rfl,Below.refl _ _⟩
 | some k =>
   rw [hl] at LI
   have hk:k<s.size:=by have:=zzl hl;rwa [zac] at this
   have C1:=kd (fun w=>(Tryz.strings_Contains_one (s.extract 0 k) 91 w).mono (R':=fun e w'=>e = .returned (.bool (((zaa s).take k).contains 91))∧w=w') fun e w' h=>⟨by rw [h.1,yd3,zco];rfl,h.2.symm⟩)
   have C2:=kd (fun w=>(Tryz.strings_Contains_one (s.extract k s.size) 93 w).mono (R':=fun e w'=>e = .returned (.bool (((zaa s).drop k).contains 93))∧w=w') fun e w' h=>⟨by rw [h.1,yd3,zdz];rfl,h.2.symm⟩)
   have E1:=kd (fun (h1:((zaa s).take k).contains 91=true) (h2:((zaa s).drop k).contains 93=true)=>show R=(zaa s,[],false) by rw [← EQ.out];unfold cutPort;rw [hl];dsimp only;rw [if_pos ⟨h1,h2⟩])
   have E2:=kd (fun (h:¬ (((zaa s).take k).contains 91=true∧((zaa s).drop k).contains 93=true))=>show R=((zaa s).take k,(zaa s).drop (k+1),true) by rw [← EQ.out];unfold cutPort;rw [hl];dsimp only;rw [if_neg h]);clear EQ hl
   have d0:decide ((k:Int)<0)=false:=by simp
   generalize ((zaa s).take k).contains 91=b1 at *;generalize ((zaa s).drop k).contains 93=b2 at *
   go_enter Tryz.func115,Tryz.ntmps115
   go_wp2_with fail;refine (LI.out _).mono ?_;rintro _ _ ⟨rfl,rfl⟩;clear LI;go_wp2_with fail;refine (C1.out _).mono ?_;rintro _ _ ⟨rfl,rfl⟩;clear C1
   cases b1 with
   | true =>
     go_wp2_with fail;refine (C2.out _).mono ?_;rintro _ _ ⟨rfl,rfl⟩;clear C2
     cases b2 with
     | true =>
       have E:=kd (E1.out (by simp) (by simp));clear E1 E2;go_wp2_with fail
       go_ret3
       exact ⟨by rw [E.out];dsimp only;rw [zbh];rfl,Below.refl _ _⟩
     | false =>
       have E:=kd (E2.out (by simp));clear E1 E2;go_upto_region 4 with (fail)
       go_quiet (fail)
       go_wp2_with fail
       go_ret3
       exact ⟨by rw [E.out];dsimp only;rw [← zgn,← zco,zbh];rfl,zam _ _⟩
   | false =>
     have E:=kd (E2.out (by simp));clear E1 E2 C2;go_upto_region 4 with (fail)
     go_quiet (fail)
     go_wp2_with fail
     go_ret3
     exact ⟨by rw [E.out];dsimp only;rw [← zgn,← zco,zbh];rfl,zam _ _⟩
end Go.Proofs.YtfnmkedncfdceaaGreatDoor
namespace Go.Proofs
open Go.Shelf
def Tryz.laysNm217_ren:Go.Shelf.Ren:=⟨fun|17=>93|n=>n,fun|24=>23|9=>9|3=>3|4=>4|0=>0|n=>n,fun|n=>n⟩
theorem Tryz.laysNm217:Go.Proofs.Lays2.n17 Tryz.prog Tryz.laysNm217_ren:={
 mixed:=by kernel_rfl
 f17:=Tryz.func93.trans (congrArg some (by kernel_rfl))
 t0:=Tryz.underlying0
 a0:=Tryz.isAgg0
 z0:=Tryz.sizeOf0
 v0:=Tryz.zeroValue0
 t3:=Tryz.underlying3
 a3:=Tryz.isAgg3
 z3:=Tryz.sizeOf3
 v3:=Tryz.zeroValue3
 t4:=Tryz.underlying4
 a4:=Tryz.isAgg4
 z4:=Tryz.sizeOf4
 v4:=Tryz.zeroValue4
 t9:=Tryz.underlying9
 a9:=Tryz.isAgg9
 z9:=Tryz.sizeOf9
 v9:=Tryz.zeroValue9
 t24:=Tryz.underlying23
 a24:=Tryz.isAgg23
 z24:=Tryz.sizeOf23
 v24:=Tryz.zeroValue23 }
open Go.RowKit Go.Lib Go.Sort in
theorem Tryz.slices_Reverse_string (blk off cap:Nat) (zs:List (List UInt8)) (w:World) (hH:Holds encStr w blk off zs.toArray) (hsz:zs.length≤9223372036854775807) :
  Calls Tryz.prog 93 #[.slice (some ⟨blk,off,none⟩) zs.length cap] w fun e w'=>e = .returned (.tuple #[])∧∃ n,w'=putRow encStr (Sort.ahead w n) blk off zs.reverse.toArray:=Any.slices_Reverse_string Tryz.laysNm217 blk off cap zs w hH hsz
end Go.Proofs
namespace Go.Proofs.YtfnmkedncfdceaaGreatDoor
open Go.RowKit

theorem zjv (xs:List Int) (sep:Int):∀ (f i b:Nat) (acc:List (Nat × List Int)),i≤xs.length→xs.length<f+i→(splN xs sep f i b acc).2.2=0→(splN xs sep f i b acc).1≠[]
 | 0,i,b,acc,h1,h2,_=>by omega
 | f+1,i,b,acc,h1,h2,h3=>by
   rw [splN] at h3 ⊢
   split
   · simp
   rename_i hi;rw [if_neg hi] at h3
   split
   · rename_i hq
     rw [if_pos hq] at h3
     split
     · rename_i hu
       rw [if_pos hu] at h3;exact absurd h3 hu
     · rename_i hu
       rw [if_neg hu] at h3;have hp:=zgm (xs:=xs) (i:=i) h1
       have h0:(unq xs i).2.2=0:=by simpa using hu
       have:=hp.2 h0;exact zjv xs sep f _ b acc hp.1 (by omega) h3
   rename_i hq;rw [if_neg hq] at h3
   split
   · rename_i hb
     rw [if_pos hb] at h3
     split
     · rename_i hs
       rw [if_pos hs] at h3
       cases h3
     · rename_i hs
       rw [if_neg hs] at h3;have hg:=zcp (fun c=>c != 62) xs i;exact zjv xs sep f _ b acc (by omega) (by omega) h3
   rename_i hb;rw [if_neg hb] at h3
   split
   · rename_i hc
     rw [if_pos hc] at h3
     cases h3
   rename_i hc;rw [if_neg hc] at h3
   split
   · rename_i hd
     rw [if_pos hd] at h3;exact zjv xs sep f (i+1) (i+1) _ (by omega) (by omega) h3
   · rename_i hd
     rw [if_neg hd] at h3;exact zjv xs sep f (i+1) b acc (by omega) (by omega) h3
theorem zxk (v:List Int):zd9 v≠[]:=by
 unfold zd9
 cases h:ze2 v with
 | error e=>simp
 | ok l =>
   unfold ze2 at h
   split at h
   · cases h
   rename_i h1
   split at h
   · injection h with h
     subst h
     have h0:(zde v 44).2.2=0:=by simpa using h1
     rw [zri] at h0 ⊢;have:=zjv v 44 (v.length+1) 0 0 [] zNz (by omega) h0
     simpa using this
   · cases h
theorem zt9 (v:List Int):(zd9 v).length≤v.length+1:=by
 unfold zd9
 cases h:ze2 v with
 | error e=>simp
 | ok l =>
   unfold ze2 at h
   split at h
   · cases h
   split at h
   · injection h with h
     subst h;have:=(zjt v 44).2;rw [List.length_map];exact this
   · cases h
theorem zsk (nm:List Int):∀ l:List Hd,(allH l nm).length≤(l.map fun h=>h.2.size+1).sum
 | []=>Nat.zero_le _
 | h::l=>by
   have ih:=zsk nm l
   have h2:allH (h::l) nm=(if hitN (zbr nm) h=true then one1 nm h else [])++allH l nm:=by
    rw [zd6,zd6,List.filter_cons]
    cases hitN (zbr nm) h with
    | true=>rw [if_pos rfl,if_pos rfl,List.flatMap_cons]
    | false=>rw [if_neg (by decide),if_neg (by decide),List.nil_append]
   have h3:(one1 nm h).length≤h.2.size+1:=by
    unfold one1
    split
    · have:=zt9 (zaa h.2)
      rw [zac] at this;exact this
    · simp
   rw [h2,List.length_append,List.map_cons,List.sum_cons]
   split
   · omega
   · simp;omega
structure HOK (l:List Hd):Prop where
 n:l.length≤1000000
 s:∀ h∈l,h.1.size≤4000000∧h.2.size≤4000000
 t:(l.map fun h=>h.2.size+1).sum≤4000000
theorem HOK.tot {l:List Hd} (h:HOK l) (nm:List Int):(allH l nm).length≤4000000:=Nat.le_trans (zsk nm l) h.t
def mC (m:Msg) (A B:Option Addr) (c nb cb:Nat):List Value:=[.string (strOfNums m.me),.string (strOfNums m.ur),.int .i64 m.co,.string (strOfNums m.re),.slice A m.hs.length c,.slice B nb cb]
def mS (m:Msg) (A B:Option Addr) (c nb cb:Nat):Value := .agg #[.string (strOfNums m.me),.string (strOfNums m.ur),.int .i64 m.co,.string (strOfNums m.re),.slice A m.hs.length c,.slice B nb cb]
structure MArg (w:World) (m:Msg) (A:Option Addr):Prop where
 r:Rds w w.heap.size A (hds m.hs)
 ok:HOK m.hs
 me:By m.me
 ur:By m.ur
 ml:m.me.length≤4000000
 ul:m.ur.length≤4000000
theorem MArg.step {w w':World} {m:Msg} {A:Option Addr} (h:MArg w m A) (hb:Below w.heap.size w w'):MArg w' m A:={ h with r:=(h.r.below hb).up hb.size }

theorem zrg (l:List (List Int)):∀ u∈strs l,u.oneCell'=true:=fun u hu=>by
 obtain ⟨t,_,rfl⟩:=List.mem_map.1 hu
 rfl
theorem zil (A:Option Addr) (n c:Nat) (l:List (List Int)) (w:World) (hn:l.length=n) (hA:Rds w w.heap.size A (strs l)) (hnil:A=none→n=0∧c=0) (hN:n≤2000000) :
  Calls Tryz.prog 77 #[.slice A n c] w fun e w' => ∃ v,e = .returned v∧SXL w v l w':=by
 have HN:=kd hn;have HA:=kd hA
 cases A with
 | none =>
   obtain ⟨rfl,rfl⟩:=hnil rfl;obtain rfl:l=[]:=List.eq_nil_of_length_eq_zero hn;have e1:=fun w=>Lib.run_eql_slice_nil (P:=Tryz.prog) w 23 9 none 0 0 0 0 Tryz.underlying23;clear hn hA hnil
   go_enter Tryz.func77,Tryz.ntmps77
   go_wp2_with fail;go_ret;exact ⟨_,rfl,VX.nil _ _ _⟩
 | some ad =>
   have e1:=fun w=>Lib.run_eql_slice_nil (P:=Tryz.prog) w 23 9 (some ad) n c 0 0 Tryz.underlying23;have V0:=kd (VX.newE w 9 1);have HB1:=kd ((hA.below V0.out.bw).up V0.out.bw.size);obtain ⟨i,hi,hz,hsz,hbt⟩:=ztt;have HI:=kd hi;have HZ:=kd hz;have HS:=kd hsz;have HT:=kd hbt
   have LS:=kd (za8 l);clear hn hA hnil hi hz hsz hbt
   go_enter Tryz.func77,Tryz.ntmps77
   go_wp2_with (with_reducible refine wpList_append_own _ rfl (.tmp 5) (.tmp 6) 23 rfl w.heap.size 9 i (.string ⟨#[]⟩) 1 16 Tryz.underlying23 HI.out HZ.out HS.out HT.out rfl (by decide) (.slice (some ⟨w.heap.size,0,none⟩) 0 0) 0 [] rfl V0.out.o ad n c (strs l) rfl (by rw [LS.out,HN.out,Nat.mul_one]) ?h1 (zrg l) (by unfold maxLen;omega) (by omega) V0.out.bw.size ?h2)
   case h1 =>
    intro j u hu;obtain ⟨b,o,e,_,hc⟩:=HB1.out (by have:=(List.getElem?_eq_some_iff.1 hu).1;omega)
    cases e
    rw [Addr.add_mid];exact hc j u hu
   case h2 =>
    intro v' w' h1 h2 _
    have h3:w'.ownsRow w.heap.size 9 1 v' n (strs l):=by simpa using h1
    have RB:=kd (show SXL w v' l w' from by unfold SXL;rw [HN.out];exact ⟨h3,V0.out.bw.grown h2 V0.out.bw.size (fun k hk=>by simp [Value.ownBlock] at hk;omega)⟩);clear h1 h2 h3;go_wp2_with fail;go_ret;exact ⟨_,rfl,RB.out⟩

def get2V:Option (List Int)→Value
 | none => .tuple #[.string ⟨#[]⟩,.bool false]
 | some v => .tuple #[.string (strOfNums v),.bool true]
theorem yea (l:List Hd) (nm:List Int):zz3 l (getH l nm)=get2V (valH l nm):=by
 unfold valH
 cases getH l nm with
 | none=>rfl
 | some k =>
   show Value.tuple #[.string (l.getD k (⟨#[]⟩,⟨#[]⟩)).2,.bool true] = .tuple #[.string (strOfNums (zaa (l.getD k (⟨#[]⟩,⟨#[]⟩)).2)),.bool true];rw [zbh]
theorem zme {l:List Hd} {nm v:List Int} (h:valH l nm=some v):By v:=by
 unfold valH at h
 cases hg:getH l nm with
 | none=>rw [hg] at h;cases h
 | some k =>
   rw [hg] at h
   injection h with h
   subst h;exact zas _
theorem zyp {l:List Hd} {nm v:List Int} {N:Nat} (hl:∀ h∈l,h.2.size≤N) (h:valH l nm=some v):v.length≤N:=by
 unfold valH at h
 cases hg:getH l nm with
 | none=>rw [hg] at h;cases h
 | some k =>
   rw [hg] at h
   injection h with h
   subst h;rw [zac,List.getD_eq_getElem?_getD]
   cases hk:l[k]? with
   | none=>exact Nat.zero_le _
   | some p=>exact hl p (List.mem_of_getElem? hk)
theorem zhr (l:List Hd) (nm:List Int):By (val0 l nm):=by
 unfold val0
 cases h:valH l nm with
 | none=>exact fun x hx=>by cases hx
 | some v=>exact zme h
theorem zjc {l:List Hd} {nm:List Int} {N:Nat} (hl:∀ h∈l,h.2.size≤N):(val0 l nm).length≤N:=by
 unfold val0
 cases h:valH l nm with
 | none=>exact Nat.zero_le _
 | some v=>exact zyp hl h
theorem zt2 (o:Option (List Int)):get2V o = .tuple #[.string (strOfNums (o.getD [])),.bool o.isSome]:=by cases o<;>rfl
theorem zeg (m:Msg) (A B:Option Addr) (c nb cb:Nat) (nm:ByteArray) (w:World) (H:MArg w m A) (hM:nm.size≤4000000) (hS:SC w) :
  Calls Tryz.prog 54 #[mS m A B c nb cb,.string nm] w fun e w'=>e = .returned (.tuple #[.string (strOfNums (val0 m.hs (zaa nm))),.bool (valH m.hs (zaa nm)).isSome])∧Below w.heap.size w w':=by
 have h:=zz1 (strOfNums m.me) (strOfNums m.ur) (strOfNums m.re) nm m.co A B m.hs.length c nb cb m.hs w H.r rfl (Nat.le_trans H.ok.n (by decide)) (fun h hh=>(H.ok.s h hh).1) hM hS;rw [yea,zt2] at h;exact h
theorem znf (m:Msg) (A B:Option Addr) (c nb cb:Nat) (nm:ByteArray) (w:World) (H:MArg w m A) (hM:nm.size≤4000000) (hS:SC w) (hK:KD w) :
  Calls Tryz.prog 35 #[mS m A B c nb cb,.string nm] w fun e w' => ∃ v,e = .returned v∧SXL w v (allH m.hs (zaa nm)) w':=
 yeu (strOfNums m.me) (strOfNums m.ur) (strOfNums m.re) nm m.co A B m.hs.length c nb cb m.hs w H.r rfl (Nat.le_trans H.ok.n (by decide)) (fun h hh=>⟨(H.ok.s h hh).1,(H.ok.s h hh).2,zxk _⟩) hM (Nat.le_trans (H.ok.tot _) (by decide)) hS hK
theorem yag {v:List Int} (hv:By v):∀ t∈zd9 v,By t∧t.length≤v.length:=fun t ht=>by
 unfold zd9 at ht
 cases h:ze2 v with
 | error e =>
   rw [h] at ht;rw [List.mem_singleton.1 ht];exact ⟨hv,Nat.le_refl _⟩
 | ok l =>
   rw [h] at ht;unfold ze2 at h
   split at h
   · cases h
   split at h
   · injection h with h
     subst h;obtain ⟨p,hp,rfl⟩:=List.mem_map.1 ht;have hs:=(zjt v 44).1 p hp;exact ⟨hv.sub hs,hs.length_le⟩
   · cases h
theorem zsl {l:List Hd} {nm:List Int} {N:Nat} (hl:∀ h∈l,h.2.size≤N):∀ t∈allH l nm,By t∧t.length≤N:=fun t ht=>by
 rw [zd6] at ht;obtain ⟨h,hh,ht⟩:=List.mem_flatMap.1 ht;have hm:=(List.mem_filter.1 hh).1;have hz:=hl h hm;unfold one1 at ht
 split at ht
 · obtain ⟨h1,h2⟩:=yag (zas h.2) t ht
   rw [zac] at h2;exact ⟨h1,by omega⟩
 · rw [List.mem_singleton.1 ht,zac]
   exact ⟨zas _,hz⟩

theorem zev {w wr:World} {l:List Pm} {v:Value} {ops:Array Oper} {rest:List Oper} {o:Oper} {a:Act} {Q:Exit→Act→World→Prop} (hgd:o.guard=none) (x y:Operand)
  (ho:o.op = .call { callee := .builtin .append,args:=#[x,y],argTypes:=#[83,83] }) (hs:a.eval x=v) (H:VX 155 3 w v l.length (pms l) wr) (p:Pm) (hy:a.eval y = .slice (some ⟨wr.heap.size,0,none⟩) 1 1) (hb:l.length+1≤16777216)
  (h:∀ v' w',Hid (VX 155 3 w v' (l++[p]).length (pms (l++[p])) w')→wpList Tryz.prog ops Q rest (a.put o.dst v') w'):wpList Tryz.prog ops Q (o::rest) a (wr.alloc (.cells #[.string (strOfNums p.n),.string (strOfNums p.v),.bool p.h] 155)):=by
 obtain ⟨i,hi,hz,hsz,hbt⟩:=zry
 have hbase:w.heap.size≤(wr.alloc (.cells #[.string (strOfNums p.n),.string (strOfNums p.v),.bool p.h] 155)).heap.size:=by have:=H.bw.size;simp;omega
 refine wpList_append_own_at _ hgd x y 83 ho w.heap.size 155 i _ 3 40 Tryz.underlying83 hi hz hsz hbt rfl (by omega) v l.length (pms l) hs (H.o.alloc _) ⟨wr.heap.size,0,none⟩ 1 1 [.string (strOfNums p.n),.string (strOfNums p.v),.bool p.h] hy rfl (fun j u hu => ?_) (zfl _ _ _) (by unfold maxLen;omega) ?_ hbase ?_
 · rw [Addr.add_mid,Nat.zero_add]
   exact ((Row.new wr 155 [.string (strOfNums p.n),.string (strOfNums p.v),.bool p.h]).cell j).trans hu
 · omega
 · intro v' w' h2 h3 _ h5
   refine h v' w' (kd ?_);rw [zmr,List.length_append];exact ⟨h2,(H.bw.alloc H.bw.size _).grown h3 hbase (zb8 H.o)⟩
def zpo (w:World) (R:Option (List Pm)) (e:Ending) (w':World):Prop:=match R with
 | none=>e = .returned (.tuple #[.slice none 0 0,.bool false])∧Below w.heap.size w w'
 | some m => ∃ v,e = .returned (.tuple #[v,.bool true])∧VX 155 3 w v m.length (pms m) w'
theorem zpo.bad {w w':World} {R:Option (List Pm)} (h:R=none) (hb:Below w.heap.size w w'):zpo w R (.returned (.tuple #[.slice none 0 0,.bool false])) w':=by subst h;exact ⟨rfl,hb⟩
theorem zpo.good {w w':World} {R:Option (List Pm)} {m:List Pm} {v:Value} (h:R=some m) (hv:VX 155 3 w v m.length (pms m) w'):zpo w R (.returned (.tuple #[v,.bool true])) w':=by subst h;exact ⟨v,rfl,hv⟩
theorem zt3 (k:Int) (p:Pm) (r n:List Pm):zij k (p::r) n=if lowS p.n=[]∨zc7 (lowS p.n)=false∨zc7 p.v=false∨zdn n (lowS p.n)=true then none
  else if (k=2∧p.h=false)∨(k=1∧p.h ≠ !p.v.isEmpty) then none
  else zij k r (n++[⟨lowS p.n,p.v,p.h⟩]):=rfl
theorem dropPm {l:List Pm} {k:Nat} {p:Pm} (h:l[k]? = some p):l.drop k=p::l.drop (k+1):=by
 obtain ⟨h1,h2⟩:=List.getElem?_eq_some_iff.1 h;rw [List.drop_eq_getElem_cons h1,h2]
theorem VX.own_ne {T:TypeId} {sz:Nat} {w wr:World} {v:Value} {n:Nat} {cs:List Value} (H:VX T sz w v n cs wr):∀ g,v.ownBlock=some g→g≠wr.heap.size:=fun g hg e=>by have:=H.own_lt hg;omega
def pmSz (p:Pm):Prop:=By p.n∧By p.v∧p.n.length≤4000000∧p.v.length≤4000000
theorem zl3 (A:Option Addr) (n c:Nat) (l:List Pm) (k:Int) (w:World) (hA:Rds w w.heap.size A (pms l)) (hn:l.length=n) (hN:n≤16000000) (hl:∀ p∈l,pmSz p) (hk:k=1∨k=2) :
  Calls Tryz.prog 261 #[.slice A n c,.int .i64 k] w (zpo w (zeh l k)):=by
 have HA:=kd hA;have HN:=kd hn;have HL:=kd hl;have PB:=kd (show PmBy l from fun p hp=>⟨(hl p hp).1,(hl p hp).2.1⟩);have RE:=kd (show zeh l k=if 16<n then none else (zij k l []).map zbb by subst hn;rfl);obtain ⟨R0,hR0⟩:∃ R0,zij k l []=R0:=⟨_,rfl⟩;rw [hR0] at RE
 have R0E:=kd hR0;have BAD:=kd (fun w' h hb=>zpo.bad (w:=w) (w':=w') (R:=zeh l k) h hb);have GOOD:=kd (fun w' m v h hb=>zpo.good (w:=w) (w':=w') (R:=zeh l k) (m:=m) (v:=v) h hb);generalize zpo w (zeh l k)=PP at *;generalize zeh l k=R at *;clear hA hn hl hR0
 go_enter Tryz.func261,Tryz.ntmps261
 by_cases h16:16<n
 · have d0:decide ((16:Int)<(n:Int))=true:=by simp;omega
   have E:=kd (RE.out.trans (if_pos h16));clear RE;go_wp2_with fail
   first|exact BAD.out _ E.out zBr|(go_ret2;exact BAD.out _ E.out zBr)
 have d0:decide ((16:Int)<(n:Int))=false:=by simp;omega
 have RE2:=kd (RE.out.trans (if_neg h16))
 have n16:n≤16:=by omega
 clear RE h16 hN;go_wp2_with fail
 go_loopw [6,14] (fun v6 v14 wr => ∃ (j:Nat) (m:List Pm) (v:Value),j≤n∧m.length≤j∧v6=v∧v14 = .int .i64 j∧Hid (R0=zij k (l.drop j) m)∧Hid (VX 155 3 w v m.length (pms m) wr)∧Hid (∀ p∈m,By p.n∧By p.v)) (fun _ v _=>n - (intOf v).toNat)
 case atStart=>exact ⟨0,[],_,Nat.zero_le _,Nat.le_refl _,rfl,rfl,kd (by rw [List.drop_zero];exact R0E.out.symm),kd (VX.nil _ _ _),kd (fun p hp=>by cases hp)⟩
 case round =>
  clear d0;obtain ⟨j,m,v,hj,hmj,rfl,rfl,RN,HV,MB⟩:=hrel
  by_cases hlt:j<n
  · have hd:decide (j<n)=true:=by simp [hlt]
    have hd2:decide ((j:Int)<(n:Int))=true:=by simp;omega
    obtain ⟨p,hp⟩:∃ p,l[j]? = some p:=⟨_,List.getElem?_eq_getElem (by rw [HN.out];exact hlt)⟩;obtain ⟨x1,o1,rfl,hx1,hc1⟩:=HA.out (by rw [zh9,HN.out];omega)
    have G1:=kd (show wr.rangeAt x1 (o1+j*3) (pmC p) from fun i v hv=>(HV.out.bw.cell (p:=⟨x1,_,none⟩) hx1).trans (Rds.range2 hc1 (j*3) _ (zn7 hp) i v hv));obtain ⟨pnb,pvb,pnl,pvl⟩:=HL.out p (List.mem_of_getElem? hp);have RN2:=kd (show R0=_ by rw [RN.out,dropPm hp,zt3])
    clear hc1 hp RN hd;obtain ⟨pn,pv,ph⟩:=p;dsimp only at pnb pvb pnl pvl RN2;have G2:=kd (show wr.rangeAt x1 (o1+j*3) [.string (strOfNums pn),.string (strOfNums pv),.bool ph] from G1.out);have LW:=kd (fun w=>zce (strOfNums pn) w (by rw [zaq];exact pnl));rw [zal pnb] at LW
    have NB:=zcr pnb
    have NL:(lowS pn).length≤4000000:=by rw [zbo];exact pnl
    obtain ⟨nm,hnm⟩:∃ nm,lowS pn=nm:=⟨_,rfl⟩;rw [hnm] at LW RN2 NB NL;have CN:=kd (fun w=>zg0 (strOfNums nm) w (by rw [zaq];exact NL));rw [zal NB] at CN;have CV:=kd (fun w=>zg0 (strOfNums pv) w (by rw [zaq];exact pvl));rw [zal pvb] at CV;have EN:=zb1 nm;have EV:=zb1 pv
    have EV2:((strOfNums pv).toList != ([]:List UInt8)) = !pv.isEmpty:=by rw [bne,EV]
    have HNB:=kd NB;have HVB:=kd pvb;have RP:=kd (Row.new wr 155 [.string (strOfNums pn),.string (strOfNums pv),.bool ph]);have V1:=kd (HV.out.step (zBr.alloc zNr (.cells #[.string (strOfNums pn),.string (strOfNums pv),.bool ph] 155)));have NE:=kd (VX.own_ne HV.out)
    have GE:=kd (show w.heap.size≤wr.heap.size from HV.out.bw.size);clear G1 pnb pvb pnl pvl NB NL hnm HV
    go_upto_region 7 with (with_reducible refine wpList_load_mid rfl 155 (.tmp 16) rfl x1 (o1+j*3) rfl [.string (strOfNums pn),.string (strOfNums pv),.bool ph] _ G2.out Tryz.underlying155 rfl (zbq _ _ _) ?_)
    generalize wr.alloc (.cells #[.string (strOfNums pn),.string (strOfNums pv),.bool ph] 155)=w2 at *;generalize wr.heap.size=pb at *;have k0:w2.cell? ⟨pb,0,none⟩=some (.string (strOfNums pn)):=RP.out.cell 0;go_wp2_with fail;refine (LW.out w2).mono ?_;rintro e w3 ⟨rfl,hb⟩
    have RP3:=kd (RP.out.below hb);have V3:=kd (V1.out.step hb);clear k0 hb RP V1 LW G2;have f0:w3.frozen? ⟨pb,0,none⟩=false:=RP3.out.frozen 0;have k0:w3.cell? ⟨pb,0,none⟩=some (.string (strOfNums pn)):=RP3.out.cell 0
    have RP4:=kd (show Row (w3.setCell ⟨pb,0,none⟩ (.string (strOfNums nm))) pb 155 [.string (strOfNums nm),.string (strOfNums pv),.bool ph] from RP3.out.set 0 _)
    have V4:=kd (V3.out.other (V3.out.bw.setCell GE.out (.string (strOfNums nm))) (fun g hg=>Below.heap_setCell w3 ⟨pb,0,none⟩ (.string (strOfNums nm)) g (NE.out g hg)));go_upto_region 8 with (fail);clear k0 f0 RP3 V3;generalize w3.setCell ⟨pb,0,none⟩ (.string (strOfNums nm))=w4 at *
    have k0:w4.cell? ⟨pb,0,none⟩=some (.string (strOfNums nm)):=RP4.out.cell 0;have k1:w4.cell? ⟨pb,1,none⟩=some (.string (strOfNums pv)):=RP4.out.cell 1
    have HO:=kd (fun (A:Option Addr) (c:Nat) (hR:Rds w4 w4.heap.size A (pms m))=>zop A m.length c m nm w4 hR rfl (by omega) (fun p hp=>(MB.out p hp).1) HNB.out);obtain ⟨K2,A2,c2,hv2,hnil2,hK2,hRd2⟩:=V4.out.whole;subst hv2
    have HO2:=kd (HO.out A2 c2 (hRd2 w4 fun r hr=>(hK2 r hr).1));clear hnil2 hK2 hRd2 HO
    by_cases b1:nm=[]
    · have E:=kd (show R=none by rw [RE2.out,RN2.out,if_pos (.inl b1)];rfl)
      have q1:((strOfNums nm).toList == ([]:List UInt8))=true:=by rw [EN,b1];rfl
      clear EN RN2 RE2 EV EV2 b1;go_wp2_with fail
      first|exact BAD.out _ E.out V4.out.bw|(go_ret2;exact BAD.out _ E.out V4.out.bw)
    have q1:((strOfNums nm).toList == ([]:List UInt8))=false:=by rw [EN];simpa using b1
    clear EN
    cases b2:zc7 nm with
    | false =>
      rw [b2] at CN;have E:=kd (show R=none by rw [RE2.out,RN2.out,if_pos (.inr (.inl b2))];rfl);clear RN2 RE2 EV EV2 b1;go_wp2_with fail;refine (CN.out _).mono ?_;rintro _ _ ⟨rfl,rfl⟩;go_wp2_with fail
      first|exact BAD.out _ E.out V4.out.bw|(go_ret2;exact BAD.out _ E.out V4.out.bw)
    | true =>
    rw [b2] at CN;go_wp2_with fail;refine (CN.out _).mono ?_;rintro _ _ ⟨rfl,rfl⟩;clear CN
    cases b3:zc7 pv with
    | false =>
      rw [b3] at CV;have E:=kd (show R=none by rw [RE2.out,RN2.out,if_pos (.inr (.inr (.inl b3)))];rfl);clear RN2 RE2 EV EV2 b1;go_wp2_with fail;refine (CV.out _).mono ?_;rintro _ _ ⟨rfl,rfl⟩;go_wp2_with fail
      first|exact BAD.out _ E.out V4.out.bw|(go_ret2;exact BAD.out _ E.out V4.out.bw)
    | true =>
    rw [b3] at CV;go_wp2_with fail;refine (CV.out _).mono ?_;rintro _ _ ⟨rfl,rfl⟩;clear CV;go_wp2_with fail;refine HO2.out.mono ?_;rintro _ w5 ⟨rfl,hb5⟩;have RP5:=kd (RP4.out.below hb5);have V5:=kd (V4.out.step hb5);clear k0 k1 hb5 RP4 V4 HO2
    cases b4:zdn m nm with
    | true =>
      have E:=kd (show R=none by rw [RE2.out,RN2.out,if_pos (.inr (.inr (.inr b4)))];rfl);clear RN2 RE2 EV EV2 b1;go_wp2_with fail
      first|exact BAD.out _ E.out V5.out.bw|(go_ret2;exact BAD.out _ E.out V5.out.bw)
    | false =>
    have RN3:=kd (RN2.out.trans (if_neg (fun h=>by
     rcases h with h|h|h|h
     · exact b1 h
     · rw [b2] at h;cases h
     · rw [b3] at h;cases h
     · rw [b4] at h;cases h)))
    clear RN2 b1 b2 b3 b4 q1;have k1:w5.cell? ⟨pb,1,none⟩=some (.string (strOfNums pv)):=RP5.out.cell 1;have k2:w5.cell? ⟨pb,2,none⟩=some (.bool ph):=RP5.out.cell 2
    rcases hk with rfl|rfl
    · cases ph
      case false =>
       cases hv:pv.isEmpty with
       | true =>
         have hv0:=hv;rw [hv] at EV EV2;have E:=kd (RN3.out.trans (if_neg (by first|(rw [hv];decide)|(rw [hv0];decide))));clear RN3 hv0
         go_wp2_with (first
          | (with_reducible refine zab rfl 155 (.tmp 8) rfl RP5.out rfl Tryz.underlying155 rfl (zbq _ _ _) ?_)
          | (with_reducible refine zev rfl (.tmp 62) (.tmp 64) rfl rfl V5.out ⟨nm,pv,false⟩ rfl (by omega) ?_))
         intro v9 w9 V9;go_wp2_with fail;go_roundw
         case rel=>exact ⟨j+1,m++[(⟨nm,pv,false⟩:Pm)],_,by omega,by rw [List.length_append,List.length_singleton];omega,rfl,by go_num,E,kd (show VX 155 3 w v9 (m++[(⟨nm,pv,false⟩:Pm)]).length _ w9 by rw [List.length_append];exact V9.out),kd (fun p hp=>by
          rcases List.mem_append.1 hp with hp|hp
          · exact MB.out p hp
          · rw [List.mem_singleton] at hp;subst hp;exact ⟨HNB.out,HVB.out⟩)⟩
         case measure=>simp [intOf];omega
       | false =>
         have hv0:=hv;rw [hv] at EV EV2;have E:=kd (show R=none by rw [RE2.out,RN3.out,if_pos (by first|exact .inl ⟨rfl,rfl⟩|exact .inr ⟨rfl,by first|(rw [hv];decide)|(rw [hv0];decide)⟩)];rfl);clear RN3 RE2 hv0;go_wp2_with fail
         first|exact BAD.out _ E.out V5.out.bw|(go_ret2;exact BAD.out _ E.out V5.out.bw)
      case true =>
       cases hv:pv.isEmpty with
       | true =>
         have hv0:=hv;rw [hv] at EV EV2;have E:=kd (show R=none by rw [RE2.out,RN3.out,if_pos (by first|exact .inl ⟨rfl,rfl⟩|exact .inr ⟨rfl,by first|(rw [hv];decide)|(rw [hv0];decide)⟩)];rfl);clear RN3 RE2 hv0;go_wp2_with fail
         first|exact BAD.out _ E.out V5.out.bw|(go_ret2;exact BAD.out _ E.out V5.out.bw)
       | false =>
         have hv0:=hv;rw [hv] at EV EV2;have E:=kd (RN3.out.trans (if_neg (by first|(rw [hv];decide)|(rw [hv0];decide))));clear RN3 hv0
         go_wp2_with (first
          | (with_reducible refine zab rfl 155 (.tmp 8) rfl RP5.out rfl Tryz.underlying155 rfl (zbq _ _ _) ?_)
          | (with_reducible refine zev rfl (.tmp 62) (.tmp 64) rfl rfl V5.out ⟨nm,pv,true⟩ rfl (by omega) ?_))
         intro v9 w9 V9;go_wp2_with fail;go_roundw
         case rel=>exact ⟨j+1,m++[(⟨nm,pv,true⟩:Pm)],_,by omega,by rw [List.length_append,List.length_singleton];omega,rfl,by go_num,E,kd (show VX 155 3 w v9 (m++[(⟨nm,pv,true⟩:Pm)]).length _ w9 by rw [List.length_append];exact V9.out),kd (fun p hp=>by
          rcases List.mem_append.1 hp with hp|hp
          · exact MB.out p hp
          · rw [List.mem_singleton] at hp;subst hp;exact ⟨HNB.out,HVB.out⟩)⟩
         case measure=>simp [intOf];omega
    · cases ph
      case false =>
       cases hv:pv.isEmpty with
       | true =>
         have hv0:=hv;rw [hv] at EV EV2;have E:=kd (show R=none by rw [RE2.out,RN3.out,if_pos (by first|exact .inl ⟨rfl,rfl⟩|exact .inr ⟨rfl,by first|(rw [hv];decide)|(rw [hv0];decide)⟩)];rfl);clear RN3 RE2 hv0;go_wp2_with fail
         first|exact BAD.out _ E.out V5.out.bw|(go_ret2;exact BAD.out _ E.out V5.out.bw)
       | false =>
         have hv0:=hv;rw [hv] at EV EV2;have E:=kd (show R=none by rw [RE2.out,RN3.out,if_pos (by first|exact .inl ⟨rfl,rfl⟩|exact .inr ⟨rfl,by first|(rw [hv];decide)|(rw [hv0];decide)⟩)];rfl);clear RN3 RE2 hv0;go_wp2_with fail
         first|exact BAD.out _ E.out V5.out.bw|(go_ret2;exact BAD.out _ E.out V5.out.bw)
      case true =>
       cases hv:pv.isEmpty with
       | true =>
         have hv0:=hv;rw [hv] at EV EV2;have E:=kd (RN3.out.trans (if_neg (by first|(rw [hv];decide)|(rw [hv0];decide))));clear RN3 hv0
         go_wp2_with (first
          | (with_reducible refine zab rfl 155 (.tmp 8) rfl RP5.out rfl Tryz.underlying155 rfl (zbq _ _ _) ?_)
          | (with_reducible refine zev rfl (.tmp 62) (.tmp 64) rfl rfl V5.out ⟨nm,pv,true⟩ rfl (by omega) ?_))
         intro v9 w9 V9;go_wp2_with fail;go_roundw
         case rel=>exact ⟨j+1,m++[(⟨nm,pv,true⟩:Pm)],_,by omega,by rw [List.length_append,List.length_singleton];omega,rfl,by go_num,E,kd (show VX 155 3 w v9 (m++[(⟨nm,pv,true⟩:Pm)]).length _ w9 by rw [List.length_append];exact V9.out),kd (fun p hp=>by
          rcases List.mem_append.1 hp with hp|hp
          · exact MB.out p hp
          · rw [List.mem_singleton] at hp;subst hp;exact ⟨HNB.out,HVB.out⟩)⟩
         case measure=>simp [intOf];omega
       | false =>
         have hv0:=hv;rw [hv] at EV EV2;have E:=kd (RN3.out.trans (if_neg (by first|(rw [hv];decide)|(rw [hv0];decide))));clear RN3 hv0
         go_wp2_with (first
          | (with_reducible refine zab rfl 155 (.tmp 8) rfl RP5.out rfl Tryz.underlying155 rfl (zbq _ _ _) ?_)
          | (with_reducible refine zev rfl (.tmp 62) (.tmp 64) rfl rfl V5.out ⟨nm,pv,true⟩ rfl (by omega) ?_))
         intro v9 w9 V9;go_wp2_with fail;go_roundw
         case rel=>exact ⟨j+1,m++[(⟨nm,pv,true⟩:Pm)],_,by omega,by rw [List.length_append,List.length_singleton];omega,rfl,by go_num,E,kd (show VX 155 3 w v9 (m++[(⟨nm,pv,true⟩:Pm)]).length _ w9 by rw [List.length_append];exact V9.out),kd (fun p hp=>by
          rcases List.mem_append.1 hp with hp|hp
          · exact MB.out p hp
          · rw [List.mem_singleton] at hp;subst hp;exact ⟨HNB.out,HVB.out⟩)⟩
         case measure=>simp [intOf];omega
  · obtain rfl:j=n:=by omega
    have hd2:decide ((j:Int)<(j:Int))=false:=by simp
    have E:=kd (show R0=some m by rw [RN.out,List.drop_of_length_le (by rw [HN.out];exact Nat.le_refl _)];rfl);obtain ⟨e1,_,_,e2⟩:=zii PB.out (R0E.out.trans E.out);rw [List.nil_append] at e1;rw [← e1] at e2;have ER:=kd (show R=some (zbb m) by rw [RE2.out,E.out];rfl)
    have ND:=kd e2;obtain ⟨K2,A2,c2,hv2,hnil2,hK2,hRd2⟩:=HV.out.whole;subst hv2;have SO:=kd (zh2 A2 m.length c2 m wr rfl (hRd2 wr fun r hr=>(hK2 r hr).1) hnil2 (by omega) MB.out);clear E e1 e2 RN RE2 hnil2 hK2 hRd2;go_wp2_with fail;refine SO.out.mono ?_;rintro _ w3 ⟨v3,m3,rfl,hS⟩
    have EM:=kd (zne hS.p hS.a ND.out);have VS:=kd (hS.x.base HV.out.bw);rw [EM.out] at VS;clear hS SO;go_wp2_with fail
    first|exact GOOD.out _ _ _ ER.out VS.out|(go_ret2;exact GOOD.out _ _ _ ER.out VS.out)
end Go.Proofs.YtfnmkedncfdceaaGreatDoor
