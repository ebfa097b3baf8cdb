/- Contracts: strings.IndexRune of a rune that is no ASCII, IndexAny of whatever text, address's until. And what stands behind it. -/
import Derived.Test.YtfnmkedncfdceaaGreatDoorUc
import Derived.Laws.RangeAny
import Derived.WalkMore
import Derived.ScopeJumps
import Derived.Lib.IndexAny
import Derived.Lib.OthersKept
import Derived.Shelf.SlSortCmp.InsertionK
set_option linter.unusedVariables false
set_option linter.unusedSimpArgs false
set_option maxRecDepth 100000
set_option maxHeartbeats 4000000
namespace Go.Proofs.YtfnmkedncfdceaaGreatDoor
open Go.RowKit Go.Shelf

def Asc7 (s:ByteArray):Prop := ∀ (j:Nat) (b:UInt8),s.data.toList[j]? = some b→b.toNat<128
theorem Asc7.at {s:ByteArray} (h:Asc7 s) {i:Nat} (hi:i<s.size):(s[i]'hi).toNat<128:=h i _ (Lib.data_getElem? s i hi)
theorem yd9 (s:ByteArray) (k:Nat) (h:k<s.size):s.get! k=s[k]'h:=by
 simp [ByteArray.get!,getElem!_pos,h]
 rfl
theorem zkw (s:ByteArray) (i:Nat) (h:i<s.size) (ha:128≤(s[i]'h).toNat):∀ j,i≤j→j<i+(Utf8.decode s i).2→∃ hj:j<s.size,128≤(s[j]'hj).toNat:=by
 have c:∀ k,(decide (i+k<s.size) && (s.get! (i+k)).toNat / 64 == 2)=true→∃ hj:i+k<s.size,128≤(s[i+k]'hj).toNat:=fun k hk=>by
  rw [Bool.and_eq_true,decide_eq_true_eq,beq_iff_eq] at hk;refine ⟨hk.1,?_⟩;rw [← yd9 s _ hk.1];omega
 have base:∀ j,i≤j→j<i+1→∃ hj:j<s.size,128≤(s[j]'hj).toNat:=fun j h1 h2=>by
  obtain rfl:j=i:=by omega
  exact ⟨h,ha⟩
 have two:∀ k j,(∀ j,i≤j→j<i+k→∃ hj:j<s.size,128≤(s[j]'hj).toNat)→(∃ hj:i+k<s.size,128≤(s[i+k]'hj).toNat)→i≤j→j<i+(k+1)→∃ hj:j<s.size,128≤(s[j]'hj).toNat:=fun k j h1 h2 h3 h4=>by
  by_cases hj:j<i+k
  · exact h1 j h3 hj
  · obtain rfl:j=i+k:=by omega
    exact h2
 simp only [Utf8.decode]
 split
 · exact base
 · split
   · rename_i h2
     rw [Bool.and_eq_true] at h2
     split
     · exact fun j h3 h4=>two 1 j base (c 1 h2.2) h3 h4
     · exact base
   · split
     · rename_i h2
       rw [Bool.and_eq_true,Bool.and_eq_true] at h2
       split
       · exact fun j h3 h4=>two 2 j (fun j h3 h4=>two 1 j base (c 1 h2.1.2) h3 h4) (c 2 h2.2) h3 h4
       · exact base
     · split
       · rename_i h2
         rw [Bool.and_eq_true,Bool.and_eq_true,Bool.and_eq_true] at h2
         split
         · exact fun j h3 h4=>two 3 j (fun j h3 h4=>two 2 j (fun j h3 h4=>two 1 j base (c 1 h2.1.1.2) h3 h4) (c 2 h2.1.2) h3 h4) (c 3 h2.2) h3 h4
         · exact base
       · exact base
theorem zqq {r:Int} (h:128≤r):2≤(Utf8.encode r).size∧(Utf8.encode r).size≤4∧∀ b∈(Utf8.encode r).data.toList,128≤b.toNat:=by
 obtain ⟨c,hc⟩:∃ c,(if Utf8.valid r=true then r.toNat else Utf8.runeError)=c:=⟨_,rfl⟩
 have h1:128≤c∧c<1114112:=by
  rw [← hc]
  split
  · rename_i hv
    unfold Utf8.valid at hv;simp at hv;omega
  · unfold Utf8.runeError;omega
 unfold Utf8.encode;simp only [hc]
 have hb:∀ n:Nat,n<256→128≤n→128≤(UInt8.ofNat n).toNat:=fun n h1 h2=>by
  rw [UInt8.toNat_ofNat'];omega
 rw [if_neg (by omega)]
 by_cases h2:c<2048
 · rw [if_pos h2]
   refine ⟨by show 2≤2;omega,by show 2≤4;omega,?_⟩;intro b hb2;simp only [List.mem_cons,List.not_mem_nil,or_false] at hb2
   rcases hb2 with rfl|rfl
   · exact hb _ (by omega) (by omega)
   · exact hb _ (by omega) (by omega)
 · rw [if_neg h2]
   by_cases h3:c<65536
   · rw [if_pos h3]
     refine ⟨by show 2≤3;omega,by show 3≤4;omega,?_⟩;intro b hb2;simp only [List.mem_cons,List.not_mem_nil,or_false] at hb2
     rcases hb2 with rfl|rfl|rfl
     · exact hb _ (by omega) (by omega)
     · exact hb _ (by omega) (by omega)
     · exact hb _ (by omega) (by omega)
   · rw [if_neg h3]
     refine ⟨by show 2≤4;omega,by show 4≤4;omega,?_⟩;intro b hb2;simp only [List.mem_cons,List.not_mem_nil,or_false] at hb2
     rcases hb2 with rfl|rfl|rfl|rfl
     · exact hb _ (by omega) (by omega)
     · exact hb _ (by omega) (by omega)
     · exact hb _ (by omega) (by omega)
     · exact hb _ (by omega) (by omega)
theorem idx_no {s:ByteArray} {c:UInt8} (h:∀ (j:Nat) (b:UInt8),s.data.toList[j]? = some b→b.toNat<128) (hc:128≤c.toNat):Lib.indexByte s.data.toList c = -1:=by
 have h1:¬ 0≤Lib.indexByte s.data.toList c:=fun h2=>by
  obtain ⟨j,hj⟩:=List.mem_iff_getElem?.1 ((zqh c _).1 h2);have:=h j c hj;omega
 have h2 : -1≤Lib.indexByte s.data.toList c:=by rw [zc9];split<;>omega
 omega
theorem Asc7.extract {s:ByteArray} (h:Asc7 s) (a b:Nat):Asc7 (s.extract a b):=fun j x hj=>by
 have e:(s.extract a b).data.toList=(s.data.toList.drop a).take (b - a):=by rw [ByteArray.data_extract,Array.toList_extract]
 rw [e,List.getElem?_take] at hj
 split at hj
 · rw [List.getElem?_drop] at hj;exact h _ x hj
 · cases hj
theorem ztx (s:ByteArray) (c:UInt8) (w:World) (h:Asc7 s) (hc:128≤c.toNat):Calls Tryz.prog 119 #[.string s,.int .u8 (c.toNat:Int)] w fun e w'=>e = .returned (.int .i64 (-1))∧w'=w:=
 (Tryz.strings_IndexByte s (c.toNat:Int) w).mono fun e w' h1=>⟨by rw [h1.1,Lib.byte_back,idx_no h hc],h1.2⟩
theorem zk8 (s:ByteArray) (r:Int) (w:World) (hs:Asc7 s) (h2:1≤s.size) (h8:s.size≤1000) (hr:128≤r) (hr2:r≤2147483647):Calls Tryz.prog 160 #[.string s,.int .i32 r] w fun e w'=>e = .returned (.int .i64 (-1))∧Below w.heap.size w w':=by
 have HA:=kd hs;clear hs;have r0:decide (0≤r)=true:=decide_eq_true (by omega);have r1:decide (r<128)=false:=decide_eq_false (by omega)
 by_cases he:r=65533
 · subst he
   clear hr hr2 r0 r1
   go_enter Tryz.func160,Tryz.ntmps160
   go_wp2
   go_loopg [5,6] s.size (fun g _ _ wx => ∃ i:Nat,i+g=s.size∧wx=w.iter s i)
   case atStart=>exact ⟨0,by omega,rfl⟩
   case round =>
    obtain ⟨i,hig,rfl⟩:=hrel
    cases gk with
    | zero =>
      obtain rfl:i=s.size:=by omega
      have hnx:=run_next_end (P:=Tryz.prog) w s s.size
      go_wp2
      go_ret;exact ⟨rfl,zBr.alloc zNr _⟩
    | succ g =>
      have hi:i<s.size:=by omega
      have hx128:=HA.out.at hi;obtain ⟨x,hx⟩:∃ x:UInt8,s[i]'hi=x:=⟨_,rfl⟩;rw [hx] at hx128;have hnx:=fun ty=>run_next_ascii (P:=Tryz.prog) w s i ty hi (by rw [hx];exact hx128);rw [hx] at hnx;clear hx
      have hne:((x.toNat:Int) == 65533)=false:=by simp;omega
      go_wp2
      go_roundg g
      case measure=>omega
      case rel=>exact ⟨i+1,by omega,rfl⟩
 · have q0:(r == 65533)=false:=by simpa using he
   have VR:=kd (fun w=>(Tryz.utf8_ValidRune r w).mono (R':=fun e w'=>e = .returned (.bool (Lib.validRune r))∧w=w') fun e w' h=>⟨h.1,h.2.symm⟩)
   cases hv:Lib.validRune r with
   | false =>
     rw [hv] at VR
     go_enter Tryz.func160,Tryz.ntmps160
     go_wp2_with (go_at_call 217;refine (VR.out _).mono ?_;rintro e w' ⟨rfl,rfl⟩);go_ret;exact ⟨rfl,Below.refl _ _⟩
   | true =>
     rw [hv] at VR;obtain ⟨e2,e4,eb⟩:=zqq hr;obtain ⟨rs,hrs⟩:∃ rs,Utf8.encode r=rs:=⟨_,rfl⟩
     have cvt:∀ w,(convert 21 9 (.int .i32 r)).run Tryz.prog w = .ok (.string rs) w:=fun w=>by
      rw [← hrs];simp [convert,run_underlying Tryz.underlying21,run_underlying Tryz.underlying9,Conv.intToString,Sem.run_pure]
     rw [hrs] at e2 e4 eb;clear hrs;have EB:=kd eb;clear eb hv
     go_enter Tryz.func160,Tryz.ntmps160
     go_wp2_with (go_at_call 217;refine (VR.out _).mono ?_;rintro e w' ⟨rfl,rfl⟩)
     go_step3
     go_wp2_with fail
     go_loopw [9] (fun v wr=>v = .int .i64 ((rs.size:Int) - 1)∧Hid (Below w.heap.size w wr)) (fun _ _=>0)
     case atStart=>exact ⟨rfl,kd zBr⟩
     case round =>
      obtain ⟨rfl,BW⟩:=hrel
      by_cases hlt:rs.size - 1<s.size
      · have hd:decide ((rs.size:Int) - 1<(s.size:Int))=true:=by simp;omega
        have sx:=HA.out.at hlt;have rx:=EB.out (rs[rs.size - 1]'(by omega)) (List.mem_of_getElem? (Lib.data_getElem? rs (rs.size - 1) (by omega)));have d1:=fun w=>zbe s (i:=rs.size - 1) hlt (z:=(rs.size:Int) - 1) (by omega) w
        have d2:=fun w=>zbe rs (i:=rs.size - 1) (by omega) (z:=(rs.size:Int) - 1) (by omega) w;rw [← znc s hlt] at d1;rw [← znc rs (show rs.size - 1<rs.size by omega)] at d2;generalize s[rs.size - 1]=xa at *;generalize rs[rs.size - 1]=xb at *
        have hne:((xa.toNat:Int) == (xb.toNat:Int))=false:=by simp;omega
        have IB:=kd (fun w=>(ztx (s.extract rs.size s.size) xb w (HA.out.extract _ _) rx).mono (R':=fun e w'=>e = .returned (.int .i64 (-1))∧∃ q,w'=w.drewN q) fun e w' h=>⟨h.1,0,h.2⟩)
        have i1:(rs.size:Int)≤(s.size:Int):=by omega
        have i2:(0:Int)≤(rs.size:Int):=by omega
        have i3:IntKind.i64.wrap (rs.size:Int)=(rs.size:Int):=IntWalk.i64_in _ (by omega);clear sx rx EB;go_wp2_with fail
        go_step3
        go_wp2_with fail
        go_quiet (fail)
        have B2:=kd (zao BW.out (zam wr nq));generalize wr.drewN nq=w2 at *;go_wp2_with fail
        go_quiet ((go_at_call 119;exact Calls.quiet_of (IB.out _)))
        go_wp2_with fail;rw [Exit.noGoto_ret];simp +zetaDelta only [Exit.noGoto_ret,Exit.inBlock,Exit.then];go_ret;exact ⟨rfl,zao B2.out (zam _ _)⟩
      · have hd:decide ((rs.size:Int) - 1<(s.size:Int))=false:=by simp;omega
        go_wp2_with fail;rw [Exit.noGoto_ret];go_ret;exact ⟨rfl,BW.out⟩
def zpm (s st:ByteArray) (i:Nat):Prop:=Lib.NoAny s.data.toList st.data.toList i
theorem zpm.skip {s st:ByteArray} {i k:Nat} (hst:Asc7 st) (h:zpm s st i) (hk:∀ j,i≤j→j<i+k→∃ hj:j<s.size,128≤(s[j]'hj).toNat):zpm s st (i+k):=fun j b hj hb=>by
 by_cases h1:j<i
 · exact h j b h1 hb
 · obtain ⟨h2,h3⟩:=hk j (by omega) hj
   have e:=Lib.data_getElem? s j h2;rw [hb] at e
   injection e with e
   subst e;rw [Bool.eq_false_iff];intro hc;obtain ⟨q,hq⟩:=List.mem_iff_getElem?.1 (List.contains_iff_mem.1 hc);have:=hst q _ hq;omega
theorem zk9 (s st:ByteArray) (w:World) (h2:2≤st.size) (hst:st.size≤1000) (h8:s.size≤8) (hA:Asc7 st):Calls Tryz.prog 114 #[.string s,.string st] w fun e w'=>e = .returned (.int .i64 (Lib.indexAny s.data.toList st.data.toList))∧Below w.heap.size w w':=by
 have HA:=kd hA;clear hA
 have hemp:st.toList.isEmpty=false:=by
  rw [Lib.toList_data]
  cases h:st.data.toList with
  | nil=>have:=Lib.size_eq st;rw [h,List.length_nil] at this;omega
  | cons _ _=>rfl
 have hn1:((st.size:Int) == 1)=false:=beq_eq_false_iff_ne.2 (by omega);have h8z:decide ((8:Int)<(s.size:Int))=false:=decide_eq_false (by omega)
 have SU:=kd (fun w=>(Tryz.strings_shouldUseASCIISet (s.size:Int) w).mono (R':=fun e w'=>e = .returned (.bool false)∧w=w') fun e w' h=>⟨by rw [h.1,h8z],h.2.symm⟩)
 go_enter Tryz.func114,Tryz.ntmps114
 go_wp2_with (go_at_call 161;refine (SU.out _).mono ?_;rintro e w' ⟨rfl,rfl⟩)
 go_loopg [9,10] s.size (fun g _ _ wx => ∃ i:Nat,i+g=s.size∧Hid (wx.heap[w.heap.size]? = some (.stringIter s i))∧Hid (Below w.heap.size w wx)∧Hid (zpm s st i))
 case atStart=>exact ⟨0,by omega,kd (World.iter_heap w s 0),kd (zBr.alloc zNr _),kd (Lib.NoAny.zero _ _)⟩
 case round =>
  obtain ⟨i,hig,IT,BW,NS⟩:=hrel
  cases gk with
  | zero =>
    obtain rfl:i=s.size:=by omega
    have hnx:=fun ty=>Lib.run_next_end_at (P:=Tryz.prog) wr w.heap.size s s.size ty IT.out (by omega)
    go_wp2
    go_ret;exact ⟨by rw [Lib.indexAny_none (by rw [← Lib.size_eq];exact NS.out)];rfl,BW.out⟩
  | succ g =>
    have hi:i<s.size:=by omega
    have SX:=kd (Lib.data_getElem? s i hi)
    by_cases hx:(s[i]'hi).toNat<128
    · have hnx:=fun ty=>Lib.run_next_ascii_at (P:=Tryz.prog) wr w.heap.size s i ty IT.out hi hx
      have B2:=kd (Lib.below_iterAt BW.out zNr s (i+1));have I2:=kd (Lib.iterAt_heap wr w.heap.size s i (i+1) IT.out);generalize s[i]=x at *;have hcon:=Lib.contains_iff_indexByte st.data.toList x
      have IR:=kd (fun w=>(Tryz.strings_IndexRune_ascii st (x.toNat:Int) w (by omega) (by omega)).mono (R':=fun e w'=>e = .returned (.int .i64 (Lib.indexByte st.data.toList x))∧w=w') fun e w' h=>⟨by rw [h.1,Lib.byte_back],h.2.symm⟩)
      have HIT:=kd (fun h=>Lib.indexAny_hit NS.out SX.out h);have MIS:=kd (fun h=>Lib.NoAny.succ NS.out SX.out h);generalize wr.iterAt w.heap.size s (i+1)=w2 at *
      cases hin:st.data.toList.contains x with
      | true =>
        rw [hin] at hcon;have hge:decide ((0:Int)≤Lib.indexByte st.data.toList x)=true:=hcon.symm;have E:=kd (HIT.out hin);clear hcon hin HIT MIS;generalize Lib.indexByte st.data.toList x=z at *;go_wp2_with (go_at_call 160;refine (IR.out _).mono ?_;rintro e w' ⟨rfl,rfl⟩);go_ret
        exact ⟨by rw [E.out];rfl,B2.out⟩
      | false =>
        rw [hin] at hcon;have hge:decide ((0:Int)≤Lib.indexByte st.data.toList x)=false:=hcon.symm;have E:=kd (MIS.out hin);clear hcon hin HIT MIS;generalize Lib.indexByte st.data.toList x=z at *;go_wp2_with (go_at_call 160;refine (IR.out _).mono ?_;rintro e w' ⟨rfl,rfl⟩)
        go_roundg g
        case measure=>omega
        case rel=>exact ⟨i+1,by omega,I2,B2,E⟩
    · have hx2:128≤(s[i]'hi).toNat:=by omega
      have hnx:=fun ty=>Lib.run_next_any_at (P:=Tryz.prog) wr w.heap.size s i ty IT.out hi;obtain ⟨dh1,dh2⟩:=decode_high s i hi hx2;have dh3:=decode_le s i;have NX:=kd (zpm.skip HA.out NS.out (zkw s i hi hx2))
      have LE:i+(Utf8.decode s i).2≤s.size:=by
       obtain ⟨h1,_⟩:=zkw s i hi hx2 (i+(Utf8.decode s i).2 - 1) (by omega) (by omega);omega
      have B2:=kd (Lib.below_iterAt BW.out zNr s (i+(Utf8.decode s i).2));have I2:=kd (Lib.iterAt_heap wr w.heap.size s i (i+(Utf8.decode s i).2) IT.out);generalize wr.iterAt w.heap.size s (i+(Utf8.decode s i).2)=w2 at *;generalize (Utf8.decode s i).1=r at *
      generalize (Utf8.decode s i).2=k at *;have IR:=kd (fun w=>zk8 st (r:Int) w HA.out (by omega) (by omega) (by omega) (by omega));clear hx hx2 SX
      go_wp2_with (go_at_call 160;refine (IR.out _).mono ?_;rintro e w3 ⟨rfl,hb⟩;have B3:=kd (zao B2.out hb);have I3:=kd ((hb.block _ (lt_of_block I2.out)).trans I2.out);clear hb)
      go_roundg (s.size - (i+k))
      case measure=>omega
      case rel=>exact ⟨i+k,by omega,I3,B3,NX⟩
theorem yb8 (w:World):(zeroValue (188)).run Tryz.prog w = .ok (.agg (Array.replicate 256 (.bool false))) w:=by kernel_rfl
theorem zf0 (s st:ByteArray) (w:World) (hs:s.size≤4000000) (h1:1≤st.size) (h2:st.size≤1000) (hA:Asc7 st):Calls Tryz.prog 114 #[.string s,.string st] w fun e w'=>e = .returned (.int .i64 (if s.size≤zaj (zaa s) 0 (zaa st) then -1 else (zaj (zaa s) 0 (zaa st):Int)))∧Below w.heap.size w w':=by
 have e0:Lib.indexAny s.data.toList st.data.toList=if s.size≤zaj (zaa s) 0 (zaa st) then -1 else (zaj (zaa s) 0 (zaa st):Int):=by
  rw [zkg,show (bl s.data.toList).length=s.size from zac s];rfl
 rw [← e0]
 by_cases h3:st.size=1
 · exact (Tryz.strings_IndexAny_one s st w h3 hA).mono fun e w' h=>⟨h.1,by rw [h.2];exact Below.refl _ _⟩
 · by_cases h8:8<s.size
   · exact (Tryz.strings_IndexAny_long yb8 s st w (by omega) h8 (by omega) (by omega) hA).mono fun e w' h=>⟨h.1,by
      rw [h.2];exact (zBr.alloc zNr _).alloc (by rw [World.size_alloc];omega) _⟩
   · exact zk9 s st w (by omega) h2 (by omega) hA
open Go.RowKit

theorem zss (X:List Int) (a:Nat) (st:List Int):zaj X a st=a+zaj (X.drop a) 0 st:=by
 unfold zaj zag;rw [List.drop_zero,Nat.zero_add]
theorem zcm (s st:ByteArray) (a:Nat) (w:World) (hs:s.size≤4000000) (ha:a≤s.size) (h1:1≤st.size) (h2:st.size≤1000) (hA:Asc7 st) :
  Calls Tryz.prog 125 #[.agg #[.string s],.int .i64 a,.string st] w fun e w'=>e = .returned (.int .i64 (zaj (zaa s) a (zaa st)))∧Below w.heap.size w w':=by
 have HL:=zac s
 have ZL:zaa (s.extract a s.size)=(zaa s).drop a:=by
  rw [zar,List.take_of_length_le (by rw [List.length_drop,HL];exact Nat.le_refl _)]
 have ZS:(s.extract a s.size).size=s.size - a:=by rw [← zac,ZL,List.length_drop,HL]
 have IA:=kd (fun w=>zf0 (s.extract a s.size) st w (by omega) h1 h2 hA);have E:=kd (zss (zaa s) a (zaa st));have LE:=za5 (p:=fun c => !(zaa st).contains c) (xs:=(zaa s).drop a) (i:=0) zNz
 have LE2:zaj ((zaa s).drop a) 0 (zaa st)≤s.size - a:=by
  rw [List.length_drop,HL] at LE;exact LE
 rw [ZL,ZS] at IA;generalize zaj (zaa s) a (zaa st)=R at *;generalize zaj ((zaa s).drop a) 0 (zaa st)=k at *;clear ZL ZS LE HL
 have i1:(a:Int)≤(s.size:Int):=by omega
 have R0:=kd (Row.new w 146 [.string s]);have B0:=kd ((Below.refl w.heap.size w).alloc zNr (.cells #[.string s] 146))
 by_cases hk:s.size - a≤k
 · rw [if_pos hk] at IA
   have E2:=kd (show R=s.size by rw [E.out];omega);clear E LE2 hk
   go_enter Tryz.func125,Tryz.ntmps125
   go_wp2_with (go_at_call 114;refine (IA.out _).mono ?_;rintro e w1 ⟨rfl,hb⟩;have B1:=kd (zao B0.out hb);have R1:=kd (R0.out.below hb);clear hb;have k0:=R1.out.cell 0;simp only [List.getElem?_cons_zero] at k0);go_ret;exact ⟨by rw [E2.out];rfl,B1.out⟩
 · rw [if_neg hk] at IA
   have E2:=kd (show (R:Int)=(a:Int)+(k:Int) by rw [E.out];omega)
   have d0:decide ((0:Int)≤(k:Int))=true:=by simp
   have kb:(k:Int)≤4000000:=by omega
   clear E LE2 hk
   go_enter Tryz.func125,Tryz.ntmps125
   go_wp2_with (go_at_call 114;refine (IA.out _).mono ?_;rintro e w1 ⟨rfl,hb⟩;have B1:=kd (zao B0.out hb);have R1:=kd (R0.out.below hb);clear hb;have k0:=R1.out.cell 0;simp only [List.getElem?_cons_zero] at k0);go_ret;exact ⟨by rw [E2.out];rfl,B1.out⟩

theorem zwl:∀ (x y:List UInt8),Op.bytesLess x y=ltL (bl x) (bl y)
 | [],[]=>rfl
 | [],_::_=>rfl
 | _::_,[]=>rfl
 | a::x,b::y=>by
   rw [show bl (a::x)=(a.toNat:Int)::bl x from rfl,show bl (b::y)=(b.toNat:Int)::bl y from rfl];unfold Op.bytesLess ltL;rw [zwl x y]
   by_cases h1:(a.toNat:Int)<(b.toNat:Int)
   · rw [if_pos h1]
     have:(decide (a<b))=true:=decide_eq_true (UInt8.lt_iff_toNat_lt.2 (by omega));rw [this];rfl
   · rw [if_neg h1]
     have h2:(decide (a<b))=false:=decide_eq_false (fun h=>h1 (by have:=UInt8.lt_iff_toNat_lt.1 h;omega));rw [h2,Bool.false_or]
     by_cases h3:(b.toNat:Int)<(a.toNat:Int)
     · rw [if_pos h3]
       have:(a == b)=false:=by
        rw [beq_eq_false_iff_ne];rintro rfl;omega
       rw [this];rfl
     · rw [if_neg h3]
       have:a=b:=UInt8.toNat_inj.1 (by omega);rw [this];simp
theorem ztn (x y:ByteArray):Op.bytesLess x.toList y.toList=ltL (zaa x) (zaa y):=by
 rw [ByteArray.toList_eq,ByteArray.toList_eq,zwl];rfl
theorem zzj {x y:List Int} (hx:By x) (hy:By y):Op.bytesLess (strOfNums x).toList (strOfNums y).toList=ltL x y:=by rw [ztn,zal hx,zal hy]
def cmpL (x y:List Int):Int:=if ltL x y=true then -1 else if ltL y x=true then 1 else 0
theorem zv9 (s:ByteArray) (w:World):Calls Tryz.prog 238 #[.string s] w fun e w'=>e = .returned (.bool false)∧w=w':=by
 go_enter Tryz.func238,Tryz.ntmps238
 go_wp2
 go_ret;exact ⟨rfl,rfl⟩
theorem zuf (x y:List Int) (w:World) (hx:By x) (hy:By y):Calls Tryz.prog 179 #[.string (strOfNums x),.string (strOfNums y)] w fun e w'=>e = .returned (.int .i64 (cmpL x y))∧w=w':=by
 have N1:=kd (fun w=>zv9 (strOfNums x) w);have N2:=kd (fun w=>zv9 (strOfNums y) w);have l1:=zzj hx hy;have q1:=zhh hx hy;have E:=kd (show cmpL x y=if ltL x y=true then -1 else if ltL y x=true then 1 else 0 from rfl)
 have T:=kd (fun (h1:ltL x y=false) (h2:ltL y x=true)=>show (x == y)=false by
  rw [beq_eq_false_iff_ne];rintro rfl;rw [h1] at h2;cases h2)
 have T2:=kd (fun (h1:ltL x y=false) (h2:ltL y x=false)=>show (x == y)=true by
  rw [zp8 h1 h2];simp)
 generalize cmpL x y=R at *
 cases h1:ltL x y with
 | true =>
   rw [h1] at l1;have E2:=kd (show R = -1 by rw [E.out,h1];rfl);clear q1 T T2 E h1
   go_enter Tryz.func179,Tryz.ntmps179
   go_wp2_with (first|(go_at_call 238;with_reducible refine (N1.out _).mono ?_;rintro e w' ⟨rfl,rfl⟩)|(go_at_call 238;with_reducible refine (N2.out _).mono ?_;rintro e w' ⟨rfl,rfl⟩));go_ret;exact ⟨by rw [E2.out];rfl,rfl⟩
 | false =>
   rw [h1] at l1
   cases h2:ltL y x with
   | true =>
     have E2:=kd (show R=1 by rw [E.out,h1,h2];rfl);have q2:=q1.trans (T.out h1 h2);clear q1 T T2 E h1 h2
     go_enter Tryz.func179,Tryz.ntmps179
     go_wp2_with (first|(go_at_call 238;with_reducible refine (N1.out _).mono ?_;rintro e w' ⟨rfl,rfl⟩)|(go_at_call 238;with_reducible refine (N2.out _).mono ?_;rintro e w' ⟨rfl,rfl⟩));go_ret;exact ⟨by rw [E2.out];rfl,rfl⟩
   | false =>
     have E2:=kd (show R=0 by rw [E.out,h1,h2];rfl);have q2:=q1.trans (T2.out h1 h2);clear q1 T T2 E h1 h2
     go_enter Tryz.func179,Tryz.ntmps179
     go_wp2_with (first|(go_at_call 238;with_reducible refine (N1.out _).mono ?_;rintro e w' ⟨rfl,rfl⟩)|(go_at_call 238;with_reducible refine (N2.out _).mono ?_;rintro e w' ⟨rfl,rfl⟩));go_ret;exact ⟨by rw [E2.out];rfl,rfl⟩
theorem zs0 (p q:Pm) (w:World) (hp:By p.n) (hq:By q.n):Calls Tryz.prog 178 #[.agg (pmC p).toArray,.agg (pmC q).toArray] w fun e w'=>e = .returned (.int .i64 (cmpL p.n q.n))∧w'=(w.alloc (.cells (pmC p).toArray 155)).alloc (.cells (pmC q).toArray 155):=by
 have CM:=kd (fun w=>zuf p.n q.n w hp hq);obtain ⟨pn,pv,ph⟩:=p;obtain ⟨qn,qv,qh⟩:=q;unfold pmC;dsimp only at CM ⊢;generalize cmpL pn qn=R at *
 have R0:=(Row.new w 155 [.string (strOfNums pn),.string (strOfNums pv),.bool ph]).alloc (.cells #[.string (strOfNums qn),.string (strOfNums qv),.bool qh] 155)
 have R1:=Row.new (w.alloc (.cells #[.string (strOfNums pn),.string (strOfNums pv),.bool ph] 155)) 155 [.string (strOfNums qn),.string (strOfNums qv),.bool qh];have k0:=R0.cell 0;have k1:=R1.cell 0;rw [World.size_alloc] at k1;simp only [List.getElem?_cons_zero] at k0 k1;clear R0 R1
 go_enter Tryz.func178,Tryz.ntmps178
 go_wp2_with (go_at_call 179;refine (CM.out _).mono ?_;rintro e w' ⟨rfl,rfl⟩);go_ret;exact ⟨rfl,rfl⟩
theorem ydg (l:List Pm):∀ u∈pms l,u.oneCell'=true:=fun u hu=>by
 obtain ⟨p,_,hp⟩:=List.mem_flatMap.1 hu;exact zfl _ _ _ u hp
theorem VX.newE (w:World) (T:TypeId) (sz:Nat):VX T sz w (.slice (some ⟨w.heap.size,0,none⟩) 0 0) 0 [] (w.alloc (.cells #[] T)):=by
 refine ⟨⟨by simp,.inr ⟨w.heap.size,0,_,rfl,Nat.le_refl _,heap_alloc_new w _,?_⟩⟩,zBr.alloc zNr _⟩;simp
theorem zug (A:Option Addr) (n c:Nat) (l:List Pm) (w:World) (hn:l.length=n) (hA:Rds w w.heap.size A (pms l)) (hnil:A=none→n=0∧c=0) (hN:n≤2000000) :
  Calls Tryz.prog 176 #[.slice A n c] w fun e w' => ∃ v,e = .returned v∧VX 155 3 w v n (pms l) w':=by
 have HN:=kd hn;have HA:=kd hA
 cases A with
 | none =>
   obtain ⟨rfl,rfl⟩:=hnil rfl;obtain rfl:l=[]:=List.eq_nil_of_length_eq_zero hn;have e1:=fun w=>Lib.run_eql_slice_nil (P:=Tryz.prog) w 83 155 none 0 0 0 0 Tryz.underlying83;clear hn hA hnil
   go_enter Tryz.func176,Tryz.ntmps176
   go_wp2_with fail;go_ret;exact ⟨_,rfl,VX.nil _ _ _⟩
 | some ad =>
   have e1:=fun w=>Lib.run_eql_slice_nil (P:=Tryz.prog) w 83 155 (some ad) n c 0 0 Tryz.underlying83;have V0:=kd (VX.newE w 155 3);have HB1:=kd ((hA.below V0.out.bw).up V0.out.bw.size);obtain ⟨i,hi,hz,hsz,hbt⟩:=zry
   have HI:=kd hi;have HZ:=kd hz;have HS:=kd hsz;have HT:=kd hbt;clear hn hA hnil hi hz hsz hbt
   go_enter Tryz.func176,Tryz.ntmps176
   go_wp2_with (with_reducible refine wpList_append_own _ rfl (.tmp 5) (.tmp 6) 83 rfl w.heap.size 155 i (.agg #[.string ⟨#[]⟩,.string ⟨#[]⟩,.bool false]) 3 40 Tryz.underlying83 HI.out HZ.out HS.out HT.out rfl (by decide) (.slice (some ⟨w.heap.size,0,none⟩) 0 0) 0 [] rfl V0.out.o ad n c (pms l) rfl (by rw [zh9,HN.out]) ?h1 (ydg l) (by unfold maxLen;omega) (by omega) V0.out.bw.size ?h2)
   case h1 =>
    intro j u hu;obtain ⟨b,o,e,_,hc⟩:=HB1.out (by have:=(List.getElem?_eq_some_iff.1 hu).1;omega)
    cases e
    rw [Addr.add_mid];exact hc j u hu
   case h2 =>
    intro v' w' h1 h2 _
    have h3:w'.ownsRow w.heap.size 155 3 v' n (pms l):=by simpa using h1
    have RB:=kd (show VX 155 3 w v' n (pms l) w' from ⟨h3,V0.out.bw.grown h2 V0.out.bw.size (fun k hk=>by simp [Value.ownBlock] at hk;omega)⟩);clear h1 h2 h3;go_wp2_with fail;go_ret;exact ⟨_,rfl,RB.out⟩
end Go.Proofs.YtfnmkedncfdceaaGreatDoor
namespace Go.Proofs
open Go.Shelf
def Tryz.insK_ren:Go.Shelf.Ren:=⟨fun|20=>289|n=>n,fun|24=>155|22=>83|3=>3|25=>196|4=>4|0=>0|n=>n,fun|n=>n⟩
theorem Tryz.insK:Go.Proofs.SlLaysF0.n20 Tryz.prog Tryz.insK_ren:={
 mixed:=by kernel_rfl
 f20:=⟨Tryz.f289.name,by decide,Tryz.func289.trans (congrArg some (by kernel_rfl))⟩
 t0:=Tryz.underlying0
 a0:=Tryz.isAgg0
 z0:=Tryz.sizeOf0
 v0:=Tryz.zeroValue0
 t3:=Tryz.underlying3
 a3:=Tryz.isAgg3
 z3:=Tryz.sizeOf3
 v3:=Tryz.zeroValue3
 t4:=Tryz.underlying4
 a4:=Tryz.isAgg4
 z4:=Tryz.sizeOf4
 v4:=Tryz.zeroValue4
 t22:=Tryz.underlying83
 a22:=Tryz.isAgg83
 z22:=Tryz.sizeOf83
 v22:=Tryz.zeroValue83
 t25:=Tryz.underlying196
 a25:=Tryz.isAgg196
 z25:=Tryz.sizeOf196
 v25:=Tryz.zeroValue196 }
end Go.Proofs
namespace Go.Proofs.YtfnmkedncfdceaaGreatDoor
open Go.RowKit Go.Sort

abbrev PB:=ByteArray × (ByteArray × Bool)
def encP (x:PB):List Value:=[.string x.1,.string x.2.1,.bool x.2.2]
def toPm (x:PB):Pm:=⟨zaa x.1,zaa x.2.1,x.2.2⟩
def ofPm (p:Pm):PB:=(strOfNums p.n,(strOfNums p.v,p.h))
theorem zqr (x:PB):pmC (toPm x)=encP x:=by unfold pmC toPm encP;rw [zbh,zbh]
theorem zvb (x:PB):By (toPm x).n∧By (toPm x).v:=⟨zas _,zas _⟩
theorem ybj (l:List PB):pms (l.map toPm)=l.flatMap encP:=by
 unfold pms;rw [List.flatMap_map]
 congr 1
 funext x
 exact zqr x
theorem to_of {l:List Pm} (h:PmBy l):(l.map ofPm).map toPm=l:=by
 rw [List.map_map];refine (List.map_congr_left fun p hp => ?_).trans (List.map_id _);obtain ⟨n,v,b⟩:=p;have hb:=h _ hp;unfold toPm ofPm;simp only [Function.comp,id];rw [zal hb.1,zal hb.2]
def cfP (x y:PB):Int:=cmpL (zaa x.1) (zaa y.1)
structure SV (w:World) (g n cap:Nat) (d:Array PB) (wr:World):Prop where
 x:VX 155 3 w (.slice (some ⟨g,0,none⟩) n cap) n (d.toList.flatMap encP) wr
 s:d.size=n
theorem zr6 (d:Array PB) {t:Nat} (ht:t<d.size*3):(d.toList.flatMap encP)[t]? = some (encP d[t / 3]!)[t % 3]! := by
 have h1:t / 3<d.size:=by omega
 have h2:d.toList[t / 3]? = some d[t / 3]! := by
  rw [Array.getElem?_toList,Array.getElem?_eq_getElem h1,getElem!_pos d (t / 3) h1]
 have h:=zfg encP 3 (fun _=>rfl) d.toList (t / 3) (t % 3) _ h2 (by omega);rw [show t / 3*3+t % 3=t by omega] at h
 have h3:t % 3<(encP d[t / 3]!).length:=by show t % 3<3;omega
 rw [h,List.getElem?_eq_getElem h3,getElem!_pos (encP d[t / 3]!) (t % 3) h3]
theorem znz (d:Array PB):(d.toList.flatMap encP).length=d.size*3:=by
 rw [List.length_flatMap,show (d.toList.map fun a=>(encP a).length)=d.toList.map (fun _=>3) from List.map_congr_left fun _ _=>rfl];simp [List.map_const',Nat.mul_comm]
theorem SV.row {w wr:World} {g n cap:Nat} {d:Array PB} (h:SV w g n cap d wr):∃ cur:Array Value,wr.heap[g]? = some (.cells cur 155 (0,0))∧w.heap.size≤g∧n≤cap∧cap≤maxLen∧cur.size=cap*3∧cur.toList.take (n*3)=d.toList.flatMap encP:=by
 rcases h.x.o.2 with ⟨e,_⟩|⟨g2,cap2,cur,e,h1,h2,h3,h4,h5,h6⟩
 · cases e
 · injection e with e1 e2 e3
   injection e1 with e1
   injection e1 with e1
   subst e1;subst e3;exact ⟨cur,h2,h1,h3,h4,h5,h6⟩
theorem SV.holds {w wr:World} {g n cap:Nat} {d:Array PB} (h:SV w g n cap d wr):HoldsK encP 3 wr g 0 d:=by
 obtain ⟨cur,h1,h2,h3,h4,h5,h6⟩:=h.row;intro j hj;rw [size_flatK] at hj;have hn:=h.s;rw [Nat.zero_add];refine ⟨?_,by simp [World.frozen?,h1]⟩;rw [cell_of_row wr g j cur _ (0,0) h1];have e:=zr6 d hj;rw [← h6,List.getElem?_take,if_pos (by omega)] at e;rw [← Array.getElem?_toList,e]
 congr 1
 have:=get_flatK encP 3 d j hj;rw [this];rfl
theorem SV.put {w wr:World} {g n cap:Nat} {d d2:Array PB} {m:Nat} {os:Array Obj} (h:SV w g n cap d wr) (hs:d2.size=d.size):SV w g n cap d2 (sortWorldK encP 3 wr g 0 m d2 os):=by
 obtain ⟨cur,h1,h2,h3,h4,h5,h6⟩:=h.row;have hlt:g<wr.heap.size:=lt_of_block h1;have hn:d2.size=n:=hs.trans h.s
 have hh:∀ k,k<wr.heap.size→(sortWorldK encP 3 wr g 0 m d2 os).heap[k]? = (mapBlock wr g (putCells id 0 (flatK encP 3 d2))).heap[k]? := fun k hk=>by
  show ((mapBlock (Go.Sort.ahead wr m) g (putCells id 0 (flatK encP 3 d2))).heap++os)[k]? = _;rw [Array.getElem?_append_left (by rw [show (mapBlock (Go.Sort.ahead wr m) g (putCells id 0 (flatK encP 3 d2))).heap.size=wr.heap.size from size_putRow id (Go.Sort.ahead wr m) g 0 _];exact hk)]
  rfl
 have hg:(sortWorldK encP 3 wr g 0 m d2 os).heap[g]? = some (.cells (putCells id 0 (flatK encP 3 d2) cur) 155 (0,0)):=by
  rw [hh g hlt];unfold mapBlock;simp [Array.getElem?_modify,h1,onCells]
 refine ⟨⟨⟨by rw [znz,hn],.inr ⟨g,cap,_,rfl,h2,hg,h3,h4,by unfold putCells;rw [Array.size_mapIdx,h5],?_⟩⟩,?_⟩,hn⟩
 · refine List.ext_getElem? fun t => ?_
   rw [List.getElem?_take]
   split
   · rename_i ht
     rw [zr6 d2 (by rw [hn];exact ht),Array.getElem?_toList];unfold putCells
     have hc:t<cur.size:=by have:=Nat.mul_le_mul_right 3 h3;omega
     rw [Array.getElem?_mapIdx,Array.getElem?_eq_getElem hc,Option.map_some,if_pos ⟨Nat.zero_le _,by rw [size_flatK];omega⟩,Nat.sub_zero,get_flatK encP 3 d2 t (by rw [hn];exact ht)]
     rfl
   · rw [List.getElem?_eq_none (by rw [znz,hn];omega)]
 · refine ⟨h.x.bw.os,h.x.bw.tape,h.x.bw.output,Nat.le_trans h.x.bw.size (size_sortWorldK_c encP 3 wr g 0 m d2 os),fun k hk => ?_⟩
   have hkl:k<wr.heap.size:=Nat.lt_of_lt_of_le hk h.x.bw.size;rw [hh k hkl]
   have hne:g≠k:=by omega
   refine Eq.trans ?_ (h.x.bw.block k hk);unfold mapBlock;simp [Array.getElem?_modify,hne]
theorem zxy (g size:Nat) (w:World):CmpLays Tryz.prog 178 #[] encP 3 cfP g 0 size w:=fun m os dk _ x y=>by
 have h:=zs0 (toPm x) (toPm y) (sortWorldK encP 3 w g 0 m dk os) (zvb x).1 (zvb y).1;rw [zqr,zqr] at h;refine h.mono fun e w' h2=>⟨h2.1,0,#[.cells (encP x).toArray 155] ++ #[.cells (encP y).toArray 155],?_⟩;rw [h2.2,alloc_eq_grow,alloc_eq_grow,grow_grow]
 rfl
theorem zze (x y:PB):ltOf cfP x y=ltL (zaa x.1) (zaa y.1):=by
 unfold ltOf cfP cmpL
 cases h:ltL (zaa x.1) (zaa y.1) with
 | true=>rfl
 | false =>
   rw [if_neg (by decide)]
   split<;>rfl
theorem ybd:SWO (ltOf cfP) where
 irrefl x:=by rw [zze];exact zwf _
 trans x y z h1 h2:=by
  rw [zze] at *
  cases h:ltL (zaa x.1) (zaa z.1) with
  | true=>rfl
  | false =>
    have a:leL (zaa z.1) (zaa x.1)=true:=by unfold leL;rw [h];rfl
    have b:leL (zaa x.1) (zaa y.1)=true:=by unfold leL;rw [zmv h1];rfl
    have c:=zhc a b;unfold leL at c;rw [h2] at c;cases c
 ntrans x y z h1 h2:=by
  rw [zze] at *
  have a:leL (zaa y.1) (zaa x.1)=true:=by unfold leL;rw [h1];rfl
  have b:leL (zaa z.1) (zaa y.1)=true:=by unfold leL;rw [h2];rfl
  have c:=zhc b a;unfold leL at c
  simpa using c
theorem zie (w wr:World) (g n cap a b:Nat) (d:Array PB) (H:SV w g n cap d wr) (hab:a≤b) (hb:b≤n) (hn:n≤16777216) :
  Calls Tryz.prog 289 #[.slice (some ⟨g,0,none⟩) n cap,.int .i64 a,.int .i64 b,.func (.func 178) #[] #[]] wr fun e w2=>e = .returned (.tuple #[])∧SV w g n cap (Go.Sort.insertionSort (ltOf cfP) d a b) w2:=by
 obtain ⟨cur,h1,h2,h3,h4,h5,h6⟩:=H.row;have e:=H.s
 have h:=AnyQ.insertionSortCmpFunc Tryz.insK 3 Tryz.isAgg155 Tryz.sizeOf155 encP (fun _=>rfl) (fun x v hv=>by
  simp [encP] at hv;rcases hv with rfl|rfl|rfl<;>rfl) cfP 178 #[] g 0 cap a b d wr (enters_of Tryz.func178 (by kernel_rfl) rfl) (zxy g d.size wr) H.holds (lt_of_block h1) hab (by omega) (by omega)
 rw [e] at h;refine h.mono fun e2 w2 h7=>⟨h7.1,?_⟩;obtain ⟨m,os,h8⟩:=h7.2;rw [h8];exact H.put (insertionSort_holds ybd d a b hab (by omega)).1.1
open Go.RowKit

theorem zts (w:World):Calls Tryz.prog 289 #[.slice none 0 0,.int .i64 0,.int .i64 0,.func (.func 178) #[] #[]] w fun e w'=>e = .returned (.tuple #[])∧w=w':=by
 go_enter Tryz.func289,Tryz.ntmps289
 go_wp2
 go_loopw [8] (fun v wr=>v = .int .i64 1∧w=wr) (fun _ _=>0)
 case atStart=>exact ⟨rfl,rfl⟩
 case round =>
  obtain ⟨rfl,rfl⟩:=hrel
  go_wp2
  go_end0
  exact ⟨rfl,rfl⟩
def Srt (d d2:Array PB):Prop:=d2.toList.Perm d.toList∧∀ i j,i<j→j<d2.size→ltOf cfP d2[j]! d2[i]! = false
theorem ycw (d:Array PB):Srt d (Go.Sort.insertionSort (ltOf cfP) d 0 d.size):=by
 obtain ⟨⟨h1,_,h3⟩,h4⟩:=Go.Sort.insertionSort_holds ybd d 0 d.size zNz zNr;generalize Go.Sort.insertionSort (ltOf cfP) d 0 d.size=r at *;refine ⟨?_,fun i j hij hj=>h4 i j zNz hij (by rw [← h1];exact hj)⟩
 have e1:r.extract 0 d.size=r:=by rw [← h1];simp
 have e2:d.extract 0 d.size=d:=by simp
 rw [e1,e2] at h3;exact h3
theorem ycx {d d2:Array PB} (h:Srt d d2):(d2.toList.map toPm).Perm (d.toList.map toPm)∧Asc (d2.toList.map toPm):=by
 refine ⟨h.1.map _,?_⟩;unfold Asc;rw [List.pairwise_map,List.pairwise_iff_getElem];intro i j hi hj hij;have:=h.2 i j hij (by simpa using hj);rw [zze,getElem!_pos d2 i (by simpa using hi),getElem!_pos d2 j (by simpa using hj)] at this;unfold leL toPm
 simpa using this
theorem zne {l m:List Pm} (hp:m.Perm l) (ha:Asc m) (hn:(l.map (·.n)).Nodup):m=zbb l:=by
 rw [← ycy ha];exact zyy hp ((hp.map _).nodup_iff.2 hn)
def StR (w:World) (g n cap:Nat) (d d1:Array PB) (v7 v8:Value) (wx:World):Prop:=(v7 = .int .i64 0∧v8 = .int .i64 20∧Hid (SV w g n cap d wx))∨(v7 = .int .i64 20∧v8 = .int .i64 40∧Hid (SV w g n cap d1 wx))
theorem zsv (w wr:World) (g n cap:Nat) (d:Array PB) (H:SV w g n cap d wr) (hn:n≤20) :
  Calls Tryz.prog 237 #[.slice (some ⟨g,0,none⟩) n cap,.int .i64 n,.func (.func 178) #[] #[]] wr fun e w2=>e = .returned (.tuple #[])∧∃ d2,SV w g n cap d2 w2∧Srt d d2:=by
 have HS:=kd H;have SI:=kd (ycw d);have sz:=H.s;rw [sz] at SI;clear H
 by_cases h20:n=20
 · have e2:∀ d1:Array PB,Go.Sort.insertionSort (ltOf cfP) d1 20 n=d1:=fun d1=>by
    subst h20;unfold Go.Sort.insertionSort;unfold Go.Sort.insOuter;rw [if_neg (by decide)]
   have e3:Go.Sort.insertionSort (ltOf cfP) d 0 20=Go.Sort.insertionSort (ltOf cfP) d 0 n:=by rw [h20]
   have I1:=kd (fun w1 (h:SV w g n cap d w1)=>zie w w1 g n cap 0 20 d h (by decide) (by omega) (by omega));have I2:=kd (fun w1 d1 (h:SV w g n cap d1 w1)=>zie w w1 g n cap 20 n d1 h (by omega) (by omega) (by omega));rw [e3] at I1;have E2:=kd e2;clear e2 e3
   generalize Go.Sort.insertionSort (ltOf cfP) d 0 n=d1 at *
   have q1:decide ((20:Int)≤(n:Int))=true:=by simp;omega
   have q2:decide ((40:Int)≤(n:Int))=false:=by simp;omega
   have q3:decide ((20:Int)<(n:Int))=false:=by simp;omega
   clear h20
   go_enter Tryz.func237,Tryz.ntmps237
   go_wp2_with fail
   go_loopw [7,8] (fun v7 v8 wx=>StR w g n cap d d1 v7 v8 wx) (fun _ v _=>60 - (intOf v).toNat)
   case atStart=>exact .inl ⟨rfl,rfl,HS⟩
   case round =>
    clear HS
    rcases hrel with ⟨rfl,rfl,HS⟩|⟨rfl,rfl,HS⟩
    · go_wp2_with (go_at_call 289;refine (I1.out _ HS.out).mono ?_;rintro e w3 ⟨rfl,h3⟩;have H3:=kd h3;clear h3)
      go_roundw
      case rel=>exact .inr ⟨rfl,rfl,H3⟩
      case measure=>simp [intOf]
    · go_wp2_with (go_at_call 289;refine (I2.out _ _ HS.out).mono ?_;rintro e w3 ⟨rfl,h3⟩;have H3:=kd (show SV w g n cap d1 w3 by rw [E2.out] at h3;exact h3);clear h3)
      go_loopw [6,7,8,9] (fun v6 _ _ _ wx=>v6 = .int .i64 20∧Hid (SV w g n cap d1 wx)) (fun _ _ _ _ _=>0)
      case atStart=>exact ⟨rfl,H3⟩
      case round =>
       clear H3;obtain ⟨rfl,H3⟩:=hrel;go_wp2_with fail
       go_end0
       exact ⟨rfl,d1,H3.out,SI.out⟩
 · have d0:decide ((20:Int)≤(n:Int))=false:=by simp;omega
   have d1:decide ((20:Int)<(n:Int))=false:=by simp;omega
   have I1:=kd (fun w1 (h:SV w g n cap d w1)=>zie w w1 g n cap 0 n d h zNz zNr (by omega));generalize Go.Sort.insertionSort (ltOf cfP) d 0 n=d2 at *
   go_enter Tryz.func237,Tryz.ntmps237
   go_wp2_with fail
   go_loopw [7,8] (fun v7 v8 wx=>v7 = .int .i64 0∧v8 = .int .i64 20∧Hid (SV w g n cap d wx)) (fun _ _ _=>0)
   case atStart=>exact ⟨rfl,rfl,HS⟩
   case round =>
    clear HS;obtain ⟨rfl,rfl,HS⟩:=hrel;go_wp2_with (go_at_call 289;refine (I1.out _ HS.out).mono ?_;rintro e w3 ⟨rfl,h3⟩;have H3:=kd h3;clear h3)
    go_loopw [6,7,8,9] (fun v6 _ _ _ wx=>v6 = .int .i64 20∧Hid (SV w g n cap d2 wx)) (fun _ _ _ _ _=>0)
    case atStart=>exact ⟨rfl,H3⟩
    case round =>
     clear H3;obtain ⟨rfl,H3⟩:=hrel;go_wp2_with fail
     go_end0
     exact ⟨rfl,d2,H3.out,SI.out⟩
theorem zmi (w:World):Calls Tryz.prog 237 #[.slice none 0 0,.int .i64 0,.func (.func 178) #[] #[]] w fun e w'=>e = .returned (.tuple #[])∧w=w':=by
 go_enter Tryz.func237,Tryz.ntmps237
 go_wp2_with fail
 go_loopw [7,8] (fun v7 v8 wx=>v7 = .int .i64 0∧v8 = .int .i64 20∧w=wx) (fun _ _ _=>0)
 case atStart=>exact ⟨rfl,rfl,rfl⟩
 case round =>
  obtain ⟨rfl,rfl,rfl⟩:=hrel;go_wp2_with (go_at_call 289;refine (zts _).mono ?_;rintro e w3 ⟨rfl,rfl⟩)
  go_loopw [6,7,8,9] (fun v6 _ _ _ wx=>v6 = .int .i64 20∧w=wx) (fun _ _ _ _ _=>0)
  case atStart=>exact ⟨rfl,rfl⟩
  case round =>
   obtain ⟨rfl,rfl⟩:=hrel;go_wp2_with fail
   go_end0
   exact ⟨rfl,rfl⟩
theorem zsz (w wr:World) (g n cap:Nat) (d:Array PB) (H:SV w g n cap d wr) (hn:n≤20) :
  Calls Tryz.prog 177 #[.slice (some ⟨g,0,none⟩) n cap,.func (.func 178) #[] #[]] wr fun e w2=>e = .returned (.tuple #[])∧∃ d2,SV w g n cap d2 w2∧Srt d d2:=by
 have ST:=kd (zsv w wr g n cap d H hn);clear H
 go_enter Tryz.func177,Tryz.ntmps177
 go_wp2_with (go_at_call 237;refine ST.out.mono ?_;rintro e w3 ⟨rfl,h3⟩;have H3:=kd h3;clear h3)
 go_end0
 exact ⟨rfl,H3.out⟩
theorem zmj (w:World):Calls Tryz.prog 177 #[.slice none 0 0,.func (.func 178) #[] #[]] w fun e w2=>e = .returned (.tuple #[])∧w=w2:=by
 go_enter Tryz.func177,Tryz.ntmps177
 go_wp2_with (go_at_call 237;refine (zmi _).mono ?_;rintro e w3 ⟨rfl,rfl⟩)
 go_end0
 exact ⟨rfl,rfl⟩
structure SoX (w:World) (l:List Pm) (v:Value) (m:List Pm) (w':World):Prop where
 x:VX 155 3 w v m.length (pms m) w'
 p:m.Perm l
 a:Asc m
theorem sv_of {w wr:World} {g n cap:Nat} {l:List Pm} (hl:PmBy l) (hn:l.length=n) (H:VX 155 3 w (.slice (some ⟨g,0,none⟩) n cap) n (pms l) wr):SV w g n cap (l.map ofPm).toArray wr:=by
 refine ⟨?_,by simp [hn]⟩;rw [← ybj,to_of hl];exact H
theorem zh2 (A:Option Addr) (n c:Nat) (l:List Pm) (w:World) (hn:l.length=n) (hA:Rds w w.heap.size A (pms l)) (hnil:A=none→n=0∧c=0) (hN:n≤20) (hl:PmBy l) :
  Calls Tryz.prog 127 #[.slice A n c] w fun e w' => ∃ v m,e = .returned v∧SoX w l v m w':=by
 have CL:=kd (zug A n c l w hn hA hnil (by omega));have HN:=kd hn;have HL:=kd hl;clear hn hA hnil hl
 go_enter Tryz.func127,Tryz.ntmps127
 go_wp2_with fail;refine CL.out.mono ?_;clear CL;rintro e w1 ⟨v,rfl,hv⟩
 rcases hv.form with ⟨rfl,h0,h1⟩|⟨g,cap,rfl,_⟩
 · subst h0
   have VB:=kd hv;have h2:=HN.out;have L0:=kd (List.eq_nil_of_length_eq_zero h2);clear hv h1 h2;go_wp2_with (go_at_call 177;refine (zmj _).mono ?_;rintro e w3 ⟨rfl,rfl⟩);go_ret;refine ⟨_,[],rfl,?_,?_,List.Pairwise.nil⟩
   · have:=VB.out;rw [L0.out] at this;exact this
   · rw [L0.out]
 · have SS:=kd (zsz w w1 g n cap _ (sv_of HL.out HN.out hv) hN)
   clear hv;go_wp2_with fail;refine SS.out.mono ?_;rintro e w3 ⟨rfl,d2,h2,h3⟩;have H2:=kd h2;have H3:=kd (ycx h3);clear h2 h3 SS;go_wp2_with fail;go_ret;refine ⟨_,d2.toList.map toPm,rfl,?_,?_,H3.out.2⟩
   · rw [ybj,List.length_map,Array.length_toList,H2.out.s]
     exact H2.out.x
   · have:=H3.out.1
     rw [List.toList_toArray,to_of HL.out] at this;exact this
end Go.Proofs.YtfnmkedncfdceaaGreatDoor
