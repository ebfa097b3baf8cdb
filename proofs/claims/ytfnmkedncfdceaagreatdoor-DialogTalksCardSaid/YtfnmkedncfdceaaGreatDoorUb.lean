/- The library's contracts in my words: TrimLeft at "0", Cut at two colons, Index at a byte, IndexAny. And what stands behind it. -/
import Derived.Test.YtfnmkedncfdceaaGreatDoorLk
import Derived.Deep.AppendLies
set_option linter.unusedVariables false
set_option linter.unusedSimpArgs false
set_option maxRecDepth 100000
set_option maxHeartbeats 2000000
namespace Go.Proofs.YtfnmkedncfdceaaGreatDoor
open Go.RowKit

theorem zma (c:UInt8):∀ l:List UInt8,bl (l.dropWhile (· == c))=(bl l).dropWhile (· == (c.toNat:Int))
 | []=>rfl
 | b::l=>by
   rw [show bl (b::l)=(b.toNat:Int)::bl l from rfl,List.dropWhile_cons,List.dropWhile_cons]
   by_cases h:b=c
   · subst h
     rw [if_pos (by simp),if_pos (by simp),zma _ l]
   · rw [if_neg (by simpa using h),if_neg (by
      rw [beq_iff_eq]
      exact fun e=>h (UInt8.toNat_inj.1 (by omega)))]
     rfl
theorem zu9 (s:ByteArray) (w:World):Calls Tryz.prog 282 #[.string s,.string ⟨#[48]⟩] w fun e w'=>e = .returned (.string (strOfNums ((zaa s).dropWhile (· == 48))))∧w=w':=
 (Tryz.strings_TrimLeft_one s 48 (by decide) w).mono fun e w' ⟨he,hw⟩=>⟨by rw [he,show Lib.trimLeftB s.data.toList 48=s.data.toList.dropWhile (· == 48) from rfl,zj8 (zma 48 s.data.toList)];rfl,hw.symm⟩
theorem yam {l:List UInt8} (h:dblL (bl l)=none):Lib.index l [58,58] = -1:=by
 induction l with
 | nil=>rfl
 | cons b l ih =>
   cases l with
   | nil=>rw [Lib.index];simp [Lib.index]
   | cons d r =>
     rw [show bl (b::d::r)=(b.toNat:Int)::(d.toNat:Int)::bl r from rfl,dblL] at h
     split at h
     · cases h
     · rename_i hn
       have h2:dblL (bl (d::r))=none:=by
        rw [show bl (d::r)=(d.toNat:Int)::bl r from rfl]
        cases hq:dblL ((d.toNat:Int)::bl r) with
        | none=>rfl
        | some q=>rw [hq] at h;cases h
       have hp:([58,58]:List UInt8).isPrefixOf (b::d::r)=false:=by
        rw [Bool.eq_false_iff];intro hp;simp [List.isPrefixOf] at hp;exact hn ⟨by rw [← hp.1];rfl,by rw [← hp.2];rfl⟩
       rw [Lib.index,hp,ih h2]
       rfl
theorem zsc:∀ {l:List UInt8} {p:List Int × List Int},dblL (bl l)=some p→0≤Lib.index l [58,58]∧bl (l.take (Lib.index l [58,58]).toNat)=p.1∧bl (l.drop ((Lib.index l [58,58]).toNat+2))=p.2
 | [],p,h=>by cases h
 | [b],p,h=>by cases h
 | b::d::r,p,h=>by
   rw [show bl (b::d::r)=(b.toNat:Int)::(d.toNat:Int)::bl r from rfl,dblL] at h
   split at h
   · rename_i hn
     injection h with h
     subst h;have hb:b=58:=UInt8.toNat_inj.1 (by have:=hn.1;show b.toNat=58;omega);have hd:d=58:=UInt8.toNat_inj.1 (by have:=hn.2;show d.toNat=58;omega);subst hb;subst hd
     have hp:([58,58]:List UInt8).isPrefixOf (58::58::r)=true:=by simp [List.isPrefixOf]
     rw [Lib.index,hp,if_pos rfl];exact ⟨by decide,rfl,rfl⟩
   · rename_i hn
     cases hq:dblL (bl (d::r)) with
     | none =>
       rw [show ((d.toNat:Int)::bl r)=bl (d::r) from rfl,hq] at h
       cases h
     | some q =>
       rw [show ((d.toNat:Int)::bl r)=bl (d::r) from rfl,hq] at h
       injection h with h
       subst h;obtain ⟨h1,h2,h3⟩:=zsc hq
       have hp:([58,58]:List UInt8).isPrefixOf (b::d::r)=false:=by
        rw [Bool.eq_false_iff];intro hp;simp [List.isPrefixOf] at hp;exact hn ⟨by rw [← hp.1];rfl,by rw [← hp.2];rfl⟩
       have e:Lib.index (b::d::r) [58,58]=Lib.index (d::r) [58,58]+1:=by
        rw [Lib.index,hp];rw [if_neg (by decide),if_neg (by simp;omega)]
       rw [e,show (Lib.index (d::r) [58,58]+1).toNat=(Lib.index (d::r) [58,58]).toNat+1 by omega];refine ⟨by omega,?_,?_⟩
       · rw [List.take_succ_cons,show bl (b::(d::r).take (Lib.index (d::r) [58,58]).toNat)=(b.toNat:Int)::bl ((d::r).take (Lib.index (d::r) [58,58]).toNat) from rfl,h2]
       · rw [show (Lib.index (d::r) [58,58]).toNat+1+2=(Lib.index (d::r) [58,58]).toNat+2+1 by omega,List.drop_succ_cons,h3]
def cutV (s:ByteArray):Value:=match dblL (zaa s) with
 | none => .tuple #[.string s,.string ⟨#[]⟩,.bool false]
 | some p => .tuple #[.string (strOfNums p.1),.string (strOfNums p.2),.bool true]
theorem zq3 {w:World} (n:Nat):Below w.heap.size w (w.drewN n):=⟨rfl,rfl,rfl,Nat.le_refl _,fun _ _=>rfl⟩
theorem zud (s:ByteArray) (w:World) (hs:s.size≤4000000) (hm:GM w):Calls Tryz.prog 222 #[.string s,.string ⟨#[58,58]⟩] w fun e w'=>e = .returned (cutV s)∧Below w.heap.size w w':=by
 obtain ⟨_,m,hm⟩:=hm;refine (Tryz.strings_Cut s ⟨#[58,58]⟩ m w (by omega) hm).mono fun e w' ⟨he,n,hw⟩=>⟨?_,by rw [hw];exact zq3 n⟩;rw [he];unfold cutV Lib.cut
 cases hq:dblL (zaa s) with
 | none =>
   have h:=yam (l:=s.data.toList) hq;rw [show (⟨#[58,58]⟩:ByteArray).data.toList=[58,58] from rfl,h,if_neg (by decide)]
 | some p =>
   obtain ⟨h1,h2,h3⟩:=zsc (l:=s.data.toList) hq;rw [show (⟨#[58,58]⟩:ByteArray).data.toList=[58,58] from rfl,if_pos h1];dsimp only;rw [zj8 h2,zj8 (l:=s.data.toList.drop ((Lib.index s.data.toList [58,58]).toNat + [58,58].length)) h3]
theorem ztw (s:ByteArray) (c:UInt8) (w:World):Calls Tryz.prog 221 #[.string s,.string ⟨#[c]⟩] w fun e w'=>e = .returned (.int .i64 (if s.size≤zag (fun x=>x != (c.toNat:Int)) (zaa s) 0 then -1 else (zag (fun x=>x != (c.toNat:Int)) (zaa s) 0:Int)))∧w=w':=
 (Tryz.strings_Index_one s c w).mono fun e w' ⟨he,hw⟩=>⟨by
   rw [he,zc9 c s.data.toList,show (bl s.data.toList).length=s.size from zac s];rfl,hw.symm⟩
theorem zkg (st:List UInt8):∀ l:List UInt8,Lib.indexAny l st=if (bl l).length≤zag (fun x => !(bl st).contains x) (bl l) 0 then -1 else (zag (fun x => !(bl st).contains x) (bl l) 0:Int)
 | []=>rfl
 | b::l=>by
   have ih:=zkg st l;have hb:bl (b::l)=(b.toNat:Int)::bl l:=rfl
   have hc:(bl st).contains (b.toNat:Int)=st.contains b:=by
    rw [Bool.eq_iff_iff,List.contains_iff_mem,List.contains_iff_mem]
    constructor
    · intro h
      obtain ⟨x,hx,he⟩:=List.mem_map.1 h;have:x=b:=UInt8.toNat_inj.1 (by omega);rw [← this];exact hx
    · intro h
      exact List.mem_map.2 ⟨b,h,rfl⟩
   rw [Lib.indexAny,hb];unfold zag at ih ⊢;rw [List.drop_zero] at ih ⊢;rw [List.takeWhile_cons,hc]
   cases h:st.contains b with
   | true=>simp
   | false =>
     simp only [Bool.false_eq_true,if_false,Bool.not_false,if_true];rw [List.length_cons,List.length_cons,ih]
     by_cases h2:(bl l).length≤0+((bl l).takeWhile fun x => !(bl st).contains x).length
     · rw [if_pos h2,if_pos (by rfl),if_pos (by omega)]
     · rw [if_neg h2,if_neg (by simp<;>omega),if_neg (by omega)]
       omega

theorem zz4 (p:List Int) (c:Int) (r:List Int):(p++c::r).getD p.length 0=c:=by
 rw [List.getD_eq_getElem?_getD,List.getElem?_append_right zNr,Nat.sub_self];rfl
theorem zjh (p z:List Int) (i:Nat):(p++z).getD (p.length+i) 0=z.getD i 0:=by
 rw [List.getD_eq_getElem?_getD,List.getD_eq_getElem?_getD,List.getElem?_append_right (Nat.le_add_right _ _),Nat.add_sub_cancel_left]
theorem yas {k c:Int} (h:(clsL k).contains c=true):c∈([38,61,43,36,44,59,63,47,91,93,58]:List Int):=by
 rw [List.contains_iff_mem] at h;unfold clsL at h
 split at h
 · simp at h ⊢;omega
 · split at h
   · simp at h ⊢;omega
   · split at h
     · simp at h ⊢;omega
     · cases h
theorem inC_is {k c:Int} (h:inC k c=true):zgv c=true∨zbc c=true∨c∈([45,95,46,33,126,42,39,40,41]:List Int)∨c∈clsL k:=by
 unfold inC at h;rw [Bool.or_eq_true,Bool.or_eq_true,Bool.or_eq_true] at h
 rcases h with (h|h|h)|h
 · exact .inl h
 · exact .inr (.inl h)
 · exact .inr (.inr (.inl (List.contains_iff_mem.1 h)))
 · exact .inr (.inr (.inr (List.contains_iff_mem.1 h)))
theorem zol {k c:Int} (h:inC k c=true):33≤c∧c≤126∧c≠37∧c≠34∧c≠60∧c≠62∧c≠64:=by
 rcases inC_is h with h|h|h|h
 · unfold zgv at h;simp at h;omega
 · unfold zbc at h;simp at h;omega
 · simp at h;omega
 · have:=yas (List.contains_iff_mem.2 h)
   simp at this;omega
theorem ydv {k c:Int} (h:inC k c=true):zdc c=false:=by
 have:=zol h;unfold zdc;simp;omega
theorem ze0 {xs:List Int} {k:Int} {f i:Nat} (h:xs.length≤i):zc0 xs k f i=none:=by
 cases f with
 | zero=>rfl
 | succ f=>unfold zc0;rw [if_pos h]
theorem zc4 (xs:List Int) (k:Int) (f i:Nat):zc0 xs k (f+1) i=if xs.length≤i then none
  else if inC k (xs.getD i 0)=true then zc0 xs k f (i+1)
  else if zbm xs i<0∨zdc (zbm xs i)=true then some i
  else zc0 xs k f (i+3):=rfl
theorem zxi (p z:List Int) (i:Nat):zbm (p++z) (p.length+i)=zbm z i:=by
 unfold zbm;rw [zjh,show p.length+i+1=p.length+(i+1) from rfl,show p.length+i+2=p.length+(i+2) from rfl,zjh,zjh,List.length_append]
 by_cases h:z.length≤i+2
 · rw [if_pos (.inl (by omega)),if_pos (.inl h)]
 · simp only [h,show ¬ p.length+z.length≤p.length+(i+2) by omega,false_or]
theorem zhq (p z:List Int) (k:Int):∀ (f i:Nat),zc0 (p++z) k f (p.length+i)=(zc0 z k f i).map (p.length + ·)
 | 0,i=>rfl
 | f+1,i=>by
   rw [zc4,zc4,zjh,zxi,List.length_append]
   by_cases h:z.length≤i
   · rw [if_pos (by omega),if_pos h];rfl
   · rw [if_neg (by omega),if_neg h]
     have h1:=zhq p z k f (i+1);have h3:=zhq p z k f (i+3)
     split
     · rw [← h1];rfl
     · split
       · rfl
       · rw [← h3];rfl
theorem zgl (z:List Int) (k:Int):∀ (f g i:Nat),z.length+1≤f+i→z.length+1≤g+i→zc0 z k f i=zc0 z k g i
 | 0,g,i,hf,hg=>by rw [ze0 (by omega),ze0 (by omega)]
 | f+1,0,i,hf,hg=>by rw [ze0 (by omega),ze0 (by omega)]
 | f+1,g+1,i,hf,hg=>by
   rw [zc4,zc4];have h1:=zgl z k f g (i+1) (by omega) (by omega);have h3:=zgl z k f g (i+3) (by omega) (by omega);rw [h1,h3]
theorem zso (p z:List Int) (k:Int):zck (p++z) k p.length=(zck z k 0).map (p.length + ·):=by
 unfold zck;rw [← zhq p z k,Nat.add_zero];exact zgl _ _ _ _ _ (by omega) (by rw [List.length_append];omega)
theorem zhp {z:List Int} {k:Int} (hz:By z):∀ (f g i:Nat) (acc:List Int),z.length+1≤f+i→z.length+1≤g+i→zc0 z k f i=none →
  ∃ o,zb6 z g i acc=(acc++o,0,0)∧By o∧zc7 o=true∧(o=[] ↔ z.length≤i)∧o.length≤z.length - i
 | f,g,i,acc,hf,hg,hw=>by
   by_cases hi:z.length≤i
   · refine ⟨[],?_,(fun x hx=>by cases hx),rfl,⟨fun _=>hi,fun _=>rfl⟩,Nat.zero_le _⟩
     rw [List.append_nil]
     cases g with
     | zero=>rfl
     | succ g=>exact zhv hi
   · obtain ⟨f,rfl⟩:∃ g,f=g+1:=⟨f - 1,by omega⟩
     obtain ⟨g,rfl⟩:∃ h,g=h+1:=⟨g - 1,by omega⟩;rw [zc4,if_neg hi] at hw
     by_cases hc:inC k (z.getD i 0)=true
     · rw [if_pos hc] at hw
       obtain ⟨o,h1,h2,h3,h4,h5⟩:=zhp hz f g (i+1) (acc++[z.getD i 0]) (by omega) (by omega) hw;refine ⟨z.getD i 0::o,?_,?_,?_,⟨(fun h=>by cases h),fun h=>absurd h hi⟩,by rw [List.length_cons];omega⟩
       · rw [zfr (by omega) (zol hc).2.2.1,h1];simp
       · intro x hx
         rcases List.mem_cons.1 hx with rfl|hx
         · exact hz _ (zbg (by omega))
         · exact h2 x hx
       · unfold zc7 at h3 ⊢
         rw [List.all_cons,h3,ydv hc];rfl
     · rw [if_neg hc] at hw
       by_cases he:zbm z i<0∨zdc (zbm z i)=true
       · rw [if_pos he] at hw;cases hw
       · rw [if_neg he] at hw
         have hne:¬ zbm z i<0:=fun h=>he (.inl h)
         have hct:zdc (zbm z i)=false:=by cases h:zdc (zbm z i) with
          | false=>rfl
          | true=>exact absurd (.inr h) he
         have h37:z.getD i 0=37:=by
          unfold zbm at hne
          split at hne
          · omega
          · rename_i h;simp at h;simpa using h.2.1
         have hl:i+2<z.length:=by
          unfold zbm at hne
          split at hne
          · omega
          · rename_i h;simp at h;omega
         obtain ⟨o,h1,h2,h3,h4,h5⟩:=zhp hz f g (i+3) (acc++[zbm z i]) (by omega) (by omega) hw;refine ⟨zbm z i::o,?_,?_,?_,⟨(fun h=>by cases h),fun h=>absurd h hi⟩,by rw [List.length_cons];omega⟩
         · rw [zhu (by omega) h37 hne,h1];simp
         · intro x hx
           rcases List.mem_cons.1 hx with rfl|hx
           · have:=zgx z i;omega
           · exact h2 x hx
         · unfold zc7 at h3 ⊢
           rw [List.all_cons,h3,hct];rfl
theorem zm9 {z:List Int} {k:Int} (hz:By z) (h:zck z k 0=none):By (zb2 z)∧zc7 (zb2 z)=true∧(zb2 z=[] ↔ z=[])∧(zb2 z).length≤z.length:=by
 obtain ⟨o,h1,h2,h3,h4,h5⟩:=zhp hz (z.length+1) (z.length+1) 0 [] (by omega) (by omega) h
 have e:zb2 z=o:=by unfold zb2 zfk;rw [h1];rfl
 rw [e];refine ⟨h2,h3,h4.trans ?_,by omega⟩
 constructor
 · intro h;exact List.eq_nil_of_length_eq_zero (by omega)
 · rintro rfl;simp
theorem zjm {z:List Int} {k:Int}:∀ (f i:Nat) {j:Nat},zc0 z k f i=some j→i≤j∧j<z.length
 | 0,i,j,h=>by cases h
 | f+1,i,j,h=>by
   rw [zc4] at h
   split at h
   · cases h
   · split at h
     · have:=zjm f (i+1) h;omega
     · split at h
       · injection h with h;subst h;omega
       · have:=zjm f (i+3) h;omega

theorem zpi (c:Int) (w:World):Calls Tryz.prog 234 #[.int .u8 c] w fun e w'=>e = .returned (.bool (zdc c))∧w=w':=by
 unfold zdc
 by_cases h2:c<32
 · have d2:decide (c<32)=true:=by simp [h2]
   by_cases hc:c=9
   · subst hc
     go_enter Tryz.func234,Tryz.ntmps234
     go_wp2
     go_ret;exact ⟨rfl,rfl⟩
   · have e1:(c == 9)=false:=by simp [hc]
     go_enter Tryz.func234,Tryz.ntmps234
     go_wp2
     go_ret;exact ⟨zax (by rw [d2,e1];rfl),rfl⟩
 · have d2:decide (c<32)=false:=by simp [h2]
   go_enter Tryz.func234,Tryz.ntmps234
   go_wp2
   go_ret;exact ⟨zax (by first|rfl|(rw [d2];rfl)),rfl⟩
theorem zg0 (s:ByteArray) (w:World) (hs:s.size≤4000000):Calls Tryz.prog 259 #[.string s] w fun e w'=>e = .returned (.bool (zc7 (zaa s)))∧w=w':=by
 have HL:=kd (zac s);have CN:=kd (fun k h1 h2=>yau (xs:=zaa s) (k:=k) h1 h2);have CA:=kd (fun h=>zxz (xs:=zaa s) h);generalize zc7 (zaa s)=R at *;obtain ⟨X,hX⟩:∃ X,zaa s=X:=⟨_,rfl⟩;have HX:=kd hX;rw [hX] at HL CN CA;clear hX
 go_enter Tryz.func259,Tryz.ntmps259
 go_wp2_with fail
 go_loopw [6] (fun v wr => ∃ k:Nat,k≤s.size∧v = .int .i64 k∧Hid (∀ j,j<k→zdc (X.getD j 0)=false)∧w=wr) (fun v _=>s.size - (intOf v).toNat)
 case atStart=>exact ⟨0,Nat.zero_le _,rfl,kd (fun j hj=>absurd hj (by omega)),rfl⟩
 case round =>
  obtain ⟨k,hk,rfl,H,rfl⟩:=hrel
  by_cases hlt:k<s.size
  · have hd:decide ((k:Int)<(s.size:Int))=true:=by simp;omega
    have d1:=fun w=>zbe s (i:=k) hlt (z:=(k:Int)) rfl w;rw [HX.out] at d1;have B:=kd (CN.out k (by rw [HL.out];exact hlt))
    have NX:=kd (show zdc (X.getD k 0)=false→∀ j,j<k+1→zdc (X.getD j 0)=false from fun h j hj=>by
     rcases (show j<k∨j=k by omega) with h1|rfl
     · exact H.out j h1
     · exact h)
    generalize X.getD k 0=c at *;have CT:=kd (zpi c w)
    cases hp:zdc c with
    | true =>
      rw [hp] at CT;have E:=kd (B.out hp);clear hp;go_wp2_with (go_at_call 234;refine CT.out.mono ?_;rintro e w' ⟨rfl,rfl⟩);go_ret;exact ⟨zax E.out.symm,rfl⟩
    | false =>
      rw [hp] at CT;have E:=kd (NX.out hp);clear hp;go_wp2_with (go_at_call 234;refine CT.out.mono ?_;rintro e w' ⟨rfl,rfl⟩);go_roundw
      case rel=>exact ⟨k+1,by omega,by go_num,E,by first|rfl|trivial⟩
      case measure=>simp [intOf];omega
  · obtain rfl:k=s.size:=by omega
    have E:=kd (CA.out (fun j hj=>H.out j (by rw [HL.out] at hj;exact hj)));go_wp2_with fail;go_ret;exact ⟨zax E.out.symm,rfl⟩
theorem zqh (c:UInt8):∀ l:List UInt8,0≤Lib.indexByte l c ↔ c∈l
 | []=>by simp [Lib.indexByte]
 | b::l=>by
   have ih:=zqh c l
   have hge : -1≤Lib.indexByte l c:=by rw [zc9];split<;>omega
   rw [Lib.indexByte]
   by_cases h:b=c
   · subst h
     rw [if_pos (by simp)];simp
   · rw [if_neg (by simpa using h),List.mem_cons,← ih]
     have hc:¬ c=b:=fun e=>h e.symm
     by_cases h2:Lib.indexByte l c = -1
     · rw [h2];simp [hc]
     · rw [if_neg (by simpa using h2)]
       constructor
       · intro _;right;omega
       · rintro (h3|h3)
         · exact absurd h3 hc
         · omega
theorem zld (s:ByteArray) (c:UInt8):decide ((0:Int)≤Lib.indexByte s.data.toList c)=(zaa s).contains (c.toNat:Int):=by
 rw [Bool.eq_iff_iff,decide_eq_true_eq,List.contains_iff_mem,zqh];unfold zaa;rw [List.mem_map]
 constructor
 · intro h;exact ⟨c,h,rfl⟩
 · rintro ⟨x,hx,e⟩
   have:x=c:=UInt8.toNat_inj.1 (by omega);rw [← this];exact hx
def CLSV:List Value:=[.string ⟨#[38,61,43,36,44,59,63,47]⟩,.string ⟨#[91,93,47,58,38,43,36]⟩,.string ⟨#[91,93,47,63,58,43,36]⟩]
def CLS (w:World):Prop:=4<w.heap.size∧w.rangeAt 4 0 CLSV
theorem CLS.below {w w1:World} (h:CLS w) (hb:Below w.heap.size w w1):CLS w1:=⟨Nat.lt_of_lt_of_le h.1 hb.size,fun j v hv=>(hb.cell (p:=⟨4,0+j,none⟩) h.1).trans (h.2 j v hv)⟩
theorem CLS.at {w:World} (h:CLS w) {k:Int} (h0:0≤k) (h2:k≤2):∃ t:ByteArray,w.cell? ⟨4,k.toNat,none⟩=some (.string t)∧zaa t=clsL k:=by
 obtain ⟨n,rfl⟩:=Int.eq_ofNat_of_zero_le h0
 rcases (show n=0∨n=1∨n=2 by omega) with rfl|rfl|rfl
 · exact ⟨_,h.2 0 _ rfl,by decide⟩
 · exact ⟨_,h.2 1 _ rfl,by decide⟩
 · exact ⟨_,h.2 2 _ rfl,by decide⟩
theorem u8_of {c:Int} (h0:0≤c) (h1:c<256):∃ u:UInt8,(u.toNat:Int)=c∧c.toNat.toUInt8=u:=⟨c.toNat.toUInt8,by
 rw [show (c.toNat.toUInt8).toNat=c.toNat % 256 from rfl];omega,rfl⟩
theorem zrz (s:ByteArray) (c:Int) (w:World) (h0:0≤c) (h1:c<256):Calls Tryz.prog 119 #[.string s,.int .u8 c] w fun e w' => ∃ z:Int,e = .returned (.int .i64 z)∧decide (0≤z)=(zaa s).contains c∧w=w':=by
 obtain ⟨u,h2,h3⟩:=u8_of h0 h1;refine (Tryz.strings_IndexByte s c w).mono fun e w' ⟨he,hw⟩=>⟨_,he,?_,hw.symm⟩;rw [h3,zld,h2]
theorem zkh (c k:Int) (w:World) (h0:0≤c) (h1:c<256) (hC:CLS w):Calls Tryz.prog 232 #[.int .u8 c,.int .i64 k] w fun e w'=>e = .returned (.bool (inC k c))∧Below w.heap.size w w':=by
 have E:=kd (show inC k c=((zgv c || (zbc c || ya7.contains c)) || (clsL k).contains c) from rfl);have HL:=kd (fun w=>zi5 c w);have HD:=kd (fun w=>zer c w);have HM:=kd (fun w=>zrz ⟨#[45,95,46,33,126,42,39,40,41]⟩ c w h0 h1)
 rw [show zaa ⟨#[45,95,46,33,126,42,39,40,41]⟩=ya7 by decide] at HM;have HK:=kd (fun (h:0≤k) (h2:k≤2)=>hC.at h h2);have NK:=kd (fun (h:¬ (0≤k∧k≤2))=>show clsL k=[] by unfold clsL;rw [if_neg (by omega),if_neg (by omega),if_neg (by omega)])
 have HI:=kd (fun s w=>zrz s c w h0 h1);generalize inC k c=R at *;generalize zgv c=b1 at *;generalize zbc c=b2 at *;generalize ya7.contains c=b3 at *;clear h0 h1 hC
 cases b1
 case true =>
  have E2:=kd (show R=true from E.out)
  go_enter Tryz.func232,Tryz.ntmps232
  go_wp2_with (go_at_call 228;refine (HL.out _).mono ?_;rintro e w' ⟨rfl,rfl⟩);go_ret;exact ⟨zax E2.out.symm,Below.refl _ _⟩
 cases b2
 case true =>
  have E2:=kd (show R=true from E.out)
  go_enter Tryz.func232,Tryz.ntmps232
  go_wp2_with (first|(go_at_call 228;refine (HL.out _).mono ?_;rintro e w' ⟨rfl,rfl⟩)|(go_at_call 226;refine (HD.out _).mono ?_;rintro e w' ⟨rfl,rfl⟩));go_ret;exact ⟨zax E2.out.symm,Below.refl _ _⟩
 cases b3
 case true =>
  have E2:=kd (show R=true from E.out)
  go_enter Tryz.func232,Tryz.ntmps232
  go_wp2_with (first|(go_at_call 228;refine (HL.out _).mono ?_;rintro e w' ⟨rfl,rfl⟩)|(go_at_call 226;refine (HD.out _).mono ?_;rintro e w' ⟨rfl,rfl⟩)|(go_at_call 119;refine (HM.out _).mono ?_;rintro e w' ⟨z,rfl,hz,rfl⟩));go_ret;exact ⟨zax E2.out.symm,Below.refl _ _⟩
 have E2:=kd (show R=(clsL k).contains c from E.out);clear E
 by_cases hk:0≤k∧k≤2
 · obtain ⟨k0,k2⟩:=hk
   obtain ⟨t,ct,ht⟩:=HK.out k0 k2;have HT:=kd (HI.out t);rw [ht] at HT;have d0:decide (0≤k)=true:=decide_eq_true k0;have d2:decide (k≤2)=true:=decide_eq_true k2;have d3:decide (k<3)=true:=decide_eq_true (by omega);have HX:=kd k2;clear ht HK NK HI
   go_enter Tryz.func232,Tryz.ntmps232
   go_wp2_with (first|(go_at_call 228;refine (HL.out _).mono ?_;rintro e w' ⟨rfl,rfl⟩)|(go_at_call 226;refine (HD.out _).mono ?_;rintro e w' ⟨rfl,rfl⟩)|(go_at_call 119;refine (HM.out _).mono ?_;rintro e w' ⟨z,rfl,hz,rfl⟩)|(go_at_call 119;refine (HT.out _).mono ?_;rintro e w' ⟨z2,rfl,hz2,rfl⟩))
   go_ret;exact ⟨zax (by rw [E2.out];first|rfl|exact hz2|simp),Below.refl _ _⟩
 · have E3:=kd (show R=false by rw [E2.out,NK.out hk];rfl)
   have hk2:=hk;clear HK NK HI E2 hk
   by_cases k0:0≤k
   · have d0:decide (0≤k)=true:=decide_eq_true k0
     have d2:decide (k≤2)=false:=decide_eq_false (by omega);clear k0 hk2
     go_enter Tryz.func232,Tryz.ntmps232
     go_wp2_with (first|(go_at_call 228;refine (HL.out _).mono ?_;rintro e w' ⟨rfl,rfl⟩)|(go_at_call 226;refine (HD.out _).mono ?_;rintro e w' ⟨rfl,rfl⟩)|(go_at_call 119;refine (HM.out _).mono ?_;rintro e w' ⟨z,rfl,hz,rfl⟩));go_ret;exact ⟨zax E3.out.symm,Below.refl _ _⟩
   · have d0:decide (0≤k)=false:=decide_eq_false k0
     clear k0 hk2
     go_enter Tryz.func232,Tryz.ntmps232
     go_wp2_with (first|(go_at_call 228;refine (HL.out _).mono ?_;rintro e w' ⟨rfl,rfl⟩)|(go_at_call 226;refine (HD.out _).mono ?_;rintro e w' ⟨rfl,rfl⟩)|(go_at_call 119;refine (HM.out _).mono ?_;rintro e w' ⟨z,rfl,hz,rfl⟩));go_ret;exact ⟨zax E3.out.symm,Below.refl _ _⟩
theorem zo2 (s:ByteArray) (i:Nat) (w:World) (hi:i<s.size) (hs:s.size≤4000000):Calls Tryz.prog 233 #[.string s,.int .i64 i] w fun e w'=>(∃ x:Int,e = .returned (.tuple #[.int .u8 x,.bool (decide (0≤zbm (zaa s) i))])∧(0≤zbm (zaa s) i→x=zbm (zaa s) i))∧w=w':=by
 have HL:=zac s;have HB:=zas s;have E:=kd (show zbm (zaa s) i=if (zaa s).length≤i+2∨(zaa s).getD i 0≠37∨hexV ((zaa s).getD (i+1) 0)<0∨hexV ((zaa s).getD (i+2) 0)<0 then -1 else 16*hexV ((zaa s).getD (i+1) 0)+hexV ((zaa s).getD (i+2) 0) from rfl);rw [HL] at E
 generalize zbm (zaa s) i=R at *
 by_cases h1:s.size≤i+2
 · have d1:decide ((s.size:Int)≤(i:Int)+2)=true:=by simp;omega
   have E2:=kd (show R = -1 by rw [E.out,if_pos (.inl h1)]);clear E HB HL
   go_enter Tryz.func233,Tryz.ntmps233
   go_wp2
   go_ret2
   refine ⟨⟨0,?_,fun h=>by rw [E2.out] at h;omega⟩,rfl⟩;rw [E2.out];rfl
 have d1:decide ((s.size:Int)≤(i:Int)+2)=false:=by simp;omega
 have j0:=fun w=>zbe s (i:=i) hi (z:=(i:Int)) rfl w;have j1:=fun w=>zbe s (i:=i+1) (by omega) (z:=(i:Int)+1) (by omega) w;have j2:=fun w=>zbe s (i:=i+2) (by omega) (z:=(i:Int)+2) (by omega) w;have b1:=HB _ (zbg (l:=zaa s) (i:=i+1) (by rw [HL];omega))
 have b2:=HB _ (zbg (l:=zaa s) (i:=i+2) (by rw [HL];omega));clear HB HL;generalize (zaa s).getD i 0=c0 at *;generalize (zaa s).getD (i+1) 0=c1 at *;generalize (zaa s).getD (i+2) 0=c2 at *;have r1:=zf9 c1;have r2:=zf9 c2
 have E2:=kd (show c0≠37→R = -1 from fun h=>by rw [E.out,if_pos (.inr (.inl h))])
 have E3:=kd (show c0=37→(hexB c1 && hexB c2)=false→R = -1 from fun _ h=>by
  rw [E.out,if_pos];unfold hexB at h
  right;right
  by_cases g1:hexV c1<0
  · exact .inl g1
  · by_cases g2:hexV c2<0
    · exact .inr g2
    · rw [decide_eq_true (by omega),decide_eq_true (by omega)] at h;cases h)
 have E4:=kd (show c0=37→hexB c1=true→hexB c2=true→R=16*hexN c1+hexN c2∧0≤R from fun h h3 h4=>by
  unfold hexB at h3 h4;have g1:=of_decide_eq_true h3;have g2:=of_decide_eq_true h4
  have e:R=16*hexV c1+hexV c2:=by rw [E.out,if_neg (by omega)]
  unfold hexN;rw [if_neg (by omega),if_neg (by omega)]
  exact ⟨e,by omega⟩)
 have N1:0≤hexN c1∧hexN c1<16:=by unfold hexN;split<;>omega
 have N2:0≤hexN c2∧hexN c2<16:=by unfold hexN;split<;>omega
 clear r1 r2 E h1
 by_cases h2:c0=37
 · subst h2
   have E3:=kd (E3.out rfl);have E4:=kd (E4.out rfl);have H1:=kd (fun w=>zf1 c1 w b1.1 b1.2);have H2:=kd (fun w=>zf1 c2 w b2.1 b2.2);generalize hexN c1=v1 at *;generalize hexN c2=v2 at *;generalize hexB c1=t1 at *;generalize hexB c2=t2 at *;obtain ⟨n1,n2⟩:=N1
   obtain ⟨n3,n4⟩:=N2;have ho:=or16 v1 v2 n1 n2 n3 n4;clear b1 b2 E2
   cases t1<;>cases t2
   case true.true =>
    obtain ⟨e,e0⟩:=E4.out rfl rfl;have EE:=kd e;have D:=kd (decide_eq_true e0);clear E3 E4 e e0
    go_enter Tryz.func233,Tryz.ntmps233
    go_wp2_with (first|(go_at_call 281;with_reducible refine (H1.out _).mono ?_;rintro e w' ⟨rfl,rfl⟩)|(go_at_call 281;with_reducible refine (H2.out _).mono ?_;rintro e w' ⟨rfl,rfl⟩))
    go_ret2
    refine ⟨⟨v1*16+v2,?_,fun _=>by rw [EE.out];omega⟩,rfl⟩;rw [D.out]
    first|rfl|(simp only [ho];rfl)
   all_goals
    have EE:=kd (E3.out rfl);clear E3 E4
    go_enter Tryz.func233,Tryz.ntmps233
    go_wp2_with (first|(go_at_call 281;with_reducible refine (H1.out _).mono ?_;rintro e w' ⟨rfl,rfl⟩)|(go_at_call 281;with_reducible refine (H2.out _).mono ?_;rintro e w' ⟨rfl,rfl⟩))
    go_ret2
    refine ⟨⟨v1*16+v2,?_,fun h=>by rw [EE.out] at h;omega⟩,rfl⟩;rw [EE.out];rfl
 · have EE:=kd (E2.out h2)
   have q0:(c0 == 37)=false:=by simpa using h2
   clear E2 E3 E4 b1 b2 N1 N2 j1 j2 h2
   go_enter Tryz.func233,Tryz.ntmps233
   go_wp2
   go_ret2
   refine ⟨⟨0,?_,fun h=>by rw [EE.out] at h;omega⟩,rfl⟩;rw [EE.out];rfl

theorem OX.step {w wr w1:World} {v:Value} {xs:List Int} (H:OX w v xs wr) (hb:Below wr.heap.size wr w1):OX w v xs w1:=by
 refine ⟨⟨H.o.1,?_⟩,zao H.bw hb⟩
 rcases H.o.2 with h0|⟨g,cap,cur,h1,h2,h3,h4⟩
 · exact .inl h0
 · exact .inr ⟨g,cap,cur,h1,h2,(hb.block g (lt_of_block h3)).trans h3,h4⟩
theorem zsu {ops:Array Oper} {o:Oper} {a:Act} {w w1:World} {K:Act→World→Prop} {Q:Exit→Act→World→Prop} {E:Prop} (hgd:o.guard=none) (s x:Operand)
  (ho:o.op = .call { callee := .builtin .append,args:=#[s,x],argTypes:=#[29,29] }) (v:Value) (xs:List Int) (hs:a.eval s=v) (H:OX w v xs w1) (ys:List Int) (b m:Nat) (hm:ys.length=m) (hm0:0<m)
  (hx:a.eval x = .slice (some ⟨b,0,none⟩) m m) (hB:Row w1 b 5 (U8 ys)) (hbound:xs.length+m≤16777216)
  (h:∀ v' w' L,Hid (L=xs++ys)→L.length=xs.length+m→Hid (OX w v' L w')→K (a.put o.dst v') w') :
  if Region.wanted o (yielded ops a.tmps)=true then Oper.wp Tryz.prog o a w1 K Q else E:=by
 obtain ⟨i,hi,hz,hsz,hby⟩:=zw0
 refine step_append_lies _ hgd s x 29 ho w.heap.size 5 i (.int .u8 0) 1 1 Tryz.underlying29 hi hz hsz hby rfl (by decide) v xs.length (U8 xs) hs H.o ⟨b,0,none⟩ m m (U8 ys) hx (by simp [U8,hm]) (fun j u hu => ?_) (fun u hu => ?_) hm0 (by unfold maxLen;omega) (by omega) H.bw.size _ rfl ?_
 · rw [Addr.add_mid,Nat.zero_add,hB.cell j];exact hu
 · obtain ⟨y,_,rfl⟩:=List.mem_map.1 hu;rfl
 · intro g cap w' o1 g1 _ _
   refine h _ w' (xs++ys) (kd rfl) (by simp [hm]) (kd ⟨?_,H.bw.grown g1 H.bw.size (zb8 H.o)⟩)
   have e:xs.length+m=(xs++ys).length:=by simp [hm]
   rw [← e];unfold U8 at o1 ⊢;rw [List.map_append];exact o1
theorem up_at (n:Int) (h0:0≤n) (h1:n<16) (w:World):(Instr.index 9 (.string ⟨#[48,49,50,51,52,53,54,55,56,57,65,66,67,68,69,70]⟩) (.int .u8 n)).run Tryz.prog w = .ok (.int .u8 (hexU n)) w:=by
 obtain ⟨k,rfl⟩:=Int.eq_ofNat_of_zero_le h0
 rcases k with _|_|_|_|_|_|_|_|_|_|_|_|_|_|_|_|k
 all_goals first|omega|kernel_rfl
def ESR (w:World) (X:List Int) (k:Int) (n:Nat) (v v12:Value) (wr:World):Prop := ∃ (i:Nat) (x:Value) (L:List Int),i≤n∧x=v∧v12 = .int .i64 i∧L.length≤3*i∧Hid (L=escT k (X.take i))∧Hid (OX w x L wr)
theorem zt8 (s:ByteArray) (k:Int) (w:World) (hs:s.size≤4000000) (hC:CLS w):Calls Tryz.prog 204 #[.string s,.int .i64 k] w fun e w'=>e = .returned (.string (strOfNums (escT k (zaa s))))∧Below w.heap.size w w':=by
 have HB:=kd (zas s);have HL:=kd (zac s);have HC:=kd hC;clear hC;obtain ⟨X,hX⟩:∃ X,zaa s=X:=⟨_,rfl⟩;have HX:=kd hX;rw [hX] at HL HB ⊢;clear hX
 go_enter Tryz.func204,Tryz.ntmps204
 go_wp2_with (with_reducible refine zit rfl _ _ s.size rfl ?h1 ?h2 (by omega) ?_)
 case h1=>rfl
 case h2=>rfl
 intro v0 w0 m0;have M0:=kd m0;clear m0;go_wp2_with fail
 go_loopw [5,12] (fun v v12 wr=>ESR w X k s.size v v12 wr) (fun _ v _=>s.size - (intOf v).toNat)
 case atStart=>exact ⟨0,_,[],Nat.zero_le _,rfl,rfl,Nat.le_refl _,kd rfl,M0⟩
 case round =>
  clear M0;obtain ⟨i,x,L,hi,rfl,rfl,hL,EL,H⟩:=hrel
  by_cases hlt:i<s.size
  · have hd:decide ((i:Int)<(s.size:Int))=true:=by simp;omega
    have d1:=fun w=>zbe s (i:=i) hlt (z:=(i:Int)) rfl w;have hx2:=HB.out _ (zbg (l:=X) (i:=i) (by rw [HL.out];exact hlt));rw [HX.out] at d1;have TS:=kd (show escT k (X.take (i+1))=escT k (X.take i)++zi8 k (X.getD i 0) by rw [zcu X (by rw [HL.out];exact hlt),zxh])
    generalize X.getD i 0=c at *;have IC:=kd (zkh c k wr hx2.1 hx2.2 (HC.out.below H.out.bw))
    cases hp:inC k c with
    | true =>
      have EC:=kd (show zi8 k c=[c] by unfold zi8;rw [hp];rfl);rw [hp] at IC;clear hp
      go_wp2_with (first|(go_at_call 232;refine IC.out.mono ?_;rintro e w1 ⟨rfl,hb⟩;have H1:=kd (H.out.step hb);clear hb)|(with_reducible refine zds rfl (.tmp 20) (.tmp 24) rfl x L rfl H1.out c rfl (by omega) ?_));intro v3 w3 L3 E3 l3 M3;go_wp2_with fail;go_roundw
      case rel=>exact ⟨i+1,v3,L3,by omega,rfl,by go_num,by omega,kd (by rw [E3.out,TS.out,EC.out,EL.out]),M3⟩
      case measure=>simp [intOf];omega
    | false =>
      have EC:=kd (show zi8 k c=[37,hexU (c / 16),hexU (c % 16)] by unfold zi8;rw [hp];rfl);rw [hp] at IC;obtain ⟨x0,x1⟩:=hx2;have e15:=and15 c x0 x1;have u1:=fun w=>up_at (c / 16) (by omega) (by omega) w;have u2:=fun w=>up_at (c % 16) (by omega) (by omega) w;clear hp
      go_wp2_with (go_at_call 232;refine IC.out.mono ?_;rintro e w1 ⟨rfl,hb⟩;have H1:=kd (H.out.step hb);clear hb);have H2:=kd (H1.out.step (((Below.refl w1.heap.size w1).alloc zNr (.cells #[.int .u8 37,.int .u8 (hexU (c / 16)),.int .u8 (hexU (c % 16))] 5)).drew))
      have R2:=kd (show Row (w1.alloc (.cells #[.int .u8 37,.int .u8 (hexU (c / 16)),.int .u8 (hexU (c % 16))] 5)).drew w1.heap.size 5 (U8 [37,hexU (c / 16),hexU (c % 16)]) from Row.new w1 5 _)
      go_region_law (refine zsu rfl (.tmp 26) (.tmp 37) rfl x L rfl (w:=w) H2.out [37,hexU (c / 16),hexU (c % 16)] w1.heap.size 3 rfl (by decide) rfl R2.out (by omega) ?_;intro v3 w3 L3 E3 l3 M3)
      all_goals
       go_wp2_with fail;go_roundw
       case rel=>exact ⟨i+1,v3,L3,by omega,rfl,by go_num,by omega,kd (by rw [E3.out,TS.out,EC.out,EL.out]),M3⟩
       case measure=>simp [intOf];omega
  · obtain rfl:i=s.size:=by omega
    have LE:=kd (show L=escT k X by rw [EL.out,List.take_of_length_le (by rw [HL.out];exact Nat.le_refl _)]);have cv:=zgb H.out.o;go_wp2_with fail;go_ret;exact ⟨by rw [LE.out];rfl,H.out.bw⟩
end Go.Proofs.YtfnmkedncfdceaaGreatDoor
