/- Plain words for texts: lists of bytes as integers; classes of bytes; what stands from a place on. And what stands behind it. -/
import Derived.WalkKit
import Derived.Laws.BytesArg
import Derived.Lib.Hide
import Derived.Lib.SplitLaws
import Derived.Lib.SlTrimSet
import Derived.Lib.SlicesS
import Derived.Lib.Join
import Derived.Test.YtfnmkedncfdceaaGreatDoorRows
import Derived.WalkSpells
import Derived.WalkLawsBesides
import Derived.Deep.QuietTactic
import Derived.BigQuiet
set_option linter.unusedVariables false
set_option linter.unusedSimpArgs false
set_option maxRecDepth 100000
namespace Go.Proofs.YtfnmkedncfdceaaGreatDoor
open Go.RowKit
abbrev ZU6:List Value:=[.string ⟨#[]⟩,.string ⟨#[]⟩,.string ⟨#[]⟩,.int .i64 0,.slice none 0 0,.slice none 0 0]
abbrev ZA8:List Value:=[.string ⟨#[]⟩,.string ⟨#[]⟩,.string ⟨#[]⟩,.string ⟨#[]⟩,.int .i64 0,.slice none 0 0,.slice none 0 0,.slice none 0 0]
abbrev ZC5:List Value:=[.string ⟨#[]⟩,.string ⟨#[]⟩,.int .i64 0,.string ⟨#[]⟩,.slice none 0 0]
theorem zBr {B:Nat} {w:World}:Below B w w:=Below.refl B w
theorem zNr {n:Nat}:n≤n:=Nat.le_refl n
theorem zSi {α:Type} {a b:α} (h:some a=some b):a=b:=Option.some.inj h
theorem zNz {n:Nat}:0≤n:=Nat.zero_le n
theorem kd {p:Prop} (h:p):Hid p:=Lib.hid h

def By (bs:List Int):Prop := ∀ x∈bs,0≤x∧x<256
def zaa (s:ByteArray):List Int:=s.data.toList.map fun c=>(c.toNat:Int)
theorem zac (s:ByteArray):(zaa s).length=s.size:=by unfold zaa;rw [List.length_map];rfl
theorem zas (s:ByteArray):By (zaa s):=fun x hx=>by
 obtain ⟨c,_,rfl⟩:=List.mem_map.1 hx;have:=c.toNat_lt;omega
theorem getD_some {l:List Int} {i:Nat} (h:i<l.length):l[i]? = some (l.getD i 0):=by
 rw [List.getD_eq_getElem?_getD,List.getElem?_eq_getElem h];rfl
theorem zbg {l:List Int} {i:Nat} (h:i<l.length):l.getD i 0∈l:=List.mem_of_getElem? (getD_some h)
theorem znc (s:ByteArray) {i:Nat} (hi:i<s.size):((s[i]).toNat:Int)=(zaa s).getD i 0:=by
 have h:i<s.data.toList.length:=hi;rw [List.getD_eq_getElem?_getD,zaa,List.getElem?_map,List.getElem?_eq_getElem h]
 rfl
theorem zal {l:List Int} (h:By l):zaa (strOfNums l)=l:=by
 unfold zaa;rw [strOfNums_data,List.map_map]
 conv=>rhs;rw [← List.map_id l]
 refine List.map_congr_left fun x hx => ?_;have:=h x hx;simp only [Function.comp,id,UInt8.toNat_ofNat'];omega
theorem zbh (s:ByteArray):strOfNums (zaa s)=s:=by
 apply ByteArray.ext
 apply Array.toList_inj.1
 rw [strOfNums_data,zaa,List.map_map]
 conv=>rhs;rw [← List.map_id s.data.toList]
 refine List.map_congr_left fun c _ => ?_;simp [Function.comp]
theorem zcx (a b:List Int):strOfNums a++strOfNums b=strOfNums (a++b):=by
 apply ByteArray.ext
 rw [ByteArray.data_append];simp [strOfNums]
theorem zar (s:ByteArray) (a b:Nat):zaa (s.extract a b)=((zaa s).drop a).take (b - a):=by
 unfold zaa;rw [← List.map_drop,← List.map_take]
 congr 1
 rw [ByteArray.data_extract,Array.toList_extract]
theorem zcu (bs:List Int) {k:Nat} (h:k<bs.length):bs.take (k+1)=bs.take k++[bs.getD k 0]:=by
 rw [List.take_succ_eq_append_getElem h,List.getD_eq_getElem?_getD,List.getElem?_eq_getElem h];rfl
theorem za7 (bs:List Int) {k:Nat} (h:k<bs.length):bs.drop k=bs.getD k 0::bs.drop (k+1):=by
 rw [List.drop_eq_getElem_cons h,List.getD_eq_getElem?_getD,List.getElem?_eq_getElem h];rfl

def isBlank (c:Int):Bool:=c == 32 || c == 9
def zdc (c:Int):Bool:=(decide (c<32) && !(c == 9)) || c == 127
def zbp (c:Int):Bool:=(decide (97≤c) && decide (c≤122)) || ((decide (65≤c) && decide (c≤90)) || ((decide (48≤c) && decide (c≤57)) || (c == 45 || (c == 46 || (c == 33 || (c == 37 || (c == 42 || (c == 95 || (c == 43 || (c == 39 || (c == 126 || c == 96)))))))))))
def zag (p:Int→Bool) (xs:List Int) (i:Nat):Nat:=i+((xs.drop i).takeWhile p).length
theorem zrj {p:Int→Bool} {xs:List Int} {i:Nat} (h:i<xs.length) (hp:p (xs.getD i 0)=true):zag p xs i=zag p xs (i+1):=by
 unfold zag;rw [za7 xs h,List.takeWhile_cons,if_pos hp,List.length_cons];omega
theorem zvk {p:Int→Bool} {xs:List Int} {i:Nat} (h:i<xs.length) (hp:p (xs.getD i 0)=false):zag p xs i=i:=by
 unfold zag;rw [za7 xs h,List.takeWhile_cons,if_neg (by rw [hp];decide)]
 rfl
theorem zrk {p:Int→Bool} {xs:List Int} {i:Nat} (h:xs.length≤i):zag p xs i=i:=by
 unfold zag;rw [List.drop_of_length_le h]
 rfl
theorem za5 {p:Int→Bool} {xs:List Int} {i:Nat} (h:i≤xs.length):zag p xs i≤xs.length:=by
 unfold zag;have h1:=(List.takeWhile_sublist p (l:=xs.drop i)).length_le;rw [List.length_drop] at h1;omega
theorem zcp (p:Int→Bool) (xs:List Int) (i:Nat):i≤zag p xs i:=Nat.le_add_right _ _
def clip (z:Int) (n:Nat):Nat:=min z.toNat n
def uqL:List Int→Nat→List Int→List Int × Nat × Int
 | [],i,_=>([],i,6)
 | c::r,i,acc =>
   if c=34 then (acc,i+1,0)
   else if c=92 then
    match r with
    | []=>([],i+1,6)
    | d::r2=>if 32≤d∧d≤126 then uqL r2 (i+2) (acc++[d]) else ([],i,5)
   else if zdc c=true then ([],i,5)
   else uqL r (i+1) (acc++[c])
def unq (xs:List Int) (at_:Int):List Int × Nat × Int:=
 if at_<0∨(xs.length:Int)<at_ then ([],0,2)
 else if at_=xs.length∨xs.getD at_.toNat 0≠34 then ([],at_.toNat,5)
 else uqL (xs.drop (at_.toNat+1)) (at_.toNat+1) []

def zi7 (l:List Int):List Int:=l.dropWhile isBlank
def zgp (l:List Int):List Int:=(l.reverse.dropWhile isBlank).reverse
def zca (l:List Int):List Int:=zgp (zi7 l)
def subL (xs:List Int) (a b:Nat):List Int:=(xs.drop a).take (b - a)
theorem zdr {xs:List Int} {a b:Nat} (hb:b≤xs.length):(subL xs a b).length=b - a:=by
 unfold subL;rw [List.length_take,List.length_drop];omega
theorem zgj (p:Int→Bool):∀ l:List Int,l.dropWhile p=l.drop (l.takeWhile p).length
 | []=>rfl
 | c::l=>by
   rw [List.dropWhile_cons,List.takeWhile_cons]
   by_cases h:p c=true
   · rw [if_pos h,if_pos h,List.length_cons,List.drop_succ_cons,zgj p l]
   · rw [if_neg h,if_neg h];rfl
theorem zfs (p:Int→Bool):∀ (l:List Int) (n:Nat),((l.take n).takeWhile p).length=min (l.takeWhile p).length n
 | [],n=>by simp
 | c::l,0=>by simp
 | c::l,n+1=>by
   rw [List.take_succ_cons,List.takeWhile_cons,List.takeWhile_cons]
   by_cases h:p c=true
   · rw [if_pos h,if_pos h,List.length_cons,List.length_cons,zfs p l n];omega
   · rw [if_neg h,if_neg h];simp
def zcq (xs:List Int) (a b:Nat):Nat × List Int:=(a+((subL xs a b).takeWhile isBlank).length,zca (subL xs a b))
theorem zrn {xs:List Int} {a b:Nat} (hab:a≤b):min (zag isBlank xs a) b=(zcq xs a b).1:=by
 unfold zcq zag subL;dsimp only;rw [zfs];omega
theorem ztb {xs:List Int} {a b:Nat} (hab:a≤b) (hb:b≤xs.length):zgp (subL xs (min (zag isBlank xs a) b) b)=(zcq xs a b).2:=by
 rw [zrn hab];unfold zcq zca;dsimp only
 congr 1
 unfold zi7;rw [zgj];generalize ((subL xs a b).takeWhile isBlank).length=k;unfold subL;rw [List.drop_take,List.drop_drop]
 congr 1
 omega
def splN (xs:List Int) (sep:Int):Nat→Nat→Nat→List (Nat × List Int)→List (Nat × List Int) × Nat × Int
 | 0,_,_,_=>([],0,0)
 | f+1,i,b,acc =>
   if xs.length≤i then (acc++[zcq xs b xs.length],0,0)
   else if xs.getD i 0=34 then
    if (unq xs i).2.2≠0 then ([],(unq xs i).2.1,(unq xs i).2.2) else splN xs sep f (unq xs i).2.1 b acc
   else if xs.getD i 0=60 then
    if xs.length≤zag (fun c=>c != 62) xs i then ([],xs.length,6) else splN xs sep f (zag (fun c=>c != 62) xs i+1) b acc
   else if xs.getD i 0=62 then ([],i,5)
   else if xs.getD i 0=sep then splN xs sep f (i+1) (i+1) (acc++[zcq xs b i])
   else splN xs sep f (i+1) b acc
def sepBad (sep:Int):Bool:=isBlank sep || (sep == 34 || (sep == 60 || sep == 62))
def zde (xs:List Int) (sep:Int):List (Nat × List Int) × Nat × Int:=
 if sepBad sep=true then ([],0,2) else splN xs sep (xs.length+1) 0 0 []
theorem zpp:∀ (l:List Int) (i:Nat) (acc:List Int),i≤(uqL l i acc).2.1∧(uqL l i acc).2.1≤i+l.length∧((uqL l i acc).2.2=0→i<(uqL l i acc).2.1)
 | [],i,acc=>by unfold uqL;exact ⟨Nat.le_refl _,by simp,fun h=>by cases h⟩
 | c::l,i,acc=>by
   unfold uqL
   split
   · exact ⟨by simp,by simp,fun _=>by simp⟩
   · split
     · match l with
       | []=>exact ⟨by simp,by simp,fun h=>by cases h⟩
       | d::r2 =>
         dsimp only
         split
         · have h:=zpp r2 (i+2) (acc++[d])
           simp only [List.length_cons];exact ⟨by omega,by omega,fun h0=>by have:=h.2.2 h0;omega⟩
         · exact ⟨Nat.le_refl _,by simp,fun h=>by cases h⟩
     · split
       · exact ⟨Nat.le_refl _,by simp,fun h=>by cases h⟩
       · have h:=zpp l (i+1) (acc++[c])
         simp only [List.length_cons];exact ⟨by omega,by omega,fun h0=>by have:=h.2.2 h0;omega⟩
theorem zgm {xs:List Int} {i:Nat} (hi:i≤xs.length):(unq xs i).2.1≤xs.length∧((unq xs i).2.2=0→i<(unq xs i).2.1):=by
 unfold unq;rw [if_neg (by omega)]
 split
 · exact ⟨by simp;omega,fun h=>by cases h⟩
 · rename_i hq
   have hlt:i<xs.length:=by
    rcases Nat.lt_or_ge i xs.length with h|h
    · exact h
    · exact absurd (Or.inl (by omega)) hq
   rw [Int.toNat_natCast];have h:=zpp (xs.drop (i+1)) (i+1) [];rw [List.length_drop] at h;exact ⟨by omega,fun h0=>by have:=h.2.2 h0;omega⟩

def lowC (c:Int):Int:=if 65≤c∧c≤90 then c+32 else c
def lowS (l:List Int):List Int:=l.map lowC
theorem zbo (l:List Int):(lowS l).length=l.length:=by simp [lowS]
theorem zqb {c:Int} (h:0≤c∧c<256):0≤lowC c∧lowC c<256:=by unfold lowC;split<;>omega
theorem zcr {l:List Int} (h:By l):By (lowS l):=fun x hx=>by
 obtain ⟨c,hc,rfl⟩:=List.mem_map.1 hx;exact zqb (h c hc)
def zc7 (l:List Int):Bool:=l.all fun c => !zdc c
def escC (c:Int):List Int:=if c=34∨c=92 then [92,c] else [c]
def escL (l:List Int):List Int:=l.flatMap escC
def quoteL (l:List Int):List Int:=34::(escL l++[34])
def zc5 (l:List Int):Bool := !l.isEmpty && (zag zbp l 0 == l.length)

def cutL (sep:Int):List Int→List (List Int)
 | []=>[[]]
 | c::r=>if c=sep then []::cutL sep r else
   match cutL sep r with
   | []=>[[c]]
   | p::ps=>(c::p)::ps
def glue (p:List Int):List (List Int)→List (List Int)
 | []=>[p]
 | q::qs=>(p++q)::qs
theorem zdp (sep c:Int) (r:List Int) (h:c≠sep):cutL sep (c::r)=glue [c] (cutL sep r):=by
 rw [cutL,if_neg h]
 cases cutL sep r<;>rfl
theorem zdi (sep:Int) (r:List Int):cutL sep (sep::r)=[]::cutL sep r:=by rw [cutL,if_pos rfl]
theorem zxa (p q:List Int) (l:List (List Int)):glue p (glue q l)=glue (p++q) l:=by cases l<;>simp [glue]
theorem ybs (sep:Int):∀ r:List Int,glue [] (cutL sep r)=cutL sep r
 | []=>rfl
 | c::r=>by
   by_cases h:c=sep
   · subst h;rw [zdi];rfl
   · rw [zdp sep c r h,zxa];rfl
def bl (l:List UInt8):List Int:=l.map fun c=>(c.toNat:Int)
theorem znb (s:ByteArray):zaa s=bl s.data.toList:=rfl
theorem yeq (l:List UInt8):By (bl l):=fun x hx=>by
 obtain ⟨c,_,rfl⟩:=List.mem_map.1 hx;have:=c.toNat_lt;omega
theorem bl_inj {a b:List UInt8} (h:bl a=bl b):a=b:=by
 induction a generalizing b with
 | nil=>cases b with
   | nil=>rfl
   | cons _ _=>cases h
 | cons x a ih=>cases b with
   | nil=>cases h
   | cons y b =>
     unfold bl at h;rw [List.map_cons,List.map_cons,List.cons.injEq] at h;have hxy:x=y:=UInt8.toNat_inj.1 (by omega);rw [hxy,ih h.2]
theorem zo8 {s t:ByteArray} (h:zaa s=zaa t):s=t:=by rw [← zbh s,← zbh t,h]
theorem yay (l:List UInt8):zaa ⟨l.toArray⟩=bl l:=rfl
theorem zh1 (c:UInt8):∀ (s:List UInt8) (k:Nat),Lib.count s [c]=k→(Lib.splitK [c] 0 k s).map bl=cutL c.toNat (bl s)
 | [],k,h=>by
   have h0:k=0:=by rw [← h];rfl
   subst h0;rfl
 | b::l,k,h=>by
   by_cases hb:b=c
   · subst hb
     rw [Lib.count_cons_eq] at h;obtain ⟨k,rfl⟩:∃ j,k=j+1:=⟨k - 1,by omega⟩;have ih:=zh1 b l k (by omega)
     have hi:Lib.index (b::l) [b]=0:=by rw [Lib.index_one];simp [Lib.indexByte]
     rw [Lib.splitK,hi];simp only [show ((0:Int) == -1)=false from rfl];simp only [Bool.false_eq_true,if_false,List.map_cons,Int.toNat_zero,Nat.zero_add,List.take_zero,List.length_cons,List.length_nil,List.drop_succ_cons,List.drop_zero]
     rw [ih,show bl (b::l)=(b.toNat:Int)::bl l from rfl,zdi]
     rfl
   · rw [Lib.count_cons_ne b c l hb] at h
     have ih:=zh1 c l k h;have hne:((b.toNat:Nat):Int)≠c.toNat:=fun e=>hb (UInt8.toNat_inj.1 (by omega))
     have hi:Lib.index (b::l) [c]=if Lib.index l [c] == -1 then -1 else Lib.index l [c]+1:=by
      rw [Lib.index_one,Lib.index_one,Lib.indexByte,if_neg (by simpa using hb)]
     rw [show bl (b::l)=(b.toNat:Int)::bl l from rfl,zdp _ _ _ hne,← ih]
     cases k with
     | zero=>rfl
     | succ k =>
       rw [Lib.splitK,Lib.splitK,hi]
       by_cases h1:(Lib.index l [c] == -1)=true
       · rw [if_pos h1,if_pos (by rfl),if_pos h1];rfl
       · have hge : -1≤Lib.index l [c]:=Lib.index_ge _ _
         have hne1:Lib.index l [c] ≠ -1:=fun e=>h1 (beq_iff_eq.2 e);obtain ⟨i,hi2⟩:=Int.eq_ofNat_of_zero_le (show 0≤Lib.index l [c] by omega);rw [if_neg h1,if_neg (fun e=>by have:=beq_iff_eq.1 e;omega),if_neg h1,hi2]
         rw [show ((i:Int)+1).toNat=i+1 by omega,Int.toNat_natCast];simp only [Nat.add_zero,List.length_cons,List.length_nil,Nat.zero_add,List.map_cons];rw [show i+1+1=(i+1)+1 from rfl,List.take_succ_cons,List.drop_succ_cons]
         rfl
theorem zsy (s:ByteArray) (c:UInt8):(Lib.splitB ⟨#[c]⟩ 0 (Lib.countB s ⟨#[c]⟩) s).map zaa=cutL c.toNat (zaa s):=by
 have h1:=Lib.splitB_data ⟨#[c]⟩ 0 (Lib.countB s ⟨#[c]⟩) s;have h2:=zh1 c s.data.toList (Lib.countB s ⟨#[c]⟩) rfl;rw [show (⟨#[c]⟩:ByteArray).data.toList=[c] from rfl] at h1;rw [znb,← h2,← h1,List.map_map]
 rfl
theorem zln (c:Int) (l:List Int):zgp (c::l)=if zgp l=[]∧isBlank c=true then [] else c::zgp l:=by
 unfold zgp;rw [List.reverse_cons,List.dropWhile_append]
 by_cases h:(l.reverse.dropWhile isBlank).isEmpty=true
 · have h0:l.reverse.dropWhile isBlank=[]:=by simpa using h
   rw [if_pos h,h0]
   by_cases hc:isBlank c=true
   · simp [hc,List.dropWhile]
   · simp [hc,List.dropWhile]
 · have h0:l.reverse.dropWhile isBlank≠[]:=fun e=>h (by rw [e];rfl)
   rw [if_neg h,if_neg (fun e=>h0 (by simpa using e.1)),List.reverse_append]
   rfl
theorem zj9:∀ l:List Int,zi7 (zgp l)=zgp (zi7 l)
 | []=>rfl
 | c::l=>by
   have ih:=zj9 l;rw [zln]
   by_cases hc:isBlank c=true
   · have hl:zi7 (c::l)=zi7 l:=by unfold zi7;rw [List.dropWhile_cons,if_pos hc]
     rw [hl]
     by_cases hr:zgp l=[]
     · rw [if_pos ⟨hr,hc⟩,← ih,hr]
     · rw [if_neg (fun e=>hr e.1),← ih]
       unfold zi7;rw [List.dropWhile_cons,if_pos hc]
   · have hl:zi7 (c::l)=c::l:=by unfold zi7;rw [List.dropWhile_cons,if_neg hc]
     rw [hl,if_neg (fun e=>hc e.2),zln,if_neg (fun e=>hc e.2)];unfold zi7;rw [List.dropWhile_cons,if_neg hc]
theorem ya1 (c:UInt8):([32,9]:List UInt8).contains c=isBlank (c.toNat:Int):=by
 unfold isBlank;rw [Bool.eq_iff_iff];simp only [List.contains_cons,List.contains_nil,Bool.or_eq_true,beq_iff_eq,Bool.or_false];rw [← UInt8.toNat_inj,← UInt8.toNat_inj];simp;omega
theorem zi4 (l:List UInt8):bl (l.dropWhile (([32,9]:List UInt8).contains ·))=(bl l).dropWhile isBlank:=by
 induction l with
 | nil=>rfl
 | cons c l ih =>
   rw [List.dropWhile_cons,show bl (c::l)=(c.toNat:Int)::bl l from rfl,List.dropWhile_cons,ya1]
   split
   · exact ih
   · rfl
theorem zl9 (l:List UInt8):bl l.reverse=(bl l).reverse:=by unfold bl;rw [List.map_reverse]
theorem zi2 (l:List UInt8):bl (Lib.trimRightS l [32,9])=zgp (bl l):=by
 unfold Lib.trimRightS zgp;rw [zl9,zi4,zl9]
theorem yep (l:List UInt8):bl (Lib.trimS l [32,9])=zca (bl l):=by
 unfold Lib.trimS Lib.trimLeftS;rw [zi4,zi2];exact zj9 _
def zbj (sep:List Int) (l:List (List Int)):List Int:=sep.intercalate l
theorem zdy (sep:List Int):zbj sep []=[]:=rfl
theorem zc2 (sep x:List Int):zbj sep [x]=x:=by simp [zbj,List.intercalate]
theorem zch (sep x y:List Int) (r:List (List Int)):zbj sep (x::y::r)=x++(sep++zbj sep (y::r)):=by simp [zbj,List.intercalate]
theorem zx7 (sep:List UInt8):∀ xs:List (List UInt8),bl (Lib.join xs sep)=zbj (bl sep) (xs.map bl)
 | []=>rfl
 | [x]=>by rw [Lib.join_one,List.map_cons,List.map_nil,zc2]
 | x::y::r=>by
   have ih:=zx7 sep (y::r);rw [List.map_cons,List.map_cons,zch,← List.map_cons,← ih];unfold Lib.join;simp [List.intercalate,bl]
theorem zi3 {l:List Int} (h:By l):bl (strOfNums l).data.toList=l:=zal h

theorem zwe (l:List Int):(zi7 l).Sublist l:=List.dropWhile_sublist _
theorem zvo (l:List Int):(zgp l).Sublist l:=by
 unfold zgp;have h:=(List.dropWhile_sublist isBlank (l:=l.reverse)).reverse
 rwa [List.reverse_reverse] at h
theorem zcn (l:List Int):(zca l).Sublist l:=(zvo _).trans (zwe l)
theorem zbk (l:List Int) (a b:Nat):(subL l a b).Sublist l:=(List.take_sublist _ _).trans (List.drop_sublist _ _)
theorem By.sub {a l:List Int} (h:By l) (hs:a.Sublist l):By a:=fun x hx=>h x (hs.subset hx)
theorem zv1 (xs:List Int) (a b:Nat):(zcq xs a b).2.Sublist xs:=(zcn _).trans (zbk xs a b)
theorem zpq:∀ (l:List Int) (i:Nat) (acc:List Int),(∀ x∈(uqL l i acc).1,x∈acc∨x∈l)∧(uqL l i acc).1.length≤acc.length+l.length
 | [],i,acc=>by unfold uqL;exact ⟨(fun x hx=>by cases hx),by simp⟩
 | c::l,i,acc=>by
   rw [uqL.eq_def];dsimp only
   split
   · exact ⟨fun x hx => .inl hx,by simp⟩
   · split
     · match l with
       | []=>exact ⟨(fun x hx=>by cases hx),by simp⟩
       | d::r2 =>
         dsimp only
         split
         · have h:=zpq r2 (i+2) (acc++[d])
           refine ⟨fun x hx => ?_,by have:=h.2;simp at this ⊢;omega⟩
           rcases h.1 x hx with h1|h1
           · rcases List.mem_append.1 h1 with h2|h2
             · exact .inl h2
             · rw [List.mem_singleton] at h2;subst h2;exact .inr (by simp)
           · exact .inr (by simp [h1])
         · exact ⟨(fun x hx=>by cases hx),by simp⟩
     · split
       · exact ⟨(fun x hx=>by cases hx),by simp⟩
       · have h:=zpq l (i+1) (acc++[c])
         refine ⟨fun x hx => ?_,by have:=h.2;simp at this ⊢;omega⟩
         rcases h.1 x hx with h1|h1
         · rcases List.mem_append.1 h1 with h2|h2
           · exact .inl h2
           · rw [List.mem_singleton] at h2;subst h2;exact .inr (by simp)
         · exact .inr (by simp [h1])
theorem zu6 (xs:List Int) (z:Int):(∀ x∈(unq xs z).1,x∈xs)∧(unq xs z).1.length≤xs.length:=by
 unfold unq
 split
 · exact ⟨(fun x hx=>by cases hx),by simp⟩
 · split
   · exact ⟨(fun x hx=>by cases hx),by simp⟩
   · have h:=zpq (xs.drop (z.toNat+1)) (z.toNat+1) []
     refine ⟨fun x hx => ?_,by have h2:=h.2;have h3:=(List.drop_sublist (z.toNat+1) xs).length_le;simp only [List.length_nil] at h2;omega⟩
     rcases h.1 x hx with h1|h1
     · cases h1
     · exact (List.drop_sublist _ _).subset h1
theorem zoh (c:Int):lowC (lowC c)=lowC c:=by
 unfold lowC
 by_cases h:65≤c∧c≤90
 · rw [if_pos h,if_neg (by omega)]
 · rw [if_neg h,if_neg h]
theorem zhb (l:List Int):lowS (lowS l)=lowS l:=by unfold lowS;rw [List.map_map];exact List.map_congr_left fun c _=>zoh c
theorem zju (xs:List Int) (sep:Int):∀ (f i b:Nat) (acc:List (Nat × List Int)),i≤xs.length→(∀ p∈acc,p.2.Sublist xs)→(∀ p∈(splN xs sep f i b acc).1,p.2.Sublist xs)∧(splN xs sep f i b acc).1.length≤acc.length+(xs.length - i)+1
 | 0,i,b,acc,_,_=>by unfold splN;exact ⟨(fun p hp=>by cases hp),by simp⟩
 | f+1,i,b,acc,hi,ha=>by
   have push:∀ (a e:Nat),∀ p∈acc++[zcq xs a e],p.2.Sublist xs:=fun a e p hp=>by
    rcases List.mem_append.1 hp with h|h
    · exact ha p h
    · rw [List.mem_singleton] at h;subst h;exact zv1 xs a e
   rw [splN]
   split
   · exact ⟨push _ _,by simp<;>omega⟩
   · rename_i hlt
     split
     · split
       · exact ⟨(fun p hp=>by cases hp),by simp⟩
       · rename_i hu
         have hp:=zgm (xs:=xs) (i:=i) hi
         have h0:(unq xs i).2.2=0:=by omega
         have h1:=hp.2 h0;have h:=zju xs sep f (unq xs i).2.1 b acc hp.1 ha;exact ⟨h.1,by have:=h.2;omega⟩
     · split
       · split
         · exact ⟨(fun p hp=>by cases hp),by simp⟩
         · rename_i hk
           have hge:=zcp (fun c=>c != 62) xs i;have h:=zju xs sep f (zag (fun c=>c != 62) xs i+1) b acc (by omega) ha;exact ⟨h.1,by have:=h.2;omega⟩
       · split
         · exact ⟨(fun p hp=>by cases hp),by simp⟩
         · split
           · have h:=zju xs sep f (i+1) (i+1) (acc++[zcq xs b i]) (by omega) (push _ _)
             exact ⟨h.1,by have:=h.2;rw [List.length_append] at this;simp at this ⊢;omega⟩
           · have h:=zju xs sep f (i+1) b acc (by omega) ha
             exact ⟨h.1,by have:=h.2;omega⟩
theorem zjt (xs:List Int) (sep:Int):(∀ p∈(zde xs sep).1,p.2.Sublist xs)∧(zde xs sep).1.length≤xs.length+1:=by
 unfold zde
 split
 · exact ⟨(fun p hp=>by cases hp),by simp⟩
 · have h:=zju xs sep (xs.length+1) 0 0 [] (Nat.zero_le _) (fun p hp=>by cases hp)
   exact ⟨h.1,by have:=h.2;simpa using this⟩

theorem zax {a b:Bool} (h:a=b):Ending.returned (.bool a) = .returned (.bool b):=by rw [h]
theorem zpb (c:Int) (w:World) (h0:0≤c) (h1:c<256):Calls Tryz.prog 159 #[.int .u8 c] w fun e w'=>e = .returned (.bool (isBlank c))∧w=w':=by
 go_enter Tryz.func159,Tryz.ntmps159
 unfold isBlank
 by_cases hc:c=32
 · subst hc
   go_wp2
   go_ret;exact ⟨rfl,rfl⟩
 · have e1:(c == 32)=false:=by simp [hc]
   go_wp2
   go_ret;exact ⟨zax (by rw [e1];rfl),rfl⟩
theorem zq0 (c:Int) (w:World) (h0:0≤c) (h1:c<256):Calls Tryz.prog 277 #[.int .u8 c] w fun e w'=>e = .returned (.bool (zdc c))∧w=w':=by
 go_enter Tryz.func277,Tryz.ntmps277
 unfold zdc
 by_cases h2:c<32
 · have d2:decide (c<32)=true:=by simp [h2]
   by_cases hc:c=9
   · subst hc
     go_wp2
     go_ret;exact ⟨rfl,rfl⟩
   · have e1:(c == 9)=false:=by simp [hc]
     go_wp2
     go_ret;exact ⟨zax (by rw [d2,e1];rfl),rfl⟩
 · have d2:decide (c<32)=false:=by simp [h2]
   go_wp2
   go_ret;exact ⟨zax (by first|rfl|(rw [d2];rfl)),rfl⟩
theorem zks (c:Int) (w:World) (h0:0≤c) (h1:c<256):Calls Tryz.prog 276 #[.int .u8 c] w fun e w'=>e = .returned (.bool (decide (32≤c∧c≤126)))∧w=w':=by
 go_enter Tryz.func276,Tryz.ntmps276
 by_cases h2:32≤c
 · have d2:decide (32≤c)=true:=by simp [h2]
   go_wp2
   go_ret;exact ⟨zax (by simp [h2]),rfl⟩
 · have d2:decide (32≤c)=false:=by simp [h2]
   go_wp2
   go_ret;exact ⟨zax (by simp [h2]),rfl⟩
theorem tok_t {c:Int} (h:(97≤c∧c≤122)∨(65≤c∧c≤90)∨(48≤c∧c≤57)∨c=45∨c=46∨c=33∨c=37∨c=42∨c=95∨c=43∨c=39∨c=126∨c=96):zbp c=true:=by
 unfold zbp;simp only [Bool.or_eq_true,Bool.and_eq_true,decide_eq_true_eq,beq_iff_eq];exact h
theorem tok_f {c:Int} (h:¬ ((97≤c∧c≤122)∨(65≤c∧c≤90)∨(48≤c∧c≤57)∨c=45∨c=46∨c=33∨c=37∨c=42∨c=95∨c=43∨c=39∨c=126∨c=96)):zbp c=false:=by
 cases e:zbp c with
 | false=>rfl
 | true =>
   unfold zbp at e;simp only [Bool.or_eq_true,Bool.and_eq_true,decide_eq_true_eq,beq_iff_eq] at e;exact absurd e h
theorem zva (c:Int) (w:World) (h0:0≤c) (h1:c<256):Calls Tryz.prog 158 #[.int .u8 c] w fun e w'=>e = .returned (.bool (zbp c))∧w=w':=by
 by_cases hT:(97≤c∧c≤122)∨(65≤c∧c≤90)∨(48≤c∧c≤57)∨c=45∨c=46∨c=33∨c=37∨c=42∨c=95∨c=43∨c=39∨c=126∨c=96
 · rw [tok_t hT]
   go_enter Tryz.func158,Tryz.ntmps158
   rcases hT with ⟨a,b⟩|⟨a,b⟩|⟨a,b⟩|rfl|rfl|rfl|rfl|rfl|rfl|rfl|rfl|rfl|rfl
   · have d1:decide (97≤c)=true:=by simp [a]
     have d2:decide (c≤122)=true:=by simp [b]
     go_wp2
     go_ret;exact ⟨rfl,rfl⟩
   · have d1:decide (97≤c)=false:=by simp;omega
     have d2:decide (65≤c)=true:=by simp [a]
     have d3:decide (c≤90)=true:=by simp [b]
     go_wp2
     go_ret;exact ⟨rfl,rfl⟩
   · have d1:decide (97≤c)=false:=by simp;omega
     have d2:decide (65≤c)=false:=by simp;omega
     have d3:decide (48≤c)=true:=by simp [a]
     have d4:decide (c≤57)=true:=by simp [b]
     go_wp2
     go_ret;exact ⟨rfl,rfl⟩
   all_goals
    go_wp2
    go_ret;exact ⟨rfl,rfl⟩
 · rw [tok_f hT]
   go_enter Tryz.func158,Tryz.ntmps158
   have n1:(c == 45)=false:=by simp;omega
   have n2:(c == 46)=false:=by simp;omega
   have n3:(c == 33)=false:=by simp;omega
   have n4:(c == 37)=false:=by simp;omega
   have n5:(c == 42)=false:=by simp;omega
   have n6:(c == 95)=false:=by simp;omega
   have n7:(c == 43)=false:=by simp;omega
   have n8:(c == 39)=false:=by simp;omega
   have n9:(c == 126)=false:=by simp;omega
   have n0:(c == 96)=false:=by simp;omega
   by_cases a:97≤c
   · have d1:decide (97≤c)=true:=by simp [a]
     have d2:decide (c≤122)=false:=by simp;omega
     have d3:decide (65≤c)=true:=by simp;omega
     have d4:decide (c≤90)=false:=by simp;omega
     have d5:decide (48≤c)=true:=by simp;omega
     have d6:decide (c≤57)=false:=by simp;omega
     go_wp2
     go_ret;exact ⟨rfl,rfl⟩
   · have d1:decide (97≤c)=false:=by simp [a]
     by_cases b:65≤c
     · have d3:decide (65≤c)=true:=by simp [b]
       have d4:decide (c≤90)=false:=by simp;omega
       have d5:decide (48≤c)=true:=by simp;omega
       have d6:decide (c≤57)=false:=by simp;omega
       go_wp2
       go_ret;exact ⟨rfl,rfl⟩
     · have d3:decide (65≤c)=false:=by simp [b]
       by_cases b:48≤c
       · have d5:decide (48≤c)=true:=by simp [b]
         have d6:decide (c≤57)=false:=by simp;omega
         go_wp2
         go_ret;exact ⟨rfl,rfl⟩
       · have d5:decide (48≤c)=false:=by simp [b]
         go_wp2
         go_ret;exact ⟨rfl,rfl⟩

theorem zbe (s:ByteArray) {i:Nat} (hi:i<s.size) {z:Int} (hz:z=i) (w:World):(Instr.index 9 (.string s) (.int .i64 z)).run Tryz.prog w = .ok (.int .u8 ((zaa s).getD i 0)) w:=by
 subst hz;rw [run_index_string w 9 s .i64 i Tryz.underlying9,dif_pos ⟨by omega,by omega⟩,← znc s hi]
 rfl
theorem zam (w:World) (q:Nat):Below w.heap.size w (w.drewN q):=⟨rfl,rfl,rfl,Nat.le_refl _,fun _ _=>rfl⟩
def SKR (w:World) (lo hi:Nat) (p:Int→Bool) (xs:List Int) (v:Value) (wr:World):Prop := ∃ k:Nat,lo≤k∧k≤hi∧zag p xs lo=zag p xs k∧v = .int .i64 k∧∃ q,w.drewN q=wr
theorem zs2 (s:ByteArray) (z:Int) (w:World) (hz : -9223372036854775808≤z∧z<9223372036854775808) (hs:s.size<9223372036854775807) :
  Calls Tryz.prog 157 #[.string s,.int .i64 z,.func (.func 159) #[] #[]] w fun e w'=>e = .returned (.int .i64 (zag isBlank (zaa s) (clip z s.size)))∧Below w.heap.size w w':=by
 have CL:=Lib.hid (show clip z s.size=min z.toNat s.size from rfl);generalize clip z s.size=lo at *;have HB:=Lib.hid (zas s);have HL:=Lib.hid (zac s);generalize hX:zaa s=X at *;have HX:=Lib.hid hX;clear hX
 go_enter Tryz.func157,Tryz.ntmps157
 go_wp2_with fail
 all_goals go_loopw [1] (fun v wr=>SKR w lo s.size isBlank X v wr) (fun v _=>s.size - (intOf v).toNat)
 all_goals try (
  have:=CL.out
  exact ⟨lo,Nat.le_refl _,by omega,rfl,by congr 1;omega,0,rfl⟩)
 all_goals
  obtain ⟨k,hlo,hk,hsk,rfl,q,rfl⟩:=hrel;have SK:=Lib.hid hsk;clear hsk
  by_cases hlt:k<s.size
  · have hd:decide ((k:Int)<(s.size:Int))=true:=by simp;omega
    have d1:=fun w=>zbe s (i:=k) hlt (z:=(k:Int)) rfl w;have hx2:=HB.out _ (zbg (l:=X) (i:=k) (by rw [HL.out];exact hlt));rw [HX.out] at d1;have SY:=Lib.hid (fun h=>zrj (p:=isBlank) (xs:=X) (i:=k) (by rw [HL.out];exact hlt) h)
    have SN:=Lib.hid (fun h=>zvk (p:=isBlank) (xs:=X) (i:=k) (by rw [HL.out];exact hlt) h);generalize X.getD k 0=x at *;go_wp2_with fail;refine (zpb x _ hx2.1 hx2.2).mono ?_;rintro e w' ⟨rfl,rfl⟩
    cases hp:isBlank x with
    | true =>
      go_wp2_with fail;go_roundw
      case rel=>exact ⟨k+1,by omega,by omega,by rw [SK.out];exact SY.out hp,by go_num,_,rfl⟩
      case measure=>simp [intOf];omega
    | false =>
      go_wp2_with fail;go_ret;exact ⟨by rw [SK.out,SN.out hp];rfl,zam _ _⟩
  · obtain rfl:k=s.size:=by omega
    go_wp2_with fail;go_ret;exact ⟨by rw [SK.out,zrk (by rw [HL.out];omega)];rfl,zam _ _⟩
theorem zs1 (s:ByteArray) (z:Int) (w:World) (hz : -9223372036854775808≤z∧z<9223372036854775808) (hs:s.size<9223372036854775807) :
  Calls Tryz.prog 157 #[.string s,.int .i64 z,.func (.func 158) #[] #[]] w fun e w'=>e = .returned (.int .i64 (zag zbp (zaa s) (clip z s.size)))∧Below w.heap.size w w':=by
 have CL:=Lib.hid (show clip z s.size=min z.toNat s.size from rfl);generalize clip z s.size=lo at *;have HB:=Lib.hid (zas s);have HL:=Lib.hid (zac s);generalize hX:zaa s=X at *;have HX:=Lib.hid hX;clear hX
 go_enter Tryz.func157,Tryz.ntmps157
 go_wp2_with fail
 all_goals go_loopw [1] (fun v wr=>SKR w lo s.size zbp X v wr) (fun v _=>s.size - (intOf v).toNat)
 all_goals try (
  have:=CL.out
  exact ⟨lo,Nat.le_refl _,by omega,rfl,by congr 1;omega,0,rfl⟩)
 all_goals
  obtain ⟨k,hlo,hk,hsk,rfl,q,rfl⟩:=hrel;have SK:=Lib.hid hsk;clear hsk
  by_cases hlt:k<s.size
  · have hd:decide ((k:Int)<(s.size:Int))=true:=by simp;omega
    have d1:=fun w=>zbe s (i:=k) hlt (z:=(k:Int)) rfl w;have hx2:=HB.out _ (zbg (l:=X) (i:=k) (by rw [HL.out];exact hlt));rw [HX.out] at d1;have SY:=Lib.hid (fun h=>zrj (p:=zbp) (xs:=X) (i:=k) (by rw [HL.out];exact hlt) h)
    have SN:=Lib.hid (fun h=>zvk (p:=zbp) (xs:=X) (i:=k) (by rw [HL.out];exact hlt) h);generalize X.getD k 0=x at *;go_wp2_with fail;refine (zva x _ hx2.1 hx2.2).mono ?_;rintro e w' ⟨rfl,rfl⟩
    cases hp:zbp x with
    | true =>
      go_wp2_with fail;go_roundw
      case rel=>exact ⟨k+1,by omega,by omega,by rw [SK.out];exact SY.out hp,by go_num,_,rfl⟩
      case measure=>simp [intOf];omega
    | false =>
      go_wp2_with fail;go_ret;exact ⟨by rw [SK.out,SN.out hp];rfl,zam _ _⟩
  · obtain rfl:k=s.size:=by omega
    go_wp2_with fail;go_ret;exact ⟨by rw [SK.out,zrk (by rw [HL.out];omega)];rfl,zam _ _⟩
theorem zin (s:ByteArray) (z:Int) (w:World) (hz : -9223372036854775808≤z∧z<9223372036854775808) (hs:s.size<9223372036854775807) :
  Calls Tryz.prog 113 #[.string s,.int .i64 z] w fun e w'=>e = .returned (.int .i64 (zag isBlank (zaa s) (clip z s.size)))∧Below w.heap.size w w':=by
 have HZ:=Lib.hid hz;clear hz
 go_enter Tryz.func113,Tryz.ntmps113
 go_wp2_with fail;refine (zs2 s z w HZ.out hs).mono ?_;rintro e w' ⟨rfl,hb⟩;have HB:=Lib.hid hb;clear hb;go_wp2_with fail;go_ret;exact ⟨rfl,HB.out⟩
theorem zhw (s:ByteArray) (z:Int) (w:World) (hz : -9223372036854775808≤z∧z<9223372036854775808) (hs:s.size<9223372036854775807) :
  Calls Tryz.prog 110 #[.string s,.int .i64 z] w fun e w'=>e = .returned (.int .i64 (zag zbp (zaa s) (clip z s.size)))∧Below w.heap.size w w':=by
 have HZ:=Lib.hid hz;clear hz
 go_enter Tryz.func110,Tryz.ntmps110
 go_wp2_with fail;refine (zs1 s z w HZ.out hs).mono ?_;rintro e w' ⟨rfl,hb⟩;have HB:=Lib.hid hb;clear hb;go_wp2_with fail;go_ret;exact ⟨rfl,HB.out⟩
theorem zx6 {s:ByteArray}:zaa s=[] ↔ s=⟨#[]⟩:=by
 constructor
 · intro h
   have:=zbh s;rw [h] at this;exact this.symm
 · rintro rfl;rfl
theorem toList_inj {s t:ByteArray}:s.toList=t.toList ↔ s=t:=by
 rw [ByteArray.toList_eq,ByteArray.toList_eq];exact ⟨fun h=>ByteArray.ext (Array.toList_inj.1 h),fun h=>by rw [h]⟩
theorem zhx {s:ByteArray}:s.toList=[] ↔ s=⟨#[]⟩:=by
 rw [ByteArray.toList_eq];exact ⟨fun h=>ByteArray.ext (Array.toList_inj.1 h),fun h=>by rw [h]⟩
theorem zfz (s:ByteArray) (w:World) (hs:s.size<9223372036854775807) :
  Calls Tryz.prog 75 #[.string s] w fun e w'=>e = .returned (.bool (zc5 (zaa s)))∧Below w.heap.size w w':=by
 go_enter Tryz.func75,Tryz.ntmps75
 by_cases h:s=⟨#[]⟩
 · subst h
   go_wp2
   go_ret;exact ⟨rfl,Below.refl _ _⟩
 · have hn:¬ s.toList=[]:=fun e=>h (zhx.1 e)
   have HN:=Lib.hid (fun e=>h (zx6.1 e));clear h;go_wp2_with fail;refine (zhw s 0 w (by omega) hs).mono ?_;rintro e w' ⟨rfl,hb⟩;have HB:=Lib.hid hb;clear hb;have HL:=Lib.hid (zac s);go_wp2_with fail;go_ret;refine ⟨?_,HB.out⟩;have hN:=HN.out;have hL:=HL.out;clear HN HL HB;refine zax ?_
   rw [show clip 0 s.size=0 from by simp [clip]];unfold zc5
   rw [hL,show (zaa s).isEmpty=false from by cases hx:zaa s with
    | nil=>exact (hN hx).elim
    | cons _ _=>rfl]
   simp only [Bool.not_false,Bool.true_and];rw [Bool.eq_iff_iff];simp [hn]
   try omega
end Go.Proofs.YtfnmkedncfdceaaGreatDoor
