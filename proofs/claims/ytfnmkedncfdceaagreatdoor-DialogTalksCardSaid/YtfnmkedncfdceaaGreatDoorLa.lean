/- The contract of hash's Unhex. And what stands behind it. -/
import Derived.Test.YtfnmkedncfdceaaGreatDoorHa
import Derived.Laws.IdiomStrings
import Derived.Shelf.Strings.Builder1
import Derived.Shelf.Strings.Builder2
import Derived.Shelf.Strings.OnBuilder
import Derived.Shelf.Strings.Trim
import Derived.Shelf.Small.Utf8
import Derived.Shelf.Small.Strs
import Derived.Shelf.Small.Wraps
import Derived.Shelf.Strings.BuilderF
import Derived.Shelf.Strings.BuilderK
import Derived.Shelf.Utf8.RuneCount
import Derived.Shelf.Strings.Builder2Cap
import Derived.Shelf.Strconv.Itoa0
import Derived.Shelf.Strconv.Itoa1
import Derived.Shelf.LaysM
import Derived.Shelf.Strconv.Itoa2
import Derived.Shelf.Strconv.Itoa3
import Derived.Shelf.Strings.Search1
import Derived.Shelf.Strings.Search2
import Derived.Shelf.Strings.Search3
import Derived.Shelf.Strings.Cut
import Derived.Shelf.Strings.Count
import Derived.Shelf.Strings.Shaped
import Derived.Shelf.Strings.LastIndex
import Derived.Shelf.Strings.Prefix
import Derived.Shelf.Strings.Split
import Derived.Shelf.Strings.SplitShaped
import Derived.Shelf.Unicode.Decode
import Derived.Shelf.Strings.Runes
import Derived.Shelf.Strings.RuneCount
import Derived.Shelf.Strings.IndexAny
import Derived.Shelf.Strings.AsciiSet
import Derived.Shelf.Strings.IndexAnyAll
import Derived.Shelf.Strings.Explode
import Derived.Shelf.Unicode.DecodeSlow
import Derived.Shelf.Unicode.DecodeAny
import Derived.Shelf.Unicode.DecodeLast
import Derived.Shelf.Strings.BuilderCap
import Derived.Shelf.Slices.Equal
import Derived.Ground.Names2Prog
import Derived.Shelf.Slices.ReverseS
import Derived.Shelf.Slices.Empties2
import Derived.Ground.PaProg
import Derived.Shelf.Path.Small
import Derived.Test.YtfnmkedncfdceaaGreatDoorProg
set_option linter.unusedVariables false
set_option linter.unusedSimpArgs false
namespace Go.Proofs.YtfnmkedncfdceaaGreatDoor
open Go.RowKit

def unB (xs:List Int) (k:Nat):Int:=digV (xs.getD (2*k) 0)*16+digV (xs.getD (2*k+1) 0)
def unL (xs:List Int) (n:Nat):List Int:=(List.range n).map (unB xs)
theorem or16 (a b:Int) (h0:0≤a) (h1:a<16) (h2:0≤b) (h3:b<16):bits .or .u8 (a*16) b=a*16+b:=by
 obtain ⟨k,rfl⟩:=Int.eq_ofNat_of_zero_le h0;obtain ⟨l,rfl⟩:=Int.eq_ofNat_of_zero_le h2
 have h:∀ (k l:Fin 16),bits .or .u8 ((k.val:Int)*16) (l.val:Int)=(k.val:Int)*16+l.val:=by decide +kernel
 exact h ⟨k,by omega⟩ ⟨l,by omega⟩
structure UX (w:World) (xs:List Int) (m k:Nat) (wr:World):Prop where
 r:Row wr w.heap.size 5 (U8 (unL xs k++List.replicate (m - k) 0))
 bw:Below w.heap.size w wr
 ok:∀ j,j<2*k→digOk (xs.getD j 0)=true

def URI:List Int:=[117,114,105]
def NC:List Int:=[110,99]

def upC (c:Int):Int:=if 97≤c∧c≤122 then c - 32 else c
def capC (b:Bool) (c:Int):Int:=if b=true then upC c else lowC c
def zim (s:List Int × Bool) (c:Int):List Int × Bool:=(s.1++[capC s.2 c],capC s.2 c == 45)
def capF (xs:List Int):List Int × Bool:=xs.foldl zim ([],true)
def capL (xs:List Int):List Int:=(capF xs).1
theorem zo7 (xs:List Int) (c:Int):capF (xs++[c])=zim (capF xs) c:=by unfold capF;rw [List.foldl_append];rfl
theorem zsh:∀ (xs:List Int) (s:List Int × Bool),(xs.foldl zim s).1.length=s.1.length+xs.length
 | [],s=>by simp
 | c::xs,s=>by rw [List.foldl_cons,zsh xs,List.length_cons];simp [zim];omega
theorem zgc (xs:List Int):(capL xs).length=xs.length:=by unfold capL capF;rw [zsh];simp
theorem ybc {c:Int} (h:0≤c∧c<256):0≤upC c∧upC c<256:=by unfold upC;split<;>omega
theorem zx3 {c:Int} (b:Bool) (h:0≤c∧c<256):0≤capC b c∧capC b c<256:=by
 unfold capC;split
 · exact ybc h
 · exact zqb h
theorem zx2:∀ (xs:List Int) (s:List Int × Bool),By xs→By s.1→By (xs.foldl zim s).1
 | [],s,_,h=>h
 | c::xs,s,h,hs=>by
   rw [List.foldl_cons];refine zx2 xs _ (fun x hx=>h x (by simp [hx])) (fun x hx => ?_)
   rcases List.mem_append.1 hx with h1|h1
   · exact hs x h1
   · rw [List.mem_singleton] at h1;subst h1;exact zx3 _ (h c (by simp))
theorem yen {xs:List Int} (h:By xs):By (capL xs):=zx2 xs _ h (fun x hx=>by cases hx)
def SPECIALS:List (List Int):=[[67,97,108,108,45,73,68],[67,83,101,113],[77,73,77,69,45,86,101,114,115,105,111,110],[77,105,110,45,83,69],[82,65,99,107],[82,83,101,113],[87,87,87,45,65,117,116,104,101,110,116,105,99,97,116,101]]
def zyh:List (Int × List Int):=[(98,[82,101,102,101,114,114,101,100,45,66,121]),(99,[67,111,110,116,101,110,116,45,84,121,112,101]),(101,[67,111,110,116,101,110,116,45,69,110,99,111,100,105,110,103]),(102,[70,114,111,109]),(105,[67,97,108,108,45,73,68]),(107,[83,117,112,112,111,114,116,101,100]),(108,[67,111,110,116,101,110,116,45,76,101,110,103,116,104]),(109,[67,111,110,116,97,99,116]),(111,[69,118,101,110,116]),(114,[82,101,102,101,114,45,84,111]),(115,[83,117,98,106,101,99,116]),(116,[84,111]),(117,[65,108,108,111,119,45,69,118,101,110,116,115]),(118,[86,105,97]),(120,[83,101,115,115,105,111,110,45,69,120,112,105,114,101,115])]
def zfy (c:Int):List Int:=((zyh.find? (fun q=>q.1 == c)).map (·.2)).getD []
def zf2 (xs:List Int):List Int:=if xs.length=1∧zfy (lowC (xs.getD 0 0))≠[] then zfy (lowC (xs.getD 0 0)) else (SPECIALS.find? (fun s=>lowS s == lowS xs)).getD (capL xs)
def zbr (xs:List Int):Option (List Int):=if zc5 xs=true∧xs.length≤64 then some (zf2 xs) else none
def zi1:Option (List Int)→Value
 | none => .tuple #[.string ⟨#[]⟩,.int .u8 5]
 | some x => .tuple #[.string (strOfNums x),.int .u8 0]
theorem zk4:∀ s∈SPECIALS,By s:=by unfold By;decide
theorem ya8:∀ s∈zyh,By s.2:=by unfold By;decide
theorem zru (c:Int):By (zfy c):=by
 unfold zfy
 cases h:zyh.find? (fun q=>q.1 == c) with
 | none=>exact fun x hx=>by cases hx
 | some q=>exact ya8 q (List.mem_of_find?_eq_some h)
theorem zx5 {xs:List Int} (h:By xs):By (zf2 xs):=by
 unfold zf2
 split
 · exact zru _
 · cases hs:SPECIALS.find? (fun s=>lowS s == lowS xs) with
   | none=>exact yen h
   | some q=>exact zk4 q (List.mem_of_find?_eq_some hs)

def zbc (c:Int):Bool:=decide (48≤c) && decide (c≤57)
def valL (l:List Int):Int:=l.foldl (fun n c=>10*n+(c - 48)) 0
def zcd (xs:List Int):Int × Int:=if xs.length<1∨10<xs.length∨xs.all zbc=false then (0,5) else if 2147483647<valL xs then (0,3) else (valL xs,0)
theorem zno (l:List Int) (c:Int):valL (l++[c])=10*valL l+(c - 48):=by simp [valL]
theorem znp:∀ (l:List Int) (a:Int),0≤a→l.all zbc=true→0≤l.foldl (fun n c=>10*n+(c - 48)) a∧l.foldl (fun n c=>10*n+(c - 48)) a<(a+1)*10 ^ l.length
 | [],a,h,_=>by simp;omega
 | c::l,a,h,hd=>by
   rw [List.all_cons,Bool.and_eq_true] at hd;have h3:=hd.1;unfold zbc at h3;simp at h3;obtain ⟨h1,h2⟩:=znp l (10*a+(c - 48)) (by omega) hd.2;rw [List.foldl_cons,List.length_cons,Int.pow_succ];refine ⟨h1,Int.lt_of_lt_of_le h2 ?_⟩
   have h4:(10*a+(c - 48)+1)*10 ^ l.length≤(10*(a+1))*10 ^ l.length:=Int.mul_le_mul_of_nonneg_right (by omega) (Int.pow_nonneg (by decide))
   rw [show (a+1)*(10 ^ l.length*10)=(10*(a+1))*10 ^ l.length by rw [Int.mul_comm 10 (a+1),Int.mul_assoc,Int.mul_comm (10 ^ l.length) 10]];exact h4
theorem zli (l:List Int) (h:l.all zbc=true):0≤valL l∧valL l<10 ^ l.length:=by
 have:=znp l 0 (by decide) h;rw [Int.zero_add,Int.one_mul] at this;exact this
theorem zdk {p:Int→Bool} {l:List Int} {k:Nat} (h:k<l.length):(l.take (k+1)).all p=((l.take k).all p && p (l.getD k 0)):=by rw [zcu l h,List.all_append];simp
theorem zsj {p:Int→Bool} {l:List Int} {k:Nat} (h:k<l.length) (hp:p (l.getD k 0)=false):l.all p=false:=by
 rw [← List.take_append_drop (k+1) l,List.all_append,zdk h,hp];simp
def eqN (a b:Option (List Int)):Bool:=match a,b with
 | some x,some y=>x == y
 | _,_=>false
structure Pm where
 n:List Int
 v:List Int
 h:Bool
def zdn (l:List Pm) (n:List Int):Bool:=l.any fun p=>p.n == n
def zbz (l:List Pm) (n:List Int):Int:=if zdn l n=true then 7 else if 16≤l.length then 4 else 0
def zd4 (l:List Pm) (n:List Int):Option (List Int):=(l.find? fun p=>lowS p.n == lowS n).map (·.v)

theorem yau {xs:List Int} {k:Nat} (hk:k<xs.length) (h:zdc (xs.getD k 0)=true):zc7 xs=false:=by
 cases hc:zc7 xs with
 | false=>rfl
 | true =>
   have:=List.all_eq_true.1 hc _ (zbg hk);rw [h] at this
   cases this
theorem zxz {xs:List Int} (h:∀ j,j<xs.length→zdc (xs.getD j 0)=false):zc7 xs=true:=by
 refine List.all_eq_true.2 fun x hx => ?_;obtain ⟨j,hj,rfl⟩:=List.getElem_of_mem hx;have:=h j hj;rw [List.getD_eq_getElem?_getD,List.getElem?_eq_getElem hj] at this
 simpa using this
theorem OX.made (w:World) (c:Nat) (hc:c≤16777216):OX w (.slice (some ⟨w.heap.size,0,none⟩) 0 c) [] (w.alloc (.cells (U8 (List.replicate c 0)).toArray 5)):=
 ⟨⟨rfl,.inr ⟨_,c,_,rfl,Nat.le_refl _,heap_alloc_new w _,Nat.zero_le _,by unfold maxLen;omega,by simp [U8],by simp [U8]⟩⟩,zBr.alloc zNr _⟩
theorem zit {ops:Array Oper} {rest:List Oper} {op:Oper} {a:Act} {w:World} {Q:Exit→Act→World→Prop} (hgd:op.guard=none) (x y:Operand) (c:Nat) (ho:op.op = .makeSlice 29 x y) (h1:a.eval x = .int .i64 ((0:Nat):Int)) (h2:a.eval y = .int .i64 (c:Nat)) (hc:c≤16777216)
  (h:∀ v' w',OX w v' [] w'→wpList Tryz.prog ops Q rest (a.put op.dst v') w'):wpList Tryz.prog ops Q (op::rest) a w:=
 zet hgd _ _ (zxf (l:=0) (c:=c) ho h1 h2 zNz hc) (h _ _ (OX.made w c hc))

structure BR (w:World) (b:Nat) (xs:List Int):Prop where
 lt:b<w.heap.size
 c:∀ j x,xs[j]? = some x→w.cell? ⟨b,j,none⟩=some (.int .u8 x)
 f:∀ j,j<xs.length→w.frozen? ⟨b,j,none⟩=false
theorem BR.set {w:World} {b:Nat} {xs:List Int} (h:BR w b xs) {i:Nat} (hi:i<xs.length) (y:Int):BR (w.setCell ⟨b,i,none⟩ (.int .u8 y)) b (xs.set i y):=by
 have h0:=h.c i _ (getD_some hi);refine ⟨by simpa [World.setCell] using h.lt,fun j x hx => ?_,fun j hj => ?_⟩
 · by_cases e:i=j
   · subst e
     rw [List.getElem?_set_self hi] at hx
     cases hx
     exact World.cell?_setCell_same _ _ _ h0
   · rw [List.getElem?_set_ne e] at hx
     rw [World.cell?_setCell_other _ _ _ _ (by intro h1;injection h1;contradiction)];exact h.c j x hx
 · rw [World.frozen?_setCell]
   exact h.f j (by simpa using hj)
theorem BR.conv {w:World} {b:Nat} {xs:List Int} (h:BR w b xs) (n cap:Nat) (hn:xs.length=n):(convert 29 9 (.slice (some ⟨b,0,none⟩) n cap)).run Tryz.prog w = .ok (.string (strOfNums xs)) w:=
 run_convert_bytes_arg (P:=Tryz.prog) w 29 5 Tryz.underlying29 Tryz.underlying5 b 0 n cap xs hn (fun j hj=>by
  rw [Nat.zero_add]
  exact h.c j _ (getD_some (by omega))) 9 Tryz.underlying9
theorem zec {ops:Array Oper} {rest:List Oper} {op:Oper} {a:Act} {w:World} {Q:Exit→Act→World→Prop} (hgd:op.guard=none) (x:Operand) (ho:op.op = .convert 9 29 x) (s:ByteArray) (hx:a.eval x = .string s)
  (h:∀ cap w',s.size≤cap→Hid (BR w' w.heap.size (zaa s))→Hid (Below w.heap.size w w')→wpList Tryz.prog ops Q rest (a.put op.dst (.slice (some ⟨w.heap.size,0,none⟩) s.size cap)) w'):wpList Tryz.prog ops Q (op::rest) a w:=by
 have hr:=run_bytes_of_string (P:=Tryz.prog) w 9 29 5 s Tryz.underlying9 Tryz.underlying29 Tryz.underlying5;have hge:=grownCap_ge w s.size 0 5;generalize grownCap w s.size 0 5=cap at *
 refine zet hgd _ (w.drew.alloc (Obj.cells (bytesRow s cap) 5 ((bytesRow s cap).size,(bytesRow s cap).size+1))) ?_ (h cap _ hge (kd ⟨by simp [World.size_alloc],fun j u hu => ?_,fun j hj => ?_⟩) (kd ?_))
 · unfold execOp
   simp only [ho,hx,Sem.run_bind,hr,Result.andThen_ok,Sem.run_pure]
 · refine (World.cell?_alloc_mark w.drew _ 5 _ j).trans ?_
   have hj:j<(zaa s).length:=(List.getElem?_eq_some_iff.1 hu).1;rw [zac] at hj;unfold bytesRow;rw [Array.getElem?_append_left (by simpa using hj)];unfold zaa at hu;simp at hu ⊢;obtain ⟨c,hc,rfl⟩:=hu;exact ⟨c,hc,rfl⟩
 · refine (World.frozen?_alloc_mark w.drew _ 5 _ _ j).trans ?_
   rw [zac] at hj
   have hz:(bytesRow s cap).size=cap:=by
    unfold bytesRow;rw [Array.size_append,Array.size_map,Array.size_replicate];show s.size+(cap - s.size)=cap;omega
   rw [hz,decide_eq_false (by omega)]
   rfl
 · exact ((Below.refl w.heap.size w).drew).alloc zNr _
def lowK (xs:List Int) (k:Nat):List Int:=lowS (xs.take k)++xs.drop k
theorem zjg (xs:List Int) (k:Nat):(lowK xs k).length=xs.length:=by
 unfold lowK;rw [List.length_append,zbo,List.length_take,List.length_drop];omega
theorem zrt {xs:List Int} {k:Nat} (h:xs.length≤k):lowK xs k=lowS xs:=by
 unfold lowK;rw [List.take_of_length_le h,List.drop_of_length_le h,List.append_nil]
theorem zqa {xs:List Int} {k:Nat} (h:k<xs.length):(lowK xs k)[k]? = some (xs.getD k 0):=by
 unfold lowK;rw [List.getElem?_append_right (by rw [zbo,List.length_take];omega),zbo,List.length_take,show k - min k xs.length=0 by omega,za7 xs h]
 rfl
theorem zmw {xs:List Int} {k:Nat} (h:k<xs.length):(lowK xs k).set k (lowC (xs.getD k 0))=lowK xs (k+1):=by
 unfold lowK;rw [List.set_append_right _ _ (by rw [zbo,List.length_take];omega),zbo,List.length_take,show k - min k xs.length=0 by omega,za7 xs h,List.set_cons_zero,zcu xs h];unfold lowS;simp
theorem zwg {xs:List Int} {k:Nat} (h:k<xs.length) (hc:lowC (xs.getD k 0)=xs.getD k 0):lowK xs k=lowK xs (k+1):=by
 rw [← zmw h,hc];have h1:=zqa h;obtain ⟨h2,h3⟩:=List.getElem?_eq_some_iff.1 h1;rw [← h3];exact (List.set_getElem_self h2).symm
def LWR (w w0:World) (xs:List Int) (v:Value) (wr:World):Prop := ∃ k:Nat,k≤xs.length∧v = .int .i64 k∧Hid (BR wr w.heap.size (lowK xs k)∧Below w.heap.size w wr)
end Go.Proofs.YtfnmkedncfdceaaGreatDoor
namespace Go.Proofs
open Go.Shelf
def Tryz.lays156_ren:Go.Shelf.Ren:=⟨fun|156=>224|165=>283|166=>203|169=>206|240=>262|241=>302|276=>299|277=>310|n=>n,fun|31=>23|9=>9|3=>3|4=>4|0=>0|20=>20|72=>220|76=>223|70=>218|37=>29|75=>222|127=>265|164=>284|5=>5|80=>48|n=>n,fun|n=>n⟩
theorem Tryz.lays156:Go.Proofs.Lays.n156 Tryz.prog Tryz.lays156_ren:={
 mixed:=by kernel_rfl
 f156:=Tryz.func224.trans (congrArg some (by kernel_rfl))
 f165:=Tryz.func283.trans (congrArg some (by kernel_rfl))
 f166:=Tryz.func203.trans (congrArg some (by kernel_rfl))
 f169:=Tryz.func206.trans (congrArg some (by kernel_rfl))
 f240:=Tryz.func262.trans (congrArg some (by kernel_rfl))
 f241:=Tryz.func302.trans (congrArg some (by kernel_rfl))
 f276:=Tryz.func299.trans (congrArg some (by kernel_rfl))
 f277:=Tryz.func310.trans (congrArg some (by kernel_rfl))
 t0:=Tryz.underlying0
 a0:=Tryz.isAgg0
 z0:=Tryz.sizeOf0
 v0:=Tryz.zeroValue0
 t3:=Tryz.underlying3
 a3:=Tryz.isAgg3
 z3:=Tryz.sizeOf3
 v3:=Tryz.zeroValue3
 t4:=Tryz.underlying4
 a4:=Tryz.isAgg4
 z4:=Tryz.sizeOf4
 v4:=Tryz.zeroValue4
 t9:=Tryz.underlying9
 a9:=Tryz.isAgg9
 z9:=Tryz.sizeOf9
 v9:=Tryz.zeroValue9
 t20:=Tryz.underlying20
 a20:=Tryz.isAgg20
 z20:=Tryz.sizeOf20
 v20:=Tryz.zeroValue20
 t31:=Tryz.underlying23
 a31:=Tryz.isAgg23
 z31:=Tryz.sizeOf23
 v31:=Tryz.zeroValue23
 t37:=Tryz.underlying29
 a37:=Tryz.isAgg29
 z37:=Tryz.sizeOf29
 v37:=Tryz.zeroValue29
 t70:=Tryz.underlying218
 a70:=Tryz.isAgg218
 z70:=Tryz.sizeOf218
 v70:=Tryz.zeroValue218
 t72:=Tryz.underlying220
 a72:=Tryz.isAgg220
 z72:=Tryz.sizeOf220
 v72:=Tryz.zeroValue220
 t75:=Tryz.underlying222
 a75:=Tryz.isAgg222
 z75:=Tryz.sizeOf222
 v75:=Tryz.zeroValue222
 t76:=Tryz.underlying223
 a76:=Tryz.isAgg223
 z76:=Tryz.sizeOf223
 v76:=Tryz.zeroValue223
 t127:=Tryz.underlying265
 a127:=Tryz.isAgg265
 z127:=Tryz.sizeOf265
 v127:=Tryz.zeroValue265
 t164:=Tryz.underlying284
 a164:=Tryz.isAgg284
 z164:=Tryz.sizeOf284
 v164:=Tryz.zeroValue284 }
theorem Tryz.Builder_Extra_156:Builder.Extra Tryz.prog Tryz.lays156_ren:={
 sizeBuilder:=by kernel_rfl
 liesBuilder:=by kernel_rfl
 t5:=Tryz.underlying5
 a5:=Tryz.isAgg5
 z5:=Tryz.sizeOf5
 v5:=Tryz.zeroValue5
 infoByte:=by kernel_rfl
 cellsByte:=by kernel_rfl
 sizeByte:=by kernel_rfl
 neB5:=by decide }
open Go.RowKit in
theorem Tryz.strings_Join_none (a:Option Addr) (c:Nat) (sep:ByteArray) (w:World) :
  Calls Tryz.prog 224 #[.slice a 0 c,.string sep] w fun e w'=>e = .returned (.string ⟨#[]⟩)∧w'=w:=Any.strings_Join_none Tryz.lays156 Tryz.Builder_Extra_156 a c sep w
open Go.RowKit in
theorem Tryz.strings_Join (bk o c:Nat) (xs:List ByteArray) (sep:ByteArray) (w:World) (hcells:∀ (j:Nat) x,xs[j]? = some x→w.cell? ⟨bk,o+j,none⟩=some (.string x)) (hbk:bk<w.heap.size) (hN:xs.length≤140737488355328) (hcap:xs.length≤c) (hlen:(Lib.join (xs.map (·.data.toList)) sep.data.toList).length≤140737488355328) :
  Calls Tryz.prog 224 #[.slice (some ⟨bk,o,none⟩) xs.length c,.string sep] w fun e w'=>e = .returned (.string ⟨(Lib.join (xs.map (·.data.toList)) sep.data.toList).toArray⟩)∧Below w.heap.size w w':=Any.strings_Join Tryz.lays156 Tryz.Builder_Extra_156 bk o c xs sep w hcells hbk hN hcap hlen
def Tryz.lays162_ren:Go.Shelf.Ren:=⟨fun|162=>278|232=>196|227=>162|234=>198|236=>200|228=>163|271=>255|151=>254|120=>297|197=>253|152=>160|260=>296|137=>119|119=>217|224=>218|225=>219|217=>172|266=>231|n=>n,fun|9=>9|4=>4|3=>3|5=>5|117=>189|116=>188|0=>0|124=>213|21=>21|105=>258|46=>69|119=>290|139=>293|138=>292|n=>n,fun|3=>7|4=>8|n=>n⟩
theorem Tryz.lays162:Go.Proofs.Lays.n162 Tryz.prog Tryz.lays162_ren:={
 mixed:=by kernel_rfl
 f119:=Tryz.func217.trans (congrArg some (by kernel_rfl))
 f120:=Tryz.func297.trans (congrArg some (by kernel_rfl))
 f137:=Tryz.func119.trans (congrArg some (by kernel_rfl))
 f151:=Tryz.func254.trans (congrArg some (by kernel_rfl))
 f152:=Tryz.func160.trans (congrArg some (by kernel_rfl))
 f162:=Tryz.func278.trans (congrArg some (by kernel_rfl))
 f197:=Tryz.func253.trans (congrArg some (by kernel_rfl))
 f217:=Tryz.func172.trans (congrArg some (by kernel_rfl))
 f224:=Tryz.func218.trans (congrArg some (by kernel_rfl))
 f225:=Tryz.func219.trans (congrArg some (by kernel_rfl))
 f227:=Tryz.func162.trans (congrArg some (by kernel_rfl))
 f228:=Tryz.func163.trans (congrArg some (by kernel_rfl))
 f232:=Tryz.func196.trans (congrArg some (by kernel_rfl))
 f234:=Tryz.func198.trans (congrArg some (by kernel_rfl))
 f236:=Tryz.func200.trans (congrArg some (by kernel_rfl))
 f260:=Tryz.func296.trans (congrArg some (by kernel_rfl))
 f266:=Tryz.func231.trans (congrArg some (by kernel_rfl))
 f271:=Tryz.func255.trans (congrArg some (by kernel_rfl))
 t0:=Tryz.underlying0
 a0:=Tryz.isAgg0
 z0:=Tryz.sizeOf0
 v0:=Tryz.zeroValue0
 t3:=Tryz.underlying3
 a3:=Tryz.isAgg3
 z3:=Tryz.sizeOf3
 v3:=Tryz.zeroValue3
 t4:=Tryz.underlying4
 a4:=Tryz.isAgg4
 z4:=Tryz.sizeOf4
 v4:=Tryz.zeroValue4
 t5:=Tryz.underlying5
 a5:=Tryz.isAgg5
 z5:=Tryz.sizeOf5
 v5:=Tryz.zeroValue5
 t9:=Tryz.underlying9
 a9:=Tryz.isAgg9
 z9:=Tryz.sizeOf9
 v9:=Tryz.zeroValue9
 t21:=Tryz.underlying21
 a21:=Tryz.isAgg21
 z21:=Tryz.sizeOf21
 v21:=Tryz.zeroValue21
 t46:=Tryz.underlying69
 a46:=Tryz.isAgg69
 z46:=Tryz.sizeOf69
 v46:=Tryz.zeroValue69
 t105:=Tryz.underlying258
 a105:=Tryz.isAgg258
 z105:=Tryz.sizeOf258
 v105:=Tryz.zeroValue258
 t116:=Tryz.underlying188
 a116:=Tryz.isAgg188
 z116:=Tryz.sizeOf188
 t117:=Tryz.underlying189
 a117:=Tryz.isAgg189
 z117:=Tryz.sizeOf189
 v117:=Tryz.zeroValue189
 t119:=Tryz.underlying290
 a119:=Tryz.isAgg290
 z119:=Tryz.sizeOf290
 t124:=Tryz.underlying213
 a124:=Tryz.isAgg213
 z124:=Tryz.sizeOf213
 v124:=Tryz.zeroValue213
 t138:=Tryz.underlying292
 a138:=Tryz.isAgg292
 z138:=Tryz.sizeOf292
 v138:=Tryz.zeroValue292
 t139:=Tryz.underlying293
 a139:=Tryz.isAgg293
 z139:=Tryz.sizeOf293
 v139:=Tryz.zeroValue293
 g3:=by kernel_rfl
 g4:=by kernel_rfl }
def Tryz.lays160_ren:Go.Shelf.Ren:=⟨fun|160=>144|232=>196|231=>195|227=>162|234=>198|233=>197|236=>200|235=>199|228=>163|271=>255|151=>254|197=>253|120=>297|152=>160|260=>296|137=>119|119=>217|224=>218|225=>219|217=>172|266=>231|n=>n,fun|9=>9|4=>4|3=>3|5=>5|117=>189|116=>188|0=>0|124=>213|21=>21|105=>258|46=>69|119=>290|139=>293|138=>292|n=>n,fun|3=>7|4=>8|n=>n⟩
theorem Tryz.lays160:Go.Proofs.Lays.n160 Tryz.prog Tryz.lays160_ren:={
 mixed:=by kernel_rfl
 f119:=Tryz.func217.trans (congrArg some (by kernel_rfl))
 f120:=Tryz.func297.trans (congrArg some (by kernel_rfl))
 f137:=Tryz.func119.trans (congrArg some (by kernel_rfl))
 f151:=Tryz.func254.trans (congrArg some (by kernel_rfl))
 f152:=Tryz.func160.trans (congrArg some (by kernel_rfl))
 f160:=Tryz.func144.trans (congrArg some (by kernel_rfl))
 f197:=Tryz.func253.trans (congrArg some (by kernel_rfl))
 f217:=Tryz.func172.trans (congrArg some (by kernel_rfl))
 f224:=Tryz.func218.trans (congrArg some (by kernel_rfl))
 f225:=Tryz.func219.trans (congrArg some (by kernel_rfl))
 f227:=Tryz.func162.trans (congrArg some (by kernel_rfl))
 f228:=Tryz.func163.trans (congrArg some (by kernel_rfl))
 f231:=Tryz.func195.trans (congrArg some (by kernel_rfl))
 f232:=Tryz.func196.trans (congrArg some (by kernel_rfl))
 f233:=Tryz.func197.trans (congrArg some (by kernel_rfl))
 f234:=Tryz.func198.trans (congrArg some (by kernel_rfl))
 f235:=Tryz.func199.trans (congrArg some (by kernel_rfl))
 f236:=Tryz.func200.trans (congrArg some (by kernel_rfl))
 f260:=Tryz.func296.trans (congrArg some (by kernel_rfl))
 f266:=Tryz.func231.trans (congrArg some (by kernel_rfl))
 f271:=Tryz.func255.trans (congrArg some (by kernel_rfl))
 t0:=Tryz.underlying0
 a0:=Tryz.isAgg0
 z0:=Tryz.sizeOf0
 v0:=Tryz.zeroValue0
 t3:=Tryz.underlying3
 a3:=Tryz.isAgg3
 z3:=Tryz.sizeOf3
 v3:=Tryz.zeroValue3
 t4:=Tryz.underlying4
 a4:=Tryz.isAgg4
 z4:=Tryz.sizeOf4
 v4:=Tryz.zeroValue4
 t5:=Tryz.underlying5
 a5:=Tryz.isAgg5
 z5:=Tryz.sizeOf5
 v5:=Tryz.zeroValue5
 t9:=Tryz.underlying9
 a9:=Tryz.isAgg9
 z9:=Tryz.sizeOf9
 v9:=Tryz.zeroValue9
 t21:=Tryz.underlying21
 a21:=Tryz.isAgg21
 z21:=Tryz.sizeOf21
 v21:=Tryz.zeroValue21
 t46:=Tryz.underlying69
 a46:=Tryz.isAgg69
 z46:=Tryz.sizeOf69
 v46:=Tryz.zeroValue69
 t105:=Tryz.underlying258
 a105:=Tryz.isAgg258
 z105:=Tryz.sizeOf258
 v105:=Tryz.zeroValue258
 t116:=Tryz.underlying188
 a116:=Tryz.isAgg188
 z116:=Tryz.sizeOf188
 t117:=Tryz.underlying189
 a117:=Tryz.isAgg189
 z117:=Tryz.sizeOf189
 v117:=Tryz.zeroValue189
 t119:=Tryz.underlying290
 a119:=Tryz.isAgg290
 z119:=Tryz.sizeOf290
 t124:=Tryz.underlying213
 a124:=Tryz.isAgg213
 z124:=Tryz.sizeOf213
 v124:=Tryz.zeroValue213
 t138:=Tryz.underlying292
 a138:=Tryz.isAgg292
 z138:=Tryz.sizeOf292
 v138:=Tryz.zeroValue292
 t139:=Tryz.underlying293
 a139:=Tryz.isAgg293
 z139:=Tryz.sizeOf293
 v139:=Tryz.zeroValue293
 g3:=by kernel_rfl
 g4:=by kernel_rfl }
def Tryz.lays137_ren:Go.Shelf.Ren:=⟨fun|137=>119|217=>172|266=>231|n=>n,fun|9=>9|5=>5|3=>3|n=>n,fun|n=>n⟩
theorem Tryz.lays137:Go.Proofs.Lays.n137 Tryz.prog Tryz.lays137_ren:={
 mixed:=by kernel_rfl
 f137:=Tryz.func119.trans (congrArg some (by kernel_rfl))
 f217:=Tryz.func172.trans (congrArg some (by kernel_rfl))
 f266:=Tryz.func231.trans (congrArg some (by kernel_rfl))
 t3:=Tryz.underlying3
 a3:=Tryz.isAgg3
 z3:=Tryz.sizeOf3
 v3:=Tryz.zeroValue3
 t5:=Tryz.underlying5
 a5:=Tryz.isAgg5
 z5:=Tryz.sizeOf5
 v5:=Tryz.zeroValue5
 t9:=Tryz.underlying9
 a9:=Tryz.isAgg9
 z9:=Tryz.sizeOf9
 v9:=Tryz.zeroValue9 }
open Go.RowKit in
theorem Tryz.strings_IndexByte (s:ByteArray) (c:Int) (w:World) :
  Calls Tryz.prog 119 #[.string s,.int .u8 c] w fun e w'=>e = .returned (.int .i64 (Lib.indexByte s.data.toList c.toNat.toUInt8))∧w'=w:=Any.strings_IndexByte Tryz.lays137 s c w
def Tryz.lays146_ren:Go.Shelf.Ren:=⟨fun|146=>225|221=>284|268=>303|138=>304|143=>221|195=>311|197=>253|218=>312|219=>279|260=>296|217=>172|225=>219|224=>218|267=>301|266=>231|314=>309|n=>n,fun|9=>9|31=>23|3=>3|4=>4|0=>0|105=>258|21=>21|5=>5|46=>69|119=>290|139=>293|138=>292|146=>294|51=>248|n=>n,fun|1=>3|3=>7|4=>8|n=>n⟩
theorem Tryz.lays146:Go.Proofs.Lays.n146 Tryz.prog Tryz.lays146_ren:={
 mixed:=by kernel_rfl
 f138:=Tryz.func304.trans (congrArg some (by kernel_rfl))
 f143:=Tryz.func221.trans (congrArg some (by kernel_rfl))
 f146:=Tryz.func225.trans (congrArg some (by kernel_rfl))
 f195:=Tryz.func311.trans (congrArg some (by kernel_rfl))
 f197:=Tryz.func253.trans (congrArg some (by kernel_rfl))
 f217:=Tryz.func172.trans (congrArg some (by kernel_rfl))
 f218:=Tryz.func312.trans (congrArg some (by kernel_rfl))
 f219:=Tryz.func279.trans (congrArg some (by kernel_rfl))
 f221:=Tryz.func284.trans (congrArg some (by kernel_rfl))
 f224:=Tryz.func218.trans (congrArg some (by kernel_rfl))
 f225:=Tryz.func219.trans (congrArg some (by kernel_rfl))
 f260:=Tryz.func296.trans (congrArg some (by kernel_rfl))
 f266:=Tryz.func231.trans (congrArg some (by kernel_rfl))
 f267:=Tryz.func301.trans (congrArg some (by kernel_rfl))
 f268:=Tryz.func303.trans (congrArg some (by kernel_rfl))
 f314:=Tryz.func309.trans (congrArg some (by kernel_rfl))
 t0:=Tryz.underlying0
 a0:=Tryz.isAgg0
 z0:=Tryz.sizeOf0
 v0:=Tryz.zeroValue0
 t3:=Tryz.underlying3
 a3:=Tryz.isAgg3
 z3:=Tryz.sizeOf3
 v3:=Tryz.zeroValue3
 t4:=Tryz.underlying4
 a4:=Tryz.isAgg4
 z4:=Tryz.sizeOf4
 v4:=Tryz.zeroValue4
 t5:=Tryz.underlying5
 a5:=Tryz.isAgg5
 z5:=Tryz.sizeOf5
 v5:=Tryz.zeroValue5
 t9:=Tryz.underlying9
 a9:=Tryz.isAgg9
 z9:=Tryz.sizeOf9
 v9:=Tryz.zeroValue9
 t21:=Tryz.underlying21
 a21:=Tryz.isAgg21
 z21:=Tryz.sizeOf21
 v21:=Tryz.zeroValue21
 t31:=Tryz.underlying23
 a31:=Tryz.isAgg23
 z31:=Tryz.sizeOf23
 v31:=Tryz.zeroValue23
 t46:=Tryz.underlying69
 a46:=Tryz.isAgg69
 z46:=Tryz.sizeOf69
 v46:=Tryz.zeroValue69
 t51:=Tryz.underlying248
 a51:=Tryz.isAgg248
 z51:=Tryz.sizeOf248
 v51:=Tryz.zeroValue248
 t105:=Tryz.underlying258
 a105:=Tryz.isAgg258
 z105:=Tryz.sizeOf258
 v105:=Tryz.zeroValue258
 t119:=Tryz.underlying290
 a119:=Tryz.isAgg290
 z119:=Tryz.sizeOf290
 t138:=Tryz.underlying292
 a138:=Tryz.isAgg292
 z138:=Tryz.sizeOf292
 v138:=Tryz.zeroValue292
 t139:=Tryz.underlying293
 a139:=Tryz.isAgg293
 z139:=Tryz.sizeOf293
 v139:=Tryz.zeroValue293
 t146:=Tryz.underlying294
 a146:=Tryz.isAgg294
 z146:=Tryz.sizeOf294
 v146:=Tryz.zeroValue294
 g1:=by kernel_rfl
 g3:=by kernel_rfl
 g4:=by kernel_rfl }
open Go.RowKit Go.Lib in
theorem Tryz.strings_Split (s sep:ByteArray) (m:Int) (w:World) (hs:s.size<4294967281) (hm:w.cell? ⟨3,0,none⟩=some (.int .i64 m)) (h1:1≤sep.size) :
  Calls Tryz.prog 225 #[.string s,.string sep] w fun e w' =>
   e = .returned (.slice (some ⟨w.heap.size,0,none⟩) (Lib.countB s sep+1) (Lib.countB s sep+1))∧w'=w.alloc (.cells ((Lib.splitB sep 0 (Lib.countB s sep) s).map Value.string).toArray 9):=Any.strings_Split Tryz.lays146 (by kernel_rfl) s sep m w hs hm h1
end Go.Proofs
