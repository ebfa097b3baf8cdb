/- Contracts: a birth's tags and URIs, fits, dialog. And what stands behind it. -/
import Derived.Test.YtfnmkedncfdceaaGreatDoorIk
set_option linter.unusedVariables false
set_option linter.unusedSimpArgs false
set_option maxRecDepth 100000
namespace Go.Proofs.YtfnmkedncfdceaaGreatDoor
open Go.RowKit

def bC (q r:Msg) (A1 B1 A2 B2:Option Addr) (c1 n1 d1 c2 n2 d2:Nat):List Value:=[.string (strOfNums q.me),.string (strOfNums q.ur),.int .i64 q.co,.string (strOfNums q.re),.slice A1 q.hs.length c1,.slice B1 n1 d1,.string (strOfNums r.me),.string (strOfNums r.ur),.int .i64 r.co,.string (strOfNums r.re),.slice A2 r.hs.length c2,.slice B2 n2 d2]
theorem zcy {a b c d e f g h i j k l:Value}:(Tryz.prog.info? 93).map (·.size)=some [a,b,c,d,e,f,g,h,i,j,k,l].length:=show (Tryz.prog.info? 93).map (·.size)=some 12 by kernel_rfl
theorem znd {w:World} {b:Nat} {T:TypeId} {x0 x1 x2 x3 x4 x5 y0 y1 y2 y3 y4 y5:Value} (h:Row w b T [x0,x1,x2,x3,x4,x5,y0,y1,y2,y3,y4,y5]):w.rangeAt b 0 [x0,x1,x2,x3,x4,x5]:=zmm (pre:=[]) (cs:=[x0,x1,x2,x3,x4,x5]) (post:=[y0,y1,y2,y3,y4,y5]) h
theorem yer {w:World} {b:Nat} {T:TypeId} {x0 x1 x2 x3 x4 x5 y0 y1 y2 y3 y4 y5:Value} (h:Row w b T [x0,x1,x2,x3,x4,x5,y0,y1,y2,y3,y4,y5]):w.rangeAt b 6 [y0,y1,y2,y3,y4,y5]:=zmm (pre:=[x0,x1,x2,x3,x4,x5]) (cs:=[y0,y1,y2,y3,y4,y5]) (post:=[]) (by simpa using h)
theorem zfi (q r:Msg) (A1 B1 A2 B2:Option Addr) (c1 n1 d1 c2 n2 d2:Nat) (w:World) (HQ:MArg w q A1) (HR:MArg w r A2) (G:GW w) :
  Calls Tryz.prog 141 #[.agg #[.string (strOfNums q.me),.string (strOfNums q.ur),.int .i64 q.co,.string (strOfNums q.re),.slice A1 q.hs.length c1,.slice B1 n1 d1,.string (strOfNums r.me),.string (strOfNums r.ur),.int .i64 r.co,.string (strOfNums r.re),.slice A2 r.hs.length c2,.slice B2 n2 d2]] w fun e w'=>e = .returned (.string (strOfNums (zby q.hs FROMN)))∧Below w.heap.size w w':=by
 have R1:=kd (Row.new w 93 (bC q r A1 B1 A2 B2 c1 n1 d1 c2 n2 d2));have B1_:=kd ((Below.refl w.heap.size w).alloc zNr (.cells (bC q r A1 B1 A2 B2 c1 n1 d1 c2 n2 d2).toArray 93))
 have CA:=kd (fun w' (hb:Below w.heap.size w w')=>zg2 q A1 B1 c1 n1 d1 ⟨#[70,114,111,109]⟩ w' (HQ.step hb) (by decide) (G.below hb));rw [show zaa ⟨#[70,114,111,109]⟩=FROMN by rfl] at CA;unfold mS at CA;unfold bC at R1 B1_;clear HQ HR G
 go_enter Tryz.func141,Tryz.ntmps141
 go_upto_region 1 with (fail)
 generalize w.alloc (.cells #[.string (strOfNums q.me),.string (strOfNums q.ur),.int .i64 q.co,.string (strOfNums q.re),.slice A1 q.hs.length c1,.slice B1 n1 d1,.string (strOfNums r.me),.string (strOfNums r.ur),.int .i64 r.co,.string (strOfNums r.re),.slice A2 r.hs.length c2,.slice B2 n2 d2] 93)=w1 at *
 generalize hg:w.heap.size=g at *;have G1:=kd (znd R1.out);rw [← hg] at CA B1_ ⊢;go_wp2_with (with_reducible refine wpList_load_mid rfl 31 (.tmp 3) rfl g 0 rfl (mV q A1 c1 B1 n1 d1) _ G1.out Tryz.underlying31 rfl zaw ?_);refine (CA.out _ B1_.out).mono ?_;rintro _ w2 ⟨rfl,hb2⟩
 have B2_:=kd (zao B1_.out hb2);clear hb2 CA R1 B1_ G1;go_wp2_with fail
 first|go_ret|go_ret2
 exact ⟨rfl,B2_.out⟩
theorem zfj (q r:Msg) (A1 B1 A2 B2:Option Addr) (c1 n1 d1 c2 n2 d2:Nat) (w:World) (HQ:MArg w q A1) (HR:MArg w r A2) (G:GW w) :
  Calls Tryz.prog 140 #[.agg #[.string (strOfNums q.me),.string (strOfNums q.ur),.int .i64 q.co,.string (strOfNums q.re),.slice A1 q.hs.length c1,.slice B1 n1 d1,.string (strOfNums r.me),.string (strOfNums r.ur),.int .i64 r.co,.string (strOfNums r.re),.slice A2 r.hs.length c2,.slice B2 n2 d2]] w fun e w'=>e = .returned (.string (strOfNums (zby r.hs TON)))∧Below w.heap.size w w':=by
 have R1:=kd (Row.new w 93 (bC q r A1 B1 A2 B2 c1 n1 d1 c2 n2 d2));have B1_:=kd ((Below.refl w.heap.size w).alloc zNr (.cells (bC q r A1 B1 A2 B2 c1 n1 d1 c2 n2 d2).toArray 93))
 have CA:=kd (fun w' (hb:Below w.heap.size w w')=>zg2 r A2 B2 c2 n2 d2 ⟨#[84,111]⟩ w' (HR.step hb) (by decide) (G.below hb));rw [show zaa ⟨#[84,111]⟩=TON by rfl] at CA;unfold mS at CA;unfold bC at R1 B1_;clear HQ HR G
 go_enter Tryz.func140,Tryz.ntmps140
 go_upto_region 1 with (fail)
 generalize w.alloc (.cells #[.string (strOfNums q.me),.string (strOfNums q.ur),.int .i64 q.co,.string (strOfNums q.re),.slice A1 q.hs.length c1,.slice B1 n1 d1,.string (strOfNums r.me),.string (strOfNums r.ur),.int .i64 r.co,.string (strOfNums r.re),.slice A2 r.hs.length c2,.slice B2 n2 d2] 93)=w1 at *
 generalize hg:w.heap.size=g at *;have G1:=kd (yer R1.out);rw [← hg] at CA B1_ ⊢;go_wp2_with (with_reducible refine wpList_load_mid rfl 31 (.tmp 3) rfl g 6 rfl (mV r A2 c2 B2 n2 d2) _ G1.out Tryz.underlying31 rfl zaw ?_);refine (CA.out _ B1_.out).mono ?_;rintro _ w2 ⟨rfl,hb2⟩
 have B2_:=kd (zao B1_.out hb2);clear hb2 CA R1 B1_ G1;go_wp2_with fail
 first|go_ret|go_ret2
 exact ⟨rfl,B2_.out⟩
theorem zhl (q r:Msg) (A1 B1 A2 B2:Option Addr) (c1 n1 d1 c2 n2 d2:Nat) (w:World) (HQ:MArg w q A1) (HR:MArg w r A2) (G:GW w) :
  Calls Tryz.prog 143 #[.agg #[.string (strOfNums q.me),.string (strOfNums q.ur),.int .i64 q.co,.string (strOfNums q.re),.slice A1 q.hs.length c1,.slice B1 n1 d1,.string (strOfNums r.me),.string (strOfNums r.ur),.int .i64 r.co,.string (strOfNums r.re),.slice A2 r.hs.length c2,.slice B2 n2 d2]] w fun e w'=>e = .returned (.tuple #[.string (strOfNums (zdd q.hs FROMN).1),.bool (zdd q.hs FROMN).2])∧Below w.heap.size w w':=by
 have R1:=kd (Row.new w 93 (bC q r A1 B1 A2 B2 c1 n1 d1 c2 n2 d2));have B1_:=kd ((Below.refl w.heap.size w).alloc zNr (.cells (bC q r A1 B1 A2 B2 c1 n1 d1 c2 n2 d2).toArray 93))
 have CA:=kd (fun w' (hb:Below w.heap.size w w')=>znq q A1 B1 c1 n1 d1 ⟨#[70,114,111,109]⟩ w' (HQ.step hb) (by decide) (G.below hb));rw [show zaa ⟨#[70,114,111,109]⟩=FROMN by rfl] at CA;unfold mS at CA;unfold bC at R1 B1_;clear HQ HR G
 go_enter Tryz.func143,Tryz.ntmps143
 go_upto_region 1 with (fail)
 generalize w.alloc (.cells #[.string (strOfNums q.me),.string (strOfNums q.ur),.int .i64 q.co,.string (strOfNums q.re),.slice A1 q.hs.length c1,.slice B1 n1 d1,.string (strOfNums r.me),.string (strOfNums r.ur),.int .i64 r.co,.string (strOfNums r.re),.slice A2 r.hs.length c2,.slice B2 n2 d2] 93)=w1 at *
 generalize hg:w.heap.size=g at *;have G1:=kd (znd R1.out);rw [← hg] at CA B1_ ⊢;go_wp2_with (with_reducible refine wpList_load_mid rfl 31 (.tmp 4) rfl g 0 rfl (mV q A1 c1 B1 n1 d1) _ G1.out Tryz.underlying31 rfl zaw ?_);refine (CA.out _ B1_.out).mono ?_;rintro _ w2 ⟨rfl,hb2⟩
 have B2_:=kd (zao B1_.out hb2);clear hb2 CA R1 B1_ G1;go_wp2_with fail
 first|go_ret|go_ret2
 exact ⟨rfl,B2_.out⟩
theorem zhm (q r:Msg) (A1 B1 A2 B2:Option Addr) (c1 n1 d1 c2 n2 d2:Nat) (w:World) (HQ:MArg w q A1) (HR:MArg w r A2) (G:GW w) :
  Calls Tryz.prog 142 #[.agg #[.string (strOfNums q.me),.string (strOfNums q.ur),.int .i64 q.co,.string (strOfNums q.re),.slice A1 q.hs.length c1,.slice B1 n1 d1,.string (strOfNums r.me),.string (strOfNums r.ur),.int .i64 r.co,.string (strOfNums r.re),.slice A2 r.hs.length c2,.slice B2 n2 d2]] w fun e w'=>e = .returned (.tuple #[.string (strOfNums (zdd q.hs TON).1),.bool (zdd q.hs TON).2])∧Below w.heap.size w w':=by
 have R1:=kd (Row.new w 93 (bC q r A1 B1 A2 B2 c1 n1 d1 c2 n2 d2));have B1_:=kd ((Below.refl w.heap.size w).alloc zNr (.cells (bC q r A1 B1 A2 B2 c1 n1 d1 c2 n2 d2).toArray 93))
 have CA:=kd (fun w' (hb:Below w.heap.size w w')=>znq q A1 B1 c1 n1 d1 ⟨#[84,111]⟩ w' (HQ.step hb) (by decide) (G.below hb));rw [show zaa ⟨#[84,111]⟩=TON by rfl] at CA;unfold mS at CA;unfold bC at R1 B1_;clear HQ HR G
 go_enter Tryz.func142,Tryz.ntmps142
 go_upto_region 1 with (fail)
 generalize w.alloc (.cells #[.string (strOfNums q.me),.string (strOfNums q.ur),.int .i64 q.co,.string (strOfNums q.re),.slice A1 q.hs.length c1,.slice B1 n1 d1,.string (strOfNums r.me),.string (strOfNums r.ur),.int .i64 r.co,.string (strOfNums r.re),.slice A2 r.hs.length c2,.slice B2 n2 d2] 93)=w1 at *
 generalize hg:w.heap.size=g at *;have G1:=kd (znd R1.out);rw [← hg] at CA B1_ ⊢;go_wp2_with (with_reducible refine wpList_load_mid rfl 31 (.tmp 4) rfl g 0 rfl (mV q A1 c1 B1 n1 d1) _ G1.out Tryz.underlying31 rfl zaw ?_);refine (CA.out _ B1_.out).mono ?_;rintro _ w2 ⟨rfl,hb2⟩
 have B2_:=kd (zao B1_.out hb2);clear hb2 CA R1 B1_ G1;go_wp2_with fail
 first|go_ret|go_ret2
 exact ⟨rfl,B2_.out⟩

def SP1:List Int:=[115,105,112,58,112,49,46,101,120,97,109,112,108,101,59,108,114]
def SP2:List Int:=[115,105,112,58,112,50,46,101,120,97,109,112,108,101,59,108,114]
def SP3:List Int:=[115,105,112,58,112,51,46,101,120,97,109,112,108,101]
def IH:List Hd:=[hdL [86,105,97] [83,73,80,47,50,46,48,47,85,68,80,32,97,46,101,120,97,109,112,108,101,59,98,114,97,110,99,104,61,122,57,104,71,52,98,75,49],
 hdL [70,114,111,109] [60,115,105,112,58,97,64,97,46,101,120,97,109,112,108,101,62,59,116,97,103,61,120],
 hdL [84,111] [60,115,105,112,58,98,64,98,46,101,120,97,109,112,108,101,62],
 hdL [67,97,108,108,45,73,68] [99,49],
 hdL [67,83,101,113] [55,32,73,78,86,73,84,69],
 hdL [67,111,110,116,97,99,116] [60,115,105,112,58,97,64,49,46,50,46,51,46,52,62]]
def AH:List Hd:=[hdL [86,105,97] [83,73,80,47,50,46,48,47,85,68,80,32,97,46,101,120,97,109,112,108,101,59,98,114,97,110,99,104,61,122,57,104,71,52,98,75,49],
 hdL [70,114,111,109] [60,115,105,112,58,97,64,97,46,101,120,97,109,112,108,101,62,59,116,97,103,61,120],
 hdL [84,111] [60,115,105,112,58,98,64,98,46,101,120,97,109,112,108,101,62,59,116,97,103,61,121],
 hdL [67,97,108,108,45,73,68] [99,49],
 hdL [67,83,101,113] [55,32,73,78,86,73,84,69],
 hdL [67,111,110,116,97,99,116] [60,115,105,112,58,98,64,53,46,54,46,55,46,56,62]]
def rrH (r:List Int):Hd:=hdL zd1 (brak r)
def zaz (rs:List (List Int)):Msg:=⟨INVT,[115,105,112,58,98,64,98,46,101,120,97,109,112,108,101],0,[],IH++rs.map rrH⟩
def zay (c:Int) (rs:List (List Int)):Msg:=⟨[],[],c,[82],AH++rs.map rrH⟩
def OkR (r:List Int):Prop:=uriT (brak r) = .ok r∧zd9 (brak r)=[brak r]∧By (brak r)
theorem okP1:OkR SP1:=⟨by kernel_rfl,by kernel_rfl,by unfold By;decide⟩
theorem okP2:OkR SP2:=⟨by kernel_rfl,by kernel_rfl,by unfold By;decide⟩
theorem okP3:OkR SP3:=⟨by kernel_rfl,by kernel_rfl,by unfold By;decide⟩
theorem zhn (a b:List Hd) (nm:List Int):allH (a++b) nm=allH a nm++allH b nm:=by rw [zd6,zd6,zd6,List.filter_append,List.flatMap_append]
theorem rr_not {nm:List Int} (h:∀ v,hitN (zbr nm) (strOfNums zd1,v)=false) (rs:List (List Int)):allH (rs.map rrH) nm=[]:=by
 rw [zd6,List.filter_eq_nil_iff.2]
 · rfl
 · intro x hx
   obtain ⟨r,_,rfl⟩:=List.mem_map.1 hx;rw [show rrH r=(strOfNums zd1,strOfNums (brak r)) from rfl,h];decide
theorem zvq:∀ (rs:List (List Int)),(∀ r∈rs,OkR r)→allH (rs.map rrH) zd1=rs.map brak
 | [],_=>rfl
 | r::rs,h=>by
   have ih:=zvq rs fun q hq=>h q (List.mem_cons_of_mem _ hq);obtain ⟨_,h2,h3⟩:=h r (List.mem_cons_self ..);rw [show (r::rs).map rrH=[rrH r]++rs.map rrH from rfl,zhn,ih]
   have e:allH [rrH r] zd1=one1 zd1 (rrH r):=by
    rw [zd6]
    have hh:hitN (zbr zd1) (rrH r)=true:=by kernel_rfl
    simp [hh]
   rw [e];unfold one1;rw [if_pos (by kernel_rfl),show zaa (rrH r).2=brak r from zal h3,h2]
   rfl
theorem zh3:∀ (rs acc:List (List Int)),(∀ r∈rs,OkR r)→zem (rs.map brak) acc=some (acc++rs)
 | [],acc,_=>by simp [zem]
 | r::rs,acc,h=>by
   rw [List.map_cons,zem,(h r (List.mem_cons_self ..)).1];dsimp only;rw [zh3 rs _ fun q hq=>h q (List.mem_cons_of_mem _ hq)];simp
theorem zvp (rs:List (List Int)):allH (rs.map rrH) zur=[]:=rr_not (fun v=>by kernel_rfl) rs
theorem zzv (rs:List (List Int)):zba (IH++rs.map rrH)=([115,105,112,58,97,64,49,46,50,46,51,46,52],true):=by
 unfold zba;rw [zhn,zvp,List.append_nil]
 kernel_rfl
theorem ya5 (rs:List (List Int)):zba (AH++rs.map rrH)=([115,105,112,58,98,64,53,46,54,46,55,46,56],true):=by
 unfold zba;rw [zhn,zvp,List.append_nil]
 kernel_rfl
theorem ztr {rs:List (List Int)} (h:∀ r∈rs,OkR r):zbn (IH++rs.map rrH)=some rs:=by
 unfold zbn;rw [zhn,zvq rs h,show allH IH zd1=[] by kernel_rfl,List.nil_append];exact zh3 rs [] h
theorem zum {rs:List (List Int)} (h:∀ r∈rs,OkR r):zbn (AH++rs.map rrH)=some rs:=by
 unfold zbn;rw [zhn,zvq rs h,show allH AH zd1=[] by kernel_rfl,List.nil_append];exact zh3 rs [] h
theorem zm0 (X:List Hd):zan (IH++X)=(7,INVT,true):=by kernel_rfl
theorem ya4 (X:List Hd):zan (AH++X)=(7,INVT,true):=by kernel_rfl
theorem ybn (X:List Hd):valH (IH++X) za0=some [99,49]:=by kernel_rfl
theorem ans_id (X:List Hd):valH (AH++X) za0=some [99,49]:=by kernel_rfl
theorem zrw (X:List Hd):zby (IH++X) FROMN=[120]:=by kernel_rfl
theorem yb3 (X:List Hd):zby (AH++X) TON=[121]:=by kernel_rfl
theorem inv_uf (X:List Hd):zdd (IH++X) FROMN=([115,105,112,58,97,64,97,46,101,120,97,109,112,108,101],true):=by kernel_rfl
theorem inv_ut (X:List Hd):zdd (IH++X) TON=([115,105,112,58,98,64,98,46,101,120,97,109,112,108,101],true):=by kernel_rfl
theorem zxc {c:Int} (h1:101≤c) (h2:c≤299):¬ ((0:Int)≠0∨INVT≠INVT∨c<101∨299<c):=fun h=>by
 rcases h with h|h|h|h
 · exact h rfl
 · exact h rfl
 · exact absurd h (Int.not_lt.2 h1)
 · exact absurd h (Int.not_lt.2 h2)
theorem zxd {q r:Msg} {a m A B:List Int} {n:Int} (h0:¬ (q.co≠0∨q.me≠INVT∨r.co<101∨299<r.co)) (h1:valH q.hs za0=some a) (h2:valH r.hs za0=some a) (h3:zan q.hs=(n,m,true)) (h4:zan r.hs=(n,m,true)) (h5:zby q.hs FROMN=A) (h6:zby r.hs TON=B) (hA:A.isEmpty=false) (hB:B.isEmpty=false):zd5 q r=true:=by
 unfold zd5;rw [if_neg h0,h1,h2];dsimp only;rw [if_neg (fun h=>h rfl),h3,h4,h5,h6,hA,hB,if_neg (by rintro (h|h|h|h);cases h;cases h;exact h rfl;exact h rfl)]
 rfl
theorem zz6 {q r:Msg} (h0:q.co≠0∨q.me≠INVT∨r.co<101∨299<r.co):zd5 q r=false:=by
 unfold zd5;rw [if_pos h0]
theorem zx8 {q r:Msg} {cl:Bool} {a b i:List Int} {u v:List Int × Bool} (h1:zby q.hs FROMN=a) (h2:zby r.hs TON=b) (h3:zdd q.hs FROMN=u) (h4:zdd q.hs TON=v) (h5:valH q.hs za0=some i) :
  zdb q r cl=(⟨if r.co<200 then 1 else 2,cl,i,if cl=true then a else b,if cl=true then b else a,if cl=true then u.1 else v.1,if cl=true then v.1 else u.1,[],[],0,0,0⟩,u.2 && v.2):=by
 unfold zdb val0;rw [h1,h2,h3,h4,h5]
 rfl
theorem zr7 {c:Int} (h1:101≤c) (h2:c≤299) (rs qs:List (List Int)):zd5 (zaz rs) (zay c qs)=true:=
 zxd (zxc h1 h2) (ybn _) (ans_id _) (zm0 _) (ya4 _) (zrw _) (yb3 _) rfl rfl
def zd0 (c:Int) (rs:List (List Int)):Dlg:=⟨if c<200 then 1 else 2,false,[99,49],[121],[120],[115,105,112,58,98,64,98,46,101,120,97,109,112,108,101],[115,105,112,58,97,64,97,46,101,120,97,109,112,108,101],[115,105,112,58,97,64,49,46,50,46,51,46,52],rs,0,7,0⟩
def zda (c:Int) (rs:List (List Int)):Dlg:=⟨if c<200 then 1 else 2,true,[99,49],[120],[121],[115,105,112,58,97,64,97,46,101,120,97,109,112,108,101],[115,105,112,58,98,64,98,46,101,120,97,109,112,108,101],[115,105,112,58,98,64,53,46,54,46,55,46,56],rs.reverse,7,0,7⟩
theorem zpc (c:Int) (rs qs:List (List Int)) (cl:Bool):zdb (zaz rs) (zay c qs) cl=(⟨if c<200 then 1 else 2,cl,[99,49],if cl=true then [120] else [121],if cl=true then [121] else [120],if cl=true then [115,105,112,58,97,64,97,46,101,120,97,109,112,108,101] else [115,105,112,58,98,64,98,46,101,120,97,109,112,108,101],if cl=true then [115,105,112,58,98,64,98,46,101,120,97,109,112,108,101] else [115,105,112,58,97,64,97,46,101,120,97,109,112,108,101],[],[],0,0,0⟩,true):=by
 have h:=zx8 (q:=zaz rs) (r:=zay c qs) (cl:=cl) (zrw (rs.map rrH)) (yb3 (qs.map rrH)) (inv_uf (rs.map rrH)) (inv_ut (rs.map rrH)) (ybn (rs.map rrH));dsimp only at h;exact h
theorem zl2 {c:Int} {rs:List (List Int)} (qs:List (List Int)) (h1:101≤c) (h2:c≤299) (h:∀ r∈rs,OkR r) (hl:rs.length≤16):zdh (zaz rs) (zay c qs) = .ok (zd0 c rs):=by
 unfold zdh zbt;rw [show zbn (zaz rs).hs=some rs from ztr h,zr7 h1 h2,zpc,show zba (zaz rs).hs=_ from zzv rs,show zan (zaz rs).hs=_ from zm0 _];dsimp only;rw [if_neg (by decide),if_neg (by omega)]
 rfl
theorem zih {c:Int} {qs:List (List Int)} (rs:List (List Int)) (h1:101≤c) (h2:c≤299) (h:∀ r∈qs,OkR r) (hl:qs.length≤16):zc6 (zaz rs) (zay c qs) = .ok (zda c qs):=by
 unfold zc6 zbt;rw [show zbn (zay c qs).hs=some qs from zum h,zr7 h1 h2,zpc,show zba (zay c qs).hs=_ from ya5 qs,show zan (zaz rs).hs=_ from zm0 _];dsimp only;rw [if_neg (by decide),if_neg (by omega)]
 rfl
theorem rr_ok {rs:List (List Int)} (h:∀ r∈rs,r.length≤100) (hl:rs.length≤20):(∀ x∈rs.map rrH,x.1.size≤4000000∧x.2.size≤4000000)∧((rs.map rrH).map fun h=>h.2.size+1).sum≤20000:=by
 have key:∀ l:List (List Int),(∀ r∈l,r.length≤100)→((l.map rrH).map fun h=>h.2.size+1).sum≤200*l.length:=by
  intro l
  induction l with
  | nil=>intro _;exact Nat.zero_le _
  | cons r l ih =>
    intro hr;have:=ih fun q hq=>hr q (List.mem_cons_of_mem _ hq);have h1:=hr r (List.mem_cons_self ..)
    have h2:(rrH r).2.size=r.length+2:=by
     show (strOfNums (brak r)).size=_;rw [zaq];unfold brak;simp
    simp only [List.map_cons,List.sum_cons,List.length_cons,h2] at this ⊢;omega
 refine ⟨fun x hx => ?_,by have:=key rs h;omega⟩;obtain ⟨r,hr,rfl⟩:=List.mem_map.1 hx;have h1:=h r hr;refine ⟨by show (strOfNums zd1).size≤_;rw [zaq];decide,?_⟩;show (strOfNums (brak r)).size≤_;rw [zaq];unfold brak;simp;omega
theorem ydu {rs:List (List Int)} (h:∀ r∈rs,r.length≤100) (hl:rs.length≤20):HOK (zaz rs).hs:=by
 obtain ⟨h1,h2⟩:=rr_ok h hl;refine ⟨by show (IH++rs.map rrH).length≤_;simp [IH];omega,fun x hx => ?_,?_⟩
 · rcases List.mem_append.1 hx with hx|hx
   · exact (show ∀ x∈IH,x.1.size≤4000000∧x.2.size≤4000000 by decide +kernel) x hx
   · exact h1 x hx
 · show ((IH++rs.map rrH).map fun h=>h.2.size+1).sum≤_
   rw [List.map_append,List.sum_append]
   have:(IH.map fun h=>h.2.size+1).sum≤1000:=by decide +kernel
   omega
theorem yet {c:Int} {rs:List (List Int)} (h:∀ r∈rs,r.length≤100) (hl:rs.length≤20):HOK (zay c rs).hs:=by
 obtain ⟨h1,h2⟩:=rr_ok h hl;refine ⟨by show (AH++rs.map rrH).length≤_;simp [AH];omega,fun x hx => ?_,?_⟩
 · rcases List.mem_append.1 hx with hx|hx
   · exact (show ∀ x∈AH,x.1.size≤4000000∧x.2.size≤4000000 by decide +kernel) x hx
   · exact h1 x hx
 · show ((AH++rs.map rrH).map fun h=>h.2.size+1).sum≤_
   rw [List.map_append,List.sum_append]
   have:(AH.map fun h=>h.2.size+1).sum≤1000:=by decide +kernel
   omega

theorem zzu {l:List Int} (h:By l):((strOfNums l).toList == [73,78,86,73,84,69])=(l == INVT):=by
 have:=zcs h [73,78,86,73,84,69];rw [show bl [73,78,86,73,84,69]=INVT from rfl] at this;rw [this,Bool.eq_iff_iff,beq_iff_eq,beq_iff_eq];exact eq_comm
theorem yab {q r:Msg} (h:valH q.hs za0=none):zd5 q r=false:=by
 unfold zd5;rw [h]
 split
 · rfl
 · rfl
theorem yaa {q r:Msg} (h:valH r.hs za0=none):zd5 q r=false:=by
 unfold zd5;rw [h]
 split
 · rfl
 · split
   · rename_i h2;cases h2
   · rfl
theorem zz9 {q r:Msg} {a b:List Int} (h:valH q.hs za0=some a) (h2:valH r.hs za0=some b) (hn:a≠b):zd5 q r=false:=by
 unfold zd5;rw [h,h2]
 split
 · rfl
 · dsimp only;rw [if_pos hn]
theorem zz8 {q r:Msg} (h:(zan q.hs).2.2=false∨(zan r.hs).2.2=false∨(zan q.hs).1≠(zan r.hs).1∨(zan q.hs).2.1≠(zan r.hs).2.1):zd5 q r=false:=by
 unfold zd5
 split
 · rfl
 · split
   · split
     · rfl
     · first|rfl|rw [if_pos h]
   · rfl
theorem zz7 {q r:Msg} {a b:List Int} (h0:¬ (q.co≠0∨q.me≠INVT∨r.co<101∨299<r.co)) (h:valH q.hs za0=some a) (h2:valH r.hs za0=some b) (hn:a=b)
  (h4:¬ ((zan q.hs).2.2=false∨(zan r.hs).2.2=false∨(zan q.hs).1≠(zan r.hs).1∨(zan q.hs).2.1≠(zan r.hs).2.1)):zd5 q r=(!(zby q.hs FROMN).isEmpty && !(zby r.hs TON).isEmpty):=by
 unfold zd5;rw [if_neg h0,h,h2];dsimp only;rw [if_neg (by simp [hn]),if_neg h4]
theorem zm7 (l:List Hd):By (zan l).2.1:=by
 unfold zan zlc
 cases h:zlb (val0 l zdl) with
 | error k=>exact fun x hx=>by cases hx
 | ok p =>
   unfold zlb at h;dsimp only at h
   split at h
   · cases h
   · split at h
     · cases h
     · injection h with h
       subst h;exact ((zhr l zdl).sub (zcn _)).sub (List.drop_sublist _ _)
set_option maxHeartbeats 8000000 in
theorem zz5 (q r:Msg) (A1 B1 A2 B2:Option Addr) (c1 n1 d1 c2 n2 d2:Nat) (w:World) (HQ:MArg w q A1) (HR:MArg w r A2) (G:GW w) (QB:By q.me) :
  Calls Tryz.prog 92 #[.agg #[.string (strOfNums q.me),.string (strOfNums q.ur),.int .i64 q.co,.string (strOfNums q.re),.slice A1 q.hs.length c1,.slice B1 n1 d1,.string (strOfNums r.me),.string (strOfNums r.ur),.int .i64 r.co,.string (strOfNums r.re),.slice A2 r.hs.length c2,.slice B2 n2 d2]] w fun e w'=>e = .returned (.bool (zd5 q r))∧Below w.heap.size w w':=by
 have R1:=kd (Row.new w 93 (bC q r A1 B1 A2 B2 c1 n1 d1 c2 n2 d2));have K0:=kd ((Below.refl w.heap.size w).alloc zNr (.cells (bC q r A1 B1 A2 B2 c1 n1 d1 c2 n2 d2).toArray 93))
 have GQ:=kd (fun w' (hb:Below w.heap.size w w')=>zeg q A1 B1 c1 n1 d1 ⟨#[67,97,108,108,45,73,68]⟩ w' (HQ.step hb) (by decide) (G.below hb).s)
 have GR:=kd (fun w' (hb:Below w.heap.size w w')=>zeg r A2 B2 c2 n2 d2 ⟨#[67,97,108,108,45,73,68]⟩ w' (HR.step hb) (by decide) (G.below hb).s);rw [show zaa ⟨#[67,97,108,108,45,73,68]⟩=za0 by rfl] at GQ GR
 have SQ:=kd (fun w' (hb:Below w.heap.size w w')=>zej q A1 B1 c1 n1 d1 w' (HQ.step hb) (G.below hb));have SR:=kd (fun w' (hb:Below w.heap.size w w')=>zej r A2 B2 c2 n2 d2 w' (HR.step hb) (G.below hb))
 have TQ:=kd (fun w' (hb:Below w.heap.size w w')=>zfi q r A1 B1 A2 B2 c1 n1 d1 c2 n2 d2 w' (HQ.step hb) (HR.step hb) (G.below hb));have TR:=kd (fun w' (hb:Below w.heap.size w w')=>zfj q r A1 B1 A2 B2 c1 n1 d1 c2 n2 d2 w' (HQ.step hb) (HR.step hb) (G.below hb));have ME:=kd (zzu QB)
 have E1:=kd (fun h=>zz6 (q:=q) (r:=r) h);have E2:=kd (fun h=>yab (q:=q) (r:=r) h);have E3:=kd (fun h=>yaa (q:=q) (r:=r) h);have E4:=kd (fun a b h h2 hn=>zz9 (q:=q) (r:=r) (a:=a) (b:=b) h h2 hn);have E5:=kd (fun h=>zz8 (q:=q) (r:=r) h)
 have E6:=kd (fun a b h0 h h2 hn h4=>zz7 (q:=q) (r:=r) (a:=a) (b:=b) h0 h h2 hn h4);have VQ:=kd (fun a (h:valH q.hs za0=some a)=>show val0 q.hs za0=a∧By a from ⟨by unfold val0;rw [h];rfl,zme h⟩)
 have VR:=kd (fun a (h:valH r.hs za0=some a)=>show val0 r.hs za0=a∧By a from ⟨by unfold val0;rw [h];rfl,zme h⟩);have CQB:=kd (zm7 q.hs);have CRB:=kd (zm7 r.hs);have XQ:=kd (zb1 (zby q.hs FROMN));have XR:=kd (zb1 (zby r.hs TON))
 have FIN:=kd (fun (b:Bool) w' (hb:Below w.heap.size w w') (h:zd5 q r=b)=>show (fun (e:Ending) (w':World)=>e = .returned (.bool (zd5 q r))∧Below w.heap.size w w') (.returned (.bool b)) w' from ⟨by rw [h],hb⟩)
 generalize (fun (e:Ending) (w':World)=>e = .returned (.bool (zd5 q r))∧Below w.heap.size w w')=PP at *;generalize zd5 q r=R at *;generalize zby q.hs FROMN=tq at *;generalize zby r.hs TON=tr at *;generalize zan q.hs=sq at *;generalize zan r.hs=sr at *
 generalize val0 q.hs za0=zq at *;generalize val0 r.hs za0=zr at *;generalize valH q.hs za0=vq at *;generalize valH r.hs za0=vr at *;obtain ⟨sq1,sq2,sq3⟩:=sq;obtain ⟨sr1,sr2,sr3⟩:=sr;dsimp only at *;unfold mS at GQ GR SQ SR;unfold bC at R1 K0;clear HQ HR G QB
 go_enter Tryz.func92,Tryz.ntmps92
 go_upto_region 1 with (fail)
 generalize w.alloc (.cells #[.string (strOfNums q.me),.string (strOfNums q.ur),.int .i64 q.co,.string (strOfNums q.re),.slice A1 q.hs.length c1,.slice B1 n1 d1,.string (strOfNums r.me),.string (strOfNums r.ur),.int .i64 r.co,.string (strOfNums r.re),.slice A2 r.hs.length c2,.slice B2 n2 d2] 93)=w1 at *
 obtain ⟨g,hg⟩:∃ b,w.heap.size=b:=⟨_,rfl⟩;rw [hg] at R1 ⊢;clear hg;have f0:w1.cell? ⟨g,0,none⟩=some (.string (strOfNums q.me)):=R1.out.cell 0;have f2:w1.cell? ⟨g,2,none⟩=some (.int .i64 q.co):=R1.out.cell 2
 have f8:w1.cell? ⟨g,8,none⟩=some (.int .i64 r.co):=R1.out.cell 8
 by_cases h1:q.co=0
 case neg =>
  have p1:(q.co != 0)=true:=by simpa using h1
  have N:=kd (E1.out (.inl h1));go_wp2_with fail
  first|exact FIN.out _ _ K0.out (N.out)|(go_ret;exact FIN.out _ _ K0.out (N.out))
 have p1:(q.co != 0)=false:=by simpa using h1
 have H1:=kd h1;clear h1
 by_cases h2:q.me=INVT
 case neg =>
  have p2:((strOfNums q.me).toList == [73,78,86,73,84,69])=false:=ME.out.trans (by simpa using h2)
  have p2':((strOfNums q.me).toList != [73,78,86,73,84,69])=true:=by rw [bne,p2];rfl
  have N:=kd (E1.out (.inr (.inl h2)));go_wp2_with fail
  first|exact FIN.out _ _ K0.out (N.out)|(go_ret;exact FIN.out _ _ K0.out (N.out))
 have p2:((strOfNums q.me).toList == [73,78,86,73,84,69])=true:=ME.out.trans (by simpa using h2)
 have p2':((strOfNums q.me).toList != [73,78,86,73,84,69])=false:=by rw [bne,p2];rfl
 have H2:=kd h2;clear h2
 by_cases h3:r.co<101
 case pos =>
  have p3:decide (r.co<101)=true:=by simpa using h3
  have N:=kd (E1.out (.inr (.inr (.inl h3))));go_wp2_with fail
  first|exact FIN.out _ _ K0.out (N.out)|(go_ret;exact FIN.out _ _ K0.out (N.out))
 have p3:decide (r.co<101)=false:=by simpa using h3
 by_cases h4:299<r.co
 case pos =>
  have p4:decide ((299:Int)<r.co)=true:=by simpa using h4
  have N:=kd (E1.out (.inr (.inr (.inr h4))));go_wp2_with fail
  first|exact FIN.out _ _ K0.out (N.out)|(go_ret;exact FIN.out _ _ K0.out (N.out))
 have p4:decide ((299:Int)<r.co)=false:=by simpa using h4
 have C0:=kd (show ¬ (q.co≠0∨q.me≠INVT∨r.co<101∨299<r.co) by
  rintro (h|h|h|h)
  · exact h H1.out
  · exact h H2.out
  · exact h3 h
  · exact h4 h)
 clear E1;have M0:=kd (znd R1.out);go_upto_region 3 with (fail);clear f0 f2 f8 p1 p2 p2' p3 p4 H1 H2 h3 h4 ME;go_wp2_with (with_reducible refine wpList_load_mid rfl 31 (.tmp 34) rfl g 0 rfl (mV q A1 c1 B1 n1 d1) _ M0.out Tryz.underlying31 rfl zaw ?_);refine (GQ.out _ K0.out).mono ?_
 rintro _ w2 ⟨rfl,hb2⟩;have K2:=kd (zao K0.out hb2);have R2:=kd (R1.out.below hb2);have M2:=kd (yer R2.out);clear hb2 GQ R1 K0 M0;go_wp2_with (with_reducible refine wpList_load_mid rfl 31 (.tmp 40) rfl g 6 rfl (mV r A2 c2 B2 n2 d2) _ M2.out Tryz.underlying31 rfl zaw ?_)
 refine (GR.out _ K2.out).mono ?_;rintro _ w3 ⟨rfl,hb3⟩;have K3:=kd (zao K2.out hb3);have R3:=kd (R2.out.below hb3);clear hb3 GR R2 K2 M2
 cases vq with
 | none =>
   have N:=kd (E2.out rfl);clear E2 E3 E4 E5 E6 VQ VR;go_wp2_with fail
   first|exact FIN.out _ _ K3.out (N.out)|(go_ret;exact FIN.out _ _ K3.out (N.out))
 | some a =>
 cases vr with
 | none =>
   have N:=kd (E3.out rfl);clear E2 E3 E4 E5 E6 VQ VR;go_wp2_with fail
   first|exact FIN.out _ _ K3.out (N.out)|(go_ret;exact FIN.out _ _ K3.out (N.out))
 | some b =>
 obtain ⟨rfl,ab⟩:=VQ.out a rfl;obtain ⟨rfl,bb⟩:=VR.out b rfl;have AB:=zb7 ab bb;clear E2 E3 VQ VR
 by_cases h5:zq=zr
 case neg =>
  have p5:((strOfNums zq).toList == (strOfNums zr).toList)=false:=AB.trans (by simpa using h5)
  have p5':((strOfNums zq).toList != (strOfNums zr).toList)=true:=by rw [bne,p5];rfl
  have N:=kd (E4.out _ _ rfl rfl h5);clear E4 E5 E6 AB ab bb;go_wp2_with fail
  first|exact FIN.out _ _ K3.out (N.out)|(go_ret;exact FIN.out _ _ K3.out (N.out))
 have p5:((strOfNums zq).toList == (strOfNums zr).toList)=true:=AB.trans (by simpa using h5)
 have p5':((strOfNums zq).toList != (strOfNums zr).toList)=false:=by rw [bne,p5];rfl
 have E7:=kd (E6.out _ _ C0.out rfl rfl h5);have M3:=kd (znd R3.out);clear E4 E6 AB ab bb C0 h5;go_upto_region 7 with (fail);clear p5 p5';go_wp2_with (with_reducible refine wpList_load_mid rfl 31 (.tmp 57) rfl g 0 rfl (mV q A1 c1 B1 n1 d1) _ M3.out Tryz.underlying31 rfl zaw ?_)
 refine (SQ.out _ K3.out).mono ?_;rintro _ w4 ⟨rfl,hb4⟩;have K4:=kd (zao K3.out hb4);have R4:=kd (R3.out.below hb4);have M4:=kd (yer R4.out);clear hb4 SQ R3 K3 M3
 go_wp2_with (with_reducible refine wpList_load_mid rfl 31 (.tmp 64) rfl g 6 rfl (mV r A2 c2 B2 n2 d2) _ M4.out Tryz.underlying31 rfl zaw ?_);refine (SR.out _ K4.out).mono ?_;rintro _ w5 ⟨rfl,hb5⟩;have K5:=kd (zao K4.out hb5);have R5:=kd (R4.out.below hb5);clear hb5 SR R4 K4 M4
 cases sq3 with
 | false =>
   have N:=kd (E5.out (.inl rfl));clear E5 E7;go_wp2_with fail
   first|exact FIN.out _ _ K5.out (N.out)|(go_ret;exact FIN.out _ _ K5.out (N.out))
 | true =>
 cases sr3 with
 | false =>
   have N:=kd (E5.out (.inr (.inl rfl)));clear E5 E7;go_wp2_with fail
   first|exact FIN.out _ _ K5.out (N.out)|(go_ret;exact FIN.out _ _ K5.out (N.out))
 | true =>
 by_cases h6:sq1=sr1
 case neg =>
  have p6:(sq1 != sr1)=true:=by simpa using h6
  have N:=kd (E5.out (.inr (.inr (.inl h6))));clear E5 E7;go_wp2_with fail
  first|exact FIN.out _ _ K5.out (N.out)|(go_ret;exact FIN.out _ _ K5.out (N.out))
 have p6:(sq1 != sr1)=false:=by simpa using h6
 have H6:=kd h6;clear h6;have CB:=zb7 CQB.out CRB.out
 by_cases h7:sq2=sr2
 case neg =>
  have p7:((strOfNums sq2).toList == (strOfNums sr2).toList)=false:=CB.trans (by simpa using h7)
  have p7':((strOfNums sq2).toList != (strOfNums sr2).toList)=true:=by rw [bne,p7];rfl
  have N:=kd (E5.out (.inr (.inr (.inr h7))));clear E5 E7 CB;go_wp2_with fail
  first|exact FIN.out _ _ K5.out (N.out)|(go_ret;exact FIN.out _ _ K5.out (N.out))
 have p7:((strOfNums sq2).toList == (strOfNums sr2).toList)=true:=CB.trans (by simpa using h7)
 have p7':((strOfNums sq2).toList != (strOfNums sr2).toList)=false:=by rw [bne,p7];rfl
 have E8:=kd (E7.out (by
  rintro (h|h|h|h)
  · cases h
  · cases h
  · exact h H6.out
  · exact h h7))
 clear E5 E7 CB H6 h7;go_upto_region 11 with (fail);clear p6 p7 p7';go_wp2_with (with_reducible refine zab rfl 93 (.tmp 1) rfl R5.out rfl Tryz.underlying93 rfl zcy ?_);refine (TQ.out _ K5.out).mono ?_;rintro _ w6 ⟨rfl,hb6⟩;have K6:=kd (zao K5.out hb6);have R6:=kd (R5.out.below hb6)
 clear hb6 TQ R5 K5
 cases htq:tq.isEmpty with
 | true =>
   have p8:((strOfNums tq).toList == [])=true:=XQ.out.trans htq
   have p8':((strOfNums tq).toList != [])=false:=by rw [bne,p8];rfl
   have N:=kd (show R=false by rw [E8.out,htq];rfl);clear E8 XQ XR htq;go_wp2_with fail
   first|exact FIN.out _ _ K6.out (N.out)|(go_ret;exact FIN.out _ _ K6.out (N.out))
 | false =>
   have p8:((strOfNums tq).toList == [])=false:=XQ.out.trans htq
   have p8':((strOfNums tq).toList != [])=true:=by rw [bne,p8];rfl
   have N:=kd (show R = !tr.isEmpty by rw [E8.out,htq];rfl);clear E8 XQ htq;have e0:=R6.out.cell 0;have e1:=R6.out.cell 1;have e2:=R6.out.cell 2;have e3:=R6.out.cell 3;have e4:=R6.out.cell 4;have e5:=R6.out.cell 5;have e6:=R6.out.cell 6;have e7:=R6.out.cell 7
   have e8:=R6.out.cell 8;have e9:=R6.out.cell 9;have e10:=R6.out.cell 10;have e11:=R6.out.cell 11;simp only [List.getElem?_cons_succ,List.getElem?_cons_zero] at e0 e1 e2 e3 e4 e5 e6 e7 e8 e9 e10 e11;go_wp2_with fail;refine (TR.out _ K6.out).mono ?_;rintro _ w7 ⟨rfl,hb7⟩
   have K7:=kd (zao K6.out hb7);clear hb7 TR R6 K6 e0 e1 e2 e3 e4 e5 e6 e7 e8 e9 e10 e11;have p9:((strOfNums tr).toList == [])=tr.isEmpty:=XR.out
   have p9':((strOfNums tr).toList != []) = !tr.isEmpty:=by rw [bne,p9]
   clear XR;generalize tr.isEmpty=bt at *;go_wp2_with fail
   first|exact FIN.out _ _ K7.out (N.out)|(go_ret;exact FIN.out _ _ K7.out (N.out))
end Go.Proofs.YtfnmkedncfdceaaGreatDoor
