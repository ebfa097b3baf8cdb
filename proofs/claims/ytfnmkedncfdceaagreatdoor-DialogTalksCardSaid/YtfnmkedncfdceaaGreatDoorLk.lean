/- Plain: address texts read. And what stands behind it. -/
import Derived.Test.YtfnmkedncfdceaaGreatDoorBb
set_option linter.unusedVariables false
set_option linter.unusedSimpArgs false
namespace Go.Proofs.YtfnmkedncfdceaaGreatDoor
open Go.RowKit

def zaj (xs:List Int) (a:Nat) (stops:List Int):Nat:=zag (fun c => !stops.contains c) xs a
structure Uri where
 sc:List Int
 us:List Int
 ho:List Int
 po:Int
 ps:List Pm
 hs:List Pm
def atL (xs:List Int) (a:Nat) (c:Int):Bool:=decide (a<xs.length) && xs.getD a 0 == c
def zk6 (xs:List Int) (a:Nat):Except (Nat × Int) (List Int × Nat):=
 let k:=zaj xs a [64]
 if xs.length≤k then .ok ([],a) else
 match zck (xs.take k) 0 a with
 | some i => .error (i,if xs.getD i 0=58 then 15 else 5)
 | none=>if k=a then .error (k,5) else .ok (zb2 (subL xs a k),k+1)
def zci (xs:List Int) (a:Nat):Nat:=if atL xs a 91=true then min (zaj xs a [93]+1) xs.length else zaj xs a [58,59,63]
def zh8 (xs:List Int) (a:Nat):Except (Nat × Int) (Int × Nat):=
 if atL xs a 58=true then
  let k:=zaj xs (a+1) [59,63]
  let p:=zcd (subL xs (a+1) k)
  if p.2≠0 then .error (a+1,p.2) else if p.1<1∨65535<p.1 then .error (a+1,3) else .ok (p.1,k)
 else if a<xs.length∧atL xs a 59=false∧atL xs a 63=false then .error (a,5)
 else .ok (0,a)
def zew (xs:List Int) (a:Nat):Except (Nat × Int) (List Int × List Int × Int × Nat):=
 match zk6 xs a with
 | .error e => .error e
 | .ok (u,b) =>
   match zb3 (subL xs b (zci xs b)) with
   | none => .error (b,5)
   | some h =>
     match zh8 xs (zci xs b) with
     | .error e => .error e
     | .ok (p,c) => .ok (u,h,p,c)
def telC (sg:Bool) (c:Int):Bool:=zbc c || (!sg && (c == 42 || c == 35))
def telS (c:Int):Bool:=c == 45 || (c == 46 || (c == 40 || c == 41))
def telN (xs:List Int) (sg:Bool):Nat→Nat→List Int→Except Nat (List Int)
 | 0,_,acc => .ok acc
 | f+1,i,acc =>
   if xs.length≤i then .ok acc
   else if telC sg (xs.getD i 0)=true then telN xs sg f (i+1) (acc++[xs.getD i 0])
   else if telS (xs.getD i 0)=true then telN xs sg f (i+1) acc
   else .error i
def zd8 (xs:List Int) (a:Nat):Except (Nat × Int) (List Int × Nat):=
 let k:=zaj xs a [59]
 let sg:=atL xs a 43
 let b:=if sg=true then a+1 else a
 match telN (xs.take k) sg (xs.length+1) b [] with
 | .error i => .error (i,5)
 | .ok d=>if d=[] then .error (a,5) else if 30<d.length then .error (a,4) else .ok ((if sg=true then [43] else [])++d,k)
def eqAt (xs:List Int) (a e:Nat):Nat:=a+((subL xs a e).takeWhile (· != 61)).length
def zcg (xs:List Int) (l:List Pm) (a e:Nat) (k:Int):Except (Nat × Int) (List Pm):=
 let b:=eqAt xs a e
 match zck (xs.take b) k a with
 | some i => .error (i,5)
 | none =>
   if b=a then .error (a,5) else
   let nm:=lowS (zb2 (subL xs a b))
   if b<e then
    match zck (xs.take e) k (b+1) with
    | some i => .error (i,5)
    | none =>
      if b+1=e∧k=1 then .error (e,5)
      else if zbz l nm≠0 then .error (a,zbz l nm)
      else .ok (l++[⟨nm,zb2 (subL xs (b+1) e),true⟩])
   else if k=2 then .error (e,5)
   else if zbz l nm≠0 then .error (a,zbz l nm)
   else .ok (l++[⟨nm,[],false⟩])
def psN (xs:List Int) (stops:List Int):Nat→Nat→List Pm→Except (Nat × Int) (List Pm × Nat)
 | 0,a,l => .ok (l,a)
 | f+1,a,l =>
   if atL xs a 59=false then .ok (l,a)
   else match zcg xs l (a+1) (zaj xs (a+1) stops) 1 with
    | .error e => .error e
    | .ok m=>psN xs stops f (zaj xs (a+1) stops) m
def hsN (xs:List Int):Nat→Nat→List Pm→Except (Nat × Int) (List Pm)
 | 0,_,l => .ok l
 | f+1,a,l =>
   if xs.length≤a then .ok l
   else match zcg xs l (a+1) (zaj xs (a+1) [38]) 2 with
    | .error e => .error e
    | .ok m=>hsN xs f (zaj xs (a+1) [38]) m
def ltL:List Int→List Int→Bool
 | [],[]=>false
 | [],_::_=>true
 | _::_,[]=>false
 | a::x,b::y=>if a<b then true else if b<a then false else ltL x y
def zgg (p:Pm):List Pm→List Pm
 | []=>[p]
 | q::r=>if ltL p.n q.n=true then p::q::r else q::zgg p r
def zbb (l:List Pm):List Pm:=l.foldl (fun acc p=>zgg p acc) []
def SIPT:List Int:=[115,105,112]
def zes:List Int:=[115,105,112,115]
def TELT:List Int:=[116,101,108]
def zhz (xs:List Int) (stops:List Int) (sc us ho:List Int) (po:Int) (a:Nat):Except (Nat × Int) Uri:=
 match psN xs stops (xs.length+1) a [] with
 | .error e => .error e
 | .ok (ps,b) =>
   match hsN xs (xs.length+1) b [] with
   | .error e => .error e
   | .ok hs => .ok ⟨sc,us,ho,po,zbb ps,zbb hs⟩
def uriL (xs:List Int):Except (Nat × Int) Uri:=
 if 1024<xs.length then .error (1024,4) else
 let k:=zaj xs 0 [58]
 if xs.length≤k then .error (xs.length,5) else
 let sc:=lowS (xs.take k)
 if sc=SIPT∨sc=zes then
  match zew xs (k+1) with
  | .error e => .error e
  | .ok (u,h,p,a)=>zhz xs [59,63] sc u h p a
 else if sc=TELT then
  match zd8 xs (k+1) with
  | .error e => .error e
  | .ok (u,a)=>zhz xs [59] sc u [] 0 a
 else .error (0,15)

def zij (k:Int):List Pm→List Pm→Option (List Pm)
 | [],n=>some n
 | p::r,n =>
   if lowS p.n=[]∨zc7 (lowS p.n)=false∨zc7 p.v=false∨zdn n (lowS p.n)=true then none
   else if (k=2∧p.h=false)∨(k=1∧p.h ≠ !p.v.isEmpty) then none
   else zij k r (n++[⟨lowS p.n,p.v,p.h⟩])
def zeh (l:List Pm) (k:Int):Option (List Pm):=if 16<l.length then none else (zij k l []).map zbb
def zep (s:List Int):Bool:=
 let sg:=decide (s.head? = some 43)
 let d:=if sg=true then s.drop 1 else s
 (decide (d≠[]) && decide (d.length≤30)) && d.all (telC sg)
def zdx (u:Uri):Option Uri:=
 let sc:=lowS u.sc
 match zeh u.ps 1,zeh u.hs 2 with
 | some ps,some hs =>
   if sc=SIPT∨sc=zes then
    match zb3 u.ho with
    | some h=>if 0≤u.po∧u.po≤65535∧zc7 u.us=true then some ⟨sc,u.us,h,u.po,ps,hs⟩ else none
    | none=>none
   else if sc=TELT then (if u.ho=[]∧u.po=0∧u.hs=[]∧zep u.us=true then some ⟨sc,u.us,[],0,ps,hs⟩ else none)
   else none
 | _,_=>none
def pmT (p:Pm):List Int:=[59]++escT 1 p.n++(if p.h=true then [61]++escT 1 p.v else [])
def hdT (p:Pm):List Int:=escT 2 p.n++[61]++escT 2 p.v
def hdsT:List Pm→Bool→List Int
 | [],_=>[]
 | p::r,first=>(if first=true then [63] else [38])++hdT p++hdsT r false
def zls (u:Uri):List Int:=
 u.sc++[58]++(if u.sc=TELT then u.us else if u.us=[] then [] else escT 0 u.us++[64])++u.ho++(if u.po=0 then [] else [58]++decL u.po)++u.ps.flatMap pmT++hdsT u.hs true
def zfv (u:Uri):Option (List Int):=(zdx u).map zls
def zd3 (xs:List Int) (a:Nat):Except (Nat × Int) (Pm × Nat):=
 let e1:=zag zbp xs a
 if e1=a then .error (e1,5) else
 let nm:=lowS (subL xs a e1)
 let a1:=zag isBlank xs e1
 if atL xs a1 61=false then .ok (⟨nm,[],false⟩,a1) else
 let a2:=zag isBlank xs (a1+1)
 if atL xs a2 34=true then (if (unq xs (a2:Nat)).2.2≠0 then .error ((unq xs (a2:Nat)).2.1,(unq xs (a2:Nat)).2.2) else .ok (⟨nm,(unq xs (a2:Nat)).1,true⟩,(unq xs (a2:Nat)).2.1))
 else if atL xs a2 91=true then
  match zb3 (subL xs a2 (min (zaj xs a2 [93]+1) xs.length)) with
  | none => .error (a2,5)
  | some h => .ok (⟨nm,h,true⟩,zaj xs a2 [93]+1)
 else
  let e3:=zag zbp xs a2
  if e3=a2 then .error (a2,5) else .ok (⟨nm,subL xs a2 e3,true⟩,e3)
def zfw (xs:List Int):Nat→Nat→List Pm→Except (Nat × Int) (List Pm)
 | 0,_,l => .ok l
 | f+1,a,l =>
   let a0:=zag isBlank xs a
   if xs.length≤a0 then .ok l else
   if xs.getD a0 0≠59 then .error (a0,5) else
   let a1:=zag isBlank xs (a0+1)
   match zd3 xs a1 with
   | .error e => .error e
   | .ok (p,a2)=>if zbz l p.n≠0 then .error (a1,zbz l p.n) else zfw xs f a2 (l++[p])
def zeo (xs:List Int):Except (Nat × Int) (List Pm):=zfw xs (xs.length+1) 0 []
structure Adr where
 ds:List Int
 u:Uri
 ps:List Pm
def zdt (xs:List Int):Nat→Nat→List (List Int)→Except Nat (List (List Int) × Nat)
 | 0,a,l => .ok (l,a)
 | f+1,a,l =>
   if atL xs a 60=true then .ok (l,a)
   else
    let e:=zag zbp xs a
    if e=a then .error a else zdt xs f (zag isBlank xs e) (l++[subL xs a e])
def zod (xs:List Int):Except (Nat × Int) (List Int × Nat):=
 let a:=zag isBlank xs 0
 if atL xs a 34=true then
  (if (unq xs (a:Nat)).2.2≠0 then .error ((unq xs (a:Nat)).2.1,(unq xs (a:Nat)).2.2)
   else let b:=zag isBlank xs (unq xs (a:Nat)).2.1
    if atL xs b 60=false then .error (b,5) else .ok ((unq xs (a:Nat)).1,b))
 else if xs.contains 60=true then
  match zdt xs (xs.length+1) a [] with
  | .error e => .error (e,5)
  | .ok (l,b) => .ok (zbj [32] l,b)
 else .ok ([],a)
def aimL (xs:List Int) (a:Nat):Except (Nat × Int) (Uri × Nat):=
 if atL xs a 60=true then
  let e:=zaj xs (a+1) [62]
  if e=xs.length then .error (e,5) else
  match uriL (subL xs (a+1) e) with
  | .error (i,k) => .error (a+1+i,k)
  | .ok u => .ok (u,e+1)
 else
  let e:=zaj xs a [59,32,9]
  let q:=zaj xs a [63,44]
  if q<e then .error (q,5) else
  match uriL (subL xs a e) with
  | .error (i,k) => .error (a+i,k)
  | .ok u => .ok (u,e)
def adrL (xs:List Int):Except (Nat × Int) Adr:=
 if 1024<xs.length then .error (1024,4) else
 match zod xs with
 | .error e => .error e
 | .ok (d,a) =>
   match aimL xs a with
   | .error e => .error e
   | .ok (u,b) =>
     match zeo (xs.drop b) with
     | .error (i,k) => .error (b+i,k)
     | .ok l => .ok ⟨d,u,l⟩

def TAGN:List Int:=[116,97,103]
def za0:List Int:=[67,97,108,108,45,73,68]
def zdl:List Int:=[67,83,101,113]
def FROMN:List Int:=[70,114,111,109]
def TON:List Int:=[84,111]
def zur:List Int:=[67,111,110,116,97,99,116]
def zd1:List Int:=[82,101,99,111,114,100,45,82,111,117,116,101]
def INVT:List Int:=[73,78,86,73,84,69]
def tagL (v:List Int):List Int:=match adrL (zca v) with
 | .ok a=>(zd4 a.ps TAGN).getD []
 | .error _=>[]
def uriT (v:List Int):Except Int (List Int):=match adrL (zca v) with
 | .error e => .error e.2
 | .ok a=>match zfv a.u with
   | none => .error 2
   | some t => .ok t
def uri2 (v:List Int):List Int × Bool:=match uriT v with
 | .ok t=>(t,true)
 | .error _=>([],false)
def zgf (s:List Int):Int × List Int × Int:=
 let e:=zaj s 0 [32,9]
 ((zcd (s.take e)).1,s.drop (zag isBlank s e),(zcd (s.take e)).2)
def zlb (v:List Int):Except Int (Int × List Int):=
 let r:=zgf (zca v)
 if r.2.2≠0 then .error r.2.2 else if zc5 r.2.1=false then .error 5 else .ok (r.1,r.2.1)
def zlc (v:List Int):Int × List Int × Bool:=match zlb v with
 | .ok (n,m)=>(n,m,true)
 | .error _=>(0,[],false)
abbrev Hd:=ByteArray × ByteArray
def valH (l:List Hd) (nm:List Int):Option (List Int):=(getH l nm).map fun k=>zaa (l.getD k (⟨#[]⟩,⟨#[]⟩)).2
def val0 (l:List Hd) (nm:List Int):List Int:=(valH l nm).getD []
def zby (l:List Hd) (nm:List Int):List Int:=tagL (val0 l nm)
def zdd (l:List Hd) (nm:List Int):List Int × Bool:=uri2 (val0 l nm)
def zba (l:List Hd):List Int × Bool:=match allH l zur with
 | []=>([],false)
 | v::_=>uri2 v
def zem:List (List Int)→List (List Int)→Option (List (List Int))
 | [],acc=>some acc
 | v::r,acc=>match uriT v with
   | .error _=>none
   | .ok t=>zem r (acc++[t])
def zbn (l:List Hd):Option (List (List Int)):=zem (allH l zd1) []
def zan (l:List Hd):Int × List Int × Bool:=zlc (val0 l zdl)
structure Msg where
 me:List Int
 ur:List Int
 co:Int
 re:List Int
 hs:List Hd
structure Dlg where
 st:Int
 cl:Bool
 ci:List Int
 lt:List Int
 rt:List Int
 lu:List Int
 ru:List Int
 tg:List Int
 rs:List (List Int)
 ls:Int
 rq:Int
 iq:Int
def zd5 (q r:Msg):Bool:=
 if q.co≠0∨q.me≠INVT∨r.co<101∨299<r.co then false else
 match valH q.hs za0,valH r.hs za0 with
 | some a,some b =>
   if a≠b then false else
   if (zan q.hs).2.2=false∨(zan r.hs).2.2=false∨(zan q.hs).1≠(zan r.hs).1∨(zan q.hs).2.1≠(zan r.hs).2.1 then false else
   !(zby q.hs FROMN).isEmpty && !(zby r.hs TON).isEmpty
 | _,_=>false
def zdb (q r:Msg) (client:Bool):Dlg × Bool:=
 let a:=zby q.hs FROMN
 let b:=zby r.hs TON
 let u:=zdd q.hs FROMN
 let v:=zdd q.hs TON
 (⟨if r.co<200 then 1 else 2,client,val0 q.hs za0,if client=true then a else b,if client=true then b else a,if client=true then u.1 else v.1,if client=true then v.1 else u.1,[],[],0,0,0⟩,u.2 && v.2)
def zbt (q r:Msg) (client:Bool) (s:List Hd):Except Int Dlg:=
 match zbn s with
 | none => .error 2
 | some l =>
   if zd5 q r=false∨(zdb q r client).2=false∨(zba s).2=false then .error 2
   else if 16<l.length then .error 4
   else .ok { (zdb q r client).1 with tg:=(zba s).1,rs:=l }
def zdh (q r:Msg):Except Int Dlg:=match zbt q r false q.hs with
 | .error k => .error k
 | .ok d => .ok { d with rq:=(zan q.hs).1 }
def zc6 (q r:Msg):Except Int Dlg:=match zbt q r true r.hs with
 | .error k => .error k
 | .ok d => .ok { d with rs:=d.rs.reverse,ls:=(zan q.hs).1,iq:=(zan q.hs).1 }

def SIPV:List Int:=[83,73,80,47,50,46,48,47]
def upS (s:List Int):List Int:=s.map upC
def zmx (s:List Int) (c:Int):Option Nat:=(s.reverse.findIdx? (· == c)).map fun k=>s.length - 1 - k
def cutPort (s:List Int):List Int × List Int × Bool:=match zmx s 58 with
 | none=>(s,[],false)
 | some k=>if (s.take k).contains 91=true∧(s.drop k).contains 93=true then (s,[],false) else (s.take k,s.drop (k+1),true)
structure ViaR where
 tr:List Int
 ho:List Int
 po:Int
 br:List Int
 ps:List Pm
def BRN:List Int:=[98,114,97,110,99,104]
def zd2 (p:List Int × List Int × Bool):Except Int Int:=
 if p.2.2=true then
  let d:=zcd p.2.1
  if d.2≠0 then .error d.2 else if d.1<1∨65535<d.1 then .error 3 else .ok d.1
 else .ok 0
def viaL (v0:List Int):Except Int ViaR:=
 let v:=zca v0
 if v.length<8∨upS (v.take 8)≠SIPV then .error 5 else
 let e:=zag zbp v 8
 let b:=zag isBlank v e
 if e=8∨b=e then .error 5 else
 let place:=v.drop b
 let n:=zaj place 0 [59,32,9]
 let p:=cutPort (place.take n)
 match zb3 p.1 with
 | none => .error 5
 | some h =>
   match zd2 p with
   | .error k => .error k
   | .ok port =>
     match zeo (place.drop n) with
     | .error q => .error q.2
     | .ok ps => .ok ⟨upS (subL v 8 e),h,port,(zd4 ps BRN).getD [],ps⟩
def viaK (v:List Int):Int:=match viaL v with
 | .ok _=>0
 | .error k=>k
def ACKT:List Int:=[65,67,75]
def BYET:List Int:=[66,89,69]
def zho:List Int:=[67,65,78,67,69,76]
def zsn:List Int:=[80,82,65,67,75]
def UPDT:List Int:=[85,80,68,65,84,69]
def zdw (d:Dlg):Bool:=d.st == 1 || d.st == 2
def zfd (n:Int):Bool:=decide (0≤n) && decide (n≤2147483647)
def zc1 (d:Dlg) (m via:List Int):Int:=
 if zfd d.ls=false∨zfd d.iq=false∨m=zho∨zc5 m=false then 2
 else if viaK via≠0 then 2
 else if zdw d=false then 9
 else if d.st=1∧m≠zsn∧m≠UPDT∧¬ (d.cl=true∧m=BYET) then 9
 else if m=ACKT∧d.iq=0 then 9
 else if m≠ACKT∧d.ls=2147483647 then 3
 else 0
def LRN:List Int:=[108,114]
def zka (r:List Int):Bool:=match uriL r with
 | .ok u=>(zd4 u.ps LRN).isSome
 | .error _=>false
def wayL (d:Dlg):List Int × List (List Int):=match d.rs with
 | []=>(d.tg,[])
 | r::rest=>if zka r=true then (d.tg,r::rest) else (r,rest++[d.tg])
def zb0 (u t:List Int):List Int:=if t=[] then 60::(u++[62]) else 60::(u++[62,59,116,97,103,61]++t)
def hdL (n v:List Int):Hd:=(strOfNums n,strOfNums v)
def VIAN:List Int:=[86,105,97]
def MAXF:List Int:=[77,97,120,45,70,111,114,119,97,114,100,115]
def zpk:List Int:=[82,111,117,116,101]
def brak (u:List Int):List Int:=60::(u++[62])
def zpx (d:Dlg) (m via:List Int) (n:Int):List Hd:=
 [hdL VIAN via,hdL MAXF [55,48]]++(wayL d).2.map (fun r=>hdL zpk (brak r)) ++
 [hdL FROMN (zb0 d.lu d.lt),hdL TON (zb0 d.ru d.rt),hdL za0 d.ci,hdL zdl (decL n++32::m)]
def zjy (d:Dlg) (m:List Int):Int:=if m=ACKT then d.iq else d.ls+1
def zvu (d:Dlg) (m:List Int):Dlg:={ d with ls:=if m=ACKT then d.ls else d.ls+1,iq:=if m=INVT then d.ls+1 else d.iq }
def zcb (d:Dlg) (m via:List Int):Except Int (Dlg × Msg):=
 if zc1 d m via≠0 then .error (zc1 d m via) else .ok (zvu d m,⟨m,(wayL d).1,0,[],zpx d m via (zjy d m)⟩)
def za4 (d:Dlg) (m:Msg):Bool:=match valH m.hs za0 with
 | none=>false
 | some i=>if i≠d.ci then false else
   if m.co=0 then zby m.hs FROMN == d.rt && zby m.hs TON == d.lt
   else zby m.hs FROMN == d.lt && zby m.hs TON == d.rt
def zgi (d:Dlg) (l:List Hd):Dlg:=if (zba l).2=true then { d with tg:=(zba l).1 } else d
def zbl (d:Dlg) (m:Msg):Except Int Dlg:=
 let q:=zan m.hs
 if m.co≠0∨q.2.2=false∨q.2.1≠m.me then .error 2
 else if za4 d m=false then .error 8
 else if zdw d=false then .error 9
 else if q.2.1=ACKT∨q.2.1=zho then .ok d
 else if q.1≤d.rq then .error 9
 else
  let d1:={ d with rq:=q.1 }
  if q.2.1=INVT∨q.2.1=UPDT then .ok (zgi d1 m.hs)
  else if q.2.1=BYET then .ok { d1 with st:=3 }
  else .ok d1
def accL (c:Int):Bool:=decide (200≤c) && decide (c≤299)
def zbi (d:Dlg) (m:Msg):Except Int Dlg:=
 let q:=zan m.hs
 if m.co=0∨q.2.2=false then .error 2
 else if za4 d m=false then .error 8
 else if zdw d=false then .error 9
 else
  let d1:=if accL m.co=true∧q.2.1=INVT∧d.st=1 then
   { d with st:=2,rs:=match zbn m.hs with
    | some l=>if l.length≤16 then l.reverse else d.rs
    | none=>d.rs } else d
  let d2:=if accL m.co=true∧(q.2.1=INVT∨q.2.1=UPDT) then zgi d1 m.hs else d1
  if (q.2.1=BYET∧200≤m.co∧m.co≤699)∨m.co=408∨m.co=481 then .ok { d2 with st:=3 } else .ok d2

theorem zi5 (c:Int) (w:World):Calls Tryz.prog 228 #[.int .u8 c] w fun e w'=>e = .returned (.bool (zgv c))∧w=w':=by
 unfold zgv
 cases d1:decide (97≤c)<;>cases d2:decide (c≤122)<;>cases d3:decide (65≤c)<;>cases d4:decide (c≤90)
 all_goals
  go_enter Tryz.func228,Tryz.ntmps228
  go_wp2
  go_ret;exact ⟨rfl,rfl⟩
theorem zer (c:Int) (w:World):Calls Tryz.prog 226 #[.int .u8 c] w fun e w'=>e = .returned (.bool (zbc c))∧w=w':=by
 unfold zbc
 cases d1:decide (48≤c)<;>cases d2:decide (c≤57)
 all_goals
  go_enter Tryz.func226,Tryz.ntmps226
  go_wp2
  go_ret;exact ⟨rfl,rfl⟩
def hexN (c:Int):Int:=if hexV c<0 then 0 else hexV c
def hexB (c:Int):Bool:=decide (0≤hexV c)
theorem zzz {c:Int} (h:zbc c=true):hexV c=c - 48:=by
 unfold zbc at h;simp at h;unfold hexV;rw [if_pos h]
theorem zzy {c:Int} (h1:97≤c) (h2:c≤102):hexV c=c - 87:=by
 unfold hexV;rw [if_neg (by omega),if_pos ⟨h1,h2⟩]
theorem ydx {c:Int} (h1:65≤c) (h2:c≤70):hexV c=c - 55:=by
 unfold hexV;rw [if_neg (by omega),if_neg (by omega),if_pos ⟨h1,h2⟩]
theorem ydy {c:Int} (h0:zbc c=false) (h1:¬ (97≤c∧c≤102)) (h2:¬ (65≤c∧c≤70)):hexV c = -1:=by
 unfold zbc at h0;simp at h0;unfold hexV;rw [if_neg (by omega),if_neg h1,if_neg h2]
theorem zmp {a b:Int} {x y:Bool} (h:a=b) (h2:x=y):Ending.returned (.tuple #[.int .u8 a,.bool x]) = .returned (.tuple #[.int .u8 b,.bool y]):=by rw [h,h2]
set_option maxRecDepth 100000 in
theorem zf1 (c:Int) (w:World) (h0:0≤c) (h1:c<256):Calls Tryz.prog 281 #[.int .u8 c] w fun e w'=>e = .returned (.tuple #[.int .u8 (hexN c),.bool (hexB c)])∧w=w':=by
 have DG:=kd (fun w=>zer c w)
 cases hd:zbc c with
 | true =>
   have E:=kd (zzz hd);have R:=kd hd;unfold zbc at hd;simp at hd;rw [R.out] at DG
   go_enter Tryz.func281,Tryz.ntmps281
   go_wp2_with (go_at_call 226;refine (DG.out _).mono ?_;rintro e w' ⟨rfl,rfl⟩)
   go_ret2
   exact ⟨zmp (by unfold hexN;rw [E.out,if_neg (by omega)]) (by unfold hexB;rw [E.out];simp;omega),rfl⟩
 | false =>
   by_cases ha:97≤c∧c≤102
   · have E:=kd (zzy ha.1 ha.2)
     obtain ⟨a1,a2⟩:=ha
     have d1:decide (97≤c)=true:=by simp [a1]
     have d2:decide (c≤102)=true:=by simp [a2]
     rw [hd] at DG
     go_enter Tryz.func281,Tryz.ntmps281
     go_wp2_with (go_at_call 226;refine (DG.out _).mono ?_;rintro e w' ⟨rfl,rfl⟩)
     go_ret2
     exact ⟨zmp (by unfold hexN;rw [E.out,if_neg (by omega)];omega) (by unfold hexB;rw [E.out];simp;omega),rfl⟩
   · by_cases hb:65≤c∧c≤70
     · have E:=kd (ydx hb.1 hb.2)
       obtain ⟨a1,a2⟩:=hb
       have d0:decide (97≤c)=false:=by simp;omega
       have d1:decide (65≤c)=true:=by simp [a1]
       have d2:decide (c≤70)=true:=by simp [a2]
       rw [hd] at DG
       go_enter Tryz.func281,Tryz.ntmps281
       go_wp2_with (go_at_call 226;refine (DG.out _).mono ?_;rintro e w' ⟨rfl,rfl⟩)
       go_ret2
       exact ⟨zmp (by unfold hexN;rw [E.out,if_neg (by omega)];omega) (by unfold hexB;rw [E.out];simp;omega),rfl⟩
     · have E:=kd (ydy hd ha hb)
       rw [hd] at DG
       cases d0:decide (97≤c)<;>cases d1:decide (c≤102)<;>cases d2:decide (65≤c)<;>cases d3:decide (c≤70)
       all_goals first
        | (exfalso;simp at d0 d1 d2 d3;omega)
        | (go_enter Tryz.func281,Tryz.ntmps281
           go_wp2_with (go_at_call 226;refine (DG.out _).mono ?_;rintro e w' ⟨rfl,rfl⟩)
           go_ret2
           exact ⟨zmp (by unfold hexN;rw [E.out,if_pos (by omega)]) (by unfold hexB;rw [E.out];rfl),rfl⟩)
abbrev Z12:List Value:=[.int .u8 0,.bool false,.string ⟨#[]⟩,.string ⟨#[]⟩,.string ⟨#[]⟩,.string ⟨#[]⟩,.string ⟨#[]⟩,.string ⟨#[]⟩,.slice none 0 0,.int .i64 0,.int .i64 0,.int .i64 0]
abbrev Z6m:List Value:=[.string ⟨#[]⟩,.string ⟨#[]⟩,.int .i64 0,.string ⟨#[]⟩,.slice none 0 0,.slice none 0 0]
abbrev mV (q:Msg) (A:Option Addr) (c:Nat) (B:Option Addr) (n d:Nat):List Value:=[.string (strOfNums q.me),.string (strOfNums q.ur),.int .i64 q.co,.string (strOfNums q.re),.slice A q.hs.length c,.slice B n d]
abbrev bV (q:Msg) (A:Option Addr) (c:Nat) (B:Option Addr) (n d:Nat) (r:Msg) (E:Option Addr) (e:Nat) (G:Option Addr) (k l:Nat):List Value:=[.string (strOfNums q.me),.string (strOfNums q.ur),.int .i64 q.co,.string (strOfNums q.re),.slice A q.hs.length c,.slice B n d,.string (strOfNums r.me),.string (strOfNums r.ur),.int .i64 r.co,.string (strOfNums r.re),.slice E r.hs.length e,.slice G k l]
abbrev dV (d:Dlg) (A:Option Addr) (c:Nat):List Value:=[.int .u8 d.st,.bool d.cl,.string (strOfNums d.ci),.string (strOfNums d.lt),.string (strOfNums d.rt),.string (strOfNums d.lu),.string (strOfNums d.ru),.string (strOfNums d.tg),.slice A d.rs.length c,.int .i64 d.ls,.int .i64 d.rq,.int .i64 d.iq]
end Go.Proofs.YtfnmkedncfdceaaGreatDoor
namespace Go.Proofs
open Go.Shelf
def Tryz.lays161_ren:Go.Shelf.Ren:=⟨fun|161=>282|231=>195|227=>162|233=>197|235=>199|228=>163|197=>253|151=>254|260=>296|152=>160|137=>119|119=>217|224=>218|225=>219|217=>172|266=>231|n=>n,fun|9=>9|4=>4|3=>3|5=>5|117=>189|116=>188|0=>0|124=>213|105=>258|21=>21|119=>290|46=>69|139=>293|138=>292|n=>n,fun|3=>7|4=>8|n=>n⟩
theorem Tryz.lays161:Go.Proofs.Lays.n161 Tryz.prog Tryz.lays161_ren:={
 mixed:=by kernel_rfl
 f119:=Tryz.func217.trans (congrArg some (by kernel_rfl))
 f137:=Tryz.func119.trans (congrArg some (by kernel_rfl))
 f151:=Tryz.func254.trans (congrArg some (by kernel_rfl))
 f152:=Tryz.func160.trans (congrArg some (by kernel_rfl))
 f161:=Tryz.func282.trans (congrArg some (by kernel_rfl))
 f197:=Tryz.func253.trans (congrArg some (by kernel_rfl))
 f217:=Tryz.func172.trans (congrArg some (by kernel_rfl))
 f224:=Tryz.func218.trans (congrArg some (by kernel_rfl))
 f225:=Tryz.func219.trans (congrArg some (by kernel_rfl))
 f227:=Tryz.func162.trans (congrArg some (by kernel_rfl))
 f228:=Tryz.func163.trans (congrArg some (by kernel_rfl))
 f231:=Tryz.func195.trans (congrArg some (by kernel_rfl))
 f233:=Tryz.func197.trans (congrArg some (by kernel_rfl))
 f235:=Tryz.func199.trans (congrArg some (by kernel_rfl))
 f260:=Tryz.func296.trans (congrArg some (by kernel_rfl))
 f266:=Tryz.func231.trans (congrArg some (by kernel_rfl))
 t0:=Tryz.underlying0
 a0:=Tryz.isAgg0
 z0:=Tryz.sizeOf0
 v0:=Tryz.zeroValue0
 t3:=Tryz.underlying3
 a3:=Tryz.isAgg3
 z3:=Tryz.sizeOf3
 v3:=Tryz.zeroValue3
 t4:=Tryz.underlying4
 a4:=Tryz.isAgg4
 z4:=Tryz.sizeOf4
 v4:=Tryz.zeroValue4
 t5:=Tryz.underlying5
 a5:=Tryz.isAgg5
 z5:=Tryz.sizeOf5
 v5:=Tryz.zeroValue5
 t9:=Tryz.underlying9
 a9:=Tryz.isAgg9
 z9:=Tryz.sizeOf9
 v9:=Tryz.zeroValue9
 t21:=Tryz.underlying21
 a21:=Tryz.isAgg21
 z21:=Tryz.sizeOf21
 v21:=Tryz.zeroValue21
 t46:=Tryz.underlying69
 a46:=Tryz.isAgg69
 z46:=Tryz.sizeOf69
 v46:=Tryz.zeroValue69
 t105:=Tryz.underlying258
 a105:=Tryz.isAgg258
 z105:=Tryz.sizeOf258
 v105:=Tryz.zeroValue258
 t116:=Tryz.underlying188
 a116:=Tryz.isAgg188
 z116:=Tryz.sizeOf188
 t117:=Tryz.underlying189
 a117:=Tryz.isAgg189
 z117:=Tryz.sizeOf189
 v117:=Tryz.zeroValue189
 t119:=Tryz.underlying290
 a119:=Tryz.isAgg290
 z119:=Tryz.sizeOf290
 t124:=Tryz.underlying213
 a124:=Tryz.isAgg213
 z124:=Tryz.sizeOf213
 v124:=Tryz.zeroValue213
 t138:=Tryz.underlying292
 a138:=Tryz.isAgg292
 z138:=Tryz.sizeOf292
 v138:=Tryz.zeroValue292
 t139:=Tryz.underlying293
 a139:=Tryz.isAgg293
 z139:=Tryz.sizeOf293
 v139:=Tryz.zeroValue293
 g3:=by kernel_rfl
 g4:=by kernel_rfl }
open Go.RowKit in
theorem Tryz.strings_TrimLeft_one (s:ByteArray) (c:UInt8) (hc:c.toNat<128) (w:World) :
  Calls Tryz.prog 282 #[.string s,.string ⟨#[c]⟩] w fun e w'=>e = .returned (.string ⟨(Lib.trimLeftB s.data.toList c).toArray⟩)∧w'=w:=Any.strings_TrimLeft_one Tryz.lays161 s c hc w
def Tryz.lays119_ren:Go.Shelf.Ren:=⟨fun|119=>217|n=>n,fun|21=>21|4=>4|n=>n,fun|n=>n⟩
theorem Tryz.lays119:Go.Proofs.Lays.n119 Tryz.prog Tryz.lays119_ren:={
 mixed:=by kernel_rfl
 f119:=Tryz.func217.trans (congrArg some (by kernel_rfl))
 t4:=Tryz.underlying4
 a4:=Tryz.isAgg4
 z4:=Tryz.sizeOf4
 v4:=Tryz.zeroValue4
 t21:=Tryz.underlying21
 a21:=Tryz.isAgg21
 z21:=Tryz.sizeOf21
 v21:=Tryz.zeroValue21 }
theorem Tryz.utf8_ValidRune (r:Int) (w:World) :
  Calls Tryz.prog 217 #[.int .i32 r] w fun e w'=>e = .returned (.bool (Lib.validRune r))∧w'=w:=Any.utf8_ValidRune Tryz.lays119 r w
def Tryz.lays143_ren:Go.Shelf.Ren:=⟨fun|143=>221|219=>279|217=>172|225=>219|224=>218|267=>301|266=>231|314=>309|n=>n,fun|9=>9|3=>3|4=>4|5=>5|46=>69|146=>294|51=>248|n=>n,fun|1=>3|n=>n⟩
theorem Tryz.lays143:Go.Proofs.Lays.n143 Tryz.prog Tryz.lays143_ren:={
 mixed:=by kernel_rfl
 f143:=Tryz.func221.trans (congrArg some (by kernel_rfl))
 f217:=Tryz.func172.trans (congrArg some (by kernel_rfl))
 f219:=Tryz.func279.trans (congrArg some (by kernel_rfl))
 f224:=Tryz.func218.trans (congrArg some (by kernel_rfl))
 f225:=Tryz.func219.trans (congrArg some (by kernel_rfl))
 f266:=Tryz.func231.trans (congrArg some (by kernel_rfl))
 f267:=Tryz.func301.trans (congrArg some (by kernel_rfl))
 f314:=Tryz.func309.trans (congrArg some (by kernel_rfl))
 t3:=Tryz.underlying3
 a3:=Tryz.isAgg3
 z3:=Tryz.sizeOf3
 v3:=Tryz.zeroValue3
 t4:=Tryz.underlying4
 a4:=Tryz.isAgg4
 z4:=Tryz.sizeOf4
 v4:=Tryz.zeroValue4
 t5:=Tryz.underlying5
 a5:=Tryz.isAgg5
 z5:=Tryz.sizeOf5
 v5:=Tryz.zeroValue5
 t9:=Tryz.underlying9
 a9:=Tryz.isAgg9
 z9:=Tryz.sizeOf9
 v9:=Tryz.zeroValue9
 t46:=Tryz.underlying69
 a46:=Tryz.isAgg69
 z46:=Tryz.sizeOf69
 v46:=Tryz.zeroValue69
 t51:=Tryz.underlying248
 a51:=Tryz.isAgg248
 z51:=Tryz.sizeOf248
 v51:=Tryz.zeroValue248
 t146:=Tryz.underlying294
 a146:=Tryz.isAgg294
 z146:=Tryz.sizeOf294
 v146:=Tryz.zeroValue294
 g1:=by kernel_rfl }
open Go.RowKit Go.Lib in
theorem Tryz.strings_Index_one (s:ByteArray) (c:UInt8) (w:World) :
  Calls Tryz.prog 221 #[.string s,.string ⟨#[c]⟩] w fun e w'=>e = .returned (.int .i64 (Lib.indexByte s.data.toList c))∧w'=w:=Any.strings_Index_one Tryz.lays143 s c w
def Tryz.lays144_ren:Go.Shelf.Ren:=⟨fun|144=>165|143=>221|219=>279|217=>172|225=>219|224=>218|267=>301|266=>231|314=>309|n=>n,fun|9=>9|4=>4|3=>3|5=>5|46=>69|146=>294|51=>248|n=>n,fun|1=>3|n=>n⟩
theorem Tryz.lays144:Go.Proofs.Lays.n144 Tryz.prog Tryz.lays144_ren:={
 mixed:=by kernel_rfl
 f143:=Tryz.func221.trans (congrArg some (by kernel_rfl))
 f144:=Tryz.func165.trans (congrArg some (by kernel_rfl))
 f217:=Tryz.func172.trans (congrArg some (by kernel_rfl))
 f219:=Tryz.func279.trans (congrArg some (by kernel_rfl))
 f224:=Tryz.func218.trans (congrArg some (by kernel_rfl))
 f225:=Tryz.func219.trans (congrArg some (by kernel_rfl))
 f266:=Tryz.func231.trans (congrArg some (by kernel_rfl))
 f267:=Tryz.func301.trans (congrArg some (by kernel_rfl))
 f314:=Tryz.func309.trans (congrArg some (by kernel_rfl))
 t3:=Tryz.underlying3
 a3:=Tryz.isAgg3
 z3:=Tryz.sizeOf3
 v3:=Tryz.zeroValue3
 t4:=Tryz.underlying4
 a4:=Tryz.isAgg4
 z4:=Tryz.sizeOf4
 v4:=Tryz.zeroValue4
 t5:=Tryz.underlying5
 a5:=Tryz.isAgg5
 z5:=Tryz.sizeOf5
 v5:=Tryz.zeroValue5
 t9:=Tryz.underlying9
 a9:=Tryz.isAgg9
 z9:=Tryz.sizeOf9
 v9:=Tryz.zeroValue9
 t46:=Tryz.underlying69
 a46:=Tryz.isAgg69
 z46:=Tryz.sizeOf69
 v46:=Tryz.zeroValue69
 t51:=Tryz.underlying248
 a51:=Tryz.isAgg248
 z51:=Tryz.sizeOf248
 v51:=Tryz.zeroValue248
 t146:=Tryz.underlying294
 a146:=Tryz.isAgg294
 z146:=Tryz.sizeOf294
 v146:=Tryz.zeroValue294
 g1:=by kernel_rfl }
open Go.RowKit Go.Lib in
theorem Tryz.strings_Contains_one (s:ByteArray) (c:UInt8) (w:World) :
  Calls Tryz.prog 165 #[.string s,.string ⟨#[c]⟩] w fun e w'=>e = .returned (.bool (decide (0≤Lib.indexByte s.data.toList c)))∧w'=w:=Any.strings_Contains_one Tryz.lays144 s c w
def Tryz.lays145_ren:Go.Shelf.Ren:=⟨fun|145=>222|220=>280|219=>279|217=>172|225=>219|224=>218|267=>301|266=>231|314=>309|n=>n,fun|9=>9|4=>4|59=>141|3=>3|5=>5|46=>69|146=>294|51=>248|n=>n,fun|1=>3|n=>n⟩
theorem Tryz.lays145:Go.Proofs.Lays.n145 Tryz.prog Tryz.lays145_ren:={
 mixed:=by kernel_rfl
 f145:=Tryz.func222.trans (congrArg some (by kernel_rfl))
 f217:=Tryz.func172.trans (congrArg some (by kernel_rfl))
 f219:=Tryz.func279.trans (congrArg some (by kernel_rfl))
 f220:=Tryz.func280.trans (congrArg some (by kernel_rfl))
 f224:=Tryz.func218.trans (congrArg some (by kernel_rfl))
 f225:=Tryz.func219.trans (congrArg some (by kernel_rfl))
 f266:=Tryz.func231.trans (congrArg some (by kernel_rfl))
 f267:=Tryz.func301.trans (congrArg some (by kernel_rfl))
 f314:=Tryz.func309.trans (congrArg some (by kernel_rfl))
 t3:=Tryz.underlying3
 a3:=Tryz.isAgg3
 z3:=Tryz.sizeOf3
 v3:=Tryz.zeroValue3
 t4:=Tryz.underlying4
 a4:=Tryz.isAgg4
 z4:=Tryz.sizeOf4
 v4:=Tryz.zeroValue4
 t5:=Tryz.underlying5
 a5:=Tryz.isAgg5
 z5:=Tryz.sizeOf5
 v5:=Tryz.zeroValue5
 t9:=Tryz.underlying9
 a9:=Tryz.isAgg9
 z9:=Tryz.sizeOf9
 v9:=Tryz.zeroValue9
 t46:=Tryz.underlying69
 a46:=Tryz.isAgg69
 z46:=Tryz.sizeOf69
 v46:=Tryz.zeroValue69
 t51:=Tryz.underlying248
 a51:=Tryz.isAgg248
 z51:=Tryz.sizeOf248
 v51:=Tryz.zeroValue248
 t59:=Tryz.underlying141
 a59:=Tryz.isAgg141
 z59:=Tryz.sizeOf141
 v59:=Tryz.zeroValue141
 t146:=Tryz.underlying294
 a146:=Tryz.isAgg294
 z146:=Tryz.sizeOf294
 v146:=Tryz.zeroValue294
 g1:=by kernel_rfl }
open Go.RowKit Go.Lib in
theorem Tryz.strings_Cut (s sep:ByteArray) (m:Int) (w:World) (hs:s.size<4294967281) (hm:w.cell? ⟨3,0,none⟩=some (.int .i64 m)) :
  Calls Tryz.prog 222 #[.string s,.string sep] w fun e w'=>e = .returned (.tuple #[.string ⟨(Lib.cut s.data.toList sep.data.toList).1.toArray⟩,.string ⟨(Lib.cut s.data.toList sep.data.toList).2.1.toArray⟩,.bool (Lib.cut s.data.toList sep.data.toList).2.2])∧∃ n,w'=w.drewN n:=Any.strings_Cut Tryz.lays145 s sep m w hs hm
def Tryz.lays152_ren:Go.Shelf.Ren:=⟨fun|152=>160|137=>119|119=>217|224=>218|225=>219|217=>172|266=>231|n=>n,fun|9=>9|21=>21|3=>3|4=>4|5=>5|0=>0|46=>69|n=>n,fun|n=>n⟩
theorem Tryz.lays152:Go.Proofs.Lays.n152 Tryz.prog Tryz.lays152_ren:={
 mixed:=by kernel_rfl
 f119:=Tryz.func217.trans (congrArg some (by kernel_rfl))
 f137:=Tryz.func119.trans (congrArg some (by kernel_rfl))
 f152:=Tryz.func160.trans (congrArg some (by kernel_rfl))
 f217:=Tryz.func172.trans (congrArg some (by kernel_rfl))
 f224:=Tryz.func218.trans (congrArg some (by kernel_rfl))
 f225:=Tryz.func219.trans (congrArg some (by kernel_rfl))
 f266:=Tryz.func231.trans (congrArg some (by kernel_rfl))
 t0:=Tryz.underlying0
 a0:=Tryz.isAgg0
 z0:=Tryz.sizeOf0
 v0:=Tryz.zeroValue0
 t3:=Tryz.underlying3
 a3:=Tryz.isAgg3
 z3:=Tryz.sizeOf3
 v3:=Tryz.zeroValue3
 t4:=Tryz.underlying4
 a4:=Tryz.isAgg4
 z4:=Tryz.sizeOf4
 v4:=Tryz.zeroValue4
 t5:=Tryz.underlying5
 a5:=Tryz.isAgg5
 z5:=Tryz.sizeOf5
 v5:=Tryz.zeroValue5
 t9:=Tryz.underlying9
 a9:=Tryz.isAgg9
 z9:=Tryz.sizeOf9
 v9:=Tryz.zeroValue9
 t21:=Tryz.underlying21
 a21:=Tryz.isAgg21
 z21:=Tryz.sizeOf21
 v21:=Tryz.zeroValue21
 t46:=Tryz.underlying69
 a46:=Tryz.isAgg69
 z46:=Tryz.sizeOf69
 v46:=Tryz.zeroValue69 }
open Go.RowKit Go.Lib in
theorem Tryz.strings_IndexRune_ascii (s:ByteArray) (r:Int) (w:World) (h0:0≤r) (h1:r<128) :
  Calls Tryz.prog 160 #[.string s,.int .i32 r] w fun e w'=>e = .returned (.int .i64 (Lib.indexByte s.data.toList r.toNat.toUInt8))∧w'=w:=Any.strings_IndexRune_ascii Tryz.lays152 s r w h0 h1
def Tryz.lays226_ren:Go.Shelf.Ren:=⟨fun|226=>161|n=>n,fun|3=>3|4=>4|n=>n,fun|n=>n⟩
theorem Tryz.lays226:Go.Proofs.Lays.n226 Tryz.prog Tryz.lays226_ren:={
 mixed:=by kernel_rfl
 f226:=Tryz.func161.trans (congrArg some (by kernel_rfl))
 t3:=Tryz.underlying3
 a3:=Tryz.isAgg3
 z3:=Tryz.sizeOf3
 v3:=Tryz.zeroValue3
 t4:=Tryz.underlying4
 a4:=Tryz.isAgg4
 z4:=Tryz.sizeOf4
 v4:=Tryz.zeroValue4 }
open Go.RowKit Go.Lib in
theorem Tryz.strings_shouldUseASCIISet (n:Int) (w:World) :
  Calls Tryz.prog 161 #[.int .i64 n] w fun e w'=>e = .returned (.bool (decide (8<n)))∧w'=w:=Any.strings_shouldUseASCIISet Tryz.lays226 n w
def Tryz.lays153_ren:Go.Shelf.Ren:=⟨fun|153=>114|152=>160|226=>161|227=>162|228=>163|137=>119|119=>217|224=>218|225=>219|217=>172|266=>231|n=>n,fun|9=>9|3=>3|4=>4|5=>5|21=>21|117=>189|116=>188|0=>0|46=>69|124=>213|n=>n,fun|n=>n⟩
theorem Tryz.lays153:Go.Proofs.Lays.n153 Tryz.prog Tryz.lays153_ren:={
 mixed:=by kernel_rfl
 f119:=Tryz.func217.trans (congrArg some (by kernel_rfl))
 f137:=Tryz.func119.trans (congrArg some (by kernel_rfl))
 f152:=Tryz.func160.trans (congrArg some (by kernel_rfl))
 f153:=Tryz.func114.trans (congrArg some (by kernel_rfl))
 f217:=Tryz.func172.trans (congrArg some (by kernel_rfl))
 f224:=Tryz.func218.trans (congrArg some (by kernel_rfl))
 f225:=Tryz.func219.trans (congrArg some (by kernel_rfl))
 f226:=Tryz.func161.trans (congrArg some (by kernel_rfl))
 f227:=Tryz.func162.trans (congrArg some (by kernel_rfl))
 f228:=Tryz.func163.trans (congrArg some (by kernel_rfl))
 f266:=Tryz.func231.trans (congrArg some (by kernel_rfl))
 t0:=Tryz.underlying0
 a0:=Tryz.isAgg0
 z0:=Tryz.sizeOf0
 v0:=Tryz.zeroValue0
 t3:=Tryz.underlying3
 a3:=Tryz.isAgg3
 z3:=Tryz.sizeOf3
 v3:=Tryz.zeroValue3
 t4:=Tryz.underlying4
 a4:=Tryz.isAgg4
 z4:=Tryz.sizeOf4
 v4:=Tryz.zeroValue4
 t5:=Tryz.underlying5
 a5:=Tryz.isAgg5
 z5:=Tryz.sizeOf5
 v5:=Tryz.zeroValue5
 t9:=Tryz.underlying9
 a9:=Tryz.isAgg9
 z9:=Tryz.sizeOf9
 v9:=Tryz.zeroValue9
 t21:=Tryz.underlying21
 a21:=Tryz.isAgg21
 z21:=Tryz.sizeOf21
 v21:=Tryz.zeroValue21
 t46:=Tryz.underlying69
 a46:=Tryz.isAgg69
 z46:=Tryz.sizeOf69
 v46:=Tryz.zeroValue69
 t116:=Tryz.underlying188
 a116:=Tryz.isAgg188
 z116:=Tryz.sizeOf188
 t117:=Tryz.underlying189
 a117:=Tryz.isAgg189
 z117:=Tryz.sizeOf189
 v117:=Tryz.zeroValue189
 t124:=Tryz.underlying213
 a124:=Tryz.isAgg213
 z124:=Tryz.sizeOf213
 v124:=Tryz.zeroValue213 }
open Go.RowKit Go.Lib in
theorem Tryz.strings_IndexAny_one (s chars:ByteArray) (w:World) (h1:chars.size=1) (hascii:∀ (j:Nat) b,chars.data.toList[j]? = some b→b.toNat<128) :
  Calls Tryz.prog 114 #[.string s,.string chars] w fun e w'=>e = .returned (.int .i64 (Lib.indexAny s.data.toList chars.data.toList))∧w'=w:=Any.strings_IndexAny_one Tryz.lays153 s chars w h1 hascii
open Go.RowKit Go.Lib in
theorem Tryz.strings_IndexAny_long (hv116:∀ w,(zeroValue 188).run Tryz.prog w = .ok (.agg (Array.replicate 256 (.bool false))) w) (s chars:ByteArray) (w:World) (h2:2≤chars.size) (h8:8<s.size) (hs:s.size<4294967281) (hcs:chars.size<4294967281) (hascii:∀ (j:Nat) b,chars.data.toList[j]? = some b→b.toNat<128) :
  Calls Tryz.prog 114 #[.string s,.string chars] w fun e w'=>e = .returned (.int .i64 (Lib.indexAny s.data.toList chars.data.toList))∧w'=((w.alloc (.cells (Lib.setCells chars.data.toList) 188)).alloc (.cells (Lib.setCells chars.data.toList) 188)):=Any.strings_IndexAny_long Tryz.lays153 hv116 (by kernel_rfl) s chars w h2 h8 hs hcs hascii
end Go.Proofs
