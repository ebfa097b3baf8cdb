/- Contract: address's target. And what stands behind it. -/
import Derived.Test.YtfnmkedncfdceaaGreatDoorUo
set_option linter.unusedVariables false
set_option linter.unusedSimpArgs false
set_option maxRecDepth 100000
set_option maxHeartbeats 2000000
namespace Go.Proofs.YtfnmkedncfdceaaGreatDoor
open Go.RowKit

def aimX (xs:List Int) (b e h:Nat):Except (Nat × Int) (Uri × Nat):=match uriL (subL xs b e) with
 | .error q => .error (b+q.1,q.2)
 | .ok u => .ok (u,h)
theorem yb4 {xs:List Int} {a e:Nat} (h:atL xs a 60=true) (he:zaj xs (a+1) [62]=e):aimL xs a=if e=xs.length then .error (e,5) else aimX xs (a+1) e (e+1):=by
 subst he;unfold aimL aimX;rw [if_pos h];dsimp only
 split
 · rfl
 · cases uriL (subL xs (a+1) (zaj xs (a+1) [62]))<;>rfl
theorem zyc {xs:List Int} {a e q:Nat} (h:atL xs a 60=false) (he:zaj xs a [59,32,9]=e) (hq:zaj xs a [63,44]=q):aimL xs a=if q<e then .error (q,5) else aimX xs a e e:=by
 subst he;subst hq;unfold aimL aimX;rw [if_neg (by rw [h];decide)];dsimp only
 split
 · rfl
 · cases uriL (subL xs a (zaj xs a [59,32,9]))<;>rfl
theorem zyq {xs:List Int} (hx:By xs) {q:Nat × Int} (h:uriL xs = .error q):q.2≠0∧q.1≤xs.length:=by
 have:=zrd hx;rw [h] at this;exact ⟨this.2,this.1⟩
theorem ydr {w wr:World} {cb ab a:Nat} {s:ByteArray} {d:List Int} {x1 x2 x3 y1 y2 y3:ByteArray} {p po:Int} {q1 q2 v1 v2 v3:Value} (h:Mine w wr (LA cb ab s a (aC d x1 x2 x3 p q1 q2 v3)) []):Mine w (wr.setCells ab 1 [.string y1,.string y2,.string y3,.int .i64 po,v1,v2]) (LA cb ab s a (aC d y1 y2 y3 po v1 v2 v3)) []:=
 h.store (i:=1) rfl rfl (Row.setCells [.string y1,.string y2,.string y3,.int .i64 po,v1,v2] [.string x1,.string x2,.string x3,.int .i64 p,q1,q2] [.string (strOfNums d)] [v3] wr (la_a h) rfl) (zbs (h.ge (i:=1) rfl) _ 1 _ h.bw) ⟨zg4 _ ab 1 wr,fun b' hb'=>zcc _ 1 wr b' hb'⟩
def AimP (w:World) (cb ab:Nat) (s:ByteArray) (d:List Int) (R:Except (Nat × Int) (Uri × Nat)) (e:Ending) (w':World):Prop:=match R with
 | .error q=>e = .returned (.tuple #[.int .i64 (q.1:Nat),.int .u8 q.2])∧Below w.heap.size w w'∧q.2≠0
 | .ok (u,b)=>e = .returned (.tuple #[.int .i64 0,.int .u8 0])∧∃ v1 v2,Mine w w' (LA cb ab s b (aC d (strOfNums u.sc) (strOfNums u.us) (strOfNums u.ho) u.po v1 v2 (.slice none 0 0))) []∧VX 155 3 w v1 u.ps.length (pms u.ps) w'∧VX 155 3 w v2 u.hs.length (pms u.hs) w'
theorem AimP.bad {w w':World} {cb ab z:Nat} {k:Int} {s:ByteArray} {d:List Int} {R:Except (Nat × Int) (Uri × Nat)} (h:R = .error (z,k)) (hb:Below w.heap.size w w') (hk:k≠0) {zi:Int} (hz:zi=(z:Nat)):AimP w cb ab s d R (.returned (.tuple #[.int .i64 zi,.int .u8 k])) w':=by
 subst h;subst hz;exact ⟨rfl,hb,hk⟩
theorem AimP.good {w w':World} {cb ab b:Nat} {s:ByteArray} {d:List Int} {R:Except (Nat × Int) (Uri × Nat)} {u:Uri} {v1 v2:Value} (h:R = .ok (u,b)) (hm:Mine w w' (LA cb ab s b (aC d (strOfNums u.sc) (strOfNums u.us) (strOfNums u.ho) u.po v1 v2 (.slice none 0 0))) []) (h1:VX 155 3 w v1 u.ps.length (pms u.ps) w') (h2:VX 155 3 w v2 u.hs.length (pms u.hs) w'):AimP w cb ab s d R (.returned (.tuple #[.int .i64 0,.int .u8 0])) w':=by
 subst h;exact ⟨rfl,v1,v2,hm,h1,h2⟩
theorem asc_62:Asc7 ⟨#[62]⟩:=fun j b h=>by
 have hm:=List.mem_of_getElem? h;simp only [List.mem_cons,List.not_mem_nil,or_false] at hm;subst hm;decide
theorem ya3:Asc7 ⟨#[59,32,9]⟩:=fun j b h=>by
 have hm:=List.mem_of_getElem? h;simp only [List.mem_cons,List.not_mem_nil,or_false] at hm
 rcases hm with rfl|rfl|rfl<;>decide
theorem ya2:Asc7 ⟨#[63,44]⟩:=fun j b h=>by
 have hm:=List.mem_of_getElem? h;simp only [List.mem_cons,List.not_mem_nil,or_false] at hm
 rcases hm with rfl|rfl<;>decide
theorem zu1 {w wr w':World} {ab:Nat} {us:List Value} {v:Value} {n:Nat} {cs:List Value} (X:VX 155 3 w v n cs wr) (hr:Row wr ab 168 us) (hb:Below w.heap.size w w') (hh:∀ k,k≠ab→w'.heap[k]? = wr.heap[k]?):VX 155 3 w v n cs w':=X.other hb fun g hg=>hh g (zjx hr X (by decide) g hg)
theorem vx_cb {w wr w':World} {cb:Nat} {us:List Value} {v:Value} {n:Nat} {cs:List Value} (X:VX 155 3 w v n cs wr) (hr:Row wr cb 148 us) (hb:Below w.heap.size w w') (hh:∀ k,k≠cb→w'.heap[k]? = wr.heap[k]?):VX 155 3 w v n cs w':=X.other hb fun g hg=>hh g (zjx hr X (by decide) g hg)
theorem zst (w wr:World) (cb ab a:Nat) (s:ByteArray) (d:List Int) (H:Mine w wr (LA cb ab s a (aC0 d)) []) (ha:a≤s.size) (hs:s.size≤4000000) (hC:CLS w) (hG:GM w) (hP:PT w) :
  Calls Tryz.prog 258 #[.pointer (some ⟨cb,0,none⟩),.pointer (some ⟨ab,0,none⟩)] wr (AimP w cb ab s d (aimL (zaa s) a)):=by
 have HM:=kd H;have HC:=kd hC;have HG:=kd hG;have HP:=kd hP;have HL:=zac s;have BAD:=kd (fun w' z k zi (h:aimL (zaa s) a = .error (z,k)) hb hk hz=>AimP.bad (w:=w) (w':=w') (cb:=cb) (ab:=ab) (s:=s) (d:=d) (zi:=zi) h hb hk hz)
 have GOOD:=kd (fun w' u b v1 v2 (h:aimL (zaa s) a = .ok (u,b)) hm h1 h2=>AimP.good (w:=w) (w':=w') (cb:=cb) (ab:=ab) (s:=s) (d:=d) (u:=u) (v1:=v1) (v2:=v2) h hm h1 h2);have SE:=kd (fun w h1=>zb4 w cb a 60 s h1)
 rw [show zcw (zaa s) a 60=atL (zaa s) a 60 from rfl] at SE;have IN:=kd (fun (h:atL (zaa s) a 60=true)=>yb4 h rfl);have OUT:=kd (fun (h:atL (zaa s) a 60=false)=>zyc h rfl rfl)
 have AT:=kd (fun (h:atL (zaa s) a 60=true)=>show a+1≤s.size by have:=(zgk (xs:=zaa s) (a:=a) (c:=60) (by rw [h];decide)).1;rw [HL] at this;exact this);have UN1:=kd (fun w h=>zcm s ⟨#[62]⟩ (a+1) w hs h (by decide) (by decide) asc_62)
 simp only [show zaa ⟨#[62]⟩=[62] by rfl] at UN1;have UN2:=kd (fun w=>zcm s ⟨#[59,32,9]⟩ a w hs ha (by decide) (by decide) ya3);simp only [show zaa ⟨#[59,32,9]⟩=[59,32,9] by rfl] at UN2;have UN3:=kd (fun w=>zcm s ⟨#[63,44]⟩ a w hs ha (by decide) (by decide) ya2)
 simp only [show zaa ⟨#[63,44]⟩=[63,44] by rfl] at UN3;generalize hPP:AimP w cb ab s d (aimL (zaa s) a)=PP at *;generalize hRR:aimL (zaa s) a=R at *;clear hPP hRR H hC hG hP;have k1:wr.cell? ⟨cb,1,none⟩=some (.int .i64 a):=(la_c HM.out).cell 1
 go_enter Tryz.func258,Tryz.ntmps258
 go_wp2_with fail;refine (SE.out wr (la_c HM.out)).mono ?_;rintro _ _ ⟨rfl,nq,rfl⟩;have M:=kd (HM.out.call (zam _ nq));clear SE HM k1;generalize wr.drewN nq=w1 at *;go_upto_if 18 with (fail)
 go_cut [6,7,8] (fun v6 v7 v8 wx => ∃ b e h:Nat,v6 = .int .i64 b∧v7 = .int .i64 e∧v8 = .int .i64 h∧b≤e∧e≤s.size∧Hid (R=aimX (zaa s) b e h)∧Hid (Mine w wx (LA cb ab s a (aC0 d)) []))
 case first =>
  cases h60:atL (zaa s) a 60 with
  | true =>
    have a1:=AT.out h60;have RE:=IN.out h60;have UN:=kd (fun w=>UN1.out w a1);obtain ⟨u1,u2⟩:=zbf (xs:=zaa s) (a:=a+1) (st:=[62]) (by rw [HL];exact a1);obtain ⟨e,he⟩:∃ e,zaj (zaa s) (a+1) [62]=e:=⟨_,rfl⟩;rw [he] at RE UN u1 u2;rw [HL] at RE u2;have RE1:=kd RE
    clear RE he IN OUT AT UN1 UN2 UN3 h60;obtain ⟨a',ha'⟩:∃ a',a+1=a':=⟨_,rfl⟩
    have ha2:(a:Int)+1=(a':Int):=by omega
    rw [ha'] at RE1 UN u1;clear ha';have k0:w1.cell? ⟨cb,0,none⟩=some (.string s):=(la_c M.out).cell 0;have RG:=kd (la_c M.out).text;go_wp2_with (with_reducible refine wpList_load_mid rfl 146 (.tmp 23) rfl cb 0 rfl [.string s] _ RG.out Tryz.underlying146 rfl (ziu _) ?_)
    refine (UN.out _).mono ?_;rintro _ w2 ⟨rfl,hb2⟩;have M2:=kd (M.out.call hb2);clear hb2 M RG UN k0;have k0:w2.cell? ⟨cb,0,none⟩=some (.string s):=(la_c M2.out).cell 0
    by_cases hend:e=s.size
    · have q0:((e:Int) == (s.size:Int))=true:=by simp [hend]
      have E:=kd (RE1.out.trans (if_pos hend));clear RE1 hend;go_wp2_with fail
      first|exact BAD.out _ _ _ _ E.out M2.out.bw (by decide) rfl|(go_ret2;exact BAD.out _ _ _ _ E.out M2.out.bw (by decide) rfl)
    · have q0:((e:Int) == (s.size:Int))=false:=by simp;omega
      have E:=kd (RE1.out.trans (if_neg hend));clear RE1 hend;go_wp2_with fail;go_meet;exact ⟨a',e,e+1,rfl,rfl,by push_cast;rfl,u1,u2,E,M2⟩
  | false =>
    have RE:=OUT.out h60;obtain ⟨u1,u2⟩:=zbf (xs:=zaa s) (a:=a) (st:=[59,32,9]) (by rw [HL];exact ha);obtain ⟨e,he⟩:∃ e,zaj (zaa s) a [59,32,9]=e:=⟨_,rfl⟩;obtain ⟨q,hq⟩:∃ q,zaj (zaa s) a [63,44]=q:=⟨_,rfl⟩;rw [he,hq] at RE;rw [he] at UN2 u1 u2;rw [hq] at UN3
    rw [HL] at u2;have RE1:=kd RE;clear RE he hq IN OUT AT UN1 h60;have k0:w1.cell? ⟨cb,0,none⟩=some (.string s):=(la_c M.out).cell 0;have RG:=kd (la_c M.out).text
    go_wp2_with (with_reducible refine wpList_load_mid rfl 146 (.tmp 40) rfl cb 0 rfl [.string s] _ RG.out Tryz.underlying146 rfl (ziu _) ?_);refine (UN2.out _).mono ?_;rintro _ w2 ⟨rfl,hb2⟩;have M2:=kd (M.out.call hb2);clear hb2 M RG UN2 k0
    have k0:w2.cell? ⟨cb,0,none⟩=some (.string s):=(la_c M2.out).cell 0;have RG:=kd (la_c M2.out).text;go_wp2_with (with_reducible refine wpList_load_mid rfl 146 (.tmp 47) rfl cb 0 rfl [.string s] _ RG.out Tryz.underlying146 rfl (ziu _) ?_);refine (UN3.out _).mono ?_;rintro _ w3 ⟨rfl,hb3⟩
    have M3:=kd (M2.out.call hb3);clear hb3 M2 RG UN3 k0
    by_cases hlt:q<e
    · have q0:decide ((q:Int)<(e:Int))=true:=by simp;omega
      have E:=kd (RE1.out.trans (if_pos hlt));clear RE1;go_wp2_with fail
      first|exact BAD.out _ _ _ _ E.out M3.out.bw (by decide) rfl|(go_ret2;exact BAD.out _ _ _ _ E.out M3.out.bw (by decide) rfl)
    · have q0:decide ((q:Int)<(e:Int))=false:=by simp;omega
      have E:=kd (RE1.out.trans (if_neg hlt));clear RE1;go_wp2_with fail;go_meet;exact ⟨a,e,e,rfl,rfl,rfl,u1,u2,E,M3⟩
 case rest =>
 first|(rename_i KK hKK;obtain ⟨b,e,h,rfl,rfl,rfl,hbe,hes,RE,M2⟩:=hcut;refine hKK _ _ ?_;clear hKK KK)|obtain ⟨b,e,h,rfl,rfl,rfl,hbe,hes,RE,M2⟩:=hcut
 clear M UN1 UN2 UN3 IN OUT AT;have k0:wc.cell? ⟨cb,0,none⟩=some (.string s):=(la_c M2.out).cell 0
 have i1:(b:Int)≤(e:Int):=by omega
 have i2:(e:Int)≤(s.size:Int):=by omega
 have PA:=kd (zj5 (s.extract b e) wc (HC.out.below M2.out.bw) (HG.out.below M2.out.bw) (HP.out.below M2.out.bw));rw [show zaa (s.extract b e)=subL (zaa s) b e from zar s b e] at PA;have UE:=kd (fun q h=>zyq (xs:=subL (zaa s) b e) (q:=q) ((zas s).sub (zbk _ _ _)) h)
 have RE2:=kd (show R=match uriL (subL (zaa s) b e) with
  | .error q => .error (b+q.1,q.2)
  | .ok u => .ok (u,h) from RE.out)
 generalize uriL (subL (zaa s) b e)=V at *;clear RE HC HG HP;go_wp2_with fail;refine PA.out.mono ?_
 cases V with
 | error q =>
   obtain ⟨z,k⟩:=q;rintro _ w3 ⟨rfl,hb3,hk⟩;have hk:=kd hk
   have zl:z≤4000000:=by
    have h1:=(UE.out _ rfl).2;have h2:=(zbk (zaa s) b e).length_le;rw [HL] at h2;dsimp only at h1;omega
   have z0:(0:Int)≤(b:Int)+(z:Int):=by omega
   have z1:(b:Int)+(z:Int)≤9000000:=by omega
   have M3:=kd (M2.out.call hb3);have E:=kd (show R = .error (b+z,k) from RE2.out);clear hb3 M2 PA RE2 UE k0 i1 i2
   have q1:(k != 0)=true:=by have:=hk.out;simpa using this
   dsimp only;go_wp2_with (with_reducible refine zak rfl 117 (.tmp 10) (.tmp 65) rfl ZU6 ZU6 rfl rfl lenU zcv (ze5 _ _ _ _) ?_);intro w4 R4 B4;have M4:=kd (M3.out.call B4.out);go_wp2_with fail
   first|exact BAD.out _ _ _ _ E.out M4.out.bw hk.out (by push_cast;rfl)|(go_ret2;exact BAD.out _ _ _ _ E.out M4.out.bw hk.out (by push_cast;rfl))
 | ok u =>
   rintro _ w3 ⟨v1,v2,rfl,x1,x2⟩;obtain ⟨_,A1,c1,hv1,_⟩:=x1.whole;obtain ⟨_,A2,c2,hv2,_⟩:=x2.whole;subst hv1;subst hv2;have M3:=kd (M2.out.call x1.bw);have X1:=kd (x1.base M2.out.bw);have X2:=kd (x2.base M2.out.bw);have E:=kd (show R = .ok (u,h) from RE2.out)
   clear x1 x2 M2 PA RE2 UE k0 i1 i2;go_wp2_with (with_reducible refine zak rfl 117 (.tmp 10) (.tmp 65) rfl ZU6 [.string (strOfNums u.sc),.string (strOfNums u.us),.string (strOfNums u.ho),.int .i64 u.po,.slice A1 u.ps.length c1,.slice A2 u.hs.length c2] rfl rfl lenU zcv (ze5 _ _ _ _) ?_)
   intro w4 R4 B4;have M4:=kd (M3.out.call B4.out);replace X1:=kd (X1.out.step B4.out);replace X2:=kd (X2.out.step B4.out)
   have TH:=kd (show w4.there ab 1 (#[.string (strOfNums u.sc),.string (strOfNums u.us),.string (strOfNums u.ho),.int .i64 u.po,.slice A1 u.ps.length c1,.slice A2 u.hs.length c2]:Array Value).size from fun j hj=>by
    have:=(la_a M4.out).there (1+j) (by simp at hj;simp [aC];omega)
    simpa using this)
   have SZ:=kd (show (Tryz.prog.info? 117 ).map (·.size)=some (#[.string (strOfNums u.sc),.string (strOfNums u.us),.string (strOfNums u.ho),.int .i64 u.po,.slice A1 u.ps.length c1,.slice A2 u.hs.length c2]:Array Value).size from zcv)
   have OC:=kd (show (#[.string (strOfNums u.sc),.string (strOfNums u.us),.string (strOfNums u.ho),.int .i64 u.po,.slice A1 u.ps.length c1,.slice A2 u.hs.length c2]:Array Value).all (·.oneCell')=true from all_oneCell_toArray (ze5 _ _ _ _))
   have M5:=kd (ydr (y1:=strOfNums u.sc) (y2:=strOfNums u.us) (y3:=strOfNums u.ho) (po:=u.po) (v1 := .slice A1 u.ps.length c1) (v2 := .slice A2 u.hs.length c2) M4.out);have Y1:=kd (zu1 X1.out (la_a M4.out) M5.out.bw (fun k hk=>zcc _ 1 w4 k hk))
   have Y2:=kd (zu1 X2.out (la_a M4.out) M5.out.bw (fun k hk=>zcc _ 1 w4 k hk));clear M3 B4 X1 X2
   go_wp2_with (first
    | (with_reducible refine zab rfl 117 (.tmp 10) rfl R4.out rfl Tryz.underlying117 rfl zcv ?_)
    | (with_reducible refine wpList_store_mid rfl 117 (.tmp 79) (.tmp 76) rfl ab 1 _ rfl rfl TH.out SZ.out OC.out ?_
       rw [show (#[.string (strOfNums u.sc),.string (strOfNums u.us),.string (strOfNums u.ho),.int .i64 u.po,.slice A1 u.ps.length c1,.slice A2 u.hs.length c2]:Array Value).toList=[.string (strOfNums u.sc),.string (strOfNums u.us),.string (strOfNums u.ho),.int .i64 u.po,.slice A1 u.ps.length c1,.slice A2 u.hs.length c2] from rfl]
       generalize w4.setCells ab 1 [.string (strOfNums u.sc),.string (strOfNums u.us),.string (strOfNums u.ho),.int .i64 u.po,.slice A1 u.ps.length c1,.slice A2 u.hs.length c2]=w5 at *;have k1:w5.cell? ⟨cb,1,none⟩=some (.int .i64 a):=(la_c M5.out).cell 1
       have f1:w5.frozen? ⟨cb,1,none⟩=false:=(la_c M5.out).frozen 1))
   have M6:=kd (zwq M5.out h (z:=(h:Int)) rfl);have Z1:=kd (vx_cb Y1.out (la_c M5.out) M6.out.bw (fun k hk=>Below.heap_setCell w5 ⟨cb,1,none⟩ (.int .i64 (h:Int)) k hk))
   have Z2:=kd (vx_cb Y2.out (la_c M5.out) M6.out.bw (fun k hk=>Below.heap_setCell w5 ⟨cb,1,none⟩ (.int .i64 (h:Int)) k hk))
   first|exact GOOD.out _ _ _ _ _ E.out M6.out Z1.out Z2.out|(go_ret2;exact GOOD.out _ _ _ _ _ E.out M6.out Z1.out Z2.out)

def adr3 (xs d:List Int) (u:Uri) (c:Nat):Except (Nat × Int) Adr:=match zeo (xs.drop c) with
 | .error q => .error (c+q.1,q.2)
 | .ok l => .ok ⟨d,u,l⟩
def adr2 (xs d:List Int) (b:Nat):Except (Nat × Int) Adr:=match aimL xs b with
 | .error e => .error e
 | .ok q=>adr3 xs d q.1 q.2
theorem adr_eq (xs:List Int):adrL xs=if 1024<xs.length then .error (1024,4) else match zod xs with
 | .error e => .error e
 | .ok q=>adr2 xs q.1 q.2:=by
 unfold adrL adr2 adr3
 split
 · rfl
 · cases zod xs with
   | error e=>rfl
   | ok q =>
     obtain ⟨d,a⟩:=q;dsimp only
     cases aimL xs a with
     | error e=>rfl
     | ok q =>
       obtain ⟨u,b⟩:=q;dsimp only
       cases zeo (xs.drop b) with
       | error e=>obtain ⟨i,k⟩:=e;rfl
       | ok l=>rfl
theorem aim_le {xs:List Int} {a:Nat} (ha:a≤xs.length) {u:Uri} {c:Nat} (h:aimL xs a = .ok (u,c)):c≤xs.length:=by
 cases h60:atL xs a 60 with
 | true =>
   have a1:=(zgk (xs:=xs) (a:=a) (c:=60) (by rw [h60];decide)).1;obtain ⟨u1,u2⟩:=zbf (xs:=xs) (a:=a+1) (st:=[62]) a1;rw [yb4 h60 rfl] at h
   split at h
   · cases h
   · unfold aimX at h
     split at h
     · cases h
     · injection h with h
       injection h with _ h
       omega
 | false =>
   obtain ⟨u1,u2⟩:=zbf (xs:=xs) (a:=a) (st:=[59,32,9]) ha;rw [zyc h60 rfl rfl] at h
   split at h
   · cases h
   · unfold aimX at h
     split at h
     · cases h
     · injection h with h
       injection h with _ h
       omega
def AdrP (w:World) (R:Except (Nat × Int) Adr) (e:Ending) (w':World):Prop:=match R with
 | .error q=>e = .returned (.tuple #[.agg #[.string ⟨#[]⟩,.string ⟨#[]⟩,.string ⟨#[]⟩,.string ⟨#[]⟩,.int .i64 0,.slice none 0 0,.slice none 0 0,.slice none 0 0],.int .i64 (q.1:Nat),.int .u8 q.2])∧Below w.heap.size w w'∧q.2≠0
 | .ok a => ∃ v1 v2 v3,e = .returned (.tuple #[.agg #[.string (strOfNums a.ds),.string (strOfNums a.u.sc),.string (strOfNums a.u.us),.string (strOfNums a.u.ho),.int .i64 a.u.po,v1,v2,v3],.int .i64 0,.int .u8 0])∧VX 155 3 w v1 a.u.ps.length (pms a.u.ps) w'∧VX 155 3 w v2 a.u.hs.length (pms a.u.hs) w'∧VX 155 3 w v3 a.ps.length (pms a.ps) w'
theorem AdrP.bad {w w':World} {R:Except (Nat × Int) Adr} {z:Nat} {k:Int} (h:R = .error (z,k)) (hb:Below w.heap.size w w') (hk:k≠0):AdrP w R (.returned (.tuple #[.agg #[.string ⟨#[]⟩,.string ⟨#[]⟩,.string ⟨#[]⟩,.string ⟨#[]⟩,.int .i64 0,.slice none 0 0,.slice none 0 0,.slice none 0 0],.int .i64 (z:Nat),.int .u8 k])) w':=by subst h;exact ⟨rfl,hb,hk⟩
theorem AdrP.good {w w':World} {R:Except (Nat × Int) Adr} {d:List Int} {u:Uri} {l:List Pm} {v1 v2 v3:Value} (h:R = .ok ⟨d,u,l⟩) (h1:VX 155 3 w v1 u.ps.length (pms u.ps) w') (h2:VX 155 3 w v2 u.hs.length (pms u.hs) w') (h3:VX 155 3 w v3 l.length (pms l) w'):AdrP w R (.returned (.tuple #[.agg #[.string (strOfNums d),.string (strOfNums u.sc),.string (strOfNums u.us),.string (strOfNums u.ho),.int .i64 u.po,v1,v2,v3],.int .i64 0,.int .u8 0])) w':=by subst h;exact ⟨v1,v2,v3,rfl,h1,h2,h3⟩
theorem zfa {a b c d e f g h:Value}:(Tryz.prog.info? 168).map (·.size)=some [a,b,c,d,e,f,g,h].length:=show (Tryz.prog.info? 168).map (·.size)=some 8 by kernel_rfl
theorem len8 {a b c d e f g h a' b' c' d' e' f' g' h':Value}:[a,b,c,d,e,f,g,h].length=[a',b',c',d',e',f',g',h'].length:=rfl
theorem zf3 (a b c d:ByteArray) (z:Int) {A B C:Option Addr} {n m o c1 c2 c3:Nat}:∀ u∈[Value.string a,.string b,.string c,.string d,.int .i64 z,.slice A n c1,.slice B m c2,.slice C o c3],u.oneCell'=true:=fun u hu=>by
 simp only [List.mem_cons,List.not_mem_nil,or_false] at hu
 rcases hu with rfl|rfl|rfl|rfl|rfl|rfl|rfl|rfl<;>rfl
theorem yd3 (s:ByteArray) (c:UInt8):decide (0≤Lib.indexByte s.data.toList c)=(zaa s).contains (c.toNat:Int):=by
 rw [zc9 c s.data.toList,← znb];rw [Bool.eq_iff_iff,decide_eq_true_iff,List.contains_iff_mem]
 have key:(zaa s).length≤zag (fun x=>x != (c.toNat:Int)) (zaa s) 0 ↔ (c.toNat:Int) ∉ zaa s:=by
  unfold zag;rw [List.drop_zero,Nat.zero_add]
  constructor
  · intro h hm
    have ht:=(List.takeWhile_sublist (fun x=>x != (c.toNat:Int)) (l:=zaa s)).eq_of_length_le h;have ha:((zaa s).takeWhile fun x=>x != (c.toNat:Int)).all (fun x=>x != (c.toNat:Int))=true:=List.all_takeWhile;rw [ht] at ha;have:=List.all_eq_true.1 ha _ hm;simp at this
  · intro hm
    have:=ze7 (f:=fun x=>x != (c.toNat:Int)) (z:=zaa s) (r:=[]) (fun x hx=>by
     have:x≠(c.toNat:Int):=fun e=>hm (e ▸ hx)
     simpa using this) (.inl rfl)
    rw [List.append_nil] at this;rw [this];exact Nat.le_refl _
 by_cases h:(c.toNat:Int)∈zaa s
 · have h2:¬ (zaa s).length≤zag (fun x=>x != (c.toNat:Int)) (zaa s) 0:=fun h3=>key.1 h3 h
   rw [if_neg h2];exact ⟨fun _=>h,fun _=>by omega⟩
 · rw [if_pos (key.2 h)]
   exact ⟨fun h2=>by omega,fun h2=>absurd h2 h⟩
def ErR (wb:World) (R:Except (Nat × Int) Adr) (z k:Int) (wx:World):Prop:=k≠0∧∃ (n:Nat),z=n∧Hid (R = .error (n,k))∧Hid (Below wb.heap.size wb wx)
def NmR (wb:World) (cb ab:Nat) (s:ByteArray) (R:Except (Nat × Int) Adr) (v7 v8:Value) (wx:World):Prop := ∃ z k:Int,v7 = .int .i64 z∧v8 = .int .u8 k∧(ErR wb R z k wx ∨
 ∃ (d:List Int) (b:Nat),z=0∧k=0∧b≤s.size∧Hid (R=adr2 (zaa s) d b)∧Hid (Mine wb wx (LA cb ab s b (aC0 d)) []))
def AiR (wb:World) (cb ab:Nat) (s:ByteArray) (R:Except (Nat × Int) Adr) (v7 v8:Value) (wx:World):Prop := ∃ z k:Int,v7 = .int .i64 z∧v8 = .int .u8 k∧(ErR wb R z k wx ∨
 ∃ (d:List Int) (u:Uri) (c:Nat) (A1 A2:Option Addr) (c1 c2:Nat),z=0∧k=0∧c≤s.size∧Hid (R=adr3 (zaa s) d u c)∧Hid (Mine wb wx (LA cb ab s c (aC d (strOfNums u.sc) (strOfNums u.us) (strOfNums u.ho) u.po (.slice A1 u.ps.length c1) (.slice A2 u.hs.length c2) (.slice none 0 0))) [])∧Hid (VX 155 3 wb (.slice A1 u.ps.length c1) u.ps.length (pms u.ps) wx)∧Hid (VX 155 3 wb (.slice A2 u.hs.length c2) u.hs.length (pms u.hs) wx))
def PrR (wb:World) (ab:Nat) (R:Except (Nat × Int) Adr) (v7 v8:Value) (wx:World):Prop := ∃ z k:Int,v7 = .int .i64 z∧v8 = .int .u8 k∧(ErR wb R z k wx ∨
 ∃ (d:List Int) (u:Uri) (l:List Pm) (A1 A2 A3:Option Addr) (c1 c2 c3:Nat),k=0∧Hid (R = .ok ⟨d,u,l⟩)∧wb.heap.size≤ab∧Hid (Row wx ab 168 [.string (strOfNums d),.string (strOfNums u.sc),.string (strOfNums u.us),.string (strOfNums u.ho),.int .i64 u.po,.slice A1 u.ps.length c1,.slice A2 u.hs.length c2,.slice A3 l.length c3])∧Hid (VX 155 3 wb (.slice A1 u.ps.length c1) u.ps.length (pms u.ps) wx)∧Hid (VX 155 3 wb (.slice A2 u.hs.length c2) u.hs.length (pms u.hs) wx)∧Hid (VX 155 3 wb (.slice A3 l.length c3) l.length (pms l) wx))
theorem zn9 (s:ByteArray) (w:World) (hC:CLS w) (hG:GM w) (hP:PT w):Calls Tryz.prog 201 #[.string s] w (AdrP w (adrL (zaa s))):=by
 have HL:=zac s;have HBY:=kd (zas s);have BAD:=kd (fun w' n k (h:adrL (zaa s) = .error (n,k)) hb hk=>AdrP.bad (w:=w) (w':=w') h hb hk)
 have GOOD:=kd (fun w' d u l v1 v2 v3 (h:adrL (zaa s) = .ok ⟨d,u,l⟩) h1 h2 h3=>AdrP.good (w:=w) (w':=w') (v1:=v1) (v2:=v2) (v3:=v3) h h1 h2 h3);have UE:=kd (adr_eq (zaa s));rw [HL] at UE;generalize AdrP w (adrL (zaa s))=PP at *;generalize adrL (zaa s)=R at *
 have RES:=kd (fun wx h=>zpd (w:=w) (wx:=wx) (T:=168) (zs:=ZA8) h);have GRO:=kd (fun wx w9 h hg=>zk1 (w:=w) (wx:=wx) (w9:=w9) (T:=168) (zs:=ZA8) h hg)
 have WB0:=kd ((Below.refl w.heap.size w).alloc zNr (.cells ([.string ⟨#[]⟩,.string ⟨#[]⟩,.string ⟨#[]⟩,.string ⟨#[]⟩,.int .i64 0,.slice none 0 0,.slice none 0 0,.slice none 0 0]:List Value).toArray 168))
 have WBS:=kd (show w.heap.size<(w.alloc (.cells ([.string ⟨#[]⟩,.string ⟨#[]⟩,.string ⟨#[]⟩,.string ⟨#[]⟩,.int .i64 0,.slice none 0 0,.slice none 0 0,.slice none 0 0]:List Value).toArray 168)).heap.size by rw [World.size_alloc];omega)
 have REF:=kd (Below.refl (w.alloc (.cells ([.string ⟨#[]⟩,.string ⟨#[]⟩,.string ⟨#[]⟩,.string ⟨#[]⟩,.int .i64 0,.slice none 0 0,.slice none 0 0,.slice none 0 0]:List Value).toArray 168)).heap.size (w.alloc (.cells ([.string ⟨#[]⟩,.string ⟨#[]⟩,.string ⟨#[]⟩,.string ⟨#[]⟩,.int .i64 0,.slice none 0 0,.slice none 0 0,.slice none 0 0]:List Value).toArray 168)))
 go_enter Tryz.func201,Tryz.ntmps201
 by_cases hbig:1024<s.size
 · have dd:decide ((1024:Int)<(s.size:Int))=true:=by simp;omega
   have E:=kd (show R = .error (1024,4) from UE.out.trans (if_pos hbig));clear UE hbig;have RR:=kd (RES.out _ REF.out);go_wp2_with (with_reducible refine zav rfl 168 (.tmp 2) (.tmp 12) rfl RR.out ZA8 rfl rfl len8 zfa (zf3 _ _ _ _ _) ?_);intro w9 R9 G9;have BW9:=kd (GRO.out _ _ REF.out G9.out)
   go_wp2_with fail;exact bodyPost_ret (za3 rfl _ _ _ w.heap.size ZA8 _ rfl R9.out.range Tryz.underlying168 rfl zfa) rfl (by exact BAD.out _ _ _ E.out BW9.out (by decide))
 have dd:decide ((1024:Int)<(s.size:Int))=false:=by simp;omega
 have hs:s.size≤1024:=by omega
 have UE2:=kd (UE.out.trans (if_neg hbig));clear UE hbig REF;have HCb:=kd (hC.below WB0.out);have HGb:=kd (hG.below WB0.out);have HPb:=kd (hP.below WB0.out);clear hC hG hP;go_upto_region 3 with (fail)
 generalize w.alloc (.cells #[.string ⟨#[]⟩,.string ⟨#[]⟩,.string ⟨#[]⟩,.string ⟨#[]⟩,.int .i64 0,.slice none 0 0,.slice none 0 0,.slice none 0 0] 168)=wb at *;clear dd;have RC:=kd (Row.new wb 148 [.string s,.int .i64 ((0:Nat):Int)])
 have BC:=kd ((Below.refl wb.heap.size wb).alloc zNr (.cells #[.string s,.int .i64 ((0:Nat):Int)] 148));have BLK:=kd (fun w1 h1=>zdj w1 wb.heap.size 0 s h1 zNz (by omega));obtain ⟨a,ha⟩:∃ a,zag isBlank (zaa s) 0=a:=⟨_,rfl⟩;rw [ha] at BLK
 have as_:a≤s.size:=by rw [← ha,← HL];exact za5 zNz
 have NE:=kd (zrq ha rfl);have H60:=kd (has_60 ha);clear ha;go_wp2_with fail;refine (BLK.out _ RC.out).mono ?_;rintro _ w2 ⟨rfl,hc⟩
 have M:=kd (show Mine wb (w2.alloc (.cells ([.string ⟨#[]⟩,.string ⟨#[]⟩,.string ⟨#[]⟩,.string ⟨#[]⟩,.int .i64 0,.slice none 0 0,.slice none 0 0,.slice none 0 0]:List Value).toArray 168)) (LA wb.heap.size w2.heap.size s a (aC0 [])) [] from by
  have h1:wb.heap.size<w2.heap.size:=Nat.lt_of_lt_of_le RC.out.lt hc.g.size;have hb2:Below wb.heap.size wb w2:=BC.out.grown hc.g BC.out.size (fun k hk=>by cases hk;exact Nat.le_refl _);refine ⟨hb2.alloc (by omega) _,fun r hr => ?_,by simp [LA];omega,fun F hF=>by cases hF⟩
  simp only [LA,List.mem_cons,List.not_mem_nil,or_false] at hr
  rcases hr with rfl|rfl
  · exact ⟨hc.r.alloc _,Nat.le_refl _⟩
  · exact ⟨Row.new w2 168 [.string ⟨#[]⟩,.string ⟨#[]⟩,.string ⟨#[]⟩,.string ⟨#[]⟩,.int .i64 0,.slice none 0 0,.slice none 0 0,.slice none 0 0],Nat.le_of_lt h1⟩)
 clear hc RC BC BLK;go_upto_region 6 with (fail);generalize w2.alloc (.cells #[.string ⟨#[]⟩,.string ⟨#[]⟩,.string ⟨#[]⟩,.string ⟨#[]⟩,.int .i64 0,.slice none 0 0,.slice none 0 0,.slice none 0 0] 168)=w3 at *;generalize w2.heap.size=ab at *;generalize hcb:wb.heap.size=cb at M ⊢
 clear hcb;have SE:=kd (zb4 w3 cb a 34 s (la_c M.out));rw [show zcw (zaa s) a 34=atL (zaa s) a 34 from rfl] at SE;go_wp2_with fail;refine SE.out.mono ?_;rintro _ _ ⟨rfl,nq,rfl⟩;replace M:=kd (M.out.call (zam _ nq));clear SE;generalize w3.drewN nq=w4 at *;go_upto_if 20 with (fail)
 go_cut [7,8] (fun v7 v8 wx=>NmR wb cb ab s R v7 v8 wx)
 case first =>
  cases h34:atL (zaa s) a 34 with
  | true =>
    have QE:=kd (show zod (zaa s)=qnL (zaa s) a by rw [NE.out,if_pos h34];rfl);have QC:=kd (zta wb w4 cb ab a s M.out as_ (by omega));have NK:=kd (zp0 HBY.out (by rw [HL];exact hs));rw [QE.out] at UE2 NK;generalize qnL (zaa s) a=Q at *;clear NE H60 QE h34;go_wp2_with fail
    refine QC.out.mono ?_
    cases Q with
    | error q =>
      obtain ⟨n,k⟩:=q;rintro _ w5 ⟨rfl,hb5,hk⟩;have E:=kd (show R = .error (n,k) from UE2.out);have HB:=kd hb5;have HK:=kd hk;clear hb5 hk UE2 NK QC M;dsimp only at HK;go_wp2_with fail;go_meet;exact ⟨n,k,rfl,rfl,.inl ⟨HK.out,n,rfl,E,HB⟩⟩
    | ok q =>
      obtain ⟨d,b⟩:=q;rintro _ w5 ⟨rfl,hm⟩;have E:=kd (show R=adr2 (zaa s) d b from UE2.out);have HMM:=kd hm;have bl:=NK.out.2.2;rw [HL] at bl;dsimp only at bl;clear hm UE2 NK QC M;go_wp2_with fail;go_meet;exact ⟨0,0,rfl,rfl,.inr ⟨d,b,rfl,rfl,bl,E,HMM⟩⟩
  | false =>
    have NE2:=kd (NE.out.trans (if_neg (by rw [h34];decide)));have CT:=kd (fun w=>(Tryz.strings_Contains_one s 60 w).mono (R':=fun e w'=>e = .returned (.bool ((zaa s).contains 60))∧w=w') fun e w' h=>⟨by rw [h.1,yd3 s 60];rfl,h.2.symm⟩);clear NE h34;go_wp2_with fail
    refine (CT.out _).mono ?_;rintro _ _ ⟨rfl,rfl⟩;clear CT H60
    cases h60:(zaa s).contains 60 with
    | true =>
      have QE:=kd (show zod (zaa s)=wdL (zaa s) a by rw [NE2.out,if_pos h60];unfold wdL wdM;cases zdt (zaa s) ((zaa s).length+1) a []<;>rfl)
      have QC:=kd (zms wb w4 cb ab a s M.out as_ hs);have NK:=kd (zp0 HBY.out (by rw [HL];exact hs));rw [QE.out] at UE2 NK;generalize wdL (zaa s) a=Q at *;clear NE2 QE h60;go_wp2_with fail;refine QC.out.mono ?_
      cases Q with
      | error q =>
        obtain ⟨n,k⟩:=q;rintro _ w5 ⟨rfl,hb5,hk⟩;have E:=kd (show R = .error (n,k) from UE2.out);have HB:=kd hb5;have HK:=kd hk;clear hb5 hk UE2 NK QC M;dsimp only at HK;go_wp2_with fail;go_meet;exact ⟨n,k,rfl,rfl,.inl ⟨HK.out,n,rfl,E,HB⟩⟩
      | ok q =>
        obtain ⟨d,b⟩:=q;rintro _ w5 ⟨rfl,hm⟩;have E:=kd (show R=adr2 (zaa s) d b from UE2.out);have HMM:=kd hm;have bl:=NK.out.2.2;rw [HL] at bl;dsimp only at bl;clear hm UE2 NK QC M;go_wp2_with fail;go_meet;exact ⟨0,0,rfl,rfl,.inr ⟨d,b,rfl,rfl,bl,E,HMM⟩⟩
    | false =>
      have QE:=kd (show zod (zaa s) = .ok ([],a) by rw [NE2.out,if_neg (by rw [h60];decide)]);rw [QE.out] at UE2;have E:=kd (show R=adr2 (zaa s) [] a from UE2.out);clear NE2 QE h60 UE2;go_wp2_with fail;go_meet;exact ⟨0,0,rfl,rfl,.inr ⟨[],a,rfl,rfl,as_,E,M⟩⟩
 case rest =>
 obtain ⟨z0,k0,rfl,rfl,hcase⟩:=hcut;have HCS:=kd hcase;clear hcase
 first|(rename_i KK hKK;refine hKK _ _ ?_;clear hKK KK)|skip
 clear M NE H60 UE2 as_;go_upto_if 34 with (fail)
 go_cut [7,8] (fun v7 v8 wx=>AiR wb cb ab s R v7 v8 wx)
 case first =>
  rcases HCS.out with ⟨hk,n,rfl,HE,HB⟩|⟨d,b,rfl,rfl,hb,HR,M⟩
  · have q0:(k0 == 0)=false:=by simpa using hk
    have HK:=kd hk;rw [q0];clear hk HCS;go_wp2_with fail;go_meet;exact ⟨n,k0,rfl,rfl,.inl ⟨HK.out,n,rfl,HE,HB⟩⟩
  · rw [show ((0:Int) == 0)=true from rfl]
    have TG:=kd (zst wb _ cb ab b s d M.out hb (by omega) HCb.out HGb.out HPb.out);have AL:=kd (fun u c (h:aimL (zaa s) b = .ok (u,c))=>show c≤s.size by rw [← HL];exact aim_le (by rw [HL];exact hb) h)
    have HR2:=kd (show R=match aimL (zaa s) b with
     | .error e => .error e
     | .ok q=>adr3 (zaa s) d q.1 q.2 from HR.out)
    generalize aimL (zaa s) b=Q at *;clear HR HCS;go_wp2_with fail;refine TG.out.mono ?_
    cases Q with
    | error q =>
      obtain ⟨n,k⟩:=q;rintro _ w5 ⟨rfl,hb5,hk⟩;have E:=kd (show R = .error (n,k) from HR2.out);have HB:=kd hb5;have HK:=kd hk;clear hb5 hk HR2 TG M AL;dsimp only at HK;go_wp2_with fail;go_meet;exact ⟨n,k,rfl,rfl,.inl ⟨HK.out,n,rfl,E,HB⟩⟩
    | ok q =>
      obtain ⟨u,c⟩:=q;rintro _ w5 ⟨rfl,v1,v2,hm,x1,x2⟩;obtain ⟨_,A1,c1,hv1,_⟩:=x1.whole;obtain ⟨_,A2,c2,hv2,_⟩:=x2.whole;subst hv1;subst hv2;have E:=kd (show R=adr3 (zaa s) d u c from HR2.out);have HMM:=kd hm;have X1:=kd x1;have X2:=kd x2;have cl:=AL.out u c rfl
      clear hm x1 x2 HR2 TG M AL;go_wp2_with fail;go_meet;exact ⟨0,0,rfl,rfl,.inr ⟨d,u,c,A1,A2,c1,c2,rfl,rfl,cl,E,HMM,X1,X2⟩⟩
 case rest =>
 obtain ⟨z1,k1,rfl,rfl,hcase⟩:=hcut;clear HCS;have HCS:=kd hcase;clear hcase;go_upto_if 41 with (fail)
 go_cut [7,8] (fun v7 v8 wx=>PrR wb ab R v7 v8 wx)
 case first =>
  rcases HCS.out with ⟨hk,n,rfl,HE,HB⟩|⟨d,u,c,A1,A2,c1,c2,rfl,rfl,hc,HR,M,X1,X2⟩
  · have q0:(k1 == 0)=false:=by simpa using hk
    have HK:=kd hk;rw [q0];clear hk HCS;go_wp2_with fail;go_meet;exact ⟨n,k1,rfl,rfl,.inl ⟨HK.out,n,rfl,HE,HB⟩⟩
  · rw [show ((0:Int) == 0)=true from rfl]
    clear HCS;have ZL:zaa (s.extract c s.size)=(zaa s).drop c:=zdz s c
    have ZS:(s.extract c s.size).size≤4000000:=by rw [← zac,ZL,List.length_drop,HL];omega
    have PC:=kd (zj7 (s.extract c s.size) _ ZS (HGb.out.below M.out.bw) (HPb.out.below M.out.bw));rw [ZL] at PC;have PK:=kd (zmt (X:=(zaa s).drop c) (fun x hx=>HBY.out x (List.mem_of_mem_drop hx)) (((zaa s).drop c).length+1) 0 [] zNz zNz (fun p hp=>by cases hp))
    rw [show zfw ((zaa s).drop c) (((zaa s).drop c).length+1) 0 []=zeo ((zaa s).drop c) from rfl] at PK
    have DL:((zaa s).drop c).length≤1024:=by rw [List.length_drop,HL];omega
    have HR2:=kd (show R=match zeo ((zaa s).drop c) with
     | .error q => .error (c+q.1,q.2)
     | .ok l => .ok ⟨d,u,l⟩ from HR.out)
    generalize zeo ((zaa s).drop c)=Q at *;have kc:wc.cell? ⟨cb,1,none⟩=some (.int .i64 c):=(la_c M.out).cell 1
    have i1:(c:Int)≤(s.size:Int):=by omega
    have EXS:=kd (Nat.le_refl s.size);clear HR ZL ZS;go_wp2_with fail;refine PC.out.mono ?_
    cases Q with
    | error q =>
      obtain ⟨n,k⟩:=q;rintro _ w5 ⟨rfl,hb5,hk⟩;have nl:=PK.out.1;dsimp only at nl;have E:=kd (show R = .error (c+n,k) from HR2.out);have HK:=kd hk;have M5:=kd (M.out.call hb5);clear hb5 hk HR2 PC PK M X1 X2 kc i1;dsimp only at HK;have k7:=(la_a M5.out).cell 7
      simp only [aC,List.getElem?_cons_succ,List.getElem?_cons_zero] at k7;have f7:=(la_a M5.out).frozen 7;have M6:=kd (zmy M5.out 7 (.slice none 0 0));have kc:=(la_c M6.out).cell 1;simp only [List.getElem?_cons_succ,List.getElem?_cons_zero] at kc
      have zz:(n:Int)+(c:Int)≤4000000:=by omega
      go_wp2_with fail;go_meet;exact ⟨(n:Int)+c,k,rfl,rfl,.inl ⟨HK.out,c+n,by push_cast;omega,E,kd M6.out.bw⟩⟩
    | ok l =>
      rintro _ w5 ⟨v3,rfl,x3,_⟩;obtain ⟨_,A3,c3,hv3,_⟩:=x3.whole;subst hv3;have E:=kd (show R = .ok ⟨d,u,l⟩ from HR2.out);have M5:=kd (M.out.call x3.bw);have Y1:=kd (X1.out.step x3.bw);have Y2:=kd (X2.out.step x3.bw);have Y3:=kd (x3.base M.out.bw)
      clear x3 HR2 PC PK M X1 X2 kc i1;have k7:=(la_a M5.out).cell 7;simp only [aC,List.getElem?_cons_succ,List.getElem?_cons_zero] at k7;have f7:=(la_a M5.out).frozen 7;have M6:=kd (zmy M5.out 7 (.slice A3 l.length c3))
      have HH:=kd (fun k (hk:k≠ab)=>Below.heap_setCell w5 ⟨ab,7,none⟩ (.slice A3 l.length c3) k hk);have Z1:=kd (zu1 Y1.out (la_a M5.out) M6.out.bw HH.out);have Z2:=kd (zu1 Y2.out (la_a M5.out) M6.out.bw HH.out);have Z3:=kd (zu1 Y3.out (la_a M5.out) M6.out.bw HH.out)
      have R7:=kd (show Row (w5.setCell ⟨ab,7,none⟩ (.slice A3 l.length c3)) ab 168 [.string (strOfNums d),.string (strOfNums u.sc),.string (strOfNums u.us),.string (strOfNums u.ho),.int .i64 u.po,.slice A1 u.ps.length c1,.slice A2 u.hs.length c2,.slice A3 l.length c3] from la_a M6.out)
      have GE:=kd (show wb.heap.size≤ab from M6.out.ge (i:=1) rfl);have kc:=(la_c M6.out).cell 1;simp only [List.getElem?_cons_succ,List.getElem?_cons_zero] at kc;clear Y1 Y2 Y3 HH;go_wp2_with fail;go_meet
      exact ⟨_,0,rfl,rfl,.inr ⟨d,u,l,A1,A2,A3,c1,c2,c3,rfl,E,GE.out,R7,Z1,Z2,Z3⟩⟩
 case rest =>
 obtain ⟨z2,k2,rfl,rfl,hcase⟩:=hcut;clear HCS
 rcases hcase with ⟨hk,n,rfl,HE,HB⟩|⟨d,u,l,A1,A2,A3,c1,c2,c3,rfl,E,ge,R7,Z1,Z2,Z3⟩
 · have q1:(k2 != 0)=true:=by simpa using hk
   have HK:=kd hk;clear hk;have RR:=kd (RES.out _ HB.out);have GR:=kd (fun w9 h=>GRO.out _ w9 HB.out h);go_wp2_with (with_reducible refine zav rfl 168 (.tmp 2) (.tmp 62) rfl RR.out ZA8 rfl rfl len8 zfa (zf3 _ _ _ _ _) ?_);intro w9 R9 G9;have BW9:=kd (GR.out _ G9.out);go_wp2_with fail
   exact bodyPost_ret (za3 rfl _ _ _ w.heap.size ZA8 _ rfl R9.out.range Tryz.underlying168 rfl zfa) rfl (by exact BAD.out _ _ _ HE.out BW9.out HK.out)
 · have B7:=kd Z1.out.bw
   have RR:=kd (RES.out _ B7.out);have GR:=kd (fun w9 h=>GRO.out _ w9 B7.out h)
   go_wp2_with (first
    | (with_reducible refine zab rfl 168 (.tmp 6) rfl R7.out rfl Tryz.underlying168 rfl zfa ?_)
    | (with_reducible refine zav rfl 168 (.tmp 2) (.tmp 65) rfl RR.out [.string (strOfNums d),.string (strOfNums u.sc),.string (strOfNums u.us),.string (strOfNums u.ho),.int .i64 u.po,.slice A1 u.ps.length c1,.slice A2 u.hs.length c2,.slice A3 l.length c3] rfl rfl len8 zfa (zf3 _ _ _ _ _) ?_))
   intro w9 R9 G9;have BW9:=kd (GR.out _ G9.out);have Y1:=kd (znn Z1.out WB0.out WBS.out G9.out BW9.out);have Y2:=kd (znn Z2.out WB0.out WBS.out G9.out BW9.out);have Y3:=kd (znn Z3.out WB0.out WBS.out G9.out BW9.out);go_wp2_with fail
   exact bodyPost_ret (za3 rfl _ _ _ w.heap.size [.string (strOfNums d),.string (strOfNums u.sc),.string (strOfNums u.us),.string (strOfNums u.ho),.int .i64 u.po,.slice A1 u.ps.length c1,.slice A2 u.hs.length c2,.slice A3 l.length c3] _ rfl R9.out.range Tryz.underlying168 rfl zfa) rfl (by exact GOOD.out _ _ _ _ _ _ _ E.out Y1.out Y2.out Y3.out)
end Go.Proofs.YtfnmkedncfdceaaGreatDoor
