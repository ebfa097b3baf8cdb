/- Contract: dialog.Request. And what stands behind it. -/
import Derived.Test.YtfnmkedncfdceaaGreatDoorKe
set_option linter.unusedVariables false
set_option linter.unusedSimpArgs false
namespace Go.Proofs.YtfnmkedncfdceaaGreatDoor
open Go.RowKit

def RqP (w:World) (R:Except Int (Dlg × Msg)) (e:Ending) (w':World):Prop:=match R with
 | .error k=>e = .returned (.tuple #[.agg #[.int .u8 0,.bool false,.string ⟨#[]⟩,.string ⟨#[]⟩,.string ⟨#[]⟩,.string ⟨#[]⟩,.string ⟨#[]⟩,.string ⟨#[]⟩,.slice none 0 0,.int .i64 0,.int .i64 0,.int .i64 0],.agg #[.string ⟨#[]⟩,.string ⟨#[]⟩,.int .i64 0,.string ⟨#[]⟩,.slice none 0 0,.slice none 0 0],.int .u8 k])∧Below w.heap.size w w'∧k≠0
 | .ok (d,q) => ∃ A c A2 c2,e = .returned (.tuple #[.agg (dgC d A c).toArray,.agg (mC q A2 none c2 0 0).toArray,.int .u8 0])∧Below w.heap.size w w'∧SF w A c d.rs w'∧(∀ b o s,A2=some ⟨b,o,s⟩→w.heap.size≤b)∧Rds w' w'.heap.size A2 (hds q.hs)
theorem RqP.bad {w w':World} {R:Except Int (Dlg × Msg)} {k:Int} (h:R = .error k) (hb:Below w.heap.size w w') (hk:k≠0):RqP w R (.returned (.tuple #[.agg #[.int .u8 0,.bool false,.string ⟨#[]⟩,.string ⟨#[]⟩,.string ⟨#[]⟩,.string ⟨#[]⟩,.string ⟨#[]⟩,.string ⟨#[]⟩,.slice none 0 0,.int .i64 0,.int .i64 0,.int .i64 0],.agg #[.string ⟨#[]⟩,.string ⟨#[]⟩,.int .i64 0,.string ⟨#[]⟩,.slice none 0 0,.slice none 0 0],.int .u8 k])) w':=by subst h;exact ⟨rfl,hb,hk⟩
theorem RqP.good {w w':World} {R:Except Int (Dlg × Msg)} {d:Dlg} {me ur:List Int} {hl:List Hd} {A A2:Option Addr} {c c2 n:Nat} (h:R = .ok (d,⟨me,ur,0,[],hl⟩)) (hn:hl.length=n) (hb:Below w.heap.size w w') (hs:SF w A c d.rs w') (hf:∀ b o s,A2=some ⟨b,o,s⟩→w.heap.size≤b) (hr:Rds w' w'.heap.size A2 (hds hl)) :
  RqP w R (.returned (.tuple #[.agg (dgC d A c).toArray,.agg #[.string (strOfNums me),.string (strOfNums ur),.int .i64 0,.string ⟨#[]⟩,.slice A2 n c2,.slice none 0 0],.int .u8 0])) w':=by subst h hn;exact ⟨A,c,A2,c2,rfl,hb,hs,hf,hr⟩
theorem zix {fn:Func} {t u v:Tmp} {ty ty2:TypeId} (h:fn.results=#[.cell t ty,.cell u ty2,.tmp v]) (tmps:Array Value) (P:Program) (w:World) (b b2:Nat) (cs cs2:List Value) (d d2:TypeDesc)
  (ht:tmps.getD t undef = .pointer (some ⟨b,0,none⟩)) (hc:w.rangeAt b 0 cs) (hu:P.underlying ty=some d) (hd:d.isRow=true) (hi:(P.info? ty).map (·.size)=some cs.length)
  (ht2:tmps.getD u undef = .pointer (some ⟨b2,0,none⟩)) (hc2:w.rangeAt b2 0 cs2) (hu2:P.underlying ty2=some d2) (hd2:d2.isRow=true) (hi2:(P.info? ty2).map (·.size)=some cs2.length) :
  (results fn tmps).run P w = .ok (.tuple #[.agg cs.toArray,.agg cs2.toArray,tmps.getD v undef]) w:=by
 have hl:=run_loadVar_mid (P:=P) w b 0 ty cs d hc hu hd hi;have hl2:=run_loadVar_mid (P:=P) w b2 0 ty2 cs2 d2 hc2 hu2 hd2 hi2;simp only [results,h];simp [-Array.getD_eq_getD_getElem?,ht,ht2,asAddr,hl,hl2]
theorem zg8 {s1 s2 s3:ByteArray} {k:Int} {A B:Option Addr} {n c m e:Nat}:∀ u∈[Value.string s1,.string s2,.int .i64 k,.string s3,.slice A n c,.slice B m e],u.oneCell'=true:=fun u hu=>by
 simp only [List.mem_cons,List.not_mem_nil,or_false] at hu
 rcases hu with rfl|rfl|rfl|rfl|rfl|rfl<;>rfl
theorem zyf (a b:ByteArray) (h:a.size+b.size≤9223372036854775807) (w:World):(binOp .add 9 (.string a) (.string b)).run Tryz.prog w = .ok (.string (a++b)) w:=by
 have h2:¬ (9223372036854775807<a.size+b.size):=by omega
 simp [go_sem,h2]
theorem zsp {o:Oper} {a:Act} {W:World} {next:Act→World→Prop} {Q:Exit→Act→World→Prop} (x0 x1 x2 x3 x4 x5 x6 x7:Operand) (ho:o.op = .buildSlice 23 8 #[(0,x0),(1,x1),(2,x2),(3,x3),(4,x4),(5,x5),(6,x6),(7,x7)])
  (t0 t1 t2 t3 t4 t5 t6 t7:ByteArray) (h0:a.eval x0 = .string t0) (h1:a.eval x1 = .string t1) (h2:a.eval x2 = .string t2) (h3:a.eval x3 = .string t3) (h4:a.eval x4 = .string t4) (h5:a.eval x5 = .string t5) (h6:a.eval x6 = .string t6) (h7:a.eval x7 = .string t7)
  (hn:Row (W.alloc (.cells #[.string t0,.string t1,.string t2,.string t3,.string t4,.string t5,.string t6,.string t7] 9)) W.heap.size 9 [.string t0,.string t1,.string t2,.string t3,.string t4,.string t5,.string t6,.string t7]→next (a.put o.dst (.slice (some ⟨W.heap.size,0,none⟩) 8 8)) (W.alloc (.cells #[.string t0,.string t1,.string t2,.string t3,.string t4,.string t5,.string t6,.string t7] 9))):o.wp Tryz.prog a W next Q:=by
 have hr:(execOp a.eval o).run Tryz.prog W = .ok (.value (.slice (some ⟨W.heap.size,0,none⟩) 8 8)) (W.alloc (.cells #[.string t0,.string t1,.string t2,.string t3,.string t4,.string t5,.string t6,.string t7] 9)):=by
  unfold execOp;rw [ho];dsimp only [List.map_toArray,List.map_cons,List.map_nil];simp only [List.map_toArray,List.map_cons,List.map_nil,h0,h1,h2,h3,h4,h5,h6,h7]
  kernel_rfl
 unfold Oper.wp;rw [hr];exact hn (Row.new W 9 [.string t0,.string t1,.string t2,.string t3,.string t4,.string t5,.string t6,.string t7])
theorem may_in {d:Dlg} {m via:List Int} (h:zc1 d m via=0):(0≤d.ls∧d.ls≤2147483647)∧0≤d.iq∧d.iq≤2147483647:=by
 unfold zc1 at h
 split at h
 · cases h
 rename_i h1
 have a1:zfd d.ls=true:=by cases hh:zfd d.ls with
  | true=>rfl
  | false=>exact absurd (.inl hh) h1
 have a2:zfd d.iq=true:=by cases hh:zfd d.iq with
  | true=>rfl
  | false=>exact absurd (.inr (.inl hh)) h1
 unfold zfd at a1 a2;simp at a1 a2;exact ⟨a1,a2⟩
theorem yc7 {d:Dlg} {m via:List Int} (h:zc1 d m via≠0):zcb d m via = .error (zc1 d m via):=by unfold zcb;exact if_pos h
theorem req_ok {d:Dlg} {m via:List Int} (h:zc1 d m via=0):zcb d m via = .ok (zvu d m,⟨m,(wayL d).1,0,[],zpx d m via (zjy d m)⟩):=by unfold zcb;exact if_neg (by simp [h])
theorem dec21 {n:Int} (h0:0≤n) (h1:n≤9223372036854775807):(decL n).length≤21:=by
 unfold decL bl;rw [List.length_map];exact Lib.itoa_length_le n (by omega) h1
def rtH (r:List Int):Hd:=hdL zpk (brak r)
theorem zy3 (d:Dlg) (m via:List Int) (n:Int):zpx d m via n=([hdL VIAN via,hdL MAXF [55,48]]++(wayL d).2.map rtH)++zfo [FROMN,zb0 d.lu d.lt,TON,zb0 d.ru d.rt,za0,d.ci,zdl,decL n++32::m]:=by
 unfold zpx
 rfl
theorem way_tx {d:Dlg} (h:DOK d):Tx (wayL d).1∧(∀ r∈(wayL d).2,Tx r)∧(wayL d).2.length≤2000001:=by
 have hn:=h.n;unfold wayL
 cases hrs:d.rs with
 | nil=>exact ⟨h.tg,(fun r hr=>by cases hr),Nat.zero_le _⟩
 | cons r rest =>
   rw [hrs] at hn;dsimp only
   split
   · exact ⟨h.tg,(fun x hx=>h.rs x (by rw [hrs];exact hx)),Nat.le_succ_of_le hn⟩
   · refine ⟨h.rs r (by rw [hrs];simp),(fun x hx => ?_),by simp at hn ⊢;omega⟩
     rcases List.mem_append.1 hx with hx|hx
     · exact h.rs x (by rw [hrs];exact List.mem_cons_of_mem _ hx)
     · rw [List.mem_singleton] at hx;rw [hx];exact h.tg
theorem ycs {rl:List (List Int)} {k:Nat} {r:List Int} (h:rl[k]? = some r) (H:List Hd):(H++(rl.take k).map rtH)++zfo [zpk,brak r]=H++(rl.take (k+1)).map rtH:=by
 rw [List.take_add_one,h];simp [zfo,rtH]
theorem ya0 (r:List Int):(⟨#[60]⟩:ByteArray)++strOfNums r ++ ⟨#[62]⟩=strOfNums (brak r):=by
 unfold brak;rw [show (60::(r++[62]))=[60]++r++[62] by simp,← zcx,← zcx]
 rfl
set_option maxRecDepth 100000 in
set_option maxHeartbeats 16000000 in
theorem zfb (d:Dlg) (A:Option Addr) (c:Nat) (m via:List Int) (w:World) (H:DArg w d A c) (hm:Tx m) (hv:Tx via) (G:GW w) :
  Calls Tryz.prog 11 #[.agg (dgC d A c).toArray,.string (strOfNums m),.string (strOfNums via)] w (RqP w (zcb d m via)):=by
 have M0:=kd (zei w 25 25 31 [.int .u8 d.st,.bool d.cl,.string (strOfNums d.ci),.string (strOfNums d.lt),.string (strOfNums d.rt),.string (strOfNums d.lu),.string (strOfNums d.ru),.string (strOfNums d.tg),.slice A d.rs.length c,.int .i64 d.ls,.int .i64 d.rq,.int .i64 d.iq] [.int .u8 0,.bool false,.string ⟨#[]⟩,.string ⟨#[]⟩,.string ⟨#[]⟩,.string ⟨#[]⟩,.string ⟨#[]⟩,.string ⟨#[]⟩,.slice none 0 0,.int .i64 0,.int .i64 0,.int .i64 0] [.string ⟨#[]⟩,.string ⟨#[]⟩,.int .i64 0,.string ⟨#[]⟩,.slice none 0 0,.slice none 0 0])
 have MR:=kd (fun w' (hb:Below w.heap.size w w')=>ztl d A c m via w' (H.step hb) hm hv (G.below hb));have CP:=kd (fun w' (hb:Below w.heap.size w w')=>zik d A c w' (H.step hb));have WY:=kd (fun w' (hb:Below w.heap.size w w')=>ycb d A c w' (H.step hb) (G.below hb))
 have WT:=kd (way_tx H.ok);have PA1:=kd (fun W=>(zn8 d.lu d.lt W H.ok.lu H.ok.lt).mono fun e W2 h=>(show e = .returned (.string (strOfNums (zb0 d.lu d.lt)))∧Below W.heap.size W W2 from ⟨h.1,h.2 ▸ Below.refl _ _⟩))
 have PA2:=kd (fun W=>(zn8 d.ru d.rt W H.ok.ru H.ok.rt).mono fun e W2 h=>(show e = .returned (.string (strOfNums (zb0 d.ru d.rt)))∧Below W.heap.size W W2 from ⟨h.1,h.2 ▸ Below.refl _ _⟩));have MI:=kd (fun h=>may_in (d:=d) (m:=m) (via:=via) h)
 have E1:=kd (fun h=>yc7 (d:=d) (m:=m) (via:=via) h);have K1:=kd (fun h=>req_ok (d:=d) (m:=m) (via:=via) h);have HQ:=kd (fun n=>zy3 d m via n);have PTH:=kd G.p;have PTB:=kd (fun W (hb:Below w.heap.size w W)=>(G.below hb).p);have MT:=kd hm
 have BAD:=kd (fun w' k h hb hk=>RqP.bad (w:=w) (w':=w') (R:=zcb d m via) (k:=k) h hb hk)
 have GOOD:=kd (fun w' d1 me ur hs A A2 c c2 n h hn hb h2 hf hr=>RqP.good (w:=w) (w':=w') (R:=zcb d m via) (d:=d1) (me:=me) (ur:=ur) (hl:=hs) (A:=A) (A2:=A2) (c:=c) (c2:=c2) (n:=n) h hn hb h2 hf hr);unfold dgC at GOOD CP WY MR ⊢;generalize RqP w (zcb d m via)=PP at *
 generalize zcb d m via=R at *;generalize zc1 d m via=mr at *;clear H G hv hm
 go_enter Tryz.func11,Tryz.ntmps11
 go_upto_region 1 with (fail)
 generalize ((w.alloc (.cells #[.int .u8 d.st,.bool d.cl,.string (strOfNums d.ci),.string (strOfNums d.lt),.string (strOfNums d.rt),.string (strOfNums d.lu),.string (strOfNums d.ru),.string (strOfNums d.tg),.slice A d.rs.length c,.int .i64 d.ls,.int .i64 d.rq,.int .i64 d.iq] 25)).alloc (.cells #[.int .u8 0,.bool false,.string ⟨#[]⟩,.string ⟨#[]⟩,.string ⟨#[]⟩,.string ⟨#[]⟩,.string ⟨#[]⟩,.string ⟨#[]⟩,.slice none 0 0,.int .i64 0,.int .i64 0,.int .i64 0] 25)).alloc (.cells #[.string ⟨#[]⟩,.string ⟨#[]⟩,.int .i64 0,.string ⟨#[]⟩,.slice none 0 0,.slice none 0 0] 31)=w1 at *
 obtain ⟨g,hg⟩:∃ b,w.heap.size=b:=⟨_,rfl⟩;rw [hg] at M0 ⊢;clear hg;have RD:=kd (M0.out.row (i:=2) rfl);go_wp2_with (with_reducible refine zab rfl 25 (.tmp 3) rfl RD.out rfl Tryz.underlying25 rfl (zae _ _ _ _ _ _ _ _ _ _ _ _) ?_);refine (MR.out _ M0.out.bw).mono ?_;rintro _ w2 ⟨rfl,hb2⟩
 have M2:=kd (M0.out.call hb2);clear hb2 MR RD M0
 by_cases h1:mr=0
 case neg =>
  have p1:(mr != 0)=true:=by simpa using h1
  have N:=kd (E1.out h1);have HK:=kd h1;clear E1 K1 WY CP WT PA1 PA2 MI GOOD h1 HQ PTH PTB MT;go_wp2_with (with_reducible refine zad M2.out 1 rfl 25 (.tmp 6) (.tmp 23) rfl Z12 _ rfl rfl rfl rfl ?hl ?hz ?h1 ?hh)
  case hl=>exact za6
  case hz=>exact zae _ _ _ _ _ _ _ _ _ _ _ _
  case h1=>exact zat
  case hh =>
  intro w3 M3;go_wp2_with (with_reducible refine zad M3.out 0 rfl 31 (.tmp 7) (.tmp 24) rfl Z6m _ rfl rfl rfl rfl ?hl ?hz ?h1 ?hh)
  case hl=>exact lenU
  case hz=>exact zaw
  case h1=>exact zg8
  case hh =>
  intro w4 M4;have R4:=M4.out.row (i:=1) rfl;have R5:=M4.out.row (i:=0) rfl;go_wp2_with fail
  exact bodyPost_ret (zix rfl _ _ _ (g+1) (g+1+1) Z12 Z6m _ _ rfl R4.range Tryz.underlying25 rfl (zae _ _ _ _ _ _ _ _ _ _ _ _) rfl R5.range Tryz.underlying31 rfl zaw) rfl (by exact BAD.out _ _ N.out M4.out.bw HK.out)
 have p1:(mr != 0)=false:=by simpa using h1
 have KK:=kd (K1.out h1);obtain ⟨⟨i1,i2⟩,i3,i4⟩:=MI.out h1;clear E1 K1 MI BAD h1;have RD:=kd (M2.out.row (i:=2) rfl);go_wp2_with (with_reducible refine zab rfl 25 (.tmp 3) rfl RD.out rfl Tryz.underlying25 rfl (zae _ _ _ _ _ _ _ _ _ _ _ _) ?_);refine (CP.out _ M2.out.bw).mono ?_
 rintro _ w5 ⟨A5,c5,rfl,hb5,sf⟩;have SFH:=kd (sf.base M2.out.bw);have M5:=kd ((M2.out.call hb5).add (F:=fun W=>Rds W W.heap.size A5 (strs d.rs)) (za9 sf.r (fun b o s e=>M2.out.fresh (sf.fresh b o s e).1)));clear hb5 CP RD M2 sf p1
 go_upto_region 5 with (with_reducible refine zak rfl 25 (.tmp 10) (.tmp 27) rfl Z12 (dV d A5 c5) rfl rfl za6 (zae _ _ _ _ _ _ _ _ _ _ _ _) zat ?_;intro w6 R6 S6);have M6:=kd (M5.out.join S6.out zNr R6.out);generalize w5.heap.size=gd at *;clear R6 S6 M5
 have LA:=kd (zdg MT.out.1 [65,67,75] ACKT rfl);have LI:=kd (zdg MT.out.1 [73,78,86,73,84,69] INVT rfl);obtain ⟨L1,hL1⟩:∃ x,(if m=ACKT then d.ls else d.ls+1)=x:=⟨_,rfl⟩;obtain ⟨Q1,hQ1⟩:∃ x,(if m=INVT then d.ls+1 else d.iq)=x:=⟨_,rfl⟩
 obtain ⟨num,hnum⟩:∃ x,zjy d m=x:=⟨_,rfl⟩;have K2:=kd (show R = .ok ({ d with ls:=L1,iq:=Q1 },⟨m,(wayL d).1,0,[],zpx d m via num⟩) by rw [← hL1,← hQ1,← hnum];exact KK.out);have LN:=kd hL1;have QN:=kd hQ1;have NN:=kd hnum;clear hL1 hQ1 hnum KK;have KK:=K2;clear K2
 have x11:w6.cell? ⟨g,11,none⟩=some (.int .i64 d.iq):=(M6.out.row (i:=3) rfl).cell 11;have x9:w6.cell? ⟨g,9,none⟩=some (.int .i64 d.ls):=(M6.out.row (i:=3) rfl).cell 9;have m9:w6.cell? ⟨gd,9,none⟩=some (.int .i64 d.ls):=(M6.out.row (i:=0) rfl).cell 9
 have f9:w6.frozen? ⟨gd,9,none⟩=false:=(M6.out.row (i:=0) rfl).frozen 9;go_upto_if 31 with (fail)
 go_cut [11] (fun v wx=>v = .int .i64 num∧Hid (Mine w wx [(gd,25,[.int .u8 d.st,.bool d.cl,.string (strOfNums d.ci),.string (strOfNums d.lt),.string (strOfNums d.rt),.string (strOfNums d.lu),.string (strOfNums d.ru),.string (strOfNums d.tg),.slice A5 d.rs.length c5,.int .i64 L1,.int .i64 d.rq,.int .i64 d.iq]),(g+1+1,31,Z6m),(g+1,25,Z12),(g,25,(dV d A c))] [fun W=>Rds W W.heap.size A5 (strs d.rs)]))
 case first =>
  by_cases h2:m=ACKT
  · have p2:((strOfNums m).toList == [65,67,75])=true:=LA.out.trans (by simpa using h2)
    have p2':((strOfNums m).toList != [65,67,75])=false:=by rw [bne,p2];rfl
    have N1:=kd (show num=d.iq by rw [← NN.out];unfold zjy;exact if_pos h2);have N2:=kd (show L1=d.ls by rw [← LN.out];exact if_pos h2);clear h2 LA LI KK GOOD
    try rw [p2']
    try rw [p2]
    go_wp2_with fail;go_meet;refine ⟨by rw [N1.out],kd ?_⟩;rw [N2.out];exact M6.out
  · have p2:((strOfNums m).toList == [65,67,75])=false:=LA.out.trans (by simpa using h2)
    have p2':((strOfNums m).toList != [65,67,75])=true:=by rw [bne,p2];rfl
    have N1:=kd (show num=d.ls+1 by rw [← NN.out];unfold zjy;exact if_neg h2);have N2:=kd (show L1=d.ls+1 by rw [← LN.out];exact if_neg h2);clear h2 LA LI KK GOOD
    try rw [p2']
    try rw [p2]
    go_wp2_with fail;have MX:=kd (M6.out.setCell (i:=0) (off:=9) (.int .i64 (d.ls+1)) rfl rfl);go_meet;refine ⟨by rw [N1.out],kd ?_⟩;rw [N2.out];exact MX.out
 case rest =>
 obtain ⟨rfl,MH⟩:=hcut;clear M6 x11 x9 m9 f9 LA;have M6:=MH;clear MH;have m11:wc.cell? ⟨gd,11,none⟩=some (.int .i64 d.iq):=(M6.out.row (i:=0) rfl).cell 11;have f11:wc.frozen? ⟨gd,11,none⟩=false:=(M6.out.row (i:=0) rfl).frozen 11;go_upto_if 38 with (fail)
 go_cut [38] (fun _ wx=>Hid (Mine w wx [(gd,25,[.int .u8 d.st,.bool d.cl,.string (strOfNums d.ci),.string (strOfNums d.lt),.string (strOfNums d.rt),.string (strOfNums d.lu),.string (strOfNums d.ru),.string (strOfNums d.tg),.slice A5 d.rs.length c5,.int .i64 L1,.int .i64 d.rq,.int .i64 Q1]),(g+1+1,31,Z6m),(g+1,25,Z12),(g,25,(dV d A c))] [fun W=>Rds W W.heap.size A5 (strs d.rs)]))
 case first =>
  by_cases h2:m=INVT
  · have p2:((strOfNums m).toList == [73,78,86,73,84,69])=true:=LI.out.trans (by simpa using h2)
    have N2:=kd (show Q1=num by
     rw [← QN.out,← NN.out];unfold zjy
     rw [if_pos h2,if_neg (by rw [h2];decide)])
    clear h2 LI KK GOOD
    try rw [p2]
    go_wp2_with fail;have MX:=kd (M6.out.setCell (i:=0) (off:=11) (.int .i64 num) rfl rfl);go_meet;refine kd ?_;rw [N2.out];exact MX.out
  · have p2:((strOfNums m).toList == [73,78,86,73,84,69])=false:=LI.out.trans (by simpa using h2)
    have N2:=kd (show Q1=d.iq by rw [← QN.out];exact if_neg h2);clear h2 LI KK GOOD
    try rw [p2]
    go_wp2_with fail;go_meet;refine kd ?_;rw [N2.out];exact M6.out
 case rest =>
 clear M6 m11 f11 LI;have M6:=hcut;clear hcut
 have NB:=kd (show 0≤num∧num≤2147483648 by
  rw [← NN.out];unfold zjy
  split<;>omega)
 clear NN LN QN i1 i2 i3 i4;have RD:=kd (M6.out.row (i:=3) rfl);go_wp2_with (with_reducible refine zab rfl 25 (.tmp 3) rfl RD.out rfl Tryz.underlying25 rfl (zae _ _ _ _ _ _ _ _ _ _ _ _) ?_);refine (WY.out _ M6.out.bw).mono ?_;rintro _ w7 ⟨A3,c3,rfl,hb7,sf⟩;have M7:=kd (M6.out.call hb7)
 have H7:=kd (HQ.out num);have K7:=kd (show R = .ok ({ d with ls:=L1,iq:=Q1 },⟨m,(wayL d).1,0,[],([hdL VIAN via,hdL MAXF [55,48]]++(wayL d).2.map rtH)++zfo [FROMN,zb0 d.lu d.lt,TON,zb0 d.ru d.rt,za0,d.ci,zdl,decL num++32::m]⟩) from by rw [← H7.out];exact KK.out)
 clear HQ H7 KK WY RD M6 hb7;generalize wayL d=wy at *;obtain ⟨uu,rl⟩:=wy;dsimp only at *;obtain ⟨NR,hNR⟩:∃ n,rl.length=n:=⟨_,rfl⟩;have RT3:=kd sf.r;have RF3:=kd sf.fresh;rw [hNR];have HNR:=kd hNR;have NBIG:=(show NR≤2000001 by rw [← hNR];exact WT.out.2.2);clear sf hNR
 go_upto_region 12 with (fail);have B8:=kd ((Below.refl w7.heap.size w7).alloc zNr (.cells ([.string ⟨#[86,105,97]⟩,.string (strOfNums via),.string ⟨#[77,97,120,45,70,111,114,119,97,114,100,115]⟩,.string ⟨#[55,48]⟩]:List Value).toArray 9))
 have RW:=kd (Row.new w7 9 [.string ⟨#[86,105,97]⟩,.string (strOfNums via),.string ⟨#[77,97,120,45,70,111,114,119,97,114,100,115]⟩,.string ⟨#[55,48]⟩]);have M8:=kd (M7.out.call B8.out);have RT8:=kd ((RT3.out.below B8.out).up B8.out.size);go_wp2_with fail
 generalize w7.alloc (.cells #[.string ⟨#[86,105,97]⟩,.string (strOfNums via),.string ⟨#[77,97,120,45,70,111,114,119,97,114,100,115]⟩,.string ⟨#[55,48]⟩] 9)=w8 at *
 refine (zmd w8 (.slice none 0 0) 0 [] w7.heap.size 2 4 [VIAN,via,MAXF,[55,48]] w8 rfl rfl (by omega) (by omega) ⟨VX.nil _ _ _,RW.out,fun e=>by cases e⟩).mono ?_;rintro _ w9 ⟨v9,rfl,X9⟩
 have VX9:=kd (show VX 56 2 w8 v9 (2+0) (hds ([hdL VIAN via,hdL MAXF [55,48]]++(rl.take 0).map rtH)) w9 from by rw [List.take_zero];exact X9);clear X9 RW B8 M7 RT3;go_wp2_with fail
 go_loopw [14,51] (fun V v51 wr => ∃ k:Nat,k≤NR∧v51 = .int .i64 k∧Hid (VX 56 2 w8 V (2+k) (hds ([hdL VIAN via,hdL MAXF [55,48]]++(rl.take k).map rtH)) wr)) (fun _ v51 _=>NR - (intOf v51).toNat)
 case atStart=>exact ⟨0,Nat.zero_le _,rfl,VX9⟩
 case round =>
  obtain ⟨k,hk,rfl,VH⟩:=hrel
  by_cases hlt:k<NR
  · have hd:decide ((k:Int)<(NR:Int))=true:=by simp;omega
    obtain ⟨r,hr⟩:∃ r,rl[k]? = some r:=⟨_,List.getElem?_eq_getElem (by rw [HNR.out];exact hlt)⟩;have HR:=kd hr;have RX:=kd (WT.out.2.1 r (List.mem_of_getElem? hr));obtain ⟨b3,o3,rfl,hb3,hc3⟩:=RT8.out (by rw [za8,HNR.out];omega);obtain ⟨_,rfl⟩:=RF3.out b3 o3 none rfl
    have k0:wr.cell? ⟨b3,k,none⟩=some (.string (strOfNums r)):=by
     have h1:=hc3 k _ (ze9 hr);rw [Nat.zero_add] at h1;exact (VH.out.bw.cell (p:=⟨b3,k,none⟩) hb3).trans h1
    have sr:(strOfNums r).size≤4000000:=by rw [zaq];exact RX.out.2
    have BQ:=kd ((Below.refl wr.heap.size wr).alloc zNr (.cells ([.string ⟨#[82,111,117,116,101]⟩,.string (⟨#[60]⟩++strOfNums r ++ ⟨#[62]⟩)]:List Value).toArray 9));have RW:=kd (Row.new wr 9 [.string ⟨#[82,111,117,116,101]⟩,.string (⟨#[60]⟩++strOfNums r ++ ⟨#[62]⟩)])
    have JB:=kd (ya0 r);clear hb3 hc3 hr RT8 RF3 RX VX9;go_wp2_with fail;generalize wr.alloc (.cells #[.string ⟨#[82,111,117,116,101]⟩,.string (⟨#[60]⟩++strOfNums r ++ ⟨#[62]⟩)] 9)=wa at *;rw [JB.out] at RW
    refine (zmd w8 u14 (2+k) ([hdL VIAN via,hdL MAXF [55,48]]++(rl.take k).map rtH) wr.heap.size 1 2 [zpk,brak r] wa rfl rfl (by omega) (by omega) ⟨VH.out.step BQ.out,RW.out,fun e=>Nat.lt_irrefl _ (VH.out.own_lt e)⟩).mono ?_;rintro _ wq ⟨v',rfl,X⟩
    have XN:=kd (show VX 56 2 w8 v' (2+(k+1)) (hds ([hdL VIAN via,hdL MAXF [55,48]]++(rl.take (k+1)).map rtH)) wq from by rw [← ycs HR.out];exact X);clear X RW BQ JB VH k0 sr HR;go_wp2_with fail;go_roundw
    case rel=>exact ⟨k+1,by omega,by go_num,XN⟩
    case measure=>simp [intOf];omega
  · obtain rfl:k=NR:=by omega
    have hd:decide ((k:Int)<(k:Int))=false:=by simp
    have VE:=kd (show VX 56 2 w8 u14 (2+k) (hds ([hdL VIAN via,hdL MAXF [55,48]]++rl.map rtH)) wr from by have h:=VH.out;rwa [List.take_of_length_le (by rw [HNR.out];exact Nat.le_refl _)] at h);have MW:=kd (M8.out.call VE.out.bw);have RG:=kd (MW.out.row (i:=3) rfl)
    have NBO:=NB.out;have SD:=zaq (decL num);have SD2:=dec21 (n:=num) NBO.1 (by omega);have SM:=zaq m;have SM2:=MT.out.2;have CS1:=kd (show (strOfNums (decL num)).size+(⟨#[32]⟩:ByteArray).size≤9223372036854775807 by rw [SD,show (⟨#[32]⟩:ByteArray).size=1 from rfl];omega)
    have CS2:=kd (show (strOfNums (decL num) ++ ⟨#[32]⟩).size+(strOfNums m).size≤9223372036854775807 by rw [ByteArray.size_append,SD,SM,show (⟨#[32]⟩:ByteArray).size=1 from rfl];omega)
    have JC:=kd (show strOfNums (decL num) ++ ⟨#[32]⟩++strOfNums m=strOfNums (decL num++32::m) by
     rw [show decL num++32::m=decL num++[32]++m by simp,← zcx,← zcx]
     rfl)
    have IT:=kd (fun W (hb:Below wr.heap.size wr W)=>zmz num W NBO.1 (by omega) (PTB.out W (zao MW.out.bw hb)))
    have LN:=kd (show (([hdL VIAN via,hdL MAXF [55,48]]++rl.map rtH)++zfo [FROMN,zb0 d.lu d.lt,TON,zb0 d.ru d.rt,za0,d.ci,zdl,decL num++32::m]).length=2+k+4 by
     rw [List.length_append,List.length_append,List.length_map,HNR.out]
     rfl)
    clear SD SD2 SM SM2 NBO VH VX9 RT8 RF3 hk;go_upto_region 18 with (fail)
    refine zlr (by kernel_rfl) (by kernel_rfl) (fun (i:Nat) (W:World) (v:Value)=>match i with
    | 0=>v=u14
    | 1=>v = .pointer (some ⟨g,5,none⟩)
    | 2=>v = .string (strOfNums d.lu)
    | 3=>v = .pointer (some ⟨g,3,none⟩)
    | 4=>v = .string (strOfNums d.lt)
    | 5=>v = .string (strOfNums (zb0 d.lu d.lt))
    | 6=>v = .pointer (some ⟨g,6,none⟩)
    | 7=>v = .string (strOfNums d.ru)
    | 8=>v = .pointer (some ⟨g,4,none⟩)
    | 9=>v = .string (strOfNums d.rt)
    | 10=>v = .string (strOfNums (zb0 d.ru d.rt))
    | 11=>v = .pointer (some ⟨g,2,none⟩)
    | 12=>v = .string (strOfNums d.ci)
    | 13=>v = .int .i64 num
    | 14=>v = .string (strOfNums (decL num))
    | 15=>v = .string (strOfNums (decL num) ++ ⟨#[32]⟩)
    | 16=>v = .string (strOfNums m)
    | 17=>v = .string (strOfNums (decL num++32::m))
    | 18 => ∃ x,v = .slice (some ⟨x,0,none⟩) 8 8∧wr.heap.size≤x∧Row W x 9 [.string ⟨#[70,114,111,109]⟩,.string (strOfNums (zb0 d.lu d.lt)),.string ⟨#[84,111]⟩,.string (strOfNums (zb0 d.ru d.rt)),.string ⟨#[67,97,108,108,45,73,68]⟩,.string (strOfNums d.ci),.string ⟨#[67,83,101,113]⟩,.string (strOfNums (decL num++32::m))]
    | _=>True) 19 (fun W v=>VX 56 2 w8 v (2+k+4) (hds (([hdL VIAN via,hdL MAXF [55,48]]++rl.map rtH)++zfo [FROMN,zb0 d.lu d.lt,TON,zb0 d.ru d.rt,za0,d.ci,zdl,decL num++32::m])) W) 14 81 (by kernel_rfl) ?hAm _ _ rfl rfl rfl rfl rfl rfl (by kernel_rfl) (by kernel_rfl) rfl ?hstep ?hlast ?hend
    case hAm =>
     intro i v W W' hb h
     rcases i with _|_|_|_|_|_|_|_|_|_|_|_|_|_|_|_|_|_|_|i
     all_goals first
      | exact h
      | (obtain ⟨x,h1,h2,h3⟩:=h;exact ⟨x,h1,h2,h3.below hb⟩)
    case hstep =>
     intro i o hi ho a' W hB hF hp0 hD
     match i,ho,hi with
    | 0,ho,hi =>
      obtain rfl:=zSi ho;exact (zaf ho rfl (zb5 (.tmp 14) (.inl rfl) ⟨_,rfl,Below.refl _ _,fun _ _=>(show a'.eval (.tmp 14)=u14 from (show a'.eval (.tmp 14)=a'.tmps.getD 14 undef by simp [Act.eval]).trans hp0)⟩))
    | 1,ho,hi =>
      obtain rfl:=zSi ho;exact (zaf ho rfl (zdm 25 (.tmp 3) 5 rfl g 5 ((zap hF (by kernel_rfl)).trans rfl) (fun w=>by kernel_rfl) ⟨_,rfl,Below.refl _ _,fun _ _=>rfl⟩))
    | 2,ho,hi =>
      obtain rfl:=zSi ho;exact (zaf ho rfl (zbu 9 (.tmp 63) rfl g 5 (.string (strOfNums d.lu)) (zai hD 1 (by kernel_rfl) rfl rfl) ((RG.out.below hB).cell 5) _ Tryz.underlying9 rfl ⟨_,rfl,Below.refl _ _,fun _ _=>rfl⟩))
    | 3,ho,hi =>
      obtain rfl:=zSi ho;exact (zaf ho rfl (zdm 25 (.tmp 3) 3 rfl g 3 ((zap hF (by kernel_rfl)).trans rfl) (fun w=>by kernel_rfl) ⟨_,rfl,Below.refl _ _,fun _ _=>rfl⟩))
    | 4,ho,hi =>
      obtain rfl:=zSi ho;exact (zaf ho rfl (zbu 9 (.tmp 65) rfl g 3 (.string (strOfNums d.lt)) (zai hD 3 (by kernel_rfl) rfl rfl) ((RG.out.below hB).cell 3) _ Tryz.underlying9 rfl ⟨_,rfl,Below.refl _ _,fun _ _=>rfl⟩))
    | 5,ho,hi =>
      obtain rfl:=zSi ho;have hx0:a'.eval (.tmp 64) = .string (strOfNums d.lu):=(zai hD 2 (by kernel_rfl) rfl rfl);have hx1:a'.eval (.tmp 66) = .string (strOfNums d.lt):=(zai hD 4 (by kernel_rfl) rfl rfl)
      exact (zaf ho rfl (zc3 40 _ _ rfl #[.string (strOfNums d.lu),.string (strOfNums d.lt)] (by simp only [List.map_toArray,List.map_cons,List.map_nil,hx0,hx1]) (enters_of Tryz.func40 (by kernel_rfl) rfl) ((PA1.out W).mono fun e W2 ⟨he,hb⟩=>⟨_,he,_,rfl,hb,fun _ _=>rfl⟩)))
    | 6,ho,hi =>
      obtain rfl:=zSi ho;exact (zaf ho rfl (zdm 25 (.tmp 3) 6 rfl g 6 ((zap hF (by kernel_rfl)).trans rfl) (fun w=>by kernel_rfl) ⟨_,rfl,Below.refl _ _,fun _ _=>rfl⟩))
    | 7,ho,hi =>
      obtain rfl:=zSi ho;exact (zaf ho rfl (zbu 9 (.tmp 68) rfl g 6 (.string (strOfNums d.ru)) (zai hD 6 (by kernel_rfl) rfl rfl) ((RG.out.below hB).cell 6) _ Tryz.underlying9 rfl ⟨_,rfl,Below.refl _ _,fun _ _=>rfl⟩))
    | 8,ho,hi =>
      obtain rfl:=zSi ho;exact (zaf ho rfl (zdm 25 (.tmp 3) 4 rfl g 4 ((zap hF (by kernel_rfl)).trans rfl) (fun w=>by kernel_rfl) ⟨_,rfl,Below.refl _ _,fun _ _=>rfl⟩))
    | 9,ho,hi =>
      obtain rfl:=zSi ho;exact (zaf ho rfl (zbu 9 (.tmp 70) rfl g 4 (.string (strOfNums d.rt)) (zai hD 8 (by kernel_rfl) rfl rfl) ((RG.out.below hB).cell 4) _ Tryz.underlying9 rfl ⟨_,rfl,Below.refl _ _,fun _ _=>rfl⟩))
    | 10,ho,hi =>
      obtain rfl:=zSi ho;have hx0:a'.eval (.tmp 69) = .string (strOfNums d.ru):=(zai hD 7 (by kernel_rfl) rfl rfl);have hx1:a'.eval (.tmp 71) = .string (strOfNums d.rt):=(zai hD 9 (by kernel_rfl) rfl rfl)
      exact (zaf ho rfl (zc3 40 _ _ rfl #[.string (strOfNums d.ru),.string (strOfNums d.rt)] (by simp only [List.map_toArray,List.map_cons,List.map_nil,hx0,hx1]) (enters_of Tryz.func40 (by kernel_rfl) rfl) ((PA2.out W).mono fun e W2 ⟨he,hb⟩=>⟨_,he,_,rfl,hb,fun _ _=>rfl⟩)))
    | 11,ho,hi =>
      obtain rfl:=zSi ho;exact (zaf ho rfl (zdm 25 (.tmp 3) 2 rfl g 2 ((zap hF (by kernel_rfl)).trans rfl) (fun w=>by kernel_rfl) ⟨_,rfl,Below.refl _ _,fun _ _=>rfl⟩))
    | 12,ho,hi =>
      obtain rfl:=zSi ho;exact (zaf ho rfl (zbu 9 (.tmp 73) rfl g 2 (.string (strOfNums d.ci)) (zai hD 11 (by kernel_rfl) rfl rfl) ((RG.out.below hB).cell 2) _ Tryz.underlying9 rfl ⟨_,rfl,Below.refl _ _,fun _ _=>rfl⟩))
    | 13,ho,hi =>
      obtain rfl:=zSi ho;exact (zaf ho rfl (zb5 (.tmp 11) (.inl rfl) ⟨_,rfl,Below.refl _ _,fun _ _=>(show a'.eval (.tmp 11) = .int .i64 num from ((zap hF (by kernel_rfl)).trans rfl))⟩))
    | 14,ho,hi =>
      obtain rfl:=zSi ho;have hx0:a'.eval (.tmp 75) = .int .i64 num:=(zai hD 13 (by kernel_rfl) rfl rfl)
      exact (zaf ho rfl (zc3 41 _ _ rfl #[.int .i64 num] (by simp only [List.map_toArray,List.map_cons,List.map_nil,hx0]) (enters_of Tryz.func41 (by kernel_rfl) rfl) ((IT.out W hB).mono fun e W2 ⟨he,hb⟩=>⟨_,he,_,rfl,hb,fun _ _=>rfl⟩)))
    | 15,ho,hi =>
      obtain rfl:=zSi ho;have hx:a'.eval (.tmp 76) = .string (strOfNums (decL num)):=(zai hD 14 (by kernel_rfl) rfl rfl);have hy:a'.eval (.const (.string ⟨#[32]⟩)) = .string ⟨#[32]⟩:=rfl
      exact (zaf ho rfl (zjn _ _ _ _ _ rfl _ _ (.string (strOfNums (decL num) ++ ⟨#[32]⟩)) hx hy (fun w=>rfl) (fun w=>zyf _ _ CS1.out w) ⟨_,rfl,Below.refl _ _,fun _ _=>rfl⟩))
    | 16,ho,hi =>
      obtain rfl:=zSi ho;exact (zaf ho rfl (zb5 (.tmp 1) (.inl rfl) ⟨_,rfl,Below.refl _ _,fun _ _=>(show a'.eval (.tmp 1) = .string (strOfNums m) from ((zap hF (by kernel_rfl)).trans rfl))⟩))
    | 17,ho,hi =>
      obtain rfl:=zSi ho;have hx:a'.eval (.tmp 77) = .string (strOfNums (decL num) ++ ⟨#[32]⟩):=(zai hD 15 (by kernel_rfl) rfl rfl);have hy:a'.eval (.tmp 78) = .string (strOfNums m):=(zai hD 16 (by kernel_rfl) rfl rfl)
      exact (zaf ho rfl (zjn _ _ _ _ _ rfl _ _ (.string (strOfNums (decL num++32::m))) hx hy (fun w=>rfl) (fun w=>(zyf _ _ CS2.out w).trans (by rw [JC.out])) ⟨_,rfl,Below.refl _ _,fun _ _=>rfl⟩))
    | 18,ho,hi =>
      obtain rfl:=zSi ho;have h5:a'.eval (.tmp 67) = .string (strOfNums (zb0 d.lu d.lt)):=(zai hD 5 (by kernel_rfl) rfl rfl);have h10:a'.eval (.tmp 72) = .string (strOfNums (zb0 d.ru d.rt)):=(zai hD 10 (by kernel_rfl) rfl rfl)
      have h12:a'.eval (.tmp 74) = .string (strOfNums d.ci):=(zai hD 12 (by kernel_rfl) rfl rfl);have h17:a'.eval (.tmp 79) = .string (strOfNums (decL num++32::m)):=(zai hD 17 (by kernel_rfl) rfl rfl)
      exact (zaf ho rfl (zsp _ _ _ _ _ _ _ _ rfl _ _ _ _ _ _ _ _ rfl h5 rfl h10 rfl h12 rfl h17 fun hr=>⟨_,rfl,zBr.alloc zNr _,fun _ _=>⟨_,rfl,hB.size,hr⟩⟩))
    | i+19,ho,hi=>omega
    case hlast =>
     intro a' W hB hF hall
     have hV:a'.eval (.tmp 62)=u14:=by
      have h:=hall 0 _ 62 (by omega) rfl rfl
      simpa [Act.eval] using h
     obtain ⟨x,h1,h2,h3⟩:=hall 18 _ 80 (by omega) rfl rfl
     have hX:a'.eval (.tmp 80) = .slice (some ⟨x,0,none⟩) 8 8:=by simpa [Act.eval] using h1
     refine zbw rfl rfl (zc3 39 _ _ rfl #[u14,.slice (some ⟨x,0,none⟩) 8 8] (by simp only [List.map_toArray,List.map_cons,List.map_nil,hV,hX]) (enters_of Tryz.func39 (by kernel_rfl) rfl) ((zmd w8 u14 (2+k) ([hdL VIAN via,hdL MAXF [55,48]]++rl.map rtH) x 4 8 [FROMN,zb0 d.lu d.lt,TON,zb0 d.ru d.rt,za0,d.ci,zdl,decL num++32::m] W rfl rfl (by omega) (by omega) ⟨VE.out.step hB,h3,fun e=>by have:=VE.out.own_lt e;omega⟩).mono ?_))
     rintro e W2 ⟨v',he,X⟩;exact ⟨_,he,v',rfl,X⟩
    case hend =>
    intro vs W v hlen hf hv1 hv2;have HF:=kd hf
    obtain ⟨v0,v1,v2,v3,v4,v5,v6,v7,v8,v9,v10,v11,v12,v13,v14,v15,v16,v17,v18,v19,v20,rfl⟩:∃ v0 v1 v2 v3 v4 v5 v6 v7 v8 v9 v10 v11 v12 v13 v14 v15 v16 v17 v18 v19 v20,vs=[v0,v1,v2,v3,v4,v5,v6,v7,v8,v9,v10,v11,v12,v13,v14,v15,v16,v17,v18,v19,v20]:=by
     match vs,hlen with
     | [v0,v1,v2,v3,v4,v5,v6,v7,v8,v9,v10,v11,v12,v13,v14,v15,v16,v17,v18,v19,v20],_=>exact ⟨_,_,_,_,_,_,_,_,_,_,_,_,_,_,_,_,_,_,_,_,_,rfl⟩
    obtain rfl:v19=v:=by simpa using hv1
    obtain rfl:v20=v19:=by simpa using hv2
    clear hf hv1 hv2 hlen IT RG MW VE PA1 PA2 CS1 CS2 JC hd;simp only [putL,Act.put,List.setIfInBounds_toArray,List.set_cons_zero,List.set_cons_succ];go_upto_region 19 with (fail)
    rcases HF.out.form with ⟨_,hz,_⟩|⟨gl,cap,rfl,hcap,hgl,hgt,hcell⟩
    · omega
    have MZ:=kd ((M8.out.call HF.out.bw).add (F:=fun W=>Rds W W.heap.size (some ⟨gl,0,none⟩) (hds (([hdL VIAN via,hdL MAXF [55,48]]++rl.map rtH)++zfo [FROMN,zb0 d.lu d.lt,TON,zb0 d.ru d.rt,za0,d.ci,zdl,decL num++32::m]))) (za9 (fun _=>⟨gl,0,rfl,hgt,fun j u hu=>by rw [Nat.zero_add];exact hcell j u hu⟩) (fun b o s e=>by cases e;exact M8.out.fresh hgl)))
    have HG:=kd (show ∀ b o s,(some ⟨gl,0,none⟩:Option Addr)=some ⟨b,o,s⟩→w.heap.size≤b from fun b o s e=>by cases e;exact Nat.le_trans M8.out.bw.size hgl);generalize 2+k+4=nn at *;clear hcell hgl hgt hcap HF M8;have RD:=kd (MZ.out.row (i:=0) rfl)
    go_wp2_with (first
     | (with_reducible refine zab rfl 25 (.tmp 10) rfl RD.out rfl Tryz.underlying25 rfl (zae _ _ _ _ _ _ _ _ _ _ _ _) ?_)
     | (with_reducible refine zad MZ.out 2 rfl 25 (.tmp 6) (.tmp 82) rfl [.int .u8 d.st,.bool d.cl,.string (strOfNums d.ci),.string (strOfNums d.lt),.string (strOfNums d.rt),.string (strOfNums d.lu),.string (strOfNums d.ru),.string (strOfNums d.tg),.slice A5 d.rs.length c5,.int .i64 L1,.int .i64 d.rq,.int .i64 Q1] _ rfl rfl rfl rfl ?hl ?hz ?h1 ?hh))
    case hl=>exact za6
    case hz=>exact zae _ _ _ _ _ _ _ _ _ _ _ _
    case h1=>exact zat
    case hh =>
    intro w20 M20;go_wp2_with (with_reducible refine zad M20.out 1 rfl 31 (.tmp 7) (.tmp 86) rfl [.string (strOfNums m),.string (strOfNums uu),.int .i64 0,.string ⟨#[]⟩,.slice (some ⟨gl,0,none⟩) nn cap,.slice none 0 0] _ rfl rfl rfl rfl ?hl ?hz ?h1 ?hh)
    case hl=>exact lenU
    case hz=>exact zaw
    case h1=>exact zg8
    case hh =>
    intro w21 M21;have R6:=M21.out.row (i:=2) rfl;have R7:=M21.out.row (i:=1) rfl;go_wp2_with fail
    exact bodyPost_ret (zix rfl _ _ _ (g+1) (g+1+1) [.int .u8 d.st,.bool d.cl,.string (strOfNums d.ci),.string (strOfNums d.lt),.string (strOfNums d.rt),.string (strOfNums d.lu),.string (strOfNums d.ru),.string (strOfNums d.tg),.slice A5 d.rs.length c5,.int .i64 L1,.int .i64 d.rq,.int .i64 Q1] [.string (strOfNums m),.string (strOfNums uu),.int .i64 0,.string ⟨#[]⟩,.slice (some ⟨gl,0,none⟩) nn cap,.slice none 0 0] _ _ rfl R6.range Tryz.underlying25 rfl (zae _ _ _ _ _ _ _ _ _ _ _ _) rfl R7.range Tryz.underlying31 rfl zaw) rfl (by exact GOOD.out _ _ _ _ _ _ _ _ _ _ K7.out LN.out M21.out.bw ⟨SFH.out.nil,SFH.out.fresh,SFH.out.cap,M21.out.fact (i:=1) rfl⟩ HG.out (M21.out.fact (i:=0) rfl))

def Fre (w0:World) (A:Option Addr):Prop := ∀ b o s,A=some ⟨b,o,s⟩→w0.heap.size≤b
def AD (w0:World) (d:Dlg) (W:World) (v:Value):Prop := ∃ A c,v = .agg (dgC d A c).toArray∧SF w0 A c d.rs W
def AM (w0:World) (q:Msg) (W:World) (v:Value):Prop := ∃ A c,v = .agg (mC q A none c 0 0).toArray∧Fre w0 A∧Rds W W.heap.size A (hds q.hs)
def AT (w0:World) (d:Dlg) (q:Msg) (k:Int) (W:World) (v:Value):Prop := ∃ A c A2 c2,v = .tuple #[.agg (dgC d A c).toArray,.agg (mC q A2 none c2 0 0).toArray,.int .u8 k]∧SF w0 A c d.rs W∧Fre w0 A2∧Rds W W.heap.size A2 (hds q.hs)
def VS (n:Nat) (A:Option Addr) (b:Nat):Prop:=0<n→∀ b' o s,A=some ⟨b',o,s⟩→b'≠b
def VD (d:Dlg) (v:Value) (b:Nat):Prop := ∀ A c,v = .agg (dgC d A c).toArray→VS (strs d.rs).length A b
def VM (q:Msg) (v:Value) (b:Nat):Prop := ∀ A c,v = .agg (mC q A none c 0 0).toArray→VS (hds q.hs).length A b
def VT (d:Dlg) (q:Msg) (k:Int) (v:Value) (b:Nat):Prop := ∀ A c A2 c2,v = .tuple #[.agg (dgC d A c).toArray,.agg (mC q A2 none c2 0 0).toArray,.int .u8 k]→VS (strs d.rs).length A b∧VS (hds q.hs).length A2 b
theorem zkv {d:Dlg} {A B:Option Addr} {c e:Nat} (h:Value.agg (dgC d A c).toArray = .agg (dgC d B e).toArray):A=B:=by
 injection h with h
 have h2:=congrArg (fun x:Array Value=>x[8]?) h;simp only [List.getElem?_toArray] at h2;have h3:some (Value.slice A d.rs.length c)=some (Value.slice B d.rs.length e):=h2
 injection h3 with h3
 injection h3
theorem zof {q:Msg} {A B:Option Addr} {c e:Nat} (h:Value.agg (mC q A none c 0 0).toArray = .agg (mC q B none e 0 0).toArray):A=B:=by
 injection h with h
 have h2:=congrArg (fun x:Array Value=>x[4]?) h;simp only [List.getElem?_toArray] at h2;have h3:some (Value.slice A q.hs.length c)=some (Value.slice B q.hs.length e):=h2
 injection h3 with h3
 injection h3
theorem zmq {w w':World} {A:Option Addr} {cs:List Value} {b:Nat} (h:Rds w w.heap.size A cs) (hv:VS cs.length A b) (hs:w.heap.size≤w'.heap.size) (hh:∀ b',b'≠b→w'.heap[b']? = w.heap[b']?):Rds w' w'.heap.size A cs:=fun hn=>by
 obtain ⟨b',o,rfl,hlt,hc⟩:=h hn;exact ⟨b',o,rfl,Nat.lt_of_lt_of_le hlt hs,fun j u hu=>(World.cell?_of_block (w:=w) (a:=⟨b',o+j,none⟩) (hh b' (hv hn b' o none rfl))).trans (hc j u hu)⟩
theorem zq9 {w:World} {A:Option Addr} {cs:List Value} (h:Rds w w.heap.size A cs):VS cs.length A w.heap.size:=fun hn b' o s e=>by
 obtain ⟨b2,o2,e2,hlt,_⟩:=h hn;rw [e2] at e
 injection e with e
 injection e with e
 omega
theorem zra {w:World} {A:Option Addr} (h:Fre w A) {b n:Nat} (hb:b<w.heap.size):VS n A b:=fun _ b' o s e=>by
 have:=h b' o s e;omega
section
variable {w0 : World} {d : Dlg} {q : Msg} {k : Int} {W W' : World} {v : Value} {b : Nat}
theorem AD.below (h:AD w0 d W v) (hb:Below W.heap.size W W'):AD w0 d W' v:=by
 obtain ⟨A,c,rfl,s⟩:=h;exact ⟨A,c,rfl,s.step hb⟩
theorem AM.below (h:AM w0 q W v) (hb:Below W.heap.size W W'):AM w0 q W' v:=by
 obtain ⟨A,c,rfl,f,s⟩:=h;exact ⟨A,c,rfl,f,(s.below hb).up hb.size⟩
theorem AT.below (h:AT w0 d q k W v) (hb:Below W.heap.size W W'):AT w0 d q k W' v:=by
 obtain ⟨A,c,A2,c2,rfl,s,f,r⟩:=h;exact ⟨A,c,A2,c2,rfl,s.step hb,f,(r.below hb).up hb.size⟩
theorem AD.off (h:AD w0 d W v) (hv:VD d v b) (hs:W.heap.size≤W'.heap.size) (hh:∀ b',b'≠b→W'.heap[b']? = W.heap[b']?):AD w0 d W' v:=by
 obtain ⟨A,c,rfl,s⟩:=h;exact ⟨A,c,rfl,s.nil,s.fresh,s.cap,zmq s.r (hv A c rfl) hs hh⟩
theorem AM.off (h:AM w0 q W v) (hv:VM q v b) (hs:W.heap.size≤W'.heap.size) (hh:∀ b',b'≠b→W'.heap[b']? = W.heap[b']?):AM w0 q W' v:=by
 obtain ⟨A,c,rfl,f,s⟩:=h;exact ⟨A,c,rfl,f,zmq s (hv A c rfl) hs hh⟩
theorem AT.off (h:AT w0 d q k W v) (hv:VT d q k v b) (hs:W.heap.size≤W'.heap.size) (hh:∀ b',b'≠b→W'.heap[b']? = W.heap[b']?):AT w0 d q k W' v:=by
 obtain ⟨A,c,A2,c2,rfl,s,f,r⟩:=h;obtain ⟨v1,v2⟩:=hv A c A2 c2 rfl;exact ⟨A,c,A2,c2,rfl,⟨s.nil,s.fresh,s.cap,zmq s.r v1 hs hh⟩,f,zmq r v2 hs hh⟩
theorem AD.new (h:AD w0 d W v):VD d v W.heap.size:=by
 obtain ⟨A,c,rfl,s⟩:=h;intro B e he;obtain rfl:=zkv he;exact zq9 s.r
theorem AM.new (h:AM w0 q W v):VM q v W.heap.size:=by
 obtain ⟨A,c,rfl,f,s⟩:=h;intro B e he;obtain rfl:=zof he;exact zq9 s
theorem AT.new (h:AT w0 d q k W v):VT d q k v W.heap.size:=by
 obtain ⟨A,c,A2,c2,rfl,s,f,r⟩:=h;intro B e B2 e2 he
 injection he with he
 injection he with he
 injection he with h1 h2
 injection h2 with h2 h3
 obtain rfl:=zkv h1;obtain rfl:=zof h2;exact ⟨zq9 s.r,zq9 r⟩
def DZ:Dlg:=⟨0,false,[],[],[],[],[],[],[],0,0,0⟩
def QZ:Msg:=⟨[],[],0,[],[]⟩
def rqD (R:Except Int (Dlg × Msg)):Dlg:=match R with
 | .ok x=>x.1
 | .error _=>DZ
def rqQ (R:Except Int (Dlg × Msg)):Msg:=match R with
 | .ok x=>x.2
 | .error _=>QZ
def rqE (R:Except Int (Dlg × Msg)):Int:=match R with
 | .ok _=>0
 | .error k=>k
theorem RqP.at {w W W2:World} {e:Ending} {R:Except Int (Dlg × Msg)} (h:RqP W R e W2) (hb:Below w.heap.size w W) (h1:rqD R=d) (h2:rqQ R=q) (h3:rqE R=k):∃ v,e = .returned v∧Below W.heap.size W W2∧AT w d q k W2 v∧∀ b,b<W.heap.size→VT d q k v b:=by
 have key:∃ A c A2 c2,e = .returned (.tuple #[.agg (dgC d A c).toArray,.agg (mC q A2 none c2 0 0).toArray,.int .u8 k])∧Below W.heap.size W W2∧SF W A c d.rs W2∧(∀ b o s,A2=some ⟨b,o,s⟩→W.heap.size≤b)∧Rds W2 W2.heap.size A2 (hds q.hs):=by
  subst h1 h2 h3
  cases R with
  | error k =>
    obtain ⟨rfl,hB,_⟩:=h;exact ⟨none,0,none,0,rfl,hB,⟨fun _=>⟨rfl,rfl⟩,(fun _ _ _ e=>by cases e),Nat.le_refl _,fun h0=>absurd (show 0<0 from h0) (by decide)⟩,(fun _ _ _ e=>by cases e),fun h0=>absurd (show 0<0 from h0) (by decide)⟩
  | ok x=>exact h
 obtain ⟨A,c,A2,c2,rfl,hB,s,f,r⟩:=key;refine ⟨_,rfl,hB,⟨A,c,A2,c2,rfl,s.base hb,fun b o s e=>Nat.le_trans hb.size (f b o s e),r⟩,fun b hlt B e B2 e2 he => ?_⟩
 injection he with he
 injection he with he
 injection he with h1 h2
 injection h2 with h2 h3
 obtain rfl:=zkv h1;obtain rfl:=zof h2;exact ⟨zra (fun b o x e=>(s.fresh b o x e).1) hlt,zra f hlt⟩
end
theorem zle {P:Program} {o:Oper} {a:Act} {w:World} {next:Act→World→Prop} {Q:Exit→Act→World→Prop} (x:Operand) (k:Nat) (ho:o.op = .extract x k) {xs:Array Value} (hx:a.eval x = .tuple xs) (v:Value) (hv:xs[k]? = some v) (hn:next (a.put o.dst v) w):o.wp P a w next Q:=
 zdq _ (by
  have hr:(Instr.extract (.tuple xs) k).run P w = .ok v w:=by
   unfold Instr.extract;dsimp only;rw [hv]
   rfl
  unfold execOp;simp only [ho,hx,Sem.run_bind,hr,Result.andThen_ok]
  rfl) hn
theorem zrs {w0 w W:World} {L:List Blk} {FS:List (World→Prop)} (M:Mine w0 w L FS) (hB:Below w.heap.size w W) {b1 b2:Nat} {T1 T2:TypeId} {x y:List Value} (h1:w.heap.size≤b1) (h2:w.heap.size≤b2) (hne:b1≠b2) (r1:Row W b1 T1 x) (r2:Row W b2 T2 y):Mine w0 W ((b2,T2,y)::(b1,T1,x)::L) FS:=by
 have M1:=M.join hB h1 r1;refine ⟨M1.bw,fun r hm => ?_,?_,fun F hF w'' ha => ?_⟩
 · rcases List.mem_cons.1 hm with rfl|hm
   · exact ⟨r2,Nat.le_trans M.bw.size h2⟩
   · exact M1.rows r hm
 · rw [List.map_cons,List.nodup_cons]
   refine ⟨?_,M1.nd⟩;rw [List.map_cons,List.mem_cons,not_or];exact ⟨Ne.symm hne,M.fresh h2⟩
 · refine M.fs F hF w'' ⟨ha.os.trans hB.os,ha.tape.trans hB.tape,ha.output.trans hB.output,Nat.le_trans hB.size ha.size,fun k hk hn=>(ha.block k (Nat.lt_of_lt_of_le hk hB.size) ?_).trans (hB.block k hk)⟩
   rw [List.map_cons,List.mem_cons,not_or,List.map_cons,List.mem_cons,not_or];exact ⟨(show k≠b2 by omega),(show k≠b1 by omega),hn⟩
theorem znw {w:World} {L:List Blk} {A:Option Addr} {cs:List Value} (h:Rds w w.heap.size A cs) (hn:0<cs.length→∀ b o s,A=some ⟨b,o,s⟩→b ∉ L.map (·.1)):Stab L w (fun W=>Rds W W.heap.size A cs):=by
 by_cases h0:0<cs.length
 · exact za9 h (hn h0)
 · exact fun w' _ hp=>absurd hp h0
end Go.Proofs.YtfnmkedncfdceaaGreatDoor
