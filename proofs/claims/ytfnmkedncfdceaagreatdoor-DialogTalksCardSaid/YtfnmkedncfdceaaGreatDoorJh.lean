/- Contract: header.Via. -/
import Derived.Test.YtfnmkedncfdceaaGreatDoorJg
set_option linter.unusedVariables false
set_option linter.unusedSimpArgs false
namespace Go.Proofs.YtfnmkedncfdceaaGreatDoor
open Go.RowKit

set_option maxRecDepth 100000 in
set_option maxHeartbeats 16000000 in
theorem ycd (s:ByteArray) (w:World) (hs:s.size≤4000000) (G:GW w):Calls Tryz.prog 76 #[.string s] w (ViaP w (viaK (zaa s))):=by
 have TR:=kd (fun w=>zig s w hs);have HXB:By (zca (zaa s)):=(zas s).sub (zcn _)
 have HXL:(zca (zaa s)).length≤4000000:=by have:=(zcn (zaa s)).length_le;rw [zac] at this;omega
 have E1:=kd (fun h=>via_e1 (s:=zaa s) (v:=zca (zaa s)) rfl h);have E2:=kd (fun h h2=>via_e2 (s:=zaa s) (v:=zca (zaa s)) rfl h h2);have E3:=kd (fun h h2 h3=>via_e3 (s:=zaa s) (v:=zca (zaa s)) rfl h h2 h3)
 have E4:=kd (fun h h2 ho k h3 h4=>via_e4 (s:=zaa s) (v:=zca (zaa s)) rfl h h2 (ho:=ho) h3 (k:=k) h4);have E5:=kd (fun h h2 ho h3 n h4 q h5=>via_e5 (s:=zaa s) (v:=zca (zaa s)) rfl h h2 (ho:=ho) h3 (n:=n) h4 (q:=q) h5)
 have E6:=kd (fun h h2 ho h3 n h4 ps h5=>via_ok (s:=zaa s) (v:=zca (zaa s)) rfl h h2 (ho:=ho) h3 (n:=n) h4 (ps:=ps) h5)
 have FIN:=kd (fun (a b c:ByteArray) (p:Int) (A:Option Addr) (n d:Nat) (k:Int) w' (h:viaK (zaa s)=k) (hb:Below w.heap.size w w')=>show ViaP w (viaK (zaa s)) (.returned (.tuple #[.agg #[.string a,.string b,.int .i64 p,.string c,.slice A n d],.int .u8 k])) w' from ⟨a,b,c,p,A,n,d,by rw [h],hb⟩)
 generalize hPP:ViaP w (viaK (zaa s))=PP at *;clear hPP;generalize viaK (zaa s)=RZ at *;generalize zca (zaa s)=X at *;obtain ⟨v,hv⟩:∃ v,strOfNums X=v:=⟨_,rfl⟩;rw [hv] at TR
 have hvX:zaa v=X:=by rw [← hv,zal HXB]
 have hvs:v.size=X.length:=by rw [← hvX,zac]
 have hvm:v.size≤4000000:=by omega
 clear hv
 have M0:=kd (show Mine w (w.alloc (.cells #[.string ⟨#[]⟩,.string ⟨#[]⟩,.int .i64 0,.string ⟨#[]⟩,.slice none 0 0] 85)) [(w.heap.size,85,[.string ⟨#[]⟩,.string ⟨#[]⟩,.int .i64 0,.string ⟨#[]⟩,.slice none 0 0])] [] from (Mine.refl w).alloc 85 [.string ⟨#[]⟩,.string ⟨#[]⟩,.int .i64 0,.string ⟨#[]⟩,.slice none 0 0])
 have UP:=kd (fun i j w=>zua (v.extract i j) w (by have:=(show (v.extract i j).size≤v.size by rw [ByteArray.size_extract];omega);omega));have U8:=kd (show zaa (v.extract 0 8)=X.take 8 by rw [zco,hvX])
 have TE:=kd (fun (h:8≤X.length) w=>show Calls Tryz.prog 110 #[.string v,.int .i64 8] w fun e w'=>e = .returned (.int .i64 (viaE X:Nat))∧Below w.heap.size w w' by
  have h2:=zhw v 8 w (by omega) (by omega);rw [show (8:Int)=((8:Nat):Int) from rfl,yat (by omega),hvX] at h2
  exact h2)
 have he8:8≤viaE X:=zcp _ _ _;have heX:8≤X.length→viaE X≤X.length:=fun h=>za5 h
 have BL:=kd (fun (h:8≤X.length) w=>show Calls Tryz.prog 113 #[.string v,.int .i64 (viaE X:Nat)] w fun e w'=>e = .returned (.int .i64 (viaB X:Nat))∧Below w.heap.size w w' by
  have h2:=zpa v (viaE X) w (by have:=heX h;omega) hvm;rw [hvX] at h2
  exact h2)
 have heB:8≤X.length→viaB X≤X.length:=fun h=>za5 (heX h);have hPB:By (X.drop (viaB X)):=HXB.sub (List.drop_sublist _ _)
 have hvB:zaa (v.extract (viaB X) v.size)=X.drop (viaB X):=by rw [zdz,hvX]
 have hnn:viaN X≤(X.drop (viaB X)).length:=znr _ _;have hQ:cutPort ((X.drop (viaB X)).take (viaN X))=viaQ X:=rfl;have hN:zaj (X.drop (viaB X)) 0 [59,32,9]=viaN X:=rfl;have hqb:=zue (l:=(X.drop (viaB X)).take (viaN X)) (hPB.sub (List.take_sublist _ _))
 have hq1:(viaQ X).1.length≤4000000:=by
  have h1:=hqb.2.2;rw [hQ] at h1
  have h2:((X.drop (viaB X)).take (viaN X)).length≤X.length:=by rw [List.length_take,List.length_drop];omega
  omega
 have HO:=kd (fun w' (hb:Below w.heap.size w w')=>zge (strOfNums (viaQ X).1) w' (by rw [strOfNums_size];exact hq1) (G.below hb).g (G.below hb).p);rw [zal (by have h1:=hqb.1;rw [hQ] at h1;exact h1)] at HO;have NU:=kd (fun w=>zf8 (strOfNums (viaQ X).2.1) w)
 rw [zal (by have h1:=hqb.2.1;rw [hQ] at h1;exact h1)] at NU;have PN:=kd (fun h=>zym (p:=viaQ X) h);have PE1:=kd (fun h h2=>zyo (p:=viaQ X) h h2);have PE2:=kd (fun h h2 h3=>zyn (p:=viaQ X) h h2 h3);have PK:=kd (fun h h2 h3=>zyl (p:=viaQ X) h h2 h3)
 have PSZ:=kd (fun l (h:zeo ((X.drop (viaB X)).drop (viaN X)) = .ok l) (p:Pm) (hp:p∈l)=>show By p.n∧p.n.length≤4000000 by
  have h1:=zj6 (hPB.sub (List.drop_sublist (viaN X) _)) _ 0 [] _ zNz (fun p hp=>by cases hp) h p hp
  have h2:((X.drop (viaB X)).drop (viaN X)).length≤X.length:=by rw [List.length_drop,List.length_drop];omega
  exact ⟨h1.1.1,by omega⟩)
 have CUT:=kd (fun (z:ByteArray) (hz:zaa z=(X.drop (viaB X)).take (viaN X)) w=>show Calls Tryz.prog 115 #[.string z] w fun e w'=>e = .returned (.tuple #[.string (strOfNums (viaQ X).1),.string (strOfNums (viaQ X).2.1),.bool (viaQ X).2.2])∧Below w.heap.size w w' by
  have h:=zqx z w (by rw [← zac,hz,List.length_take,List.length_drop];omega);rw [hz] at h
  exact h)
 have PAR:=kd (fun (z:ByteArray) (hz:zaa z=(X.drop (viaB X)).drop (viaN X)) w' (hb:Below w.heap.size w w')=>show Calls Tryz.prog 118 #[.string z] w' (ParP w' (zeo ((X.drop (viaB X)).drop (viaN X)))) by
  have h:=zj7 z w' (by rw [← zac,hz,List.length_drop,List.length_drop];omega) (G.below hb).g (G.below hb).p;rw [hz] at h
  exact h)
 have IA:=kd (fun w=>zf0 (v.extract (viaB X) v.size) ⟨#[59,32,9]⟩ w (by rw [← zac,hvB,List.length_drop];omega) (by decide) (by decide) yes);rw [show zaa ⟨#[59,32,9]⟩=[59,32,9] by rfl,hvB,hN] at IA
 have hsz2:(v.extract (viaB X) v.size).size=(X.drop (viaB X)).length:=by rw [← hvB,zac]
 have hvB2:=kd hvB;have hX8:=kd (HXB.sub (List.take_sublist 8 X)).up;clear hq1 hqb hQ hN hvB hvX HXB G hPB;generalize viaQ X=qq at *;generalize viaN X=nn at *;generalize viaB X=bb at *;generalize viaE X=ee at *;obtain ⟨q1,q2,q3⟩:=qq;dsimp only at *;generalize zcd q2=dn at *
 obtain ⟨dn1,dn2⟩:=dn;dsimp only at *;have HVS:=kd hvs;have HEX:=kd (fun (h:8≤X.length)=>show ee≤v.size by have:=heX h;omega);have HEB:=kd (fun (h:8≤X.length)=>show bb≤v.size by have:=heB h;omega);have HNN:=kd hnn;have HSZ:=kd hsz2;clear hvs heX heB hnn hsz2
 go_enter Tryz.func76,Tryz.ntmps76
 go_upto_region 1 with (fail);generalize w.alloc (.cells #[.string ⟨#[]⟩,.string ⟨#[]⟩,.int .i64 0,.string ⟨#[]⟩,.slice none 0 0] 85)=w1 at *;obtain ⟨g,hg⟩:∃ b,w.heap.size=b:=⟨_,rfl⟩;rw [hg] at M0 ⊢;clear hg;go_wp2_with fail;refine (TR.out _).mono ?_;rintro _ w2 ⟨rfl,hb2⟩
 have M2:=kd (M0.out.call hb2);clear hb2 TR M0
 by_cases h8:v.size<8
 case pos =>
  have d8:decide ((v.size:Int)<8)=true:=by simp;omega
  have NK:=kd (E1.out (.inl (by have:=HVS.out;omega)));clear E1 E2 E3 E4 E5 E6 TE BL IA HO NU PN PE1 PE2 PK PSZ CUT PAR UP;go_wp2_with (with_reducible refine zad M2.out 0 rfl 85 (.tmp 2) (.tmp 31) rfl ZC5 _ rfl rfl rfl rfl len5 za2 zbv ?_);intro w9 M9;have R9:=M9.out.row (i:=0) rfl
  go_wp2_with fail;exact bodyPost_ret (zah rfl _ _ _ g ZC5 _ rfl R9.range Tryz.underlying85 rfl za2) rfl (by exact FIN.out _ _ _ _ _ _ _ _ _ (NK.out) M9.out.bw)
 have d8:decide ((v.size:Int)<8)=false:=by simp;omega
 have H8:=kd (show 8≤X.length by have:=HVS.out;omega);go_wp2_with fail;refine (UP.out 0 8 _).mono ?_;rintro _ w3 ⟨rfl,hb3⟩;rw [U8.out];have M3:=kd (M2.out.call hb3);clear hb3 M2 U8;have LS:=zdg hX8.out [83,73,80,47,50,46,48,47] SIPV rfl
 by_cases hsv:upS (X.take 8)=SIPV
 case neg =>
  have ds:((strOfNums (upS (X.take 8))).toList == [83,73,80,47,50,46,48,47])=false:=LS.trans (by simpa using hsv)
  have ds':((strOfNums (upS (X.take 8))).toList != [83,73,80,47,50,46,48,47])=true:=by rw [bne,ds];rfl
  have NK:=kd (E1.out (.inr hsv));clear E1 E2 E3 E4 E5 E6 TE BL IA HO NU PN PE1 PE2 PK PSZ CUT PAR UP LS hsv;go_wp2_with (with_reducible refine zad M3.out 0 rfl 85 (.tmp 2) (.tmp 31) rfl ZC5 _ rfl rfl rfl rfl len5 za2 zbv ?_);intro w9 M9;have R9:=M9.out.row (i:=0) rfl;go_wp2_with fail
  exact bodyPost_ret (zah rfl _ _ _ g ZC5 _ rfl R9.range Tryz.underlying85 rfl za2) rfl (by exact FIN.out _ _ _ _ _ _ _ _ _ (NK.out) M9.out.bw)
 have ds:((strOfNums (upS (X.take 8))).toList == [83,73,80,47,50,46,48,47])=true:=LS.trans (by simpa using hsv)
 have ds':((strOfNums (upS (X.take 8))).toList != [83,73,80,47,50,46,48,47])=false:=by rw [bne,ds];rfl
 have K1:=kd (show ¬ (X.length<8∨upS (X.take 8)≠SIPV) from fun h=>h.elim (fun h=>by have:=HVS.out;omega) (fun h=>h hsv));clear LS hsv E1;have heX':=HEX.out H8.out;have heB':=HEB.out H8.out;clear HEX HEB;go_wp2_with fail;refine (TE.out H8.out _).mono ?_;rintro _ w4 ⟨rfl,hb4⟩
 have M4:=kd (M3.out.call hb4);clear hb4 M3 TE ds ds' d8;go_wp2_with fail;refine (BL.out H8.out _).mono ?_;rintro _ w5 ⟨rfl,hb5⟩;have M5:=kd (M4.out.call hb5);clear hb5 M4 BL
 by_cases h9:ee=8
 case pos =>
  have d9:decide ((ee:Int)=8)=true:=by simp;omega
  have d9':((ee:Int) == 8)=true:=by simp;omega
  have NK:=kd (E2.out K1.out (.inl h9));clear E2 E3 E4 E5 E6 IA HO NU PN PE1 PE2 PK PSZ CUT PAR UP h9;go_wp2_with (with_reducible refine zad M5.out 0 rfl 85 (.tmp 2) (.tmp 44) rfl ZC5 _ rfl rfl rfl rfl len5 za2 zbv ?_);intro w9 M9;have R9:=M9.out.row (i:=0) rfl;go_wp2_with fail
  exact bodyPost_ret (zah rfl _ _ _ g ZC5 _ rfl R9.range Tryz.underlying85 rfl za2) rfl (by exact FIN.out _ _ _ _ _ _ _ _ _ (NK.out) M9.out.bw)
 have d9:decide ((ee:Int)=8)=false:=by simp;omega
 have d9':((ee:Int) == 8)=false:=by simp;omega
 by_cases h10:bb=ee
 case pos =>
  have d10:((bb:Int) == (ee:Int))=true:=by simp;omega
  have NK:=kd (E2.out K1.out (.inr h10));clear E2 E3 E4 E5 E6 IA HO NU PN PE1 PE2 PK PSZ CUT PAR UP h9 h10;go_wp2_with (with_reducible refine zad M5.out 0 rfl 85 (.tmp 2) (.tmp 44) rfl ZC5 _ rfl rfl rfl rfl len5 za2 zbv ?_);intro w9 M9;have R9:=M9.out.row (i:=0) rfl;go_wp2_with fail
  exact bodyPost_ret (zah rfl _ _ _ g ZC5 _ rfl R9.range Tryz.underlying85 rfl za2) rfl (by exact FIN.out _ _ _ _ _ _ _ _ _ (NK.out) M9.out.bw)
 have d10:((bb:Int) == (ee:Int))=false:=by simp;omega
 have K2:=kd (show ¬ (ee=8∨bb=ee) from fun h=>h.elim h9 h10);have VE3:=kd (fun h3=>E3.out K1.out K2.out h3);have VE4:=kd (fun ho k h3 h4=>E4.out K1.out K2.out ho k h3 h4);have VE5:=kd (fun ho h3 n h4 q h5=>E5.out K1.out K2.out ho h3 n h4 q h5)
 have VOK:=kd (fun ho h3 n h4 ps h5=>E6.out K1.out K2.out ho h3 n h4 ps h5);clear E2 E3 E4 E5 E6 K1 K2 h9 h10 h8;go_upto_region 8 with (fail);clear d9 d9' d10;go_wp2_with fail;refine (UP.out 8 ee _).mono ?_;rintro _ w6 ⟨rfl,hb6⟩;have M6:=kd (M5.out.call hb6);clear hb6 M5 UP
 obtain ⟨tr,htr⟩:∃ tr,strOfNums (upS (zaa (v.extract 8 ee)))=tr:=⟨_,rfl⟩;rw [htr];clear htr;go_upto_region 9 with (with_reducible refine zak rfl 85 (.tmp 6) (.tmp 49) rfl ZC5 [.string tr,.string ⟨#[]⟩,.int .i64 0,.string ⟨#[]⟩,.slice none 0 0] rfl rfl len5 za2 zbv ?_;intro w7 R7 S7)
 have M7:=kd (M6.out.join S7.out zNr R7.out);generalize w6.heap.size=gd at *;clear R7 S7 M6;go_wp2_with fail;refine (IA.out _).mono ?_;rintro _ w8 ⟨rfl,hb8⟩;have M8:=kd (M7.out.call hb8);clear hb8 M7 IA
 by_cases hc:(v.extract bb v.size).size≤nn
 case pos =>
  rw [if_pos hc];have CU:=kd (CUT.out (v.extract bb v.size) (by rw [hvB2.out,List.take_of_length_le (by have:=HSZ.out;omega)]));have PA:=kd (PAR.out ⟨#[]⟩ (by rw [List.drop_of_length_le (by have:=HSZ.out;omega)];rfl));clear CUT PAR hc HSZ HNN;go_wp2_with fail;refine (CU.out _).mono ?_
  rintro _ w11 ⟨rfl,hb11⟩;have M11:=kd (M8.out.call hb11);clear hb11 CU;go_wp2_with fail;refine (HO.out _ M11.out.bw).mono ?_;rintro _ w12 ⟨rfl,hb12⟩;have M12:=kd (M11.out.call hb12);clear hb12 HO M11
  cases hho:zb3 q1 with
  | none =>
    have NK:=kd (VE3.out hho);unfold zhf;clear hho VE3 VE4 VE5 VOK PA;go_wp2_with (with_reducible refine zad M12.out 1 rfl 85 (.tmp 2) (.tmp 76) rfl ZC5 _ rfl rfl rfl rfl len5 za2 zbv ?_);intro w9 M9;have R9:=M9.out.row (i:=1) rfl;go_wp2_with fail
    exact bodyPost_ret (zah rfl _ _ _ g ZC5 _ rfl R9.range Tryz.underlying85 rfl za2) rfl (by exact FIN.out _ _ _ _ _ _ _ _ _ (NK.out) M9.out.bw)
  | some ho =>
  replace VE4:=kd (fun k=>VE4.out ho k hho);replace VE5:=kd (fun n h4 q=>VE5.out ho hho n h4 q);replace VOK:=kd (fun n h4 ps=>VOK.out ho hho n h4 ps);unfold zhf;clear hho VE3;have m1:w12.cell? ⟨gd,1,none⟩=some (.string ⟨#[]⟩):=(M12.out.row (i:=0) rfl).cell 1
  have f1:w12.frozen? ⟨gd,1,none⟩=false:=(M12.out.row (i:=0) rfl).frozen 1;go_upto_region 18 with (fail)
  have M13:=kd (show Mine w (w12.setCell ⟨gd,1,none⟩ (.string (strOfNums ho))) [(gd,85,[.string tr,.string (strOfNums ho),.int .i64 0,.string ⟨#[]⟩,.slice none 0 0]),(g,85,ZC5)] [] from M12.out.setCell (i:=0) (off:=1) _ rfl rfl);clear m1 f1 M12
  generalize w12.setCell ⟨gd,1,none⟩ (.string (strOfNums ho))=w13 at *
  cases q3 with
  | false =>
    have PO:=kd (PN.out (by simp));clear VE4 NU PN PE1 PE2 PK;go_wp2_with fail;refine (PA.out _ M13.out.bw).mono ?_;intro e w20 h20;clear PA
    cases hq:zeo ((X.drop bb).drop nn) with
    | error q =>
      rw [hq] at h20;obtain ⟨rfl,hb20,hk⟩:=h20;have M20:=kd (M13.out.call hb20);have NK:=kd (VE5.out _ PO.out _ hq);obtain ⟨qz,qk⟩:=q;dsimp only at *
      have dk:decide (qk=0)=false:=by simpa using hk
      have dk':(qk != 0)=true:=by simpa using hk
      clear hb20 hq hk;go_wp2_with (with_reducible refine zad M20.out 1 rfl 85 (.tmp 2) (.tmp 109) rfl ZC5 _ rfl rfl rfl rfl len5 za2 zbv ?_);intro w9 M9;have R9:=M9.out.row (i:=1) rfl;go_wp2_with fail
      exact bodyPost_ret (zah rfl _ _ _ g ZC5 _ rfl R9.range Tryz.underlying85 rfl za2) rfl (by exact FIN.out _ _ _ _ _ _ _ _ _ (NK.out) M9.out.bw)
    | ok l =>
      rw [hq] at h20;obtain ⟨vv,rfl,hx,hl16⟩:=h20;obtain ⟨A,c,rfl,hfr,hrd⟩:=hx.fresh;have NK:=kd (VOK.out _ PO.out _ hq);have PZ:=kd (PSZ.out l hq);have L16:=kd hl16
      have M20:=kd ((M13.out.call hx.bw).add (F:=fun W=>Rds W W.heap.size A (pms l)) (za9 hrd (fun b o s e=>M13.out.fresh (hfr b o s e))));clear hx hfr hrd hq hl16;have m4:w20.cell? ⟨gd,4,none⟩=some (.slice none 0 0):=(M20.out.row (i:=0) rfl).cell 4
      have f4:w20.frozen? ⟨gd,4,none⟩=false:=(M20.out.row (i:=0) rfl).frozen 4;go_upto_region 29 with (fail)
      have M21:=kd (show Mine w (w20.setCell ⟨gd,4,none⟩ (.slice A l.length c)) [(gd,85,[.string tr,.string (strOfNums ho),.int .i64 0,.string ⟨#[]⟩,.slice A l.length c]),(g,85,ZC5)] [fun W=>Rds W W.heap.size A (pms l)] from M20.out.setCell (i:=0) (off:=4) _ rfl rfl)
      clear m4 f4 M20;generalize w20.setCell ⟨gd,4,none⟩ (.slice A l.length c)=w21 at *;have GT:=kd (ze4 A l.length c l BRN w21 (M21.out.fact (i:=0) rfl) rfl (by have:=L16.out;omega) (fun p hp=>⟨(PZ.out p hp).1,(PZ.out p hp).2⟩) (byD rfl) (by decide))
      rw [show (strOfNums BRN)=⟨#[98,114,97,110,99,104]⟩ from rfl] at GT;have m3:w21.cell? ⟨gd,3,none⟩=some (.string ⟨#[]⟩):=(M21.out.row (i:=0) rfl).cell 3;have f3:w21.frozen? ⟨gd,3,none⟩=false:=(M21.out.row (i:=0) rfl).frozen 3;go_wp2_with fail;refine GT.out.mono ?_
      rintro _ w22 ⟨rfl,hb22⟩;clear m3 f3;have M22:=kd (M21.out.call hb22);clear hb22 M21 GT
      obtain ⟨gs,gb,hgv⟩:∃ gs gb,gotV (zd4 l BRN) = .tuple #[.string gs,.bool gb]:=by cases zd4 l BRN<;>exact ⟨_,_,rfl⟩
      rw [hgv];clear hgv;have m3:w22.cell? ⟨gd,3,none⟩=some (.string ⟨#[]⟩):=(M22.out.row (i:=0) rfl).cell 3;have f3:w22.frozen? ⟨gd,3,none⟩=false:=(M22.out.row (i:=0) rfl).frozen 3;go_upto_region 30 with (fail)
      have M23:=kd (show Mine w (w22.setCell ⟨gd,3,none⟩ (.string gs)) [(gd,85,[.string tr,.string (strOfNums ho),.int .i64 0,.string gs,.slice A l.length c]),(g,85,ZC5)] [fun W=>Rds W W.heap.size A (pms l)] from M22.out.setCell (i:=0) (off:=3) _ rfl rfl);clear m3 f3 M22
      generalize w22.setCell ⟨gd,3,none⟩ (.string gs)=w23 at *;have RD:=kd (M23.out.row (i:=0) rfl)
      go_wp2_with (first
       | (with_reducible refine zab rfl 85 (.tmp 6) rfl RD.out rfl Tryz.underlying85 rfl za2 ?_)
       | (with_reducible refine zad M23.out 1 rfl 85 (.tmp 2) (.tmp 119) rfl [.string tr,.string (strOfNums ho),.int .i64 0,.string gs,.slice A l.length c] _ rfl rfl rfl rfl len5 za2 zbv ?_))
      intro w9 M9;have R9:=M9.out.row (i:=1) rfl;go_wp2_with fail;exact bodyPost_ret (zah rfl _ _ _ g [.string tr,.string (strOfNums ho),.int .i64 0,.string gs,.slice A l.length c] _ rfl R9.range Tryz.underlying85 rfl za2) rfl (by exact FIN.out _ _ _ _ _ _ _ _ _ (NK.out) M9.out.bw)
  | true =>
    go_wp2_with fail;refine (NU.out _).mono ?_;rintro _ _ ⟨rfl,rfl⟩;unfold decV;clear NU PN
    by_cases hz:dn2=0
    case neg =>
     have dz:(dn2 == 0)=false:=by simpa using hz
     have dz':decide (dn2=0)=false:=by simpa using hz
     have dz'':(dn2 != 0)=true:=by simpa using hz
     have NK:=kd (VE4.out _ (PE1.out (by simp) hz));clear VE4 VE5 VOK PE1 PE2 PK PA hz;go_wp2_with (with_reducible refine zad M13.out 1 rfl 85 (.tmp 2) (.tmp 97) rfl ZC5 _ rfl rfl rfl rfl len5 za2 zbv ?_);intro w9 M9;have R9:=M9.out.row (i:=1) rfl;go_wp2_with fail
     exact bodyPost_ret (zah rfl _ _ _ g ZC5 _ rfl R9.range Tryz.underlying85 rfl za2) rfl (by exact FIN.out _ _ _ _ _ _ _ _ _ (NK.out) M9.out.bw)
    have HZ:=kd hz
    have dz:(dn2 == 0)=true:=by simpa using hz
    have dz':decide (dn2=0)=true:=by simpa using hz
    have dz'':(dn2 != 0)=false:=by simpa using hz
    clear hz
    by_cases hr:dn1<1
    case pos =>
     have dr:decide (dn1<1)=true:=by simpa using hr
     have NK:=kd (VE4.out _ (PE2.out (by simp) HZ.out (.inl hr)));clear VE4 VE5 VOK PE1 PE2 PK PA hr;go_wp2_with (with_reducible refine zad M13.out 1 rfl 85 (.tmp 2) (.tmp 97) rfl ZC5 _ rfl rfl rfl rfl len5 za2 zbv ?_);intro w9 M9;have R9:=M9.out.row (i:=1) rfl;go_wp2_with fail
     exact bodyPost_ret (zah rfl _ _ _ g ZC5 _ rfl R9.range Tryz.underlying85 rfl za2) rfl (by exact FIN.out _ _ _ _ _ _ _ _ _ (NK.out) M9.out.bw)
    have dr:decide (dn1<1)=false:=by simpa using hr
    by_cases hr2:65535<dn1
    case pos =>
     have dr2:decide ((65535:Int)<dn1)=true:=by simpa using hr2
     have NK:=kd (VE4.out _ (PE2.out (by simp) HZ.out (.inr hr2)));clear VE4 VE5 VOK PE1 PE2 PK PA hr hr2;go_wp2_with (with_reducible refine zad M13.out 1 rfl 85 (.tmp 2) (.tmp 97) rfl ZC5 _ rfl rfl rfl rfl len5 za2 zbv ?_);intro w9 M9;have R9:=M9.out.row (i:=1) rfl;go_wp2_with fail
     exact bodyPost_ret (zah rfl _ _ _ g ZC5 _ rfl R9.range Tryz.underlying85 rfl za2) rfl (by exact FIN.out _ _ _ _ _ _ _ _ _ (NK.out) M9.out.bw)
    have dr2:decide ((65535:Int)<dn1)=false:=by simpa using hr2
    have PO:=kd (PK.out (by simp) HZ.out (fun h=>h.elim hr hr2));clear VE4 PE1 PE2 PK hr hr2;have m2:w13.cell? ⟨gd,2,none⟩=some (.int .i64 0):=(M13.out.row (i:=0) rfl).cell 2;have f2:w13.frozen? ⟨gd,2,none⟩=false:=(M13.out.row (i:=0) rfl).frozen 2
    go_upto_region 25 with (fail);have M14:=kd (show Mine w (w13.setCell ⟨gd,2,none⟩ (.int .i64 dn1)) [(gd,85,[.string tr,.string (strOfNums ho),.int .i64 dn1,.string ⟨#[]⟩,.slice none 0 0]),(g,85,ZC5)] [] from M13.out.setCell (i:=0) (off:=2) _ rfl rfl)
    clear m2 f2 M13 dz dz' dz'' dr dr2;generalize w13.setCell ⟨gd,2,none⟩ (.int .i64 dn1)=w14 at *;go_wp2_with fail;refine (PA.out _ M14.out.bw).mono ?_;intro e w20 h20;clear PA
    cases hq:zeo ((X.drop bb).drop nn) with
    | error q =>
      rw [hq] at h20;obtain ⟨rfl,hb20,hk⟩:=h20;have M20:=kd (M14.out.call hb20);have NK:=kd (VE5.out _ PO.out _ hq);obtain ⟨qz,qk⟩:=q;dsimp only at *
      have dk:decide (qk=0)=false:=by simpa using hk
      have dk':(qk != 0)=true:=by simpa using hk
      clear hb20 hq hk;go_wp2_with (with_reducible refine zad M20.out 1 rfl 85 (.tmp 2) (.tmp 109) rfl ZC5 _ rfl rfl rfl rfl len5 za2 zbv ?_);intro w9 M9;have R9:=M9.out.row (i:=1) rfl;go_wp2_with fail
      exact bodyPost_ret (zah rfl _ _ _ g ZC5 _ rfl R9.range Tryz.underlying85 rfl za2) rfl (by exact FIN.out _ _ _ _ _ _ _ _ _ (NK.out) M9.out.bw)
    | ok l =>
      rw [hq] at h20;obtain ⟨vv,rfl,hx,hl16⟩:=h20;obtain ⟨A,c,rfl,hfr,hrd⟩:=hx.fresh;have NK:=kd (VOK.out _ PO.out _ hq);have PZ:=kd (PSZ.out l hq);have L16:=kd hl16
      have M20:=kd ((M14.out.call hx.bw).add (F:=fun W=>Rds W W.heap.size A (pms l)) (za9 hrd (fun b o s e=>M14.out.fresh (hfr b o s e))));clear hx hfr hrd hq hl16;have m4:w20.cell? ⟨gd,4,none⟩=some (.slice none 0 0):=(M20.out.row (i:=0) rfl).cell 4
      have f4:w20.frozen? ⟨gd,4,none⟩=false:=(M20.out.row (i:=0) rfl).frozen 4;go_upto_region 29 with (fail)
      have M21:=kd (show Mine w (w20.setCell ⟨gd,4,none⟩ (.slice A l.length c)) [(gd,85,[.string tr,.string (strOfNums ho),.int .i64 dn1,.string ⟨#[]⟩,.slice A l.length c]),(g,85,ZC5)] [fun W=>Rds W W.heap.size A (pms l)] from M20.out.setCell (i:=0) (off:=4) _ rfl rfl)
      clear m4 f4 M20;generalize w20.setCell ⟨gd,4,none⟩ (.slice A l.length c)=w21 at *;have GT:=kd (ze4 A l.length c l BRN w21 (M21.out.fact (i:=0) rfl) rfl (by have:=L16.out;omega) (fun p hp=>⟨(PZ.out p hp).1,(PZ.out p hp).2⟩) (byD rfl) (by decide))
      rw [show (strOfNums BRN)=⟨#[98,114,97,110,99,104]⟩ from rfl] at GT;have m3:w21.cell? ⟨gd,3,none⟩=some (.string ⟨#[]⟩):=(M21.out.row (i:=0) rfl).cell 3;have f3:w21.frozen? ⟨gd,3,none⟩=false:=(M21.out.row (i:=0) rfl).frozen 3;go_wp2_with fail;refine GT.out.mono ?_
      rintro _ w22 ⟨rfl,hb22⟩;clear m3 f3;have M22:=kd (M21.out.call hb22);clear hb22 M21 GT
      obtain ⟨gs,gb,hgv⟩:∃ gs gb,gotV (zd4 l BRN) = .tuple #[.string gs,.bool gb]:=by cases zd4 l BRN<;>exact ⟨_,_,rfl⟩
      rw [hgv];clear hgv;have m3:w22.cell? ⟨gd,3,none⟩=some (.string ⟨#[]⟩):=(M22.out.row (i:=0) rfl).cell 3;have f3:w22.frozen? ⟨gd,3,none⟩=false:=(M22.out.row (i:=0) rfl).frozen 3;go_upto_region 30 with (fail)
      have M23:=kd (show Mine w (w22.setCell ⟨gd,3,none⟩ (.string gs)) [(gd,85,[.string tr,.string (strOfNums ho),.int .i64 dn1,.string gs,.slice A l.length c]),(g,85,ZC5)] [fun W=>Rds W W.heap.size A (pms l)] from M22.out.setCell (i:=0) (off:=3) _ rfl rfl);clear m3 f3 M22
      generalize w22.setCell ⟨gd,3,none⟩ (.string gs)=w23 at *;have RD:=kd (M23.out.row (i:=0) rfl)
      go_wp2_with (first
       | (with_reducible refine zab rfl 85 (.tmp 6) rfl RD.out rfl Tryz.underlying85 rfl za2 ?_)
       | (with_reducible refine zad M23.out 1 rfl 85 (.tmp 2) (.tmp 119) rfl [.string tr,.string (strOfNums ho),.int .i64 dn1,.string gs,.slice A l.length c] _ rfl rfl rfl rfl len5 za2 zbv ?_))
      intro w9 M9;have R9:=M9.out.row (i:=1) rfl;go_wp2_with fail;exact bodyPost_ret (zah rfl _ _ _ g [.string tr,.string (strOfNums ho),.int .i64 dn1,.string gs,.slice A l.length c] _ rfl R9.range Tryz.underlying85 rfl za2) rfl (by exact FIN.out _ _ _ _ _ _ _ _ _ (NK.out) M9.out.bw)
 have hlt:nn<(v.extract bb v.size).size:=by omega
 rw [if_neg hc];have CU:=kd (CUT.out ((v.extract bb v.size).extract 0 nn) (by rw [zco,hvB2.out]));have PA:=kd (PAR.out ((v.extract bb v.size).extract nn (v.extract bb v.size).size) (by rw [zdz,hvB2.out]));clear CUT PAR hc HSZ HNN;generalize v.extract bb v.size=z at *
 go_upto_region 12 with (fail)
 go_quiet (fail)
 have M9x:=kd (M8.out.call (zam _ nq));clear M8;generalize w8.drewN nq=w10 at *;go_wp2_with fail;refine (CU.out _).mono ?_;rintro _ w11 ⟨rfl,hb11⟩;have M11:=kd (M9x.out.call hb11);clear hb11 CU;go_wp2_with fail;refine (HO.out _ M11.out.bw).mono ?_;rintro _ w12 ⟨rfl,hb12⟩
 have M12:=kd (M11.out.call hb12);clear hb12 HO M11
 cases hho:zb3 q1 with
 | none =>
   have NK:=kd (VE3.out hho);unfold zhf;clear hho VE3 VE4 VE5 VOK PA;go_wp2_with (with_reducible refine zad M12.out 1 rfl 85 (.tmp 2) (.tmp 76) rfl ZC5 _ rfl rfl rfl rfl len5 za2 zbv ?_);intro w9 M9;have R9:=M9.out.row (i:=1) rfl;go_wp2_with fail
   exact bodyPost_ret (zah rfl _ _ _ g ZC5 _ rfl R9.range Tryz.underlying85 rfl za2) rfl (by exact FIN.out _ _ _ _ _ _ _ _ _ (NK.out) M9.out.bw)
 | some ho =>
 replace VE4:=kd (fun k=>VE4.out ho k hho);replace VE5:=kd (fun n h4 q=>VE5.out ho hho n h4 q);replace VOK:=kd (fun n h4 ps=>VOK.out ho hho n h4 ps);unfold zhf;clear hho VE3;have m1:w12.cell? ⟨gd,1,none⟩=some (.string ⟨#[]⟩):=(M12.out.row (i:=0) rfl).cell 1
 have f1:w12.frozen? ⟨gd,1,none⟩=false:=(M12.out.row (i:=0) rfl).frozen 1;go_upto_region 18 with (fail)
 have M13:=kd (show Mine w (w12.setCell ⟨gd,1,none⟩ (.string (strOfNums ho))) [(gd,85,[.string tr,.string (strOfNums ho),.int .i64 0,.string ⟨#[]⟩,.slice none 0 0]),(g,85,ZC5)] [] from M12.out.setCell (i:=0) (off:=1) _ rfl rfl);clear m1 f1 M12
 generalize w12.setCell ⟨gd,1,none⟩ (.string (strOfNums ho))=w13 at *
 cases q3 with
 | false =>
   have PO:=kd (PN.out (by simp));clear VE4 NU PN PE1 PE2 PK;go_wp2_with fail;refine (PA.out _ M13.out.bw).mono ?_;intro e w20 h20;clear PA
   cases hq:zeo ((X.drop bb).drop nn) with
   | error q =>
     rw [hq] at h20;obtain ⟨rfl,hb20,hk⟩:=h20;have M20:=kd (M13.out.call hb20);have NK:=kd (VE5.out _ PO.out _ hq);obtain ⟨qz,qk⟩:=q;dsimp only at *
     have dk:decide (qk=0)=false:=by simpa using hk
     have dk':(qk != 0)=true:=by simpa using hk
     clear hb20 hq hk;go_wp2_with (with_reducible refine zad M20.out 1 rfl 85 (.tmp 2) (.tmp 109) rfl ZC5 _ rfl rfl rfl rfl len5 za2 zbv ?_);intro w9 M9;have R9:=M9.out.row (i:=1) rfl;go_wp2_with fail
     exact bodyPost_ret (zah rfl _ _ _ g ZC5 _ rfl R9.range Tryz.underlying85 rfl za2) rfl (by exact FIN.out _ _ _ _ _ _ _ _ _ (NK.out) M9.out.bw)
   | ok l =>
     rw [hq] at h20;obtain ⟨vv,rfl,hx,hl16⟩:=h20;obtain ⟨A,c,rfl,hfr,hrd⟩:=hx.fresh;have NK:=kd (VOK.out _ PO.out _ hq);have PZ:=kd (PSZ.out l hq);have L16:=kd hl16
     have M20:=kd ((M13.out.call hx.bw).add (F:=fun W=>Rds W W.heap.size A (pms l)) (za9 hrd (fun b o s e=>M13.out.fresh (hfr b o s e))));clear hx hfr hrd hq hl16;have m4:w20.cell? ⟨gd,4,none⟩=some (.slice none 0 0):=(M20.out.row (i:=0) rfl).cell 4
     have f4:w20.frozen? ⟨gd,4,none⟩=false:=(M20.out.row (i:=0) rfl).frozen 4;go_upto_region 29 with (fail)
     have M21:=kd (show Mine w (w20.setCell ⟨gd,4,none⟩ (.slice A l.length c)) [(gd,85,[.string tr,.string (strOfNums ho),.int .i64 0,.string ⟨#[]⟩,.slice A l.length c]),(g,85,ZC5)] [fun W=>Rds W W.heap.size A (pms l)] from M20.out.setCell (i:=0) (off:=4) _ rfl rfl)
     clear m4 f4 M20;generalize w20.setCell ⟨gd,4,none⟩ (.slice A l.length c)=w21 at *;have GT:=kd (ze4 A l.length c l BRN w21 (M21.out.fact (i:=0) rfl) rfl (by have:=L16.out;omega) (fun p hp=>⟨(PZ.out p hp).1,(PZ.out p hp).2⟩) (byD rfl) (by decide))
     rw [show (strOfNums BRN)=⟨#[98,114,97,110,99,104]⟩ from rfl] at GT;have m3:w21.cell? ⟨gd,3,none⟩=some (.string ⟨#[]⟩):=(M21.out.row (i:=0) rfl).cell 3;have f3:w21.frozen? ⟨gd,3,none⟩=false:=(M21.out.row (i:=0) rfl).frozen 3;go_wp2_with fail;refine GT.out.mono ?_
     rintro _ w22 ⟨rfl,hb22⟩;clear m3 f3;have M22:=kd (M21.out.call hb22);clear hb22 M21 GT
     obtain ⟨gs,gb,hgv⟩:∃ gs gb,gotV (zd4 l BRN) = .tuple #[.string gs,.bool gb]:=by cases zd4 l BRN<;>exact ⟨_,_,rfl⟩
     rw [hgv];clear hgv;have m3:w22.cell? ⟨gd,3,none⟩=some (.string ⟨#[]⟩):=(M22.out.row (i:=0) rfl).cell 3;have f3:w22.frozen? ⟨gd,3,none⟩=false:=(M22.out.row (i:=0) rfl).frozen 3;go_upto_region 30 with (fail)
     have M23:=kd (show Mine w (w22.setCell ⟨gd,3,none⟩ (.string gs)) [(gd,85,[.string tr,.string (strOfNums ho),.int .i64 0,.string gs,.slice A l.length c]),(g,85,ZC5)] [fun W=>Rds W W.heap.size A (pms l)] from M22.out.setCell (i:=0) (off:=3) _ rfl rfl);clear m3 f3 M22
     generalize w22.setCell ⟨gd,3,none⟩ (.string gs)=w23 at *;have RD:=kd (M23.out.row (i:=0) rfl)
     go_wp2_with (first
      | (with_reducible refine zab rfl 85 (.tmp 6) rfl RD.out rfl Tryz.underlying85 rfl za2 ?_)
      | (with_reducible refine zad M23.out 1 rfl 85 (.tmp 2) (.tmp 119) rfl [.string tr,.string (strOfNums ho),.int .i64 0,.string gs,.slice A l.length c] _ rfl rfl rfl rfl len5 za2 zbv ?_))
     intro w9 M9;have R9:=M9.out.row (i:=1) rfl;go_wp2_with fail;exact bodyPost_ret (zah rfl _ _ _ g [.string tr,.string (strOfNums ho),.int .i64 0,.string gs,.slice A l.length c] _ rfl R9.range Tryz.underlying85 rfl za2) rfl (by exact FIN.out _ _ _ _ _ _ _ _ _ (NK.out) M9.out.bw)
 | true =>
   go_wp2_with fail;refine (NU.out _).mono ?_;rintro _ _ ⟨rfl,rfl⟩;unfold decV;clear NU PN
   by_cases hz:dn2=0
   case neg =>
    have dz:(dn2 == 0)=false:=by simpa using hz
    have dz':decide (dn2=0)=false:=by simpa using hz
    have dz'':(dn2 != 0)=true:=by simpa using hz
    have NK:=kd (VE4.out _ (PE1.out (by simp) hz));clear VE4 VE5 VOK PE1 PE2 PK PA hz;go_wp2_with (with_reducible refine zad M13.out 1 rfl 85 (.tmp 2) (.tmp 97) rfl ZC5 _ rfl rfl rfl rfl len5 za2 zbv ?_);intro w9 M9;have R9:=M9.out.row (i:=1) rfl;go_wp2_with fail
    exact bodyPost_ret (zah rfl _ _ _ g ZC5 _ rfl R9.range Tryz.underlying85 rfl za2) rfl (by exact FIN.out _ _ _ _ _ _ _ _ _ (NK.out) M9.out.bw)
   have HZ:=kd hz
   have dz:(dn2 == 0)=true:=by simpa using hz
   have dz':decide (dn2=0)=true:=by simpa using hz
   have dz'':(dn2 != 0)=false:=by simpa using hz
   clear hz
   by_cases hr:dn1<1
   case pos =>
    have dr:decide (dn1<1)=true:=by simpa using hr
    have NK:=kd (VE4.out _ (PE2.out (by simp) HZ.out (.inl hr)));clear VE4 VE5 VOK PE1 PE2 PK PA hr;go_wp2_with (with_reducible refine zad M13.out 1 rfl 85 (.tmp 2) (.tmp 97) rfl ZC5 _ rfl rfl rfl rfl len5 za2 zbv ?_);intro w9 M9;have R9:=M9.out.row (i:=1) rfl;go_wp2_with fail
    exact bodyPost_ret (zah rfl _ _ _ g ZC5 _ rfl R9.range Tryz.underlying85 rfl za2) rfl (by exact FIN.out _ _ _ _ _ _ _ _ _ (NK.out) M9.out.bw)
   have dr:decide (dn1<1)=false:=by simpa using hr
   by_cases hr2:65535<dn1
   case pos =>
    have dr2:decide ((65535:Int)<dn1)=true:=by simpa using hr2
    have NK:=kd (VE4.out _ (PE2.out (by simp) HZ.out (.inr hr2)));clear VE4 VE5 VOK PE1 PE2 PK PA hr hr2;go_wp2_with (with_reducible refine zad M13.out 1 rfl 85 (.tmp 2) (.tmp 97) rfl ZC5 _ rfl rfl rfl rfl len5 za2 zbv ?_);intro w9 M9;have R9:=M9.out.row (i:=1) rfl;go_wp2_with fail
    exact bodyPost_ret (zah rfl _ _ _ g ZC5 _ rfl R9.range Tryz.underlying85 rfl za2) rfl (by exact FIN.out _ _ _ _ _ _ _ _ _ (NK.out) M9.out.bw)
   have dr2:decide ((65535:Int)<dn1)=false:=by simpa using hr2
   have PO:=kd (PK.out (by simp) HZ.out (fun h=>h.elim hr hr2));clear VE4 PE1 PE2 PK hr hr2;have m2:w13.cell? ⟨gd,2,none⟩=some (.int .i64 0):=(M13.out.row (i:=0) rfl).cell 2;have f2:w13.frozen? ⟨gd,2,none⟩=false:=(M13.out.row (i:=0) rfl).frozen 2;go_upto_region 25 with (fail)
   have M14:=kd (show Mine w (w13.setCell ⟨gd,2,none⟩ (.int .i64 dn1)) [(gd,85,[.string tr,.string (strOfNums ho),.int .i64 dn1,.string ⟨#[]⟩,.slice none 0 0]),(g,85,ZC5)] [] from M13.out.setCell (i:=0) (off:=2) _ rfl rfl);clear m2 f2 M13 dz dz' dz'' dr dr2
   generalize w13.setCell ⟨gd,2,none⟩ (.int .i64 dn1)=w14 at *;go_wp2_with fail;refine (PA.out _ M14.out.bw).mono ?_;intro e w20 h20;clear PA
   cases hq:zeo ((X.drop bb).drop nn) with
   | error q =>
     rw [hq] at h20;obtain ⟨rfl,hb20,hk⟩:=h20;have M20:=kd (M14.out.call hb20);have NK:=kd (VE5.out _ PO.out _ hq);obtain ⟨qz,qk⟩:=q;dsimp only at *
     have dk:decide (qk=0)=false:=by simpa using hk
     have dk':(qk != 0)=true:=by simpa using hk
     clear hb20 hq hk;go_wp2_with (with_reducible refine zad M20.out 1 rfl 85 (.tmp 2) (.tmp 109) rfl ZC5 _ rfl rfl rfl rfl len5 za2 zbv ?_);intro w9 M9;have R9:=M9.out.row (i:=1) rfl;go_wp2_with fail
     exact bodyPost_ret (zah rfl _ _ _ g ZC5 _ rfl R9.range Tryz.underlying85 rfl za2) rfl (by exact FIN.out _ _ _ _ _ _ _ _ _ (NK.out) M9.out.bw)
   | ok l =>
     rw [hq] at h20;obtain ⟨vv,rfl,hx,hl16⟩:=h20;obtain ⟨A,c,rfl,hfr,hrd⟩:=hx.fresh;have NK:=kd (VOK.out _ PO.out _ hq);have PZ:=kd (PSZ.out l hq);have L16:=kd hl16
     have M20:=kd ((M14.out.call hx.bw).add (F:=fun W=>Rds W W.heap.size A (pms l)) (za9 hrd (fun b o s e=>M14.out.fresh (hfr b o s e))));clear hx hfr hrd hq hl16;have m4:w20.cell? ⟨gd,4,none⟩=some (.slice none 0 0):=(M20.out.row (i:=0) rfl).cell 4
     have f4:w20.frozen? ⟨gd,4,none⟩=false:=(M20.out.row (i:=0) rfl).frozen 4;go_upto_region 29 with (fail)
     have M21:=kd (show Mine w (w20.setCell ⟨gd,4,none⟩ (.slice A l.length c)) [(gd,85,[.string tr,.string (strOfNums ho),.int .i64 dn1,.string ⟨#[]⟩,.slice A l.length c]),(g,85,ZC5)] [fun W=>Rds W W.heap.size A (pms l)] from M20.out.setCell (i:=0) (off:=4) _ rfl rfl)
     clear m4 f4 M20;generalize w20.setCell ⟨gd,4,none⟩ (.slice A l.length c)=w21 at *;have GT:=kd (ze4 A l.length c l BRN w21 (M21.out.fact (i:=0) rfl) rfl (by have:=L16.out;omega) (fun p hp=>⟨(PZ.out p hp).1,(PZ.out p hp).2⟩) (byD rfl) (by decide))
     rw [show (strOfNums BRN)=⟨#[98,114,97,110,99,104]⟩ from rfl] at GT;have m3:w21.cell? ⟨gd,3,none⟩=some (.string ⟨#[]⟩):=(M21.out.row (i:=0) rfl).cell 3;have f3:w21.frozen? ⟨gd,3,none⟩=false:=(M21.out.row (i:=0) rfl).frozen 3;go_wp2_with fail;refine GT.out.mono ?_
     rintro _ w22 ⟨rfl,hb22⟩;clear m3 f3;have M22:=kd (M21.out.call hb22);clear hb22 M21 GT
     obtain ⟨gs,gb,hgv⟩:∃ gs gb,gotV (zd4 l BRN) = .tuple #[.string gs,.bool gb]:=by cases zd4 l BRN<;>exact ⟨_,_,rfl⟩
     rw [hgv];clear hgv;have m3:w22.cell? ⟨gd,3,none⟩=some (.string ⟨#[]⟩):=(M22.out.row (i:=0) rfl).cell 3;have f3:w22.frozen? ⟨gd,3,none⟩=false:=(M22.out.row (i:=0) rfl).frozen 3;go_upto_region 30 with (fail)
     have M23:=kd (show Mine w (w22.setCell ⟨gd,3,none⟩ (.string gs)) [(gd,85,[.string tr,.string (strOfNums ho),.int .i64 dn1,.string gs,.slice A l.length c]),(g,85,ZC5)] [fun W=>Rds W W.heap.size A (pms l)] from M22.out.setCell (i:=0) (off:=3) _ rfl rfl);clear m3 f3 M22
     generalize w22.setCell ⟨gd,3,none⟩ (.string gs)=w23 at *;have RD:=kd (M23.out.row (i:=0) rfl)
     go_wp2_with (first
      | (with_reducible refine zab rfl 85 (.tmp 6) rfl RD.out rfl Tryz.underlying85 rfl za2 ?_)
      | (with_reducible refine zad M23.out 1 rfl 85 (.tmp 2) (.tmp 119) rfl [.string tr,.string (strOfNums ho),.int .i64 dn1,.string gs,.slice A l.length c] _ rfl rfl rfl rfl len5 za2 zbv ?_))
     intro w9 M9;have R9:=M9.out.row (i:=1) rfl;go_wp2_with fail;exact bodyPost_ret (zah rfl _ _ _ g [.string tr,.string (strOfNums ho),.int .i64 dn1,.string gs,.slice A l.length c] _ rfl R9.range Tryz.underlying85 rfl za2) rfl (by exact FIN.out _ _ _ _ _ _ _ _ _ (NK.out) M9.out.bw)
end Go.Proofs.YtfnmkedncfdceaaGreatDoor
