/- Contracts: dialog.inRange, party, mayRequest. And what stands behind it. -/
import Derived.Test.YtfnmkedncfdceaaGreatDoorJh
set_option linter.unusedVariables false
set_option linter.unusedSimpArgs false
set_option maxRecDepth 100000
set_option maxHeartbeats 16000000
namespace Go.Proofs.YtfnmkedncfdceaaGreatDoor
open Go.RowKit

theorem zkf (n:Int) (w:World):Calls Tryz.prog 74 #[.int .i64 n] w fun e w'=>e = .returned (.bool (zfd n))∧w=w':=by
 unfold zfd
 cases d1:decide (0≤n)<;>cases d2:decide (n≤2147483647)
 all_goals
  go_enter Tryz.func74,Tryz.ntmps74
  go_wp2_with fail;go_ret;exact ⟨rfl,rfl⟩
theorem zn8 (u t:List Int) (w:World) (hu:Tx u) (ht:Tx t):Calls Tryz.prog 40 #[.string (strOfNums u),.string (strOfNums t)] w fun e w'=>e = .returned (.string (strOfNums (zb0 u t)))∧w=w':=by
 have su:(strOfNums u).size≤4000000:=by rw [strOfNums_size];exact hu.2
 have st:(strOfNums t).size≤4000000:=by rw [strOfNums_size];exact ht.2
 have EB:=zb1 t
 by_cases h0:t=[]
 · have N:=kd (show strOfNums (zb0 u t)=(⟨#[60]⟩:ByteArray)++strOfNums u ++ ⟨#[62]⟩ by unfold zb0;rw [if_pos h0,show (60::(u++[62]))=[60]++u++[62] by simp,← zcx,← zcx];rfl)
   have e0:((strOfNums t).toList == [])=true:=EB.trans (by rw [h0];rfl);generalize strOfNums (zb0 u t)=R at *;generalize strOfNums t=T at *;generalize strOfNums u=U at *;clear EB h0 hu ht
   go_enter Tryz.func40,Tryz.ntmps40
   go_wp2_with fail;go_ret;exact ⟨by rw [N.out];rfl,rfl⟩
 · have N:=kd (show strOfNums (zb0 u t)=(⟨#[60]⟩:ByteArray)++strOfNums u ++ ⟨#[62,59,116,97,103,61]⟩++strOfNums t by unfold zb0;rw [if_neg h0,show (60::(u++[62,59,116,97,103,61]++t))=[60]++u++[62,59,116,97,103,61]++t by simp,← zcx,← zcx,← zcx];rfl)
   have e0:((strOfNums t).toList == [])=false:=EB.trans (by cases t with|nil=>exact absurd rfl h0|cons a l=>rfl);generalize strOfNums (zb0 u t)=R at *;generalize strOfNums t=T at *;generalize strOfNums u=U at *;clear EB h0 hu ht
   go_enter Tryz.func40,Tryz.ntmps40
   go_wp2_with fail;go_ret;exact ⟨by rw [N.out];rfl,rfl⟩
section
variable {d : Dlg} {m via : List Int}
theorem may_e1 (h:zfd d.ls=false∨zfd d.iq=false∨m=zho∨zc5 m=false):zc1 d m via=2:=by unfold zc1;exact if_pos h
theorem may_e2 (h:¬ (zfd d.ls=false∨zfd d.iq=false∨m=zho∨zc5 m=false)) (h2:viaK via≠0):zc1 d m via=2:=by unfold zc1;rw [if_neg h];exact if_pos h2
theorem may_e3 (h:¬ (zfd d.ls=false∨zfd d.iq=false∨m=zho∨zc5 m=false)) (h2:viaK via=0) (h3:zdw d=false):zc1 d m via=9:=by unfold zc1;rw [if_neg h,if_neg (by simp [h2])];exact if_pos h3
theorem may_r (h:¬ (zfd d.ls=false∨zfd d.iq=false∨m=zho∨zc5 m=false)) (h2:viaK via=0) (h3:zdw d=true):zc1 d m via=if d.st=1∧m≠zsn∧m≠UPDT∧¬ (d.cl=true∧m=BYET) then 9 else if m=ACKT∧d.iq=0 then 9 else if m≠ACKT∧d.ls=2147483647 then 3 else 0:=by unfold zc1;rw [if_neg h,if_neg (by simp [h2]),if_neg (by rw [h3];decide)]
end
theorem ztl (d:Dlg) (A:Option Addr) (c:Nat) (m via:List Int) (w:World) (H:DArg w d A c) (hm:Tx m) (hv:Tx via) (G:GW w) :
  Calls Tryz.prog 36 #[.agg (dgC d A c).toArray,.string (strOfNums m),.string (strOfNums via)] w fun e w'=>e = .returned (.int .u8 (zc1 d m via))∧Below w.heap.size w w':=by
 have M0:=kd (show Mine w (w.alloc (.cells #[.int .u8 d.st,.bool d.cl,.string (strOfNums d.ci),.string (strOfNums d.lt),.string (strOfNums d.rt),.string (strOfNums d.lu),.string (strOfNums d.ru),.string (strOfNums d.tg),.slice A d.rs.length c,.int .i64 d.ls,.int .i64 d.rq,.int .i64 d.iq] 25)) [(w.heap.size,25,[.int .u8 d.st,.bool d.cl,.string (strOfNums d.ci),.string (strOfNums d.lt),.string (strOfNums d.rt),.string (strOfNums d.lu),.string (strOfNums d.ru),.string (strOfNums d.tg),.slice A d.rs.length c,.int .i64 d.ls,.int .i64 d.rq,.int .i64 d.iq])] [] from (Mine.refl w).alloc 25 [.int .u8 d.st,.bool d.cl,.string (strOfNums d.ci),.string (strOfNums d.lt),.string (strOfNums d.rt),.string (strOfNums d.lu),.string (strOfNums d.ru),.string (strOfNums d.tg),.slice A d.rs.length c,.int .i64 d.ls,.int .i64 d.rq,.int .i64 d.iq])
 have I1:=kd (fun w=>zkf d.ls w);have I2:=kd (fun w=>zkf d.iq w);have TK:=kd (fun w=>zfz (strOfNums m) w (by rw [strOfNums_size];have:=hm.2;omega));rw [zal hm.1] at TK
 have VA:=kd (fun w' (hb:Below w.heap.size w w')=>ycd (strOfNums via) w' (by rw [strOfNums_size];exact hv.2) (G.below hb));rw [zal hv.1] at VA;have OP:=kd (fun w'=>zmu d A c w');have LC:=kd (zdg hm.1 [67,65,78,67,69,76] zho rfl);have LP:=kd (zdg hm.1 [80,82,65,67,75] zsn rfl)
 have LU:=kd (zdg hm.1 [85,80,68,65,84,69] UPDT rfl);have LB:=kd (zdg hm.1 [66,89,69] BYET rfl);have LA:=kd (zdg hm.1 [65,67,75] ACKT rfl);have E1:=kd (fun h=>may_e1 (d:=d) (m:=m) (via:=via) h);have E2:=kd (fun h h2=>may_e2 (d:=d) (m:=m) (via:=via) h h2)
 have E3:=kd (fun h h2 h3=>may_e3 (d:=d) (m:=m) (via:=via) h h2 h3);have E4:=kd (fun h h2 h3=>may_r (d:=d) (m:=m) (via:=via) h h2 h3)
 have FIN:=kd (fun (k:Int) w' (hb:Below w.heap.size w w') (h:zc1 d m via=k)=>show (fun (e:Ending) (w':World)=>e = .returned (.int .u8 (zc1 d m via))∧Below w.heap.size w w') (.returned (.int .u8 k)) w' from ⟨by rw [h],hb⟩)
 generalize (fun (e:Ending) (w':World)=>e = .returned (.int .u8 (zc1 d m via))∧Below w.heap.size w w')=PP at *;generalize zc1 d m via=R at *;generalize zfd d.ls=b1 at *;generalize zfd d.iq=b2 at *;generalize zc5 m=b3 at *;generalize viaK via=vk at *;generalize zdw d=op at *
 unfold dgC at OP ⊢;clear H hm hv G
 go_enter Tryz.func36,Tryz.ntmps36
 go_upto_region 1 with (fail)
 generalize w.alloc (.cells #[.int .u8 d.st,.bool d.cl,.string (strOfNums d.ci),.string (strOfNums d.lt),.string (strOfNums d.rt),.string (strOfNums d.lu),.string (strOfNums d.ru),.string (strOfNums d.tg),.slice A d.rs.length c,.int .i64 d.ls,.int .i64 d.rq,.int .i64 d.iq] 25)=w1 at *
 obtain ⟨g,hg⟩:∃ b,w.heap.size=b:=⟨_,rfl⟩;rw [hg] at M0 ⊢;clear hg;have x9:w1.cell? ⟨g,9,none⟩=some (.int .i64 d.ls):=(M0.out.row (i:=0) rfl).cell 9;have x11:w1.cell? ⟨g,11,none⟩=some (.int .i64 d.iq):=(M0.out.row (i:=0) rfl).cell 11;go_wp2_with fail
 refine (I1.out _).mono ?_;rintro _ _ ⟨rfl,rfl⟩;clear I1
 cases b1 with
 | false =>
   have N:=kd (E1.out (.inl (by simp)));clear E1 E2 E3 E4;go_wp2_with fail
   first|exact FIN.out _ _ M0.out.bw (N.out)|(go_ret;exact FIN.out _ _ M0.out.bw (N.out))
 | true =>
 go_wp2_with fail;refine (I2.out _).mono ?_;rintro _ _ ⟨rfl,rfl⟩;clear I2
 cases b2 with
 | false =>
   have N:=kd (E1.out (.inr (.inl (by simp))));clear E1 E2 E3 E4;go_wp2_with fail
   first|exact FIN.out _ _ M0.out.bw (N.out)|(go_ret;exact FIN.out _ _ M0.out.bw (N.out))
 | true =>
 by_cases hc:m=zho
 case pos =>
  have pc:((strOfNums m).toList == [67,65,78,67,69,76])=true:=LC.out.trans (by simpa using hc);have N:=kd (E1.out (.inr (.inr (.inl hc))));clear E1 E2 E3 E4 hc;go_wp2_with fail
  first|exact FIN.out _ _ M0.out.bw (N.out)|(go_ret;exact FIN.out _ _ M0.out.bw (N.out))
 have pc:((strOfNums m).toList == [67,65,78,67,69,76])=false:=LC.out.trans (by simpa using hc);have HC:=kd hc;clear hc LC;go_wp2_with fail;refine (TK.out _).mono ?_;rintro _ w2 ⟨rfl,hb2⟩;have M2:=kd (M0.out.call hb2);clear hb2 TK M0 x9 x11
 cases b3 with
 | false =>
   have N:=kd (E1.out (.inr (.inr (.inr (by simp)))));clear E1 E2 E3 E4;go_wp2_with fail
   first|exact FIN.out _ _ M2.out.bw (N.out)|(go_ret;exact FIN.out _ _ M2.out.bw (N.out))
 | true =>
 have K1:=kd (E4.out (by simp;exact HC.out));replace E2:=kd (E2.out (by simp;exact HC.out));replace E3:=kd (E3.out (by simp;exact HC.out));clear E1 E4 HC pc;go_wp2_with fail;refine (VA.out _ M2.out.bw).mono ?_;rintro _ w3 ⟨sa,sb,sc,sp,sA,sn,sd,rfl,hb3⟩
 have M3:=kd (M2.out.call hb3);clear hb3 VA M2;go_upto_region 4 with (with_reducible refine zak rfl 85 (.tmp 7) (.tmp 31) rfl ZC5 [.string sa,.string sb,.int .i64 sp,.string sc,.slice sA sn sd] rfl rfl len5 za2 zbv ?_;intro w4 R4 S4);have M4:=kd (M3.out.call S4.out);clear R4 S4 M3
 by_cases hk:vk=0
 case neg =>
  have pk:(vk != 0)=true:=by simpa using hk
  have N:=kd (E2.out hk);clear E2 E3 K1 hk;go_wp2_with fail
  first|exact FIN.out _ _ M4.out.bw (N.out)|(go_ret;exact FIN.out _ _ M4.out.bw (N.out))
 have pk:(vk != 0)=false:=by simpa using hk
 replace K1:=kd (K1.out hk);replace E3:=kd (E3.out hk);clear hk E2;have RD:=kd (M4.out.row (i:=0) rfl);go_wp2_with (with_reducible refine zab rfl 25 (.tmp 3) rfl RD.out rfl Tryz.underlying25 rfl (zae _ _ _ _ _ _ _ _ _ _ _ _) ?_);refine (OP.out _).mono ?_;rintro _ w5 ⟨rfl,hb5⟩
 have M5:=kd (M4.out.call hb5);clear hb5 OP RD M4 pk
 cases op with
 | false =>
   have N:=kd (E3.out (by simp));clear E3 K1;go_wp2_with fail
   first|exact FIN.out _ _ M5.out.bw (N.out)|(go_ret;exact FIN.out _ _ M5.out.bw (N.out))
 | true =>
 replace K1:=kd (K1.out (by simp));clear E3;have x0:w5.cell? ⟨g,0,none⟩=some (.int .u8 d.st):=(M5.out.row (i:=0) rfl).cell 0;have x1:w5.cell? ⟨g,1,none⟩=some (.bool d.cl):=(M5.out.row (i:=0) rfl).cell 1
 have x9:w5.cell? ⟨g,9,none⟩=some (.int .i64 d.ls):=(M5.out.row (i:=0) rfl).cell 9;have x11:w5.cell? ⟨g,11,none⟩=some (.int .i64 d.iq):=(M5.out.row (i:=0) rfl).cell 11
 by_cases h1:d.st=1
 case neg =>
  have p1:(d.st == 1)=false:=by simpa using h1
  have EE:=kd (K1.out.trans (if_neg (fun h=>h1 h.1)));clear K1 h1 LP LU LB;go_upto_region 10 with (fail)
  by_cases hA:m=ACKT
  · have pA:((strOfNums m).toList == [65,67,75])=true:=LA.out.trans (by simpa using hA)
    have pA':((strOfNums m).toList != [65,67,75])=false:=by rw [bne,pA];rfl
    by_cases hq:d.iq=0
    · have pq:(d.iq == 0)=true:=by simpa using hq
      have N:=kd (EE.out.trans (if_pos ⟨hA,hq⟩));clear hA hq;go_wp2_with fail
      first|exact FIN.out _ _ M5.out.bw (N.out)|(go_ret;exact FIN.out _ _ M5.out.bw (N.out))
    · have pq:(d.iq == 0)=false:=by simpa using hq
      have N:=kd ((EE.out.trans (if_neg (fun h=>hq h.2))).trans (if_neg (fun h=>h.1 hA)));clear hA hq;go_wp2_with fail
      first|exact FIN.out _ _ M5.out.bw (N.out)|(go_ret;exact FIN.out _ _ M5.out.bw (N.out))
  · have pA:((strOfNums m).toList == [65,67,75])=false:=LA.out.trans (by simpa using hA)
    have pA':((strOfNums m).toList != [65,67,75])=true:=by rw [bne,pA];rfl
    by_cases hl:d.ls=2147483647
    · have pl:(d.ls == 2147483647)=true:=by simpa using hl
      have N:=kd ((EE.out.trans (if_neg (fun h=>hA h.1))).trans (if_pos ⟨hA,hl⟩));clear hA hl;go_wp2_with fail
      first|exact FIN.out _ _ M5.out.bw (N.out)|(go_ret;exact FIN.out _ _ M5.out.bw (N.out))
    · have pl:(d.ls == 2147483647)=false:=by simpa using hl
      have N:=kd ((EE.out.trans (if_neg (fun h=>hA h.1))).trans (if_neg (fun h=>hl h.2)));clear hA hl;go_wp2_with fail
      first|exact FIN.out _ _ M5.out.bw (N.out)|(go_ret;exact FIN.out _ _ M5.out.bw (N.out))
 have p1:(d.st == 1)=true:=by simpa using h1
 have H1:=kd h1;clear h1
 by_cases h2:m=zsn
 case pos =>
  have p2:((strOfNums m).toList == [80,82,65,67,75])=true:=LP.out.trans (by simpa using h2)
  have p2':((strOfNums m).toList != [80,82,65,67,75])=false:=by rw [bne,p2];rfl
  have EE:=kd (K1.out.trans (if_neg (fun h=>h.2.1 h2)));clear K1 h2 LP LU LB;go_upto_region 10 with (fail)
  by_cases hA:m=ACKT
  · have pA:((strOfNums m).toList == [65,67,75])=true:=LA.out.trans (by simpa using hA)
    have pA':((strOfNums m).toList != [65,67,75])=false:=by rw [bne,pA];rfl
    by_cases hq:d.iq=0
    · have pq:(d.iq == 0)=true:=by simpa using hq
      have N:=kd (EE.out.trans (if_pos ⟨hA,hq⟩));clear hA hq;go_wp2_with fail
      first|exact FIN.out _ _ M5.out.bw (N.out)|(go_ret;exact FIN.out _ _ M5.out.bw (N.out))
    · have pq:(d.iq == 0)=false:=by simpa using hq
      have N:=kd ((EE.out.trans (if_neg (fun h=>hq h.2))).trans (if_neg (fun h=>h.1 hA)));clear hA hq;go_wp2_with fail
      first|exact FIN.out _ _ M5.out.bw (N.out)|(go_ret;exact FIN.out _ _ M5.out.bw (N.out))
  · have pA:((strOfNums m).toList == [65,67,75])=false:=LA.out.trans (by simpa using hA)
    have pA':((strOfNums m).toList != [65,67,75])=true:=by rw [bne,pA];rfl
    by_cases hl:d.ls=2147483647
    · have pl:(d.ls == 2147483647)=true:=by simpa using hl
      have N:=kd ((EE.out.trans (if_neg (fun h=>hA h.1))).trans (if_pos ⟨hA,hl⟩));clear hA hl;go_wp2_with fail
      first|exact FIN.out _ _ M5.out.bw (N.out)|(go_ret;exact FIN.out _ _ M5.out.bw (N.out))
    · have pl:(d.ls == 2147483647)=false:=by simpa using hl
      have N:=kd ((EE.out.trans (if_neg (fun h=>hA h.1))).trans (if_neg (fun h=>hl h.2)));clear hA hl;go_wp2_with fail
      first|exact FIN.out _ _ M5.out.bw (N.out)|(go_ret;exact FIN.out _ _ M5.out.bw (N.out))
 have p2:((strOfNums m).toList == [80,82,65,67,75])=false:=LP.out.trans (by simpa using h2)
 have p2':((strOfNums m).toList != [80,82,65,67,75])=true:=by rw [bne,p2];rfl
 by_cases h3:m=UPDT
 case pos =>
  have p3:((strOfNums m).toList == [85,80,68,65,84,69])=true:=LU.out.trans (by simpa using h3)
  have p3':((strOfNums m).toList != [85,80,68,65,84,69])=false:=by rw [bne,p3];rfl
  have EE:=kd (K1.out.trans (if_neg (fun h=>h.2.2.1 h3)));clear K1 h2 h3 LP LU LB;go_upto_region 10 with (fail)
  by_cases hA:m=ACKT
  · have pA:((strOfNums m).toList == [65,67,75])=true:=LA.out.trans (by simpa using hA)
    have pA':((strOfNums m).toList != [65,67,75])=false:=by rw [bne,pA];rfl
    by_cases hq:d.iq=0
    · have pq:(d.iq == 0)=true:=by simpa using hq
      have N:=kd (EE.out.trans (if_pos ⟨hA,hq⟩));clear hA hq;go_wp2_with fail
      first|exact FIN.out _ _ M5.out.bw (N.out)|(go_ret;exact FIN.out _ _ M5.out.bw (N.out))
    · have pq:(d.iq == 0)=false:=by simpa using hq
      have N:=kd ((EE.out.trans (if_neg (fun h=>hq h.2))).trans (if_neg (fun h=>h.1 hA)));clear hA hq;go_wp2_with fail
      first|exact FIN.out _ _ M5.out.bw (N.out)|(go_ret;exact FIN.out _ _ M5.out.bw (N.out))
  · have pA:((strOfNums m).toList == [65,67,75])=false:=LA.out.trans (by simpa using hA)
    have pA':((strOfNums m).toList != [65,67,75])=true:=by rw [bne,pA];rfl
    by_cases hl:d.ls=2147483647
    · have pl:(d.ls == 2147483647)=true:=by simpa using hl
      have N:=kd ((EE.out.trans (if_neg (fun h=>hA h.1))).trans (if_pos ⟨hA,hl⟩));clear hA hl;go_wp2_with fail
      first|exact FIN.out _ _ M5.out.bw (N.out)|(go_ret;exact FIN.out _ _ M5.out.bw (N.out))
    · have pl:(d.ls == 2147483647)=false:=by simpa using hl
      have N:=kd ((EE.out.trans (if_neg (fun h=>hA h.1))).trans (if_neg (fun h=>hl h.2)));clear hA hl;go_wp2_with fail
      first|exact FIN.out _ _ M5.out.bw (N.out)|(go_ret;exact FIN.out _ _ M5.out.bw (N.out))
 have p3:((strOfNums m).toList == [85,80,68,65,84,69])=false:=LU.out.trans (by simpa using h3)
 have p3':((strOfNums m).toList != [85,80,68,65,84,69])=true:=by rw [bne,p3];rfl
 cases hcl:d.cl with
 | false =>
   have N:=kd (K1.out.trans (if_pos ⟨H1.out,h2,h3,by simp [hcl]⟩));rw [hcl] at x1;clear K1 h2 h3 hcl LP LU LB;go_wp2_with fail
   first|exact FIN.out _ _ M5.out.bw (N.out)|(go_ret;exact FIN.out _ _ M5.out.bw (N.out))
 | true =>
 rw [hcl] at x1
 by_cases h4:m=BYET
 case neg =>
  have p4:((strOfNums m).toList == [66,89,69])=false:=LB.out.trans (by simpa using h4);have N:=kd (K1.out.trans (if_pos ⟨H1.out,h2,h3,by simp [h4]⟩));clear K1 h2 h3 h4 hcl LP LU LB;go_wp2_with fail
  first|exact FIN.out _ _ M5.out.bw (N.out)|(go_ret;exact FIN.out _ _ M5.out.bw (N.out))
 have p4:((strOfNums m).toList == [66,89,69])=true:=LB.out.trans (by simpa using h4);have EE:=kd (K1.out.trans (if_neg (fun h=>h.2.2.2 ⟨hcl,h4⟩)));clear K1 h2 h3 h4 hcl LP LU LB;go_upto_region 10 with (fail)
 by_cases hA:m=ACKT
 · have pA:((strOfNums m).toList == [65,67,75])=true:=LA.out.trans (by simpa using hA)
   have pA':((strOfNums m).toList != [65,67,75])=false:=by rw [bne,pA];rfl
   by_cases hq:d.iq=0
   · have pq:(d.iq == 0)=true:=by simpa using hq
     have N:=kd (EE.out.trans (if_pos ⟨hA,hq⟩));clear hA hq;go_wp2_with fail
     first|exact FIN.out _ _ M5.out.bw (N.out)|(go_ret;exact FIN.out _ _ M5.out.bw (N.out))
   · have pq:(d.iq == 0)=false:=by simpa using hq
     have N:=kd ((EE.out.trans (if_neg (fun h=>hq h.2))).trans (if_neg (fun h=>h.1 hA)));clear hA hq;go_wp2_with fail
     first|exact FIN.out _ _ M5.out.bw (N.out)|(go_ret;exact FIN.out _ _ M5.out.bw (N.out))
 · have pA:((strOfNums m).toList == [65,67,75])=false:=LA.out.trans (by simpa using hA)
   have pA':((strOfNums m).toList != [65,67,75])=true:=by rw [bne,pA];rfl
   by_cases hl:d.ls=2147483647
   · have pl:(d.ls == 2147483647)=true:=by simpa using hl
     have N:=kd ((EE.out.trans (if_neg (fun h=>hA h.1))).trans (if_pos ⟨hA,hl⟩));clear hA hl;go_wp2_with fail
     first|exact FIN.out _ _ M5.out.bw (N.out)|(go_ret;exact FIN.out _ _ M5.out.bw (N.out))
   · have pl:(d.ls == 2147483647)=false:=by simpa using hl
     have N:=kd ((EE.out.trans (if_neg (fun h=>hA h.1))).trans (if_neg (fun h=>hl h.2)));clear hA hl;go_wp2_with fail
     first|exact FIN.out _ _ M5.out.bw (N.out)|(go_ret;exact FIN.out _ _ M5.out.bw (N.out))

theorem zus {o:Oper} {a:Act} {w:World} {next:Act→World→Prop} {Q:Exit→Act→World→Prop} {g n cap:Nat} {z:Int} (x y:Operand) (ho:o.op = .indexAddr 23 x y) (hx:a.eval x = .slice (some ⟨g,0,none⟩) n cap) (hy:a.eval y = .int .i64 z) (N:Nat) (hz:z=N) (hN:N<n)
  (hn:next (a.put o.dst (.pointer (some ⟨g,N,none⟩))) w):o.wp Tryz.prog a w next Q:=by
 subst hz;refine zdq (.pointer (some ⟨g,N,none⟩)) ?_ hn
 have hr:(Instr.indexAt 23 (.slice (some ⟨g,0,none⟩) n cap) (.int .i64 (N:Nat))).run Tryz.prog w = .ok (.pointer (some ⟨g,N,none⟩)) w:=by
  rw [run_indexAt_slice w 23 ⟨g,0,none⟩ n cap .i64 (N:Nat) (by kernel_rfl),if_pos ⟨by omega,by omega⟩,show Tryz.prog.elem 23=9 by kernel_rfl,Tryz.sizeOf9 w];show Result.ok (Value.pointer (some ((⟨g,0,none⟩:Addr).add ((N:Int).toNat*1)))) w=_
  rw [Addr.add_mid,Int.toNat_natCast,Nat.zero_add,Nat.mul_one]
 unfold execOp;simp only [ho,hx,hy,Sem.run_bind,hr,Result.andThen_ok]
 rfl
theorem zlg {o:Oper} {a:Act} {W:World} {next:Act→World→Prop} {Q:Exit→Act→World→Prop} (x:Operand) (ho:o.op = .buildSlice 28 1 #[(0,x)]) (p q:Value) (hx:a.eval x = .agg #[p,q])
  (hn:Row (W.alloc (.cells #[p,q] 56)) W.heap.size 56 [p,q]→next (a.put o.dst (.slice (some ⟨W.heap.size,0,none⟩) 1 1)) (W.alloc (.cells #[p,q] 56))):o.wp Tryz.prog a W next Q:=by
 have hr:(execOp a.eval o).run Tryz.prog W = .ok (.value (.slice (some ⟨W.heap.size,0,none⟩) 1 1)) (W.alloc (.cells #[p,q] 56)):=by
  unfold execOp;rw [ho];dsimp only [List.map_toArray,List.map_cons,List.map_nil];simp only [List.map_toArray,List.map_cons,List.map_nil,hx]
  kernel_rfl
 unfold Oper.wp;rw [hr];exact hn (Row.new W 56 [p,q])
theorem zuu {o:Oper} {a:Act} {w0 W:World} {next:Act→World→Prop} {Q:Exit→Act→World→Prop} (s x:Operand)
  (ho:o.op = .call { callee := .builtin .append,args:=#[s,x],argTypes:=#[28,28] }) (v:Value) (n:Nat) (cs:List Value) (hs:a.eval s=v) (H:VX 56 2 w0 v n cs W)
  (g:Nat) (t1 t2:ByteArray) (hx:a.eval x = .slice (some ⟨g,0,none⟩) 1 1) (hR:Row W g 56 [.string t1,.string t2]) (hb:n+1≤16777216)
  (h:∀ v' W',VX 56 2 w0 v' (n+1) (cs++[.string t1,.string t2]) W'→(∀ b,b<W.heap.size→v.ownBlock≠some b→W'.heap[b]? = W.heap[b]?)→(v'.ownBlock=v.ownBlock∨v'.ownBlock=some W.heap.size)→W.heap.size≤W'.heap.size→next (a.put o.dst v') W'):o.wp Tryz.prog a W next Q:=by
 obtain ⟨i,hi,hz,hsz,hbt⟩:=infoH
 obtain ⟨v',w',hr,h2,h3,h4,h5⟩:=run_append_own_at (P:=Tryz.prog) W w0.heap.size 28 o.type 56 i _ 2 32 Tryz.underlying28 hi hz hsz hbt rfl (by decide) v n cs H.o ⟨g,0,none⟩ 1 1 [.string t1,.string t2] rfl
  (fun j u hu=>by rw [Addr.add_mid,Nat.zero_add];exact (hR.cell j).trans hu) (yd0 t1 t2) (by unfold maxLen;omega) (by omega) H.bw.size
 unfold Oper.wp execOp;simp only [ho,resolve,invoke,builtin,Sem.run_bind,Sem.run_pure,Result.andThen_ok,List.map_toArray,List.map_cons,List.map_nil,hs,hx,hr];exact h v' w' ⟨h2,H.bw.grown h3 H.bw.size (zb8 H.o)⟩ (fun b hb2 hne=>h3.block b hb2 (Ne.symm hne)) h5 h3.size

def zfo:List (List Int)→List Hd
 | a::b::r=>hdL a b::zfo r
 | _=>[]
theorem zlt:∀ (j:Nat) (P:List (List Int)),2*j+1<P.length→zfo (P.take (2*(j+1)))=zfo (P.take (2*j))++[hdL (P.getD (2*j) []) (P.getD (2*j+1) [])]
 | 0,a::b::r,_=>by simp [zfo]
 | 0,[_],h=>by simp at h
 | 0,[],h=>by simp at h
 | j+1,a::b::r,h=>by
   have ih:=zlt j r (by simp at h;omega);rw [show 2*(j+1+1)=2*(j+1)+1+1 by omega,show 2*(j+1)=2*j+1+1 by omega];simp only [List.take_succ_cons,zfo];rw [show 2*j+1+1=2*(j+1) by omega,ih];simp [show 2*(j+1)=2*j+1+1 by omega]
 | j+1,[_],h=>by simp at h
 | j+1,[],h=>by simp at h
theorem zos (l:List Hd) (a b:List Int):hds (l++[hdL a b])=hds l++[.string (strOfNums a),.string (strOfNums b)]:=by simp [hds,hdC,hdL]
theorem add_1 (x:Int) (h : -9223372036854775808≤x+1∧x+1<9223372036854775808) (w:World):(binOp .add 3 (.int .i64 x) (.int .i64 1)).run Tryz.prog w = .ok (.int .i64 (x+1)) w:=by
 have hw:IntKind.i64.wrap (x+1)=x+1:=by rw [IntKind.wrap_i64];omega
 simp [go_sem,hw]
structure WI (w0:World) (b:Nat) (P:List (List Int)) (n:Nat) (l:List Hd) (v:Value) (wr:World):Prop where
 vx:VX 56 2 w0 v n (hds l) wr
 row:Row wr b 9 (strs P)
 ne:v.ownBlock≠some b
theorem zrh {P:List (List Int)} {i:Nat} (h:i<P.length):(strs P)[i]? = some (.string (strOfNums (P.getD i []))):=by
 unfold strs;rw [List.getElem?_map,List.getElem?_eq_getElem h,List.getD_eq_getElem?_getD,List.getElem?_eq_getElem h]
 rfl
theorem zmd (w0:World) (v:Value) (n:Nat) (l:List Hd) (b k N:Nat) (P:List (List Int)) (w:World) (hN:N=2*k) (hP:P.length=N) (hk:k≤100) (hn:n≤16000000) (H:WI w0 b P n l v w) :
  Calls Tryz.prog 39 #[v,.slice (some ⟨b,0,none⟩) N N] w fun e w' => ∃ v',e = .returned v'∧VX 56 2 w0 v' (n+k) (hds (l++zfo P)) w':=by
 have HH:=kd H;have HPN:=kd hP;have HNK:=kd hN;have HNN:=kd hn
 have hN2:N≤200:=by omega
 clear H hP hN hn
 go_enter Tryz.func39,Tryz.ntmps39
 go_wp2_with fail
 go_loopw [0,5] (fun V v5 wr => ∃ j:Nat,2*j≤N∧v5 = .int .i64 ((2*j:Nat):Int)∧Hid (WI w0 b P (n+j) (l++zfo (P.take (2*j))) V wr)) (fun _ v5 _=>N - (intOf v5).toNat)
 case atStart=>exact ⟨0,Nat.zero_le _,rfl,kd (by have h:=HH.out;rw [show zfo (P.take (2*0))=[] from rfl,List.append_nil];exact h)⟩
 case round =>
  obtain ⟨j,hj,rfl,WH⟩:=hrel
  by_cases hlt:2*j+1<N
  · have hd:decide (((2*j:Nat):Int)+1<(N:Int))=true:=by simp;omega
    obtain ⟨s1,hs1⟩:∃ s,P.getD (2*j) []=s:=⟨_,rfl⟩;obtain ⟨s2,hs2⟩:∃ s,P.getD (2*j+1) []=s:=⟨_,rfl⟩
    have CE:=kd (fun W (hB:Below wr.heap.size wr W)=>show W.cell? ⟨b,2*j,none⟩=some (.string (strOfNums s1))∧W.cell? ⟨b,2*j+1,none⟩=some (.string (strOfNums s2)) from by
     have hr:=WH.out.row.below hB;have hl:=HPN.out
     exact ⟨by rw [hr.cell,zrh (i:=2*j) (by omega),hs1],by rw [hr.cell,zrh (i:=2*j+1) (by omega),hs2]⟩)
    have NX:=kd (show l++zfo (P.take (2*(j+1)))=(l++zfo (P.take (2*j)))++[hdL s1 s2] by
     rw [zlt j P (by have:=HPN.out;omega),hs1,hs2,List.append_assoc])
    go_upto_region 4 with (fail)
    refine zlr (by kernel_rfl) (by kernel_rfl) (fun (i:Nat) (W:World) (v:Value)=>match i with
    | 0=>v=u0
    | 1=>v = .slice (some ⟨b,0,none⟩) N N
    | 2=>v = .int .i64 ((2*j:Nat):Int)
    | 3=>v = .pointer (some ⟨b,2*j,none⟩)
    | 4=>v = .string (strOfNums s1)
    | 5=>v = .slice (some ⟨b,0,none⟩) N N
    | 6=>v = .int .i64 ((2*j:Nat):Int)
    | 7=>v = .int .i64 ((2*j:Nat)+1:Int)
    | 8=>v = .pointer (some ⟨b,2*j+1,none⟩)
    | 9=>v = .string (strOfNums s2)
    | 10=>v = .agg #[.string (strOfNums s1),.string (strOfNums s2)]
    | 11 => ∃ g,v = .slice (some ⟨g,0,none⟩) 1 1∧Row W g 56 [.string (strOfNums s1),.string (strOfNums s2)]
    | _=>True) 12 (fun W v=>WI w0 b P (n+(j+1)) (l++zfo (P.take (2*(j+1)))) v W) 0 25 (by kernel_rfl) ?hAm _ _ rfl rfl rfl rfl rfl rfl (by kernel_rfl) (by kernel_rfl) rfl ?hstep ?hlast ?hend
    case hAm =>
     intro i v W W' hb h
     rcases i with _|_|_|_|_|_|_|_|_|_|_|_|i
     all_goals first
      | exact h
      | (obtain ⟨g,h1,h2⟩:=h;exact ⟨g,h1,h2.below hb⟩)
    case hstep =>
     intro i o hi ho a' W hB hF hp0 hD
     match i,ho,hi with
     | 0,ho,hi =>
       obtain rfl:=zSi ho;exact (zaf ho rfl (zb5 (.tmp 0) (.inl rfl) ⟨_,rfl,Below.refl _ _,fun _ _=>(show a'.eval (.tmp 0)=u0 from (show a'.eval (.tmp 0)=a'.tmps.getD 0 undef by simp [Act.eval]).trans hp0)⟩))
     | 1,ho,hi =>
       obtain rfl:=zSi ho;exact (zaf ho rfl (zb5 (.tmp 1) (.inl rfl) ⟨_,rfl,Below.refl _ _,fun _ _=>((zap hF (by kernel_rfl)).trans rfl)⟩))
     | 2,ho,hi =>
       obtain rfl:=zSi ho;exact (zaf ho rfl (zb5 (.tmp 5) (.inl rfl) ⟨_,rfl,Below.refl _ _,fun _ _=>((zap hF (by kernel_rfl)).trans rfl)⟩))
     | 3,ho,hi =>
       obtain rfl:=zSi ho;exact (zaf ho rfl (zus (.tmp 14) (.tmp 15) rfl (zai hD 1 (by kernel_rfl) rfl rfl) (zai hD 2 (by kernel_rfl) rfl rfl) (2*j) (by omega) (by omega) ⟨_,rfl,Below.refl _ _,fun _ _=>rfl⟩))
     | 4,ho,hi =>
       obtain rfl:=zSi ho;exact (zaf ho rfl (zbu 9 (.tmp 16) rfl b (2*j) (.string (strOfNums s1)) (zai hD 3 (by kernel_rfl) rfl rfl) (CE.out W hB).1 _ Tryz.underlying9 rfl ⟨_,rfl,Below.refl _ _,fun _ _=>rfl⟩))
     | 5,ho,hi =>
       obtain rfl:=zSi ho;exact (zaf ho rfl (zb5 (.tmp 1) (.inl rfl) ⟨_,rfl,Below.refl _ _,fun _ _=>((zap hF (by kernel_rfl)).trans rfl)⟩))
     | 6,ho,hi =>
       obtain rfl:=zSi ho;exact (zaf ho rfl (zb5 (.tmp 5) (.inl rfl) ⟨_,rfl,Below.refl _ _,fun _ _=>((zap hF (by kernel_rfl)).trans rfl)⟩))
     | 7,ho,hi =>
       obtain rfl:=zSi ho;have hx:a'.eval (.tmp 19) = .int .i64 ((2*j:Nat):Int):=(zai hD 6 (by kernel_rfl) rfl rfl)
       exact (zaf ho rfl (zjn _ _ _ _ _ rfl _ _ (.int .i64 ((2*j:Nat)+1:Int)) hx rfl (fun w=>rfl) (fun w=>add_1 _ (by omega) w) ⟨_,rfl,Below.refl _ _,fun _ _=>rfl⟩))
     | 8,ho,hi =>
       obtain rfl:=zSi ho;exact (zaf ho rfl (zus (.tmp 18) (.tmp 20) rfl (zai hD 5 (by kernel_rfl) rfl rfl) (zai hD 7 (by kernel_rfl) rfl rfl) (2*j+1) (by omega) (by omega) ⟨_,rfl,Below.refl _ _,fun _ _=>rfl⟩))
     | 9,ho,hi =>
       obtain rfl:=zSi ho;exact (zaf ho rfl (zbu 9 (.tmp 21) rfl b (2*j+1) (.string (strOfNums s2)) (zai hD 8 (by kernel_rfl) rfl rfl) (CE.out W hB).2 _ Tryz.underlying9 rfl ⟨_,rfl,Below.refl _ _,fun _ _=>rfl⟩))
     | 10,ho,hi =>
       obtain rfl:=zSi ho;have h4:a'.eval (.tmp 17) = .string (strOfNums s1):=(zai hD 4 (by kernel_rfl) rfl rfl);have h9:a'.eval (.tmp 22) = .string (strOfNums s2):=(zai hD 9 (by kernel_rfl) rfl rfl)
       exact (zaf ho rfl (zfq _ _ rfl [(0,.string (strOfNums s1)),(1,.string (strOfNums s2))] (by simp only [List.map_toArray,List.map_cons,List.map_nil,h4,h9]) #[.string (strOfNums s1),.string (strOfNums s2)] (by kernel_rfl) ⟨_,rfl,Below.refl _ _,fun _ _=>rfl⟩))
     | 11,ho,hi =>
       obtain rfl:=zSi ho;exact (zaf ho rfl (zlg (.tmp 23) rfl _ _ (zai hD 10 (by kernel_rfl) rfl rfl) fun hr=>⟨_,rfl,zBr.alloc zNr _,fun _ _=>⟨_,rfl,hr⟩⟩))
     | i+12,ho,hi=>omega
    case hlast =>
     intro a' W hB hF hall
     have hV:a'.eval (.tmp 13)=u0:=by
      have h:=hall 0 _ 13 (by omega) rfl rfl
      simpa [Act.eval] using h
     obtain ⟨g,h1,h2⟩:=hall 11 _ 24 (by omega) rfl rfl
     have hX:a'.eval (.tmp 24) = .slice (some ⟨g,0,none⟩) 1 1:=by simpa [Act.eval] using h1
     have hw:=WH.out;have hr:=hw.row.below hB;refine zbw rfl rfl (zuu (.tmp 13) (.tmp 24) rfl u0 (n+j) _ hV (hw.vx.step hB) g _ _ hX h2 (by have:=HNN.out;omega) ?_);intro v' W' q1 q2 q3 q4;refine ⟨v',rfl,⟨?_,?_,?_⟩⟩
     · rw [NX.out,zos];exact q1
     · exact hr.heap (q2 b hr.lt hw.ne)
     · rcases q3 with q3|q3
       · rw [q3];exact hw.ne
       · rw [q3];intro e;injection e with e;have:=hr.lt;omega
    case hend =>
    intro vs W v hlen hf hv1 hv2;have HF:=kd hf
    obtain ⟨v0,v1,v2,v3,v4,v5,v6,v7,v8,v9,v10,v11,v12,v13,rfl⟩:∃ v0 v1 v2 v3 v4 v5 v6 v7 v8 v9 v10 v11 v12 v13,vs=[v0,v1,v2,v3,v4,v5,v6,v7,v8,v9,v10,v11,v12,v13]:=by
     match vs,hlen with
     | [v0,v1,v2,v3,v4,v5,v6,v7,v8,v9,v10,v11,v12,v13],_=>exact ⟨_,_,_,_,_,_,_,_,_,_,_,_,_,_,rfl⟩
    obtain rfl:v12=v:=by simpa using hv1
    obtain rfl:v13=v12:=by simpa using hv2
    clear hf hv1 hv2 hlen CE NX;simp only [putL,Act.put,List.setIfInBounds_toArray,List.set_cons_zero,List.set_cons_succ];go_wp2_with fail;go_roundw
    case rel=>exact ⟨j+1,by omega,by go_num,HF⟩
    case measure=>simp [intOf];omega
  · obtain rfl:j=k:=by have:=HNK.out;omega
    have hd:decide (((2*j:Nat):Int)+1<(N:Int))=false:=by simp;omega
    go_wp2_with fail;go_ret;have h:=WH.out.vx;rw [List.take_of_length_le (by have:=HPN.out;have:=HNK.out;omega)] at h;exact ⟨_,rfl,h⟩

theorem zlf {o:Oper} {a:Act} {W:World} {next:Act→World→Prop} {Q:Exit→Act→World→Prop} (x:Operand) (ho:o.op = .buildSlice 23 1 #[(0,x)]) (t:ByteArray) (hx:a.eval x = .string t)
  (hn:Row (W.alloc (.cells #[.string t] 9)) W.heap.size 9 [.string t]→next (a.put o.dst (.slice (some ⟨W.heap.size,0,none⟩) 1 1)) (W.alloc (.cells #[.string t] 9))):o.wp Tryz.prog a W next Q:=by
 have hr:(execOp a.eval o).run Tryz.prog W = .ok (.value (.slice (some ⟨W.heap.size,0,none⟩) 1 1)) (W.alloc (.cells #[.string t] 9)):=by
  unfold execOp;rw [ho];dsimp only [List.map_toArray,List.map_cons,List.map_nil];simp only [List.map_toArray,List.map_cons,List.map_nil,hx]
  kernel_rfl
 unfold Oper.wp;rw [hr];exact hn (Row.new W 9 [.string t])
theorem zut {o:Oper} {a:Act} {w0 W:World} {next:Act→World→Prop} {Q:Exit→Act→World→Prop} (s x:Operand)
  (ho:o.op = .call { callee := .builtin .append,args:=#[s,x],argTypes:=#[23,23] }) (v:Value) (n:Nat) (cs:List Value) (hs:a.eval s=v) (H:VX 9 1 w0 v n cs W)
  (g:Nat) (t:ByteArray) (hx:a.eval x = .slice (some ⟨g,0,none⟩) 1 1) (hR:Row W g 9 [.string t]) (hb:n+1≤16777216)
  (h:∀ v' W',VX 9 1 w0 v' (n+1) (cs++[.string t]) W'→next (a.put o.dst v') W'):o.wp Tryz.prog a W next Q:=by
 obtain ⟨i,hi,hz,hsz,hbt⟩:=ztt
 obtain ⟨v',w',hr,h2,h3,h4,h5⟩:=run_append_own_at (P:=Tryz.prog) W w0.heap.size 23 o.type 9 i _ 1 16 Tryz.underlying23 hi hz hsz hbt rfl (by decide) v n cs H.o ⟨g,0,none⟩ 1 1 [.string t] rfl
  (fun j u hu=>by rw [Addr.add_mid,Nat.zero_add];exact (hR.cell j).trans hu) (fun u hu=>by simp at hu;subst hu;rfl) (by unfold maxLen;omega) (by omega) H.bw.size
 unfold Oper.wp execOp;simp only [ho,resolve,invoke,builtin,Sem.run_bind,Sem.run_pure,Result.andThen_ok,List.map_toArray,List.map_cons,List.map_nil,hs,hx,hr];exact h v' w' ⟨h2,H.bw.grown h3 H.bw.size (zb8 H.o)⟩

def VIA2:List Int:=[83,73,80,47,50,46,48,47,85,68,80,32,97,46,101,120,97,109,112,108,101,59,98,114,97,110,99,104,61,122,57,104,71,52,98,75,50]

theorem zfn {r:List Int} (h:r=SP1∨r=SP2∨r=SP3):OkR r∧Tx r∧r.length≤100:=by
 rcases h with rfl|rfl|rfl
 · exact ⟨okP1,⟨byD rfl,by decide⟩,by decide⟩
 · exact ⟨okP2,⟨byD rfl,by decide⟩,by decide⟩
 · exact ⟨okP3,⟨byD rfl,by decide⟩,by decide⟩
def SPs (l:List (List Int)):Prop := ∀ r∈l,r=SP1∨r=SP2∨r=SP3
theorem SPs.ok {l:List (List Int)} (h:SPs l):∀ r∈l,OkR r:=fun r hr=>(zfn (h r hr)).1
theorem SPs.len {l:List (List Int)} (h:SPs l):∀ r∈l,r.length≤100:=fun r hr=>(zfn (h r hr)).2.2
theorem zo4 {c:Int} {l:List (List Int)} (h:SPs l) (hl:l.length≤20):DOK (zd0 c l):=
 ⟨(⟨byD rfl,by decide⟩:Tx [99,49]),(⟨byD rfl,by decide⟩:Tx [121]),(⟨byD rfl,by decide⟩:Tx [120]),(⟨byD rfl,by decide⟩:Tx [115,105,112,58,98,64,98,46,101,120,97,109,112,108,101]),(⟨byD rfl,by decide⟩:Tx [115,105,112,58,97,64,97,46,101,120,97,109,112,108,101]),(⟨byD rfl,by decide⟩:Tx [115,105,112,58,97,64,49,46,50,46,51,46,52]),fun t ht=>(zfn (h t ht)).2.1,by show l.length≤_;omega⟩
theorem zku {c:Int} {l:List (List Int)} (h:SPs l) (hl:l.length≤20):DOK (zda c l):=
 ⟨(⟨byD rfl,by decide⟩:Tx [99,49]),(⟨byD rfl,by decide⟩:Tx [120]),(⟨byD rfl,by decide⟩:Tx [121]),(⟨byD rfl,by decide⟩:Tx [115,105,112,58,97,64,97,46,101,120,97,109,112,108,101]),(⟨byD rfl,by decide⟩:Tx [115,105,112,58,98,64,98,46,101,120,97,109,112,108,101]),(⟨byD rfl,by decide⟩:Tx [115,105,112,58,98,64,53,46,54,46,55,46,56]),fun t ht=>(zfn (h t (List.mem_reverse.1 ht))).2.1,by show l.reverse.length≤_;rw [List.length_reverse];omega⟩
theorem DOK.same {d d':Dlg} (h:DOK d) (h1:d'.ci=d.ci) (h2:d'.lt=d.lt) (h3:d'.rt=d.rt) (h4:d'.lu=d.lu) (h5:d'.ru=d.ru) (h6:d'.tg=d.tg) (h7:d'.rs=d.rs):DOK d':=by
 obtain ⟨a1,a2,a3,a4,a5,a6,a7,a8⟩:=h;exact ⟨by rw [h1];exact a1,by rw [h2];exact a2,by rw [h3];exact a3,by rw [h4];exact a4,by rw [h5];exact a5,by rw [h6];exact a6,by rw [h7];exact a7,by rw [h7];exact a8⟩
theorem invS {l:List (List Int)} (h:SPs l) (hl:l.length≤20):HOK (zaz l).hs∧By (zaz l).me∧By (zaz l).ur∧(zaz l).me.length≤4000000∧(zaz l).ur.length≤4000000:=
 ⟨ydu h.len hl,(byD rfl:By [73,78,86,73,84,69]),(byD rfl:By [115,105,112,58,98,64,98,46,101,120,97,109,112,108,101]),(by decide:([73,78,86,73,84,69]:List Int).length≤4000000),(by decide:([115,105,112,58,98,64,98,46,101,120,97,109,112,108,101]:List Int).length≤4000000)⟩
theorem ansS {c:Int} {l:List (List Int)} (h:SPs l) (hl:l.length≤20):HOK (zay c l).hs∧By (zay c l).me∧By (zay c l).ur∧(zay c l).me.length≤4000000∧(zay c l).ur.length≤4000000:=
 ⟨yet h.len hl,(byD rfl:By []),(byD rfl:By []),(by decide:([]:List Int).length≤4000000),(by decide:([]:List Int).length≤4000000)⟩
def wkM:Msg:=⟨BYET,[115,105,112,58,98,64,53,46,54,46,55,46,56],0,[],zpx (zda 200 [SP2,SP1]) BYET VIA2 8⟩
def wkB:Dlg:={ zda 200 [SP2,SP1] with ls:=8 }
def wkD:Dlg:={ zd0 200 [SP2,SP1] with st:=3,rq:=8 }
theorem zh0:SPs [SP2,SP1]:=fun r hr=>by simp at hr;rcases hr with rfl|rfl<;>simp
theorem wk_a:zdh (zaz [SP2,SP1]) (zay 200 [SP2,SP1]) = .ok (zd0 200 [SP2,SP1]):=zl2 _ (by decide) (by decide) zh0.ok (by decide)
theorem wk_b:zc6 (zaz [SP2,SP1]) (zay 200 [SP2,SP1]) = .ok (zda 200 [SP2,SP1]):=zih _ (by decide) (by decide) zh0.ok (by decide)
theorem wk_req:zcb (zda 200 [SP2,SP1]) BYET VIA2 = .ok (wkB,wkM):=by kernel_rfl
theorem wk_seq:zan wkM.hs=(8,BYET,true):=by kernel_rfl
theorem wk_rt:allH wkM.hs zpk=[brak SP1,brak SP2]:=by kernel_rfl
theorem wk_rec:zbl (zd0 200 [SP2,SP1]) wkM = .ok wkD:=by kernel_rfl
theorem zyj:zbl wkD wkM = .error 9:=by kernel_rfl
theorem wk_HOK:HOK wkM.hs:=⟨by decide +kernel,by decide +kernel,by decide +kernel⟩
theorem wk_msg:HOK wkM.hs∧By wkM.me∧By wkM.ur∧wkM.me.length≤4000000∧wkM.ur.length≤4000000:=⟨wk_HOK,(byD rfl:By BYET),(byD rfl:By [115,105,112,58,98,64,53,46,54,46,55,46,56]),(by decide:BYET.length≤4000000),(by decide:([115,105,112,58,98,64,53,46,54,46,55,46,56]:List Int).length≤4000000)⟩
theorem wkD_ok:DOK wkD:=(zo4 (c:=200) zh0 (by decide)).same rfl rfl rfl rfl rfl rfl rfl
end Go.Proofs.YtfnmkedncfdceaaGreatDoor
