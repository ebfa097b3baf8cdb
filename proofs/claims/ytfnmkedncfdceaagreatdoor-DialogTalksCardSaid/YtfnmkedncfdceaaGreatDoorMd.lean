/- Contracts of the reference 01: Quote, opens, step, Unquote. And what stands behind it. -/
import Derived.Test.YtfnmkedncfdceaaGreatDoorCd
import Derived.Maps.OwnSet
set_option linter.unusedVariables false
set_option linter.unusedSimpArgs false
namespace Go.Proofs.YtfnmkedncfdceaaGreatDoor
open Go.RowKit

section
variable {xs : List Int} {f i b : Nat} {acc : List (Nat × List Int)} {c : Int}
theorem S_end (h:xs.length≤i):splN xs 44 (f+1) i b acc=(acc++[zcq xs b xs.length],0,0):=by rw [splN,if_pos h]
theorem S_qe (h:i<xs.length) (hc:xs.getD i 0=c) (h1:c=34) (h2:(unq xs i).2.2≠0):splN xs 44 (f+1) i b acc=([],(unq xs i).2.1,(unq xs i).2.2):=by rw [splN,if_neg (by omega),hc,if_pos h1,if_pos h2]
theorem S_qo (h:i<xs.length) (hc:xs.getD i 0=c) (h1:c=34) (h2:(unq xs i).2.2=0):splN xs 44 (f+1) i b acc=splN xs 44 f (unq xs i).2.1 b acc:=by rw [splN,if_neg (by omega),hc,if_pos h1,if_neg (by omega)]
theorem S_le (h:i<xs.length) (hc:xs.getD i 0=c) (h1:c=60) (h2:xs.length≤zag (fun c=>c != 62) xs i):splN xs 44 (f+1) i b acc=([],xs.length,6):=by
 subst h1;rw [splN,if_neg (by omega),hc,if_neg (by decide),if_pos rfl,if_pos h2]
theorem S_lo (h:i<xs.length) (hc:xs.getD i 0=c) (h1:c=60) (h2:¬ xs.length≤zag (fun c=>c != 62) xs i):splN xs 44 (f+1) i b acc=splN xs 44 f (zag (fun c=>c != 62) xs i+1) b acc:=by
 subst h1;rw [splN,if_neg (by omega),hc,if_neg (by decide),if_pos rfl,if_neg h2]
theorem S_g (h:i<xs.length) (hc:xs.getD i 0=c) (h1:c=62):splN xs 44 (f+1) i b acc=([],i,5):=by
 subst h1;rw [splN,if_neg (by omega),hc,if_neg (by decide),if_neg (by decide),if_pos rfl]
theorem S_s (h:i<xs.length) (hc:xs.getD i 0=c) (h1:c=44):splN xs 44 (f+1) i b acc=splN xs 44 f (i+1) (i+1) (acc++[zcq xs b i]):=by
 subst h1;rw [splN,if_neg (by omega),hc,if_neg (by decide),if_neg (by decide),if_neg (by decide),if_pos rfl]
theorem S_o (h:i<xs.length) (hc:xs.getD i 0=c) (h1:c≠34) (h2:c≠60) (h3:c≠62) (h4:c≠44):splN xs 44 (f+1) i b acc=splN xs 44 f (i+1) b acc:=by
 rw [splN,if_neg (by omega),hc,if_neg h1,if_neg h2,if_neg h3,if_neg h4]
end
theorem zri (xs:List Int):zde xs 44=splN xs 44 (xs.length+1) 0 0 []:=if_neg (by decide)
theorem zvl (p:Int→Bool) (xs:List Int) (i:Nat):zag p xs i=i+zag p (xs.drop i) 0:=by
 unfold zag;rw [List.drop_zero,Nat.zero_add]
def SplR (xs:List Int) (w:World) (e:Ending) (w':World):Prop := ∃ v,e = .returned (.tuple #[v,.int .i64 ((zde xs 44).2.1:Nat),.int .u8 (zde xs 44).2.2])∧PX w v (zde xs 44).1 w'
theorem SplR.bad {xs:List Int} {w wr:World} {n:Nat} {k:Int} (h:zde xs 44=([],n,k)) (hb:Below w.heap.size w wr):SplR xs w (.returned (.tuple #[.slice none 0 0,.int .i64 (n:Nat),.int .u8 k])) wr:=
 ⟨_,by rw [h],by rw [h];exact ⟨World.ownsRow_nil _ _ _ _,hb⟩⟩
theorem SplR.ok {xs:List Int} {w wr:World} {L:List (Nat × List Int)} {v:Value} (h:zde xs 44=(L,0,0)) (hp:PX w v L wr):SplR xs w (.returned (.tuple #[v,.int .i64 ((0:Nat):Int),.int .u8 0])) wr:=
 ⟨v,by rw [h],by rw [h];exact hp⟩
theorem zqg (s:ByteArray) (w:World):Calls Tryz.prog 119 #[.string s,.int .u8 62] w fun e w'=>e = .returned (.int .i64 (if s.size≤zag (fun x=>x != 62) (zaa s) 0 then -1 else (zag (fun x=>x != 62) (zaa s) 0:Int)))∧w=w':=
 zef s 62 w
theorem zv2 (s:ByteArray) (b e:Nat) (R:Nat × List Int) (w:World) (hR:zcq (zaa s) b e=R) (hbe:b≤e) (he:e≤s.size) (hs:s.size≤4000000) :
  Calls Tryz.prog 216 #[.string s,.int .i64 b,.int .i64 e] w fun en w'=>en = .returned (.agg #[.int .i64 (R.1:Nat),.string (strOfNums R.2)])∧Below w.heap.size w w':=by
 subst hR;exact zv3 s b e w hbe he hs
theorem zjp (s:ByteArray) (i:Nat) (U:List Int × Nat × Int) (w:World) (hU:unq (zaa s) i=U) (hi:i≤s.size) (hs:s.size≤4000000) :
  Calls Tryz.prog 215 #[.string s,.int .i64 i] w fun e w'=>e = .returned (.tuple #[.string (strOfNums U.1),.int .i64 (U.2.1:Nat),.int .u8 U.2.2])∧Below w.heap.size w w':=by
 subst hU;exact zpr s i w (by omega) hs
def SLR (w:World) (xs:List Int) (m:Nat) (v7 v8 v9:Value) (wr:World):Prop := ∃ (i b f:Nat) (x:Value) (ps:List (Nat × List Int)),i≤m∧b≤i∧x=v7∧v8 = .int .i64 b∧v9 = .int .i64 i∧ps.length≤i∧m+1≤f+i∧Hid (zde xs 44=splN xs 44 f i b ps∧PX w x ps wr)
set_option maxRecDepth 100000 in
set_option maxHeartbeats 1000000 in
theorem zsx (s:ByteArray) (w:World) (hs:s.size≤4000000):Calls Tryz.prog 156 #[.string s,.int .u8 44] w (SplR (zaa s) w):=by
 have HB:=kd (zas s);have HL:=kd (zac s);have BAD:=kd (fun wr n k h hb=>SplR.bad (xs:=zaa s) (w:=w) (wr:=wr) (n:=n) (k:=k) h hb);have OK:=kd (fun wr L v h hp=>SplR.ok (xs:=zaa s) (w:=w) (wr:=wr) (L:=L) (v:=v) h hp);have GO:=kd (zri (zaa s))
 have US:=kd (fun (i:Nat) (h:i≤s.size)=>zgm (xs:=zaa s) (i:=i) (by rw [zac];exact h));generalize SplR (zaa s) w=PP at *;generalize hX:zaa s=X at *;have HX:=kd hX;clear hX
 go_enter Tryz.func156,Tryz.ntmps156
 go_wp2_with fail;refine (zpb 44 _ (by omega) (by omega)).mono ?_;rintro e w' ⟨rfl,rfl⟩;rw [show isBlank 44=false from rfl];go_wp2_with fail
 go_loopw [7,8,9] (fun v7 v8 v9 wr=>SLR w X s.size v7 v8 v9 wr) (fun _ _ v _=>s.size - (intOf v).toNat)
 case atStart=>exact ⟨0,0,s.size+1,_,[],Nat.zero_le _,Nat.le_refl _,rfl,rfl,rfl,Nat.le_refl _,Nat.le_refl _,kd ⟨by rw [GO.out,HL.out],VX.nil _ _ _⟩⟩
 case round =>
  clear GO;obtain ⟨i,b,f,x,ps,hi,hbi,rfl,rfl,rfl,hps,hf,H⟩:=hrel;obtain ⟨f,rfl⟩:∃ g,f=g+1:=⟨f - 1,by omega⟩
  by_cases hlt:i<s.size
  · have hd:decide ((i:Int)<(s.size:Int))=true:=by simp;omega
    have d1:=fun w=>zbe s (i:=i) hlt (z:=(i:Int)) rfl w;rw [HX.out] at d1
    have hlt':i<X.length:=by rw [HL.out];exact hlt
    have SQE:=kd (fun h1 h2=>H.out.1.trans (S_qe (b:=b) (f:=f) (acc:=ps) hlt' rfl h1 h2));have SQO:=kd (fun h1 h2=>H.out.1.trans (S_qo (b:=b) (f:=f) (acc:=ps) hlt' rfl h1 h2));have SLE:=kd (fun h1 h2=>H.out.1.trans (S_le (b:=b) (f:=f) (acc:=ps) hlt' rfl h1 h2))
    have SLO:=kd (fun h1 h2=>H.out.1.trans (S_lo (b:=b) (f:=f) (acc:=ps) hlt' rfl h1 h2));have SG:=kd (fun h1=>H.out.1.trans (S_g (b:=b) (f:=f) (acc:=ps) hlt' rfl h1));have SS:=kd (fun h1=>H.out.1.trans (S_s (b:=b) (f:=f) (acc:=ps) hlt' rfl h1))
    have SO:=kd (fun h1 h2 h3 h4=>H.out.1.trans (S_o (b:=b) (f:=f) (acc:=ps) hlt' rfl h1 h2 h3 h4));clear hlt';generalize X.getD i 0=c at *
    by_cases h34:c=34
    · subst h34
      have SQE1:=kd (SQE.out rfl);have SQO1:=kd (SQO.out rfl);clear SQE SQO SLE SLO SG SS SO;have UP:=US.out i hi;generalize hU:unq X i=U at *;have HU:=kd hU;clear hU;obtain ⟨u1,u2,u3⟩:=U;go_wp2_with fail;refine (zjp s i (u1,u2,u3) _ (by rw [HX.out,HU.out]) hi hs).mono ?_
      rintro e w1 ⟨rfl,hb1⟩;have H1:=kd (H.out.2.step hb1);clear hb1
      by_cases he:u3=0
      · subst he
        have E:=kd (SQO1.out rfl)
        have p1:u2≤s.size:=by have h1:u2≤X.length:=UP.1;have h2:=HL.out;omega
        have p2:i<u2:=UP.2 rfl;clear UP SQE1 SQO1;go_wp2_with fail;go_roundw
        case rel=>exact ⟨u2,b,f,x,ps,p1,by omega,rfl,rfl,rfl,by omega,by omega,kd ⟨E.out,H1.out⟩⟩
        case measure=>simp [intOf];omega
      · have hb:(u3 != 0)=true:=by simpa using he
        have E:=kd (SQE1.out he);clear UP SQE1 SQO1 he;go_wp2_with fail
        go_ret3
        exact BAD.out _ _ _ E.out H1.out.bw
    · have b34:(c == 34)=false:=by simpa using h34
      by_cases h60:c=60
      · subst h60
        have SLE1:=kd (SLE.out rfl);have SLO1:=kd (SLO.out rfl);clear SQE SQO SLE SLO SG SS SO b34 h34;have SD:=kd (zvl (fun x=>x != 62) X i)
        have XE:=kd (show zaa (s.extract i s.size)=X.drop i by rw [zar,HX.out,List.take_of_length_le (by rw [List.length_drop,HL.out];exact Nat.le_refl _)])
        have ZE:(s.extract i s.size).size=s.size - i:=by rw [ByteArray.size_extract];omega
        generalize hS2:zag (fun x=>x != 62) X i=k2 at *;clear hS2;go_wp2_with fail;generalize s.extract i s.size=t at *;have TZ:=kd ZE;clear ZE;refine (zqg t _).mono ?_;rintro e w1 ⟨rfl,rfl⟩;rw [XE.out];generalize zag (fun x=>x != 62) (X.drop i) 0=k at *;have K2:=SD.out
        by_cases hk:t.size≤k
        · rw [if_pos hk]
          have E:=kd (SLE1.out (by have:=TZ.out;rw [HL.out];omega));clear K2 hk SLE1 SLO1;go_wp2_with fail
          go_ret3
          exact BAD.out _ s.size _ (by rw [E.out,HL.out]) H.out.2.bw
        · rw [if_neg hk]
          have E:=kd (SLO1.out (by have:=TZ.out;rw [HL.out];omega))
          have hk2:i+k<s.size:=by have:=TZ.out;omega
          have K3:=kd K2;clear K2 hk SLE1 SLO1;go_wp2_with fail;go_roundw
          case rel=>exact ⟨i+(k+1),b,f,x,ps,by omega,by omega,rfl,rfl,by go_num,by omega,by omega,kd ⟨by rw [E.out,K3.out,Nat.add_assoc],H.out.2⟩⟩
          case measure=>simp [intOf];omega
      · have b60:(c == 60)=false:=by simpa using h60
        by_cases h62:c=62
        · have E:=kd (SG.out h62)
          subst h62;clear SQE SQO SLE SLO SG SS SO b34 h34 b60 h60;go_wp2_with fail
          go_ret3
          exact BAD.out _ _ _ E.out H.out.2.bw
        · have b62:(c == 62)=false:=by simpa using h62
          by_cases h44:c=44
          · have E:=kd (SS.out h44)
            subst h44;clear SQE SQO SLE SLO SG SS SO b34 h34 b60 h60 b62 h62;obtain ⟨R,hR⟩:∃ R,zcq X b i=R:=⟨_,rfl⟩;have RE:=kd hR;clear hR;go_wp2_with fail;refine (zv2 s b i R _ (by rw [HX.out,RE.out]) hbi hi hs).mono ?_;rintro e w1 ⟨rfl,hb1⟩;have H1:=kd (H.out.2.step hb1);clear hb1
            go_wp2_with (with_reducible refine zir rfl (.tmp 71) (.tmp 76) rfl x ps rfl H1.out R rfl (by omega) ?_);intro v3 w3 L3 F3 l3 M3;go_wp2_with fail;go_roundw
            case rel=>exact ⟨i+1,i+1,f,v3,L3,by omega,by omega,rfl,by go_num,by go_num,by omega,by omega,kd ⟨by rw [E.out,F3.out,RE.out],M3.out⟩⟩
            case measure=>simp [intOf];omega
          · have b44:(c == 44)=false:=by simpa using h44
            have E:=kd (SO.out h34 h60 h62 h44);clear SQE SQO SLE SLO SG SS SO h34 h60 h62 h44;go_wp2_with fail;go_roundw
            case rel=>exact ⟨i+1,b,f,x,ps,by omega,by omega,rfl,rfl,by go_num,by omega,by omega,kd ⟨E.out,H.out.2⟩⟩
            case measure=>simp [intOf];omega
  · obtain rfl:i=s.size:=by omega
    have E:=kd (H.out.1.trans (S_end (b:=b) (f:=f) (acc:=ps) (by rw [HL.out];exact Nat.le_refl _)));obtain ⟨R,hR⟩:∃ R,zcq X b s.size=R:=⟨_,rfl⟩;have RE:=kd hR;clear hR;go_wp2_with fail;refine (zv2 s b s.size R _ (by rw [HX.out,RE.out]) hbi zNr hs).mono ?_;rintro e w1 ⟨rfl,hb1⟩
    have H1:=kd (H.out.2.step hb1);clear hb1;go_wp2_with (with_reducible refine zir rfl (.tmp 81) (.tmp 87) rfl x ps rfl H1.out R rfl (by omega) ?_);intro v3 w3 L3 F3 l3 M3;go_wp2_with fail
    go_ret3
    exact OK.out _ L3 _ (by rw [E.out,HL.out,RE.out,F3.out]) M3.out

theorem zco (s:ByteArray) (k:Nat):zaa (s.extract 0 k)=(zaa s).take k:=by rw [zar,List.drop_zero,Nat.sub_zero]
theorem zdz (s:ByteArray) (k:Nat):zaa (s.extract k s.size)=(zaa s).drop k:=by
 rw [zar,List.take_of_length_le (by rw [List.length_drop,zac];exact Nat.le_refl _)]
theorem zgn (s:ByteArray) (k:Nat):s.extract k s.size=strOfNums ((zaa s).drop k):=by rw [← zdz,zbh]
theorem yat {k n:Nat} (h:k≤n):clip (k:Int) n=k:=by unfold clip;omega
theorem yeo (s:ByteArray) (z:Int) (n:Nat) (w:World) (k:Nat) (hz:z=n) (hn:n≤s.size) (hk:zag isBlank (zaa s) n=k) (hs:s.size≤4000000) :
  Calls Tryz.prog 113 #[.string s,.int .i64 z] w fun e w'=>e = .returned (.int .i64 (k:Nat))∧Below w.heap.size w w':=by
 subst hk;subst hz;have h:=zin s n w (by omega) (by omega);rw [yat hn] at h;exact h
open Go.ChangeMaps (setBlock)

theorem ydi {a b:List Int} (ha:By a) (hb:By b):strOfNums a=strOfNums b ↔ a=b:=⟨fun h=>by rw [← zal ha,← zal hb,h],fun h=>by rw [h]⟩
end Go.Proofs.YtfnmkedncfdceaaGreatDoor
