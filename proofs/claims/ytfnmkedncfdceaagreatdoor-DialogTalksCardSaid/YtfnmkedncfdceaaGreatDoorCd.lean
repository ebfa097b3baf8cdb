/- The library's contracts in my words: Trim, TrimRight, IndexByte, Join, Split, Contains. And what stands behind it. -/
import Derived.Test.YtfnmkedncfdceaaGreatDoorLa
import Derived.Shelf.Strings.SlTrimAscii
import Derived.Outline
import Derived.Deep.LoopGhost
set_option linter.unusedVariables false
set_option linter.unusedSimpArgs false
set_option maxRecDepth 100000
namespace Go.Proofs.YtfnmkedncfdceaaGreatDoor
open Go.RowKit

theorem zj8 {l:List UInt8} {r:List Int} (h:bl l=r):(⟨l.toArray⟩:ByteArray)=strOfNums r:=by
 have hb:By r:=h ▸ yeq l
 apply zo8
 rw [zal hb,yay,h]
theorem zps (s:ByteArray) (w:World) (hs:s.size≤4000000):Calls Tryz.prog 144 #[.string s,.string ⟨#[32,9]⟩] w fun e w'=>e = .returned (.string (strOfNums (zca (zaa s))))∧Below w.heap.size w w':=
 (Any.strings_Trim_laid Tryz.lays160 (by kernel_rfl) s ⟨#[32,9]⟩ w (by omega) (by decide) (ascii_of_all (by decide))).mono fun e w' ⟨he,hb⟩=>⟨by rw [he,zj8 (yep s.data.toList)];rfl,hb⟩
theorem zmg (s:ByteArray) (w:World) (hs:s.size≤4000000):Calls Tryz.prog 278 #[.string s,.string ⟨#[32,9]⟩] w fun e w'=>e = .returned (.string (strOfNums (zgp (zaa s))))∧Below w.heap.size w w':=
 (Any.strings_TrimRight_laid Tryz.lays162 (by kernel_rfl) s ⟨#[32,9]⟩ w (by omega) (by decide) (ascii_of_all (by decide))).mono fun e w' ⟨he,hb⟩=>⟨by rw [he,zj8 (zi2 s.data.toList)];rfl,hb⟩
def GM (w:World):Prop:=3<w.heap.size∧∃ m:Int,w.cell? ⟨3,0,none⟩=some (.int .i64 m)
theorem GM.below {w w':World} (h:GM w) (hb:Below w.heap.size w w'):GM w':=by
 obtain ⟨h0,m,hm⟩:=h;exact ⟨Nat.lt_of_lt_of_le h0 hb.size,m,(hb.cell (p:=⟨3,0,none⟩) h0).trans hm⟩
def SplitP (xs:List Int) (c:Int) (w:World) (e:Ending) (w':World):Prop := ∃ zs:List ByteArray,zs.map zaa=cutL c xs∧e = .returned (.slice (some ⟨w.heap.size,0,none⟩) zs.length zs.length)∧w'=w.alloc (.cells (zs.map Value.string).toArray 9)
theorem znx (s:ByteArray) (c:UInt8) (w:World) (hs:s.size≤4000000) (hm:GM w):Calls Tryz.prog 225 #[.string s,.string ⟨#[c]⟩] w (SplitP (zaa s) c.toNat w):=by
 obtain ⟨_,m,hm⟩:=hm;refine (Tryz.strings_Split s ⟨#[c]⟩ m w (by omega) hm (Nat.le_refl 1)).mono fun e w' ⟨he,hw⟩=>⟨_,zsy s c,?_,hw⟩;rw [he,Lib.splitB_all ⟨#[c]⟩ (Nat.le_refl 1) 0 _ s rfl]
theorem zc9 (c:UInt8):∀ l:List UInt8,Lib.indexByte l c=if (bl l).length≤zag (fun x=>x != (c.toNat:Int)) (bl l) 0 then -1 else (zag (fun x=>x != (c.toNat:Int)) (bl l) 0:Int)
 | []=>rfl
 | b::l=>by
   have ih:=zc9 c l;have hb:bl (b::l)=(b.toNat:Int)::bl l:=rfl;rw [Lib.indexByte,hb];unfold zag at ih ⊢;rw [List.drop_zero] at ih ⊢;rw [List.takeWhile_cons]
   by_cases h:b=c
   · subst h
     simp
   · have hne:((b.toNat:Int) != (c.toNat:Int))=true:=by
      rw [bne_iff_ne];exact fun e=>h (UInt8.toNat_inj.1 (by omega))
     rw [if_neg (by simpa using h),if_pos hne,List.length_cons,List.length_cons,ih]
     by_cases h2:(bl l).length≤0+((bl l).takeWhile fun x=>x != (c.toNat:Int)).length
     · rw [if_pos h2,if_pos (by rfl),if_pos (by omega)]
     · rw [if_neg h2,if_neg (by simp<;>omega),if_neg (by omega)]
       omega
theorem zef (s:ByteArray) (c:UInt8) (w:World):Calls Tryz.prog 119 #[.string s,.int .u8 (c.toNat:Int)] w fun e w'=>e = .returned (.int .i64 (if s.size≤zag (fun x=>x != (c.toNat:Int)) (zaa s) 0 then -1 else (zag (fun x=>x != (c.toNat:Int)) (zaa s) 0:Int)))∧w=w':=
 (Tryz.strings_IndexByte s (c.toNat:Int) w).mono fun e w' ⟨he,hw⟩=>⟨by
   rw [he];have h:=zc9 c s.data.toList;rw [show (bl s.data.toList).length=s.size from zac s] at h;have hc:((c.toNat:Int)).toNat.toUInt8=c:=Lib.byte_back c
   first|(rw [hc,h];rfl)|(rw [h];rfl)|(simp only [hc];rw [h];rfl),hw.symm⟩
structure SX (w:World) (v:Value) (zs:List ByteArray) (wr:World):Prop where
 o:wr.ownsRow w.heap.size 9 1 v zs.length (zs.map Value.string)
 bw:Below w.heap.size w wr
theorem zv6 {w:World} {base:Nat} {e:TypeId} {v:Value} {n:Nat} {xs:List Value} (h:w.ownsRow base e 1 v n xs):(v = .slice none 0 0∧xs=[])∨∃ g cap,v = .slice (some ⟨g,0,none⟩) n cap∧n≤cap∧base≤g∧g<w.heap.size∧∀ (j:Nat) u,xs[j]? = some u→w.cell? ⟨g,0+j,none⟩=some u:=by
 have hl:xs.length=n:=by have:=h.1;simpa using this
 rcases h.2 with ⟨rfl,rfl⟩|⟨g,cap,cur,rfl,hb,hg,hc,_,hs,ht⟩
 · exact .inl ⟨rfl,List.eq_nil_of_length_eq_zero hl⟩
 · refine .inr ⟨g,cap,rfl,hc,hb,lt_of_block hg,fun j u hx => ?_⟩
   rw [Nat.zero_add,cell_of_row w g j cur e (0,0) hg];have hj:j<xs.length:=(List.getElem?_eq_some_iff.1 hx).1
   have h2:(cur.toList.take (n*1))[j]? = xs[j]? := by rw [ht]
   rw [List.getElem?_take,if_pos (by omega),hx] at h2
   simpa using h2
theorem zsi (zs:List ByteArray) (sep:ByteArray):bl (Lib.join (zs.map (·.data.toList)) sep.data.toList)=zbj (zaa sep) (zs.map zaa):=by
 rw [zx7,List.map_map];rfl
theorem zrv {w w0:World} {v:Value} {zs:List ByteArray} (H:SX w0 v zs w) (sep:ByteArray) (hl:zs.length≤1000000) (hj:(zbj (zaa sep) (zs.map zaa)).length≤140737488355328) :
  Calls Tryz.prog 224 #[v,.string sep] w fun e w'=>e = .returned (.string (strOfNums (zbj (zaa sep) (zs.map zaa))))∧Below w.heap.size w w':=by
 rcases zv6 H.o with ⟨rfl,hz⟩|⟨g,cap,rfl,hcap,_,hlt,hc⟩
 · have hz':zs=[]:=List.map_eq_nil_iff.1 hz
   subst hz';exact (Tryz.strings_Join_none none 0 sep w).mono fun e w' ⟨he,hw⟩=>⟨he,hw ▸ Below.refl _ _⟩
 · refine (Tryz.strings_Join g 0 cap zs sep w (fun j x hx=>hc j _ (by rw [List.getElem?_map,hx];rfl)) hlt (by omega) hcap ?_).mono fun e w' ⟨he,hb⟩=>⟨by rw [he,zj8 (zsi zs sep)],hb⟩
   have hlen:(bl (Lib.join (zs.map (·.data.toList)) sep.data.toList)).length=(Lib.join (zs.map (·.data.toList)) sep.data.toList).length:=by unfold bl;rw [List.length_map]
   rw [← hlen,zsi];exact hj

theorem zaq (l:List Int):(strOfNums l).size=l.length:=strOfNums_size l
theorem zce (s:ByteArray) (w:World) (hM:s.size≤4000000) :
  Calls Tryz.prog 120 #[.string s] w fun e w'=>e = .returned (.string (strOfNums (lowS (zaa s))))∧Below w.heap.size w w':=by
 have HB:=kd (zas s);have HL:=kd (zac s)
 go_enter Tryz.func120,Tryz.ntmps120
 go_wp2_with (with_reducible refine zec rfl _ rfl s rfl ?_);intro cap w1 hcap R1 B1;generalize hX:zaa s=X at *;have HX:=kd hX;clear hX;go_wp2_with fail
 go_loopw [10] (fun v wr=>LWR w w1 X v wr) (fun v _=>s.size - (intOf v).toNat)
 case atStart=>exact ⟨0,Nat.zero_le _,rfl,kd ⟨R1.out,B1.out⟩⟩
 case round =>
  obtain ⟨k,hk,rfl,H⟩:=hrel;rw [HL.out] at hk
  by_cases hlt:k<s.size
  · have hlt':k<X.length:=by rw [HL.out];exact hlt
    have hd:decide (k<s.size)=true:=by simp;omega
    have hcell:=H.out.1.c k _ (zqa hlt');have hfz:=H.out.1.f k (by rw [zjg];exact hlt');have hx2:=HB.out _ (zbg hlt');have LS:=kd (fun hc=>zwg (xs:=X) (k:=k) hlt' hc)
    have ST:=kd (show lowC (X.getD k 0)=X.getD k 0+32→BR (wr.setCell ⟨w.heap.size,k,none⟩ (.int .u8 (X.getD k 0+32))) w.heap.size (lowK X (k+1)) from fun hc=>by
     rw [← zmw hlt',hc]
     exact H.out.1.set (by rw [zjg];exact hlt') _)
    clear hlt';generalize X.getD k 0=x at *;have x0:=hx2.1;have x1:=hx2.2;clear hx2
    by_cases hr:65≤x∧x≤90
    · have d1:decide (65≤x)=true:=by simp [hr.1]
      have d2:decide (x≤90)=true:=by simp [hr.2]
      have S1:=kd (ST.out (if_pos hr));have h65:=hr.1;have h90:=hr.2;clear hr;go_wp2_with fail;go_roundw
      case rel=>exact ⟨k+1,by rw [HL.out];omega,by go_num,kd ⟨S1.out,H.out.2.setCell zNr _⟩⟩
      case measure=>simp [intOf];omega
    · have E:=kd (LS.out (if_neg hr))
      have d0:decide (65≤x)=false∨(decide (65≤x)=true∧decide (x≤90)=false):=by simp;omega
      clear hr
      rcases d0 with d1|⟨d1,d2⟩
      all_goals
       go_wp2_with fail;go_roundw
       case rel=>exact ⟨k+1,by rw [HL.out];omega,by go_num,kd ⟨by rw [← E.out];exact H.out.1,H.out.2⟩⟩
       case measure=>simp [intOf];omega
  · obtain rfl:k=s.size:=by omega
    have HR:=H.out.1;rw [zrt (by rw [HL.out];exact Nat.le_refl _)] at HR;have cv:=HR.conv s.size cap (by rw [zbo];exact HL.out);clear HR;go_wp2_with fail;go_ret;exact ⟨by rw [HX.out];rfl,H.out.2⟩
theorem zig (s:ByteArray) (w:World) (hs:s.size≤4000000):Calls Tryz.prog 96 #[.string s] w fun e w'=>e = .returned (.string (strOfNums (zca (zaa s))))∧Below w.heap.size w w':=by
 go_enter Tryz.func96,Tryz.ntmps96
 go_wp2_with fail;refine (zps s _ hs).mono ?_;rintro e w1 ⟨rfl,hb⟩;have HB:=kd hb;clear hb;go_wp2_with fail;go_ret;exact ⟨rfl,HB.out⟩

theorem sizeP:(Tryz.prog.info? 182).map (·.size)=some 2:=by kernel_rfl
theorem znu (s:ByteArray) (a b:Nat):zaa (s.extract a b)=subL (zaa s) a b:=zar s a b
theorem zyw (s:ByteArray) {a b:Nat} (hb:b≤s.size):(s.extract a b).size=b - a:=by rw [ByteArray.size_extract];omega
theorem zv3 (s:ByteArray) (b e:Nat) (w:World) (hbe:b≤e) (he:e≤s.size) (hs:s.size≤4000000) :
  Calls Tryz.prog 216 #[.string s,.int .i64 b,.int .i64 e] w fun en w'=>en = .returned (.agg #[.int .i64 ((zcq (zaa s) b e).1:Nat),.string (strOfNums (zcq (zaa s) b e).2)])∧Below w.heap.size w w':=by
 have HL:=kd (zac s);have PA:=kd (zrn (xs:=zaa s) hbe);have PT:=kd (ztb (xs:=zaa s) hbe (by rw [zac];exact he));have CL:=kd (show clip (b:Int) s.size=b by unfold clip;omega);have KB:=zcp isBlank (zaa s) b;generalize zcq (zaa s) b e=R at *
 go_enter Tryz.func216,Tryz.ntmps216
 go_wp2_with fail;refine (zin s b _ (by omega) (by omega)).mono ?_;rintro e1 w1 ⟨rfl,hb1⟩;rw [CL.out];have R1:=kd ((Row.new w 182 [.int .i64 0,.string ⟨#[]⟩]).below hb1);have B1:=kd (((Below.refl w.heap.size w).alloc zNr (.cells #[.int .i64 0,.string ⟨#[]⟩] 182)).trans (hb1.mono (by simp)))
 clear hb1;generalize zag isBlank (zaa s) b=k at *;obtain ⟨m,hm⟩:∃ m,m=min k e:=⟨_,rfl⟩;have MM:=kd hm
 have hme:m≤e:=by omega
 have hbm:b≤m:=by omega
 have MI:min (k:Int) (e:Int)=(m:Int):=by omega
 clear hm;go_wp2_with fail;clear MI;refine (zmg _ _ (by rw [zyw s he];omega)).mono ?_;rintro e2 w2 ⟨rfl,hb2⟩;have R2:=kd (R1.out.below hb2);have B2:=kd (B1.out.trans (hb2.mono B1.out.size));clear hb2 R1 B1;have TE:=kd (show zgp (zaa (s.extract m e))=R.2 by rw [znu,← PT.out,← MM.out])
 have AE:=kd (show m=R.1 by rw [MM.out,PA.out]);rw [TE.out];generalize hTT:strOfNums R.2=T at *;have TT:=kd hTT;clear hTT;have KEY:=kd (R2.out.setAll [.int .i64 m,.string T] rfl)
 go_wp2_with (with_reducible refine wpList_store_mid rfl 182 (.tmp 6) (.tmp 19) rfl w.heap.size 0 _ rfl rfl ?ht ?hi ?h1 ?_)
 case ht=>exact R2.out.there
 case hi=>exact sizeP
 case h1=>simp [Value.oneCell']
 exact bodyPost_ret (zdv rfl _ _ _ w.heap.size [.int .i64 m,.string T] _ rfl KEY.out.range Tryz.underlying182 rfl sizeP) rfl ⟨by rw [← AE.out,TT.out];try (first|rfl|rw [Int.natCast_add]),zbs zNr _ _ _ B2.out⟩

section
variable {xs L : List Int} {i : Nat} {c : Int}
theorem U_end (h:xs.length≤i):uqL (xs.drop i) i L=([],i,6):=by rw [List.drop_of_length_le h,uqL]
theorem U_q (h:i<xs.length) (hc:xs.getD i 0=c) (h1:c=34):uqL (xs.drop i) i L=(L,i+1,0):=by rw [za7 xs h,hc,uqL.eq_def];exact if_pos h1
theorem U_e0 (h:i<xs.length) (hc:xs.getD i 0=c) (h1:c=92) (h2:i+1=xs.length):uqL (xs.drop i) i L=([],i+1,6):=by
 subst h1;rw [za7 xs h,hc,List.drop_of_length_le (by omega),uqL,if_neg (by decide),if_pos rfl]
theorem U_e1 (h:i<xs.length) (hc:xs.getD i 0=c) (h1:c=92) (h2:i+1<xs.length) (h3:32≤xs.getD (i+1) 0∧xs.getD (i+1) 0≤126):uqL (xs.drop i) i L=uqL (xs.drop (i+2)) (i+2) (L++[xs.getD (i+1) 0]):=by
 subst h1;rw [za7 xs h,hc,za7 xs h2,uqL,if_neg (by decide),if_pos rfl,if_pos h3]
theorem U_e2 (h:i<xs.length) (hc:xs.getD i 0=c) (h1:c=92) (h2:i+1<xs.length) (h3:¬ (32≤xs.getD (i+1) 0∧xs.getD (i+1) 0≤126)):uqL (xs.drop i) i L=([],i,5):=by
 subst h1;rw [za7 xs h,hc,za7 xs h2,uqL,if_neg (by decide),if_pos rfl,if_neg h3]
theorem U_c (h:i<xs.length) (hc:xs.getD i 0=c) (h1:c≠34) (h2:c≠92) (h3:zdc c=true):uqL (xs.drop i) i L=([],i,5):=by
 rw [za7 xs h,hc,uqL.eq_def];dsimp only;rw [if_neg h1,if_neg h2,if_pos h3]
theorem U_p (h:i<xs.length) (hc:xs.getD i 0=c) (h1:c≠34) (h2:c≠92) (h3:zdc c=false):uqL (xs.drop i) i L=uqL (xs.drop (i+1)) (i+1) (L++[c]):=by
 rw [za7 xs h,hc]
 conv=>lhs;rw [uqL.eq_def]
 dsimp only;rw [if_neg h1,if_neg h2,if_neg (by rw [h3];decide)]
end
def unqV (r:List Int × Nat × Int):Value := .tuple #[.string (strOfNums r.1),.int .i64 (r.2.1:Nat),.int .u8 r.2.2]
theorem ycm {r:List Int × Nat × Int} {n:Nat} {e:Int} (h:r=([],n,e)):unqV r = .tuple #[.string ⟨#[]⟩,.int .i64 (n:Nat),.int .u8 e]:=by rw [h];rfl
theorem ycl {r:List Int × Nat × Int} {l:List Int} {n:Nat} {e:Int} (h:r=(l,n,e)):unqV r = .tuple #[.string (strOfNums l),.int .i64 (n:Nat),.int .u8 e]:=by rw [h];rfl
theorem zu7 {xs:List Int} {z:Int} (h:z<0∨(xs.length:Int)<z):unq xs z=([],0,2):=if_pos h
theorem yck {xs:List Int} {n:Nat} (h:n=xs.length):unq xs n=([],n,5):=by
 unfold unq;rw [if_neg (by omega),if_pos (.inl (by omega))];rfl
theorem ycj {xs:List Int} {n:Nat} (h:n<xs.length) (h2:xs.getD n 0≠34):unq xs n=([],n,5):=by
 unfold unq;rw [if_neg (by omega),if_pos (.inr (by rw [Int.toNat_natCast];exact h2))];rfl
theorem unq_go {xs:List Int} {n:Nat} (h:n<xs.length) (h2:xs.getD n 0=34):unq xs n=uqL (xs.drop (n+1)) (n+1) []:=by
 unfold unq;rw [if_neg (by omega),if_neg,Int.toNat_natCast];rintro (h3|h3)
 · omega
 · exact h3 (by rw [Int.toNat_natCast];exact h2)
def UR (w:World) (xs:List Int) (z:Int) (m:Nat) (v7 v8:Value) (wr:World):Prop := ∃ (i:Nat) (x:Value) (L:List Int),i≤m∧x=v7∧v8 = .int .i64 i∧L.length≤i∧Hid (unq xs z=uqL (xs.drop i) i L∧OX w x L wr)
set_option maxHeartbeats 400000 in
theorem zpr (s:ByteArray) (z:Int) (w:World) (hz : -9223372036854775808≤z∧z<9223372036854775808) (hM:s.size≤4000000) :
  Calls Tryz.prog 215 #[.string s,.int .i64 z] w fun e w'=>e = .returned (unqV (unq (zaa s) z))∧Below w.heap.size w w':=by
 have HB:=kd (zas s);have HL:=kd (zac s);have VN:=kd (fun n e h=>ycm (r:=unq (zaa s) z) (n:=n) (e:=e) h);have VY:=kd (fun l n e h=>ycl (r:=unq (zaa s) z) (l:=l) (n:=n) (e:=e) h);generalize hX:zaa s=X at *;have HX:=kd hX;clear hX;generalize unqV (unq X z)=RV at *
 rcases (show z<0∨(s.size:Int)<z∨(0≤z∧z≤s.size) by omega) with h|h|⟨h,h'⟩
 · have hd:decide (z<0)=true:=by simp [h]
   have BAD:=kd (zu7 (xs:=X) (.inl h));clear hz
   go_enter Tryz.func215,Tryz.ntmps215
   go_wp2_with fail
   go_step3
   go_wp2_with fail
   try rw [Exit.noGoto_ret]
   go_ret3
   exact ⟨by rw [VN.out _ _ BAD.out];rfl,Below.refl _ _⟩
 · have hd:decide (z<0)=false:=by simp;omega
   have hd2:decide ((s.size:Int)<z)=true:=by simp [h]
   have BAD:=kd (zu7 (xs:=X) (z:=z) (.inr (by rw [HL.out];exact h)));clear hz
   go_enter Tryz.func215,Tryz.ntmps215
   go_wp2_with fail
   go_step3
   go_wp2_with fail
   try rw [Exit.noGoto_ret]
   go_ret3
   exact ⟨by rw [VN.out _ _ BAD.out];rfl,Below.refl _ _⟩
 · obtain ⟨n,rfl⟩:=Int.eq_ofNat_of_zero_le h
   clear h hz
   have hn:n≤s.size:=by omega
   clear h'
   have hd:decide ((n:Int)<0)=false:=by simp
   have hd2:decide (s.size<n)=false:=by simp;omega
   by_cases he:n=s.size
   · have BAD:=kd (yck (xs:=X) (n:=n) (by rw [HL.out];exact he))
     have hd3:((n:Int) == (s.size:Int))=true:=by simp;omega
     clear he
     go_enter Tryz.func215,Tryz.ntmps215
     go_wp2_with fail
     go_step3
     go_wp2_with fail
     try rw [Exit.noGoto_ret]
     go_ret3
     exact ⟨by rw [VN.out _ _ BAD.out];rfl,Below.refl _ _⟩
   · have hlt:n<s.size:=by omega
     have hd3:((n:Int) == (s.size:Int))=false:=by simp;omega
     clear he hn;have d1:=fun w=>zbe s (i:=n) hlt (z:=(n:Int)) rfl w;rw [HX.out] at d1;have BAD:=kd (fun h=>ycj (xs:=X) (n:=n) (by rw [HL.out];exact hlt) h);have OK:=kd (fun h=>unq_go (xs:=X) (n:=n) (by rw [HL.out];exact hlt) h);generalize X.getD n 0=q at *
     by_cases hq:q=34
     · subst hq
       go_enter Tryz.func215,Tryz.ntmps215
       go_wp2_with fail
       go_step3
       go_wp2_with fail
       go_step3
       go_wp2_with fail;clear d1 hd hd2 hd3 BAD
       go_loopw [7,8] (fun v7 v8 wr=>UR w X n s.size v7 v8 wr) (fun _ v _=>s.size - (intOf v).toNat)
       case atStart=>exact ⟨n+1,_,[],by omega,rfl,by go_num,by simp,kd ⟨OK.out trivial,OX.nil w⟩⟩
       case round =>
        obtain ⟨i,x,L,hi,rfl,rfl,hL,H⟩:=hrel;clear OK
        by_cases hil:i<s.size
        · have hd:decide ((i:Int)<(s.size:Int))=true:=by simp;omega
          have hdg:decide ((s.size:Int)≤(i:Int))=false:=by simp;omega
          have d1:=fun w=>zbe s (i:=i) hil (z:=(i:Int)) rfl w;have hx2:=HB.out _ (zbg (l:=X) (i:=i) (by rw [HL.out];exact hil));rw [HX.out] at d1
          have hil':i<X.length:=by rw [HL.out];exact hil
          have UQ:=kd (fun c hc h=>U_q (xs:=X) (L:=L) (i:=i) (c:=c) hil' hc h);have UE0:=kd (fun c hc h h2=>U_e0 (xs:=X) (L:=L) (i:=i) (c:=c) hil' hc h h2);have UE1:=kd (fun c hc h h2 h3=>U_e1 (xs:=X) (L:=L) (i:=i) (c:=c) hil' hc h h2 h3)
          have UE2:=kd (fun c hc h h2 h3=>U_e2 (xs:=X) (L:=L) (i:=i) (c:=c) hil' hc h h2 h3);have UC:=kd (fun c hc h h2 h3=>U_c (xs:=X) (L:=L) (i:=i) (c:=c) hil' hc h h2 h3);have UP:=kd (fun c hc h h2 h3=>U_p (xs:=X) (L:=L) (i:=i) (c:=c) hil' hc h h2 h3)
          clear hil';generalize hcq:X.getD i 0=c at *;have CE:=kd hcq;clear hcq
          by_cases h34:c=34
          · subst h34
            have cv:=zgb H.out.2.o;go_wp2_with fail
            try rw [Exit.noGoto_ret]
            go_ret3
            exact ⟨by rw [VY.out _ _ _ (H.out.1.trans (UQ.out 34 rfl rfl))];rfl,H.out.2.bw⟩
          · have b34:(c == 34)=false:=by simp;omega
            by_cases h92:c=92
            · subst h92
              clear b34 h34
              by_cases hl2:i+1<s.size
              · have e1:((i:Int)+1 == (s.size:Int))=false:=by simp;omega
                have d2:=fun w=>zbe s (i:=i+1) hl2 (z:=(i:Int)+1) (by omega) w;have hy2:=HB.out _ (zbg (l:=X) (i:=i+1) (by rw [HL.out];exact hl2));rw [HX.out] at d2
                have hl2':i+1<X.length:=by rw [HL.out];exact hl2
                have E1:=kd (fun h3=>UE1.out 92 rfl rfl hl2' h3);have E2:=kd (fun h3=>UE2.out 92 rfl rfl hl2' h3);clear hl2';generalize X.getD (i+1) 0=d at *
                by_cases hesc:32≤d∧d≤126
                · have hde:decide (32≤d∧d≤126)=true:=by simp [hesc]
                  go_wp2_with fail;refine (zks d _ hy2.1 hy2.2).mono ?_;rintro e w' ⟨rfl,rfl⟩;rw [hde];clear hde;go_wp2_with (with_reducible refine zds rfl (.tmp 64) (.tmp 68) rfl x L rfl H.out.2 d rfl (by omega) ?_);intro v3 w3 L3 F3 l3 M3;go_wp2_with fail
                  have HH:=kd (show unq X n=uqL (X.drop (i+2)) (i+2) L3 from by rw [F3.out,H.out.1];exact E1.out hesc);go_roundw
                  case rel=>exact ⟨i+2,v3,L3,by omega,rfl,by go_num,by omega,kd ⟨HH.out,M3.out⟩⟩
                  case measure=>simp [intOf];omega
                · have hde:decide (32≤d∧d≤126)=false:=by simp only [decide_eq_false_iff_not];exact hesc
                  go_wp2_with fail;refine (zks d _ hy2.1 hy2.2).mono ?_;rintro e w' ⟨rfl,rfl⟩;rw [hde];clear hde;go_wp2_with fail
                  try rw [Exit.noGoto_ret]
                  go_ret3
                  exact ⟨by rw [VN.out _ _ (H.out.1.trans (E2.out hesc))];rfl,H.out.2.bw⟩
              · have e1:((i:Int)+1 == (s.size:Int))=true:=by simp;omega
                have E0:=kd (UE0.out 92 rfl rfl (by rw [HL.out];omega));have SZ:=kd (show i+1=s.size by omega);go_wp2_with fail
                try rw [Exit.noGoto_ret]
                go_ret3
                exact ⟨by rw [VN.out _ _ (H.out.1.trans E0.out),SZ.out];rfl,H.out.2.bw⟩
            · have b92:(c == 92)=false:=by simp;omega
              go_wp2_with fail;refine (zq0 c _ hx2.1 hx2.2).mono ?_;rintro e w' ⟨rfl,rfl⟩
              cases hp:zdc c with
              | true =>
                have E:=kd (UC.out c rfl h34 h92 hp);clear hp;go_wp2_with fail
                try rw [Exit.noGoto_ret]
                go_ret3
                exact ⟨by rw [VN.out _ _ (H.out.1.trans E.out)];rfl,H.out.2.bw⟩
              | false =>
                have E:=kd (UP.out c rfl h34 h92 hp);clear hp;go_wp2_with (with_reducible refine zds rfl (.tmp 64) (.tmp 68) rfl x L rfl H.out.2 c rfl (by omega) ?_);intro v3 w3 L3 F3 l3 M3;go_wp2_with fail;go_roundw
                case rel=>exact ⟨i+1,v3,L3,by omega,rfl,by go_num,by omega,kd ⟨by rw [F3.out,H.out.1];exact E.out,M3.out⟩⟩
                case measure=>simp [intOf];omega
        · obtain rfl:i=s.size:=by omega
          have E:=kd (U_end (xs:=X) (L:=L) (i:=s.size) (by rw [HL.out];exact Nat.le_refl _));go_wp2_with fail
          try rw [Exit.noGoto_ret]
          go_ret3
          exact ⟨by rw [VN.out _ _ (H.out.1.trans E.out)];rfl,H.out.2.bw⟩
     · have b34:(q != 34)=true:=by simp;omega
       go_enter Tryz.func215,Tryz.ntmps215
       go_wp2_with fail
       go_step3
       go_wp2_with fail
       try rw [Exit.noGoto_ret]
       go_ret3
       exact ⟨by rw [VN.out _ _ (BAD.out hq)];rfl,Below.refl _ _⟩
end Go.Proofs.YtfnmkedncfdceaaGreatDoor
