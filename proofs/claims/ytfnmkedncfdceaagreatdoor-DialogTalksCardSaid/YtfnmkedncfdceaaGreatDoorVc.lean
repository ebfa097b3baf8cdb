/- Plain law: the reference's host is the host. And what stands behind it. -/
import Derived.Test.YtfnmkedncfdceaaGreatDoorUj
set_option linter.unusedVariables false
set_option linter.unusedSimpArgs false
namespace Go.Proofs.YtfnmkedncfdceaaGreatDoor
open Go.RowKit

theorem zky (c:Int):∀ s:List Int,((cutL c s).map (fun p=>p.length+1)).sum=s.length+1
 | []=>rfl
 | d::r=>by
   have ih:=zky c r
   by_cases h:d=c
   · subst h
     rw [zdi];simp only [List.map_cons,List.sum_cons,List.length_nil,List.length_cons];omega
   · rw [zdp c d r h]
     cases hq:cutL c r with
     | nil=>rw [hq] at ih;simp at ih
     | cons q qs =>
       rw [hq] at ih;simp only [glue,List.map_cons,List.sum_cons,List.length_append,List.length_cons,List.length_nil] at ih ⊢;omega
theorem ybe {l:List (List Int)} {k:Nat} (h:∀ p∈l,p.length≤k):(l.map (fun p=>p.length+1)).sum≤(k+1)*l.length:=by
 induction l with
 | nil=>simp
 | cons p l ih =>
   have h1:=h p (by simp);have h2:=ih fun q hq=>h q (List.mem_cons_of_mem _ hq);simp only [List.map_cons,List.sum_cons,List.length_cons,Nat.mul_add,Nat.mul_one];omega
theorem yd7 (g:List Int):grpN g=if (lowS g).dropWhile (· == 48)=[] then [48] else (lowS g).dropWhile (· == 48):=rfl
def yc0 (s:List Int):Option (List Int):=
 match dblL s with
 | some p=>(match zcz p.1,zcz p.2 with
   | some x,some y=>if 7<x.length+y.length then none else some (zbj [58] x++[58,58]++zbj [58] y)
   | _,_=>none)
 | none=>match zcz s with
   | some l=>if l.length=8 then some (zbj [58] l) else none
   | none=>none
theorem zml {s:List Int} {x:List (List Int)} (h:zcz s=some x):s.length+1≤5*x.length+1:=by
 unfold zcz at h
 split at h
 · rename_i h0;injection h with h;subst h;subst h0;simp
 · unfold grpL at h
   split at h
   · rename_i h1
     injection h with h
     subst h;rw [List.length_map];have h2:∀ p∈cutL 58 s,p.length≤4:=fun p hp=>(zct.1 (List.all_eq_true.1 h1 p hp)).1.2;have h3:=ybe h2;rw [zky] at h3;omega
   · cases h
theorem zqv:∀ {s:List Int} {p:List Int × List Int},dblL s=some p→p.1.length+p.2.length+2=s.length
 | [],_,h=>by cases h
 | [_],_,h=>by cases h
 | c::d::r,p,h=>by
   unfold dblL at h
   split at h
   · injection h with h;subst h;simp
   · cases hq:dblL (d::r) with
     | none=>rw [hq] at h;cases h
     | some q =>
       rw [hq] at h
       injection h with h
       subst h;have:=zqv hq;simp only [List.length_cons] at this ⊢;omega
theorem zy0 (s:List Int):yc0 s=zb9 s:=by
 unfold yc0 zb9
 cases hd:dblL s with
 | some p =>
   dsimp only
   by_cases h39:39<s.length
   · rw [if_pos h39]
     cases hx:zcz p.1 with
     | none=>rfl
     | some x =>
       cases hy:zcz p.2 with
       | none=>rfl
       | some y =>
         dsimp only;have h1:=zml hx;have h2:=zml hy;have h3:=zqv hd;rw [if_pos (by omega)]
   · rw [if_neg h39]
     cases zcz p.1<;>rfl
 | none =>
   dsimp only
   by_cases h0:s=[]
   · subst h0;rfl
   · have hs:zcz s=grpL s:=if_neg h0
     by_cases h39:39<s.length
     · rw [if_pos h39]
       cases hl:zcz s with
       | none=>rfl
       | some l =>
         have h1:=zml hl;dsimp only
         by_cases h8:l.length=8
         · -- eight groups: at most 39 characters
           exfalso
           rw [hs] at hl;unfold grpL at hl
           split at hl
           · rename_i h2
             injection hl with hl
             subst hl;rw [List.length_map] at h8;have h3:∀ p∈cutL 58 s,p.length≤4:=fun p hp=>(zct.1 (List.all_eq_true.1 h2 p hp)).1.2;have h4:=ybe h3;rw [zky,h8] at h4;omega
           · cases hl
         · rw [if_neg h8]
     · rw [if_neg h39,hs];rfl

theorem zic {xs:List Int} {a e1 a1 a2:Nat} (h1:zag zbp xs a=e1) (h2:zag isBlank xs e1=a1) (h3:zag isBlank xs (a1+1)=a2):zd3 xs a =
  if e1=a then .error (e1,5)
  else if atL xs a1 61=false then .ok (⟨lowS (subL xs a e1),[],false⟩,a1)
  else if atL xs a2 34=true then (if (unq xs (a2:Nat)).2.2≠0 then .error ((unq xs (a2:Nat)).2.1,(unq xs (a2:Nat)).2.2) else .ok (⟨lowS (subL xs a e1),(unq xs (a2:Nat)).1,true⟩,(unq xs (a2:Nat)).2.1))
  else if atL xs a2 91=true then
   (match zb3 (subL xs a2 (min (zaj xs a2 [93]+1) xs.length)) with
   | none => .error (a2,5)
   | some h => .ok (⟨lowS (subL xs a e1),h,true⟩,zaj xs a2 [93]+1))
  else if zag zbp xs a2=a2 then .error (a2,5) else .ok (⟨lowS (subL xs a e1),subL xs a2 (zag zbp xs a2),true⟩,zag zbp xs a2):=by
 subst h1 h2 h3;rfl
theorem zg6 {xs:List Int} {f a a0 a1:Nat} {l:List Pm} (h0:zag isBlank xs a=a0) (h1:zag isBlank xs (a0+1)=a1):zfw xs (f+1) a l =
  if xs.length≤a0 then .ok l else if xs.getD a0 0≠59 then .error (a0,5) else
  match zd3 xs a1 with
  | .error e => .error e
  | .ok (p,a2)=>if zbz l p.n≠0 then .error (a1,zbz l p.n) else zfw xs f a2 (l++[p]):=by subst h0;subst h1;rfl
theorem znm {xs:List Int} {f a:Nat} {l:List (List Int)} (h:atL xs a 60=true):zdt xs (f+1) a l = .ok (l,a):=by
 unfold zdt;rw [if_pos h]
theorem zrq {xs:List Int} {a b:Nat} (h:zag isBlank xs 0=a) (hb:zag isBlank xs (unq xs (a:Nat)).2.1=b):zod xs =
  if atL xs a 34=true then
   (if (unq xs (a:Nat)).2.2≠0 then .error ((unq xs (a:Nat)).2.1,(unq xs (a:Nat)).2.2) else if atL xs b 60=false then .error (b,5) else .ok ((unq xs (a:Nat)).1,b))
  else if xs.contains 60=true then
   (match zdt xs (xs.length+1) a [] with
   | .error e => .error (e,5)
   | .ok (l,b) => .ok (zbj [32] l,b))
  else .ok ([],a):=by subst h;subst hb;rfl
end Go.Proofs.YtfnmkedncfdceaaGreatDoor
