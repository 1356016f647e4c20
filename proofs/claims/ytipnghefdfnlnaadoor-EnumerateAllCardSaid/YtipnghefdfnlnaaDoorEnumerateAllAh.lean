/-
  Contracts: Go's package slices, for numbers. The lowest bit of a number: plain numbers. Digits to the base 2^32, the lowest first: plain numbers. Weakest preconditions over the ideal machine, eleventh part: maps with keys that are numbers or arrays of numbers; loops over functions. Weakest preconditions over the ideal machine, twelfth part: a store into a list that grows. Weakest preconditions over the ideal machine: functions without a text of their own. Contracts: the reference's long integers. Contracts: the reference's long integers, second part: sums and differences of digits. Contracts: the reference's long integers, third part: sums, differences, comparisons. Contracts: the reference's long integers, fourth part: differences, comparisons, integers. Words to the base 2^64: plain numbers. Contracts: the reference's long integers, fifth part: words. Contracts: the reference's long integers, sixth part: wide integers read and written. Contracts: the reference's long integers, seventh part: written, made of integers, read as integers. Contracts: the reference's long integers, eighth part: what the chapter names. Contracts: the reference's long integers, ninth part: read as integers.
-/
import Derived.Test.YtipnghefdfnlnaaDoorEnumerateAllAg
import Init
set_option linter.unusedVariables false
set_option linter.unusedSimpArgs false
set_option linter.defProp false
set_option linter.deprecated false
/-! Contracts: Go's package slices, for numbers. -/
namespace Go.Id
open Go
theorem equal64_ok {h:IH} {v w:Value} {a b:List Nat} (ha:SlNow h 1 v a.length (a.map K64)) (hb:SlNow h 1 w b.length (b.map K64)) (la:a.length≤1000000000) (hinj : ∀x∈a,∀y∈b,∀o1 o2,binop Proofs.Tryd.prog .neq 47 o1 o2 (K64 x) (K64 y)=some (.bool (decide (x≠y)))) :
  WV Proofs.Tryd.prog (.func (.func 31) #[] #[]) [v,w] h fun r h'=>h'=h∧r=.bool (decide (a=b)):=by
 have hln:a.length=b.length∨a.length≠b.length:=by omega
 refine enter (nt:=26) (rs:=[.tmp 4]) Proofs.Tryd.func31 rfl rfl rfl (by simp) ?_
 simp -dsimp (maxSteps:=1000000) (disch:=first|omega|(simp only[new_n,put_n];omega)|decide +kernel|(repeat first|rw[new_n]|rw[put_n])) only[wpS,Nat.reduceEqDiff,Nat.reduceAdd,ha.len sl38,hb.len sl38]
 refine bq_intro ?_ ?_<;>intro hc<;>simp only[bne_iff_ne,bne_eq_false_iff_eq,ne_eq] at hc
 ·simp -dsimp (maxSteps:=1000000) (disch:=first|omega|(simp only[new_n,put_n];omega)|decide +kernel|(repeat first|rw[new_n]|rw[put_n])) only[wpS,wpT,Nat.reduceEqDiff]
  rw[decide_eq_false]
  rintro rfl;exact hc rfl
 ·have hl:a.length=b.length:=by omega
  simp -dsimp (maxSteps:=1000000) (disch:=first|omega|(simp only[new_n,put_n];omega)|decide +kernel|(repeat first|rw[new_n]|rw[put_n])) only[wpS,wpT,Nat.reduceEqDiff,ha.len sl38]
  refine loop (fun m fr h1=>h1=h ∧ ∃i:Nat,i+m=a.length∧fget fr 0=some v∧fget fr 1=some w∧fget fr 12=some (KI a.length)∧fget fr 13=some (KI i) ∧ ∀j,j<i→a[j]?=b[j]?) a.length ⟨rfl,0,by simp,by simp,by simp,by simp,by simp,by simp⟩ ?_
  rintro m fr h1 ⟨rfl,i,him,f0,f1,f12,f13,hz⟩
  simp -dsimp (maxSteps:=1000000) (disch:=first|omega|(simp only[new_n,put_n];omega)|decide +kernel|(repeat first|rw[new_n]|rw[put_n])) only[wpS,f12,f13]
  refine bq_intro ?_ ?_<;>intro hc2<;>simp only[decide_eq_true_eq,decide_eq_false_iff_not] at hc2
  ·have hi:i<a.length:=by omega
   obtain⟨x,hx⟩ : ∃x,a[i]?=some x:=⟨a[i],List.getElem?_eq_getElem hi⟩
   obtain⟨y,hy⟩ : ∃y,b[i]?=some y:=⟨b[i]'(by omega),List.getElem?_eq_getElem (by omega)⟩
   have hn:=hinj x (List.mem_of_getElem? hx) y (List.mem_of_getElem? hy)
   simp -dsimp (maxSteps:=1000000) (disch:=first|omega|(simp only[new_n,put_n];omega)|decide +kernel|(repeat first|rw[new_n]|rw[put_n])) only[wpS,wpT,Nat.reduceEqDiff,f0,f1,f13,ha.idx es38 hi,ha.ld (P:=Proofs.Tryd.prog) (t:=47) (c:=i) (by simpa using hi) ag47,hb.idx es38 (show i<b.length by omega),hb.ld (P:=Proofs.Tryd.prog) (t:=47) (c:=i) (by simp;omega) ag47,List.getElem?_map,hx,hy,hn]
   refine bq_intro ?_ ?_<;>intro hc3<;>simp only[decide_eq_true_eq,decide_eq_false_iff_not,ne_eq,Decidable.not_not] at hc3
   ·simp -dsimp (maxSteps:=1000000) (disch:=first|omega|(simp only[new_n,put_n];omega)|decide +kernel|(repeat first|rw[new_n]|rw[put_n])) only[wpS,wpT,Nat.reduceEqDiff]
    rw[decide_eq_false]
    rintro rfl
    rw[hx] at hy;cases hy;exact hc3 rfl
   ·simp -dsimp (maxSteps:=1000000) (disch:=first|omega|(simp only[new_n,put_n];omega)|decide +kernel|(repeat first|rw[new_n]|rw[put_n])) only[wpS,Nat.reduceEqDiff,f13]
    refine⟨m - 1,by omega,rfl,i+1,by omega,by simp[f0],by simp[f1],by simp[f12],by simp,fun j hj=>?_⟩
    by_cases hji:j=i
    ·subst hji;rw[hx,hy];congr 1
    ·exact hz j (by omega)
  ·simp -dsimp (maxSteps:=1000000) (disch:=first|omega|(simp only[new_n,put_n];omega)|decide +kernel|(repeat first|rw[new_n]|rw[put_n])) only[wpS,wpT]
   rw[decide_eq_true]
   apply List.ext_getElem?
   intro j
   by_cases hj:j<i
   ·exact hz j hj
   ·rw[List.getElem?_eq_none (by omega),List.getElem?_eq_none (by omega)]
theorem equalP_ok {h:IH} {v w:Value} {a b:List Int} (ha:SlNow h 1 v a.length (a.map KI)) (hb:SlNow h 1 w b.length (b.map KI)) (la:a.length≤1000000000) (hinj : ∀x∈a,∀y∈b,∀o1 o2,binop Proofs.Tryd.prog .neq 3 o1 o2 (KI x) (KI y)=some (.bool (decide (x≠y)))) :
  WV Proofs.Tryd.prog (.func (.func 24) #[] #[]) [v,w] h fun r h'=>h'=h∧r=.bool (decide (a=b)):=by
 have hln:a.length=b.length∨a.length≠b.length:=by omega
 refine enter (nt:=26) (rs:=[.tmp 4]) Proofs.Tryd.func24 rfl rfl rfl (by simp) ?_
 simp -dsimp (maxSteps:=1000000) (disch:=first|omega|(simp only[new_n,put_n];omega)|decide +kernel|(repeat first|rw[new_n]|rw[put_n])) only[wpS,Nat.reduceEqDiff,Nat.reduceAdd,ha.len sl44,hb.len sl44]
 refine bq_intro ?_ ?_<;>intro hc<;>simp only[bne_iff_ne,bne_eq_false_iff_eq,ne_eq] at hc
 ·simp -dsimp (maxSteps:=1000000) (disch:=first|omega|(simp only[new_n,put_n];omega)|decide +kernel|(repeat first|rw[new_n]|rw[put_n])) only[wpS,wpT,Nat.reduceEqDiff]
  rw[decide_eq_false]
  rintro rfl;exact hc rfl
 ·have hl:a.length=b.length:=by omega
  simp -dsimp (maxSteps:=1000000) (disch:=first|omega|(simp only[new_n,put_n];omega)|decide +kernel|(repeat first|rw[new_n]|rw[put_n])) only[wpS,wpT,Nat.reduceEqDiff,ha.len sl44]
  refine loop (fun m fr h1=>h1=h ∧ ∃i:Nat,i+m=a.length∧fget fr 0=some v∧fget fr 1=some w∧fget fr 12=some (KI a.length)∧fget fr 13=some (KI i) ∧ ∀j,j<i→a[j]?=b[j]?) a.length ⟨rfl,0,by simp,by simp,by simp,by simp,by simp,by simp⟩ ?_
  rintro m fr h1 ⟨rfl,i,him,f0,f1,f12,f13,hz⟩
  simp -dsimp (maxSteps:=1000000) (disch:=first|omega|(simp only[new_n,put_n];omega)|decide +kernel|(repeat first|rw[new_n]|rw[put_n])) only[wpS,f12,f13]
  refine bq_intro ?_ ?_<;>intro hc2<;>simp only[decide_eq_true_eq,decide_eq_false_iff_not] at hc2
  ·have hi:i<a.length:=by omega
   obtain⟨x,hx⟩ : ∃x,a[i]?=some x:=⟨a[i],List.getElem?_eq_getElem hi⟩
   obtain⟨y,hy⟩ : ∃y,b[i]?=some y:=⟨b[i]'(by omega),List.getElem?_eq_getElem (by omega)⟩
   have hn:=hinj x (List.mem_of_getElem? hx) y (List.mem_of_getElem? hy)
   simp -dsimp (maxSteps:=1000000) (disch:=first|omega|(simp only[new_n,put_n];omega)|decide +kernel|(repeat first|rw[new_n]|rw[put_n])) only[wpS,wpT,Nat.reduceEqDiff,f0,f1,f13,ha.idx es44 hi,ha.ld (P:=Proofs.Tryd.prog) (t:=3) (c:=i) (by simpa using hi) ag3,hb.idx es44 (show i<b.length by omega),hb.ld (P:=Proofs.Tryd.prog) (t:=3) (c:=i) (by simp;omega) ag3,List.getElem?_map,hx,hy,hn]
   refine bq_intro ?_ ?_<;>intro hc3<;>simp only[decide_eq_true_eq,decide_eq_false_iff_not,ne_eq,Decidable.not_not] at hc3
   ·simp -dsimp (maxSteps:=1000000) (disch:=first|omega|(simp only[new_n,put_n];omega)|decide +kernel|(repeat first|rw[new_n]|rw[put_n])) only[wpS,wpT,Nat.reduceEqDiff]
    rw[decide_eq_false]
    rintro rfl
    rw[hx] at hy;cases hy;exact hc3 rfl
   ·simp -dsimp (maxSteps:=1000000) (disch:=first|omega|(simp only[new_n,put_n];omega)|decide +kernel|(repeat first|rw[new_n]|rw[put_n])) only[wpS,Nat.reduceEqDiff,f13]
    refine⟨m - 1,by omega,rfl,i+1,by omega,by simp[f0],by simp[f1],by simp[f12],by simp,fun j hj=>?_⟩
    by_cases hji:j=i
    ·subst hji;rw[hx,hy];congr 1
    ·exact hz j (by omega)
  ·simp -dsimp (maxSteps:=1000000) (disch:=first|omega|(simp only[new_n,put_n];omega)|decide +kernel|(repeat first|rw[new_n]|rw[put_n])) only[wpS,wpT]
   rw[decide_eq_true]
   apply List.ext_getElem?
   intro j
   by_cases hj:j<i
   ·exact hz j hj
   ·rw[List.getElem?_eq_none (by omega),List.getElem?_eq_none (by omega)]
theorem isNaN_i {h:IH} (x:Int):WV Proofs.Tryd.prog (.func (.func 78) #[] #[]) [KI x] h fun r h'=>h'=h∧r=.bool false:=by
 refine enter (nt:=6) (rs:=[.tmp 2]) Proofs.Tryd.func78 rfl rfl rfl (by simp) ?_
 simp -dsimp (disch:=omega) only[wpS,wpT,Nat.reduceEqDiff]
theorem cmp_i {h:IH} (x y:Int):WV Proofs.Tryd.prog (.func (.func 50) #[] #[]) [KI x,KI y] h fun r h'=>h'=h∧r=KI (if x<y then -1 else if y<x then 1 else 0):=by
 refine enter (nt:=20) (rs:=[.tmp 4]) Proofs.Tryd.func50 rfl rfl rfl (by simp) ?_
 simp -dsimp (disch:=omega) only[wpS,Nat.reduceEqDiff,Nat.reduceAdd]
 refine call (isNaN_i x) ?_
 rintro _ _ ⟨rfl,rfl⟩
 simp -dsimp (disch:=omega) only[wpS,Nat.reduceEqDiff]
 refine call (isNaN_i y) ?_
 rintro _ _ ⟨rfl,rfl⟩
 by_cases h1:x<y
 ·simp -dsimp (disch:=omega) only[wpS,wpT,Nat.reduceEqDiff,if_pos h1]
 ·by_cases h2:y<x
  ·simp -dsimp (disch:=omega) only[wpS,wpT,Nat.reduceEqDiff,if_pos h2,if_neg h1]
  ·simp -dsimp (disch:=omega) only[wpS,wpT,Nat.reduceEqDiff,if_neg h2,if_neg h1]
theorem clone64_ok {h:IH} {v:Value} {n:Nat} {cs:List Value} (hs:SlOf h 1 v n cs) (hne:v=.slice none 0 0∨0<n) (hc:cs.all cellOK=true) (hn:n≤1000000000) :
  WV Proofs.Tryd.prog (.func (.func 79) #[] #[]) [v] h fun r h'=>Ext h h'∧Acc h' h.n 1 r n cs:=by
 have hnow:=hs.now
 obtain⟨hz,hl,⟨rfl,rfl⟩|⟨b,o,k,rfl,hh⟩⟩:=hs
 ·refine enter (nt:=8) (rs:=[.tmp 2]) Proofs.Tryd.func79 rfl rfl rfl (by simp) ?_
  simp -dsimp (disch:=omega) only[wpS,wpT,Nat.reduceEqDiff,Nat.reduceMul,bs38,nil_eq_none u38]
  obtain rfl:cs = []:=List.length_eq_zero_iff.1 (by omega)
  exact⟨Ext.refl _,Acc.nil _ _ (by omega)⟩
 ·have hp:0<n:=by
   rcases hne with h1|h1
   ·cases h1
   ·exact h1
  have hk:Ext h (h.new (.cells [] 1 none)):=(Ext.refl h).new _
  have hnow2:SlNow (h.new (.cells [] 1 none)) 1 (.slice (some ⟨b,o,none⟩) n k) n cs:=(SlOf.keep ⟨hz,hl,.inr ⟨b,o,k,rfl,hh⟩⟩ hk.keep).now
  refine enter (nt:=8) (rs:=[.tmp 2]) Proofs.Tryd.func79 rfl rfl rfl (by simp) ?_
  simp -dsimp (disch:=omega) only[wpS,wpT,Nat.reduceEqDiff,Nat.reduceMul,bs38,ba38_38,nil_eq_some u38,append_zero ap38 _ hnow2 hp hc (by omega)]
  refine⟨hk.new _,?_⟩
  exact(acc_new (by omega) hl hp).from (by simp)
def cmpL:List Int→List Int→Int
 | [],[]=>0
 | [],_ :: _ => -1
 | _ :: _,[]=>1
 | x :: a,y :: b=>if x<y then -1 else if y<x then 1 else cmpL a b
theorem compare_ok {h:IH} {v w:Value} {a b:List Int} (ha:SlNow h 1 v a.length (a.map KI)) (hb:SlNow h 1 w b.length (b.map KI)) (hl:a.length=b.length) (la:a.length≤1000000000) :
  WV Proofs.Tryd.prog (.func (.func 87) #[] #[]) [v,w] h fun r h'=>h'=h∧r=KI (cmpL a b):=by
 refine enter (nt:=36) (rs:=[.tmp 4]) Proofs.Tryd.func87 rfl rfl rfl (by simp) ?_
 simp -dsimp (disch:=omega) only[wpS,Nat.reduceEqDiff,Nat.reduceAdd,ha.len sl33]
 refine loop (fun m fr h1=>h1=h ∧ ∃i:Nat,i+m=a.length∧fget fr 0=some v∧fget fr 1=some w∧fget fr 9=some v∧fget fr 10=some (KI a.length)∧fget fr 11=some (KI i)∧cmpL a b=cmpL (a.drop i) (b.drop i)) a.length ⟨rfl,0,by simp,by simp,by simp,by simp,by simp,by simp,by simp⟩ ?_
 rintro m fr h1 ⟨rfl,i,him,f0,f1,f9,f10,f11,hz⟩
 simp -dsimp (disch:=omega) only[wpS,f10,f11]
 refine bq_intro ?_ ?_<;>intro hc2<;>simp only[decide_eq_true_eq,decide_eq_false_iff_not] at hc2
 ·have hi:i<a.length:=by omega
  obtain⟨x,hx⟩ : ∃x,a[i]?=some x:=⟨a[i],List.getElem?_eq_getElem hi⟩
  obtain⟨y,hy⟩ : ∃y,b[i]?=some y:=⟨b[i]'(by omega),List.getElem?_eq_getElem (by omega)⟩
  simp -dsimp (disch:=omega) only[wpS,wpT,Nat.reduceEqDiff,f1,f9,f11,hb.len sl33,ha.idx es33 hi,ha.ld (P:=Proofs.Tryd.prog) (t:=3) (c:=i) (by simpa using hi) ag3,hb.idx es33 (show i<b.length by omega),hb.ld (P:=Proofs.Tryd.prog) (t:=3) (c:=i) (by simp;omega) ag3,List.getElem?_map,hx,hy]
  refine call (cmp_i x y) ?_
  rintro _ _ ⟨rfl,rfl⟩
  have ea:a.drop i=x :: a.drop (i+1):=by
   have h1:=List.getElem?_eq_some_iff.1 hx
   rw[←h1.2,List.getElem_cons_drop_succ_eq_drop]
  have eb:b.drop i=y :: b.drop (i+1):=by
   have h1:=List.getElem?_eq_some_iff.1 hy
   rw[←h1.2,List.getElem_cons_drop_succ_eq_drop]
  rw[ea,eb,cmpL] at hz
  by_cases c1:x<y
  ·rw[if_pos c1] at hz
   simp -dsimp (disch:=omega) only[wpS,wpT,Nat.reduceEqDiff,if_pos c1]
   rw[hz]
  ·by_cases c2:y<x
   ·rw[if_neg c1,if_pos c2] at hz
    simp -dsimp (disch:=omega) only[wpS,wpT,Nat.reduceEqDiff,if_pos c2,if_neg c1]
    rw[hz]
   ·rw[if_neg c1,if_neg c2] at hz
    simp -dsimp (disch:=omega) only[wpS,wpT,Nat.reduceEqDiff,if_neg c2,if_neg c1,f11]
    exact⟨m - 1,by omega,rfl,i+1,by omega,by simp[f0],by simp[f1],by simp[f9],by simp[f10],by simp,hz⟩
 ·simp -dsimp (disch:=omega) only[wpS,wpT,Nat.reduceEqDiff,f0,f1,ha.len sl33,hb.len sl33]
  rw[hz,List.drop_of_length_le (by omega),List.drop_of_length_le (by omega)];rfl
theorem indexFunc_ok {h:IH} {v fv:Value} {a:List Int} (p:Int→Bool) (ha:SlNow h 1 v a.length (a.map KI)) (la:a.length≤1000000000) (hp : ∀x∈a,WV Proofs.Tryd.prog fv [KI x] h fun r h'=>h'=h∧r=.bool (p x)) :
  WV Proofs.Tryd.prog (.func (.func 88) #[] #[]) [v,fv] h fun r h'=>h'=h ∧ ∃c:Int,r=KI c∧(0≤c↔a.any p=true):=by
 refine enter (nt:=19) (rs:=[.tmp 4]) Proofs.Tryd.func88 rfl rfl rfl (by simp) ?_
 simp -dsimp (disch:=omega) only[wpS,Nat.reduceEqDiff,Nat.reduceAdd,ha.len sl33]
 refine loop (fun m fr h1=>h1=h ∧ ∃i:Nat,i+m=a.length∧fget fr 0=some v∧fget fr 1=some fv∧fget fr 7=some (KI a.length)∧fget fr 8=some (KI i)∧a.any p=(a.drop i).any p) a.length ⟨rfl,0,by simp,by simp,by simp,by simp,by simp,by simp⟩ ?_
 rintro m fr h1 ⟨rfl,i,him,f0,f1,f7,f8,hz⟩
 simp -dsimp (disch:=omega) only[wpS,f7,f8]
 refine bq_intro ?_ ?_<;>intro hc2<;>simp only[decide_eq_true_eq,decide_eq_false_iff_not] at hc2
 ·have hi:i<a.length:=by omega
  obtain⟨x,hx⟩ : ∃x,a[i]?=some x:=⟨a[i],List.getElem?_eq_getElem hi⟩
  simp -dsimp (disch:=omega) only[wpS,wpT,Nat.reduceEqDiff,f0,f1,f8,ha.idx es33 hi,ha.ld (P:=Proofs.Tryd.prog) (t:=3) (c:=i) (by simpa using hi) ag3,List.getElem?_map,hx]
  refine call (hp x (List.mem_of_getElem? hx)) ?_
  rintro _ _ ⟨rfl,rfl⟩
  have ea:a.drop i=x :: a.drop (i+1):=by
   have h1:=List.getElem?_eq_some_iff.1 hx
   rw[←h1.2,List.getElem_cons_drop_succ_eq_drop]
  rw[ea,List.any_cons] at hz
  simp -dsimp (disch:=omega) only[wpS,Nat.reduceEqDiff]
  refine bq_intro ?_ ?_<;>intro hc
  ·simp -dsimp (disch:=omega) only[wpS,wpT,Nat.reduceEqDiff]
   exact⟨_,rfl,by rw[hz,hc];simp⟩
  ·simp -dsimp (disch:=omega) only[wpS,Nat.reduceEqDiff,f8]
   rw[hc,Bool.false_or] at hz
   exact⟨m - 1,by omega,rfl,i+1,by omega,by simp[f0],by simp[f1],by simp[f7],by simp,hz⟩
 ·simp -dsimp (disch:=omega) only[wpS,wpT]
  exact⟨_,rfl,by rw[hz,List.drop_of_length_le (by omega)];simp⟩
theorem containsFunc_ok {h:IH} {v fv:Value} {a:List Int} (p:Int→Bool) (ha:SlNow h 1 v a.length (a.map KI)) (la:a.length≤1000000000) (hp : ∀x∈a,WV Proofs.Tryd.prog fv [KI x] h fun r h'=>h'=h∧r=.bool (p x)) :
  WV Proofs.Tryd.prog (.func (.func 60) #[] #[]) [v,fv] h fun r h'=>h'=h∧r=.bool (a.any p):=by
 refine enter (nt:=9) (rs:=[.tmp 4]) Proofs.Tryd.func60 rfl rfl rfl (by simp) ?_
 simp -dsimp (disch:=omega) only[wpS,Nat.reduceEqDiff,Nat.reduceAdd]
 refine call (indexFunc_ok p ha la hp) ?_
 rintro _ _ ⟨rfl,c,rfl,hc⟩
 simp -dsimp (disch:=omega) only[wpS,wpT,Nat.reduceEqDiff]
 cases hb:a.any p
 ·rw[hb] at hc
  simp at hc
  simp;exact hc
 ·rw[hb] at hc
  simp at hc
  simp;exact hc
end Go.Id

/-! The lowest bit of a number: plain numbers. -/
namespace Go.Id
theorem exists_odd : ∀u:Nat,0<u → ∃k m,u=2 ^ k*(2*m+1):=by
 intro u
 induction u using Nat.strongRecOn with
 | _ u ih =>
  intro hu
  rcases Nat.mod_two_eq_zero_or_one u with h|h
  ·obtain⟨k,m,e⟩:=ih (u / 2) (by omega) (by omega)
   refine⟨k+1,m,?_⟩
   rw[Nat.pow_succ]
   have:u=u / 2*2:=by omega
   rw[this,e];grind
  ·exact⟨0,u / 2,by rw[Nat.pow_zero];omega⟩
theorem bit_odd (k m i:Nat):(2 ^ k*(2*m+1)).testBit i=if i<k then false else if i=k then true else m.testBit (i - k - 1):=by
 rw[Nat.testBit_two_pow_mul]
 by_cases h:i<k
 ·simp[h,show ¬k≤i by omega]
 ·rw[if_neg h]
  by_cases h2:i=k
  ·subst h2;simp
  ·rw[if_neg h2]
   obtain⟨j,hj⟩ : ∃j,i - k=j+1:=⟨i - k - 1,by omega⟩
   rw[hj,Nat.testBit_succ]
   simp[show k≤i by omega,show(2*m+1) / 2=m by omega]
theorem bit_odd_pred (k m i:Nat):(2 ^ k*(2*m+1) - 1).testBit i=if i<k then true else if i=k then false else m.testBit (i - k - 1):=by
 have hp:0<2 ^ k:=Nat.pow_pos (by omega)
 have e:2 ^ k*(2*m+1) - 1=2 ^ k*(2*m)+(2 ^ k - 1):=by
  have:2 ^ k*(2*m+1)=2 ^ k*(2*m)+2 ^ k:=by grind
  omega
 rw[e,Nat.testBit_two_pow_mul_add _ (by omega)]
 by_cases h:i<k
 ·rw[if_pos h,if_pos h,Nat.testBit_two_pow_sub_one];simpa using h
 ·rw[if_neg h,if_neg h]
  by_cases h2:i=k
  ·subst h2;simp
  ·rw[if_neg h2]
   obtain⟨j,hj⟩ : ∃j,i - k=j+1:=⟨i - k - 1,by omega⟩
   rw[hj,Nat.testBit_succ]
   simp[show 2*m / 2=m by omega]
theorem and_neg (k m:Nat) (h:2 ^ k*(2*m+1)<18446744073709551616):2 ^ k*(2*m+1) &&& (18446744073709551616 - 2 ^ k*(2*m+1))=2 ^ k:=by
 have hp:0<2 ^ k*(2*m+1):=Nat.mul_pos (Nat.pow_pos (by omega)) (by omega)
 apply Nat.eq_of_testBit_eq
 intro i
 have e:18446744073709551616 - 2 ^ k*(2*m+1)=2 ^ 64 - ((2 ^ k*(2*m+1) - 1)+1):=by omega
 rw[Nat.testBit_and,e,Nat.testBit_two_pow_sub_succ (by omega),bit_odd_pred,bit_odd,Nat.testBit_two_pow]
 by_cases h1:i<k
 ·simp[h1];omega
 ·by_cases h2:i=k
  ·subst h2
   have:i<64:=by
    apply Classical.byContradiction;intro hn
    have h3:2 ^ 64≤2 ^ i:=Nat.pow_le_pow_right (by omega) (by omega)
    have h4:2 ^ i*1≤2 ^ i*(2*m+1):=Nat.mul_le_mul_left _ (by omega)
    omega
   simp[this]
  ·simp[h1,h2,show ¬k=i by omega]
   intro a _;exact a
theorem low_lt {k m:Nat} (h:2 ^ k*(2*m+1)<18446744073709551616):k<64:=by
 apply Classical.byContradiction;intro hn
 have h3:2 ^ 64≤2 ^ k:=Nat.pow_le_pow_right (by omega) (by omega)
 have h4:2 ^ k*1≤2 ^ k*(2*m+1):=Nat.mul_le_mul_left _ (by omega)
 omega
def Low (u k:Nat):Prop:=u.testBit k=true ∧ ∀j,j<k→u.testBit j=false
theorem low_odd (k m:Nat):Low (2 ^ k*(2*m+1)) k:=by
 refine⟨by rw[bit_odd];simp,fun j hj=>by rw[bit_odd,if_pos hj]⟩
theorem Low.uniq {u k l:Nat} (a:Low u k) (b:Low u l):k=l:=by
 rcases Nat.lt_trichotomy k l with h|h|h
 ·have:=b.2 k h;rw[a.1] at this;cases this
 ·exact h
 ·have:=a.2 l h;rw[b.1] at this;cases this
def tab64:List Nat:=[0,1,56,2,57,49,28,3,61,58,42,50,38,29,17,4,62,47,59,36,45,43,51,22,53,39,33,30,24,18,12,5,63,55,48,27,60,41,37,16,46,35,44,21,52,32,23,11,54,26,40,15,34,20,31,10,25,14,19,9,13,8,7,6]
theorem tab64_ok : ∀k,k<64→tab64[2 ^ k*285870213051353865 % 18446744073709551616 / 288230376151711744]?=some k:=by decide
end Go.Id

/-! Digits to the base 2^32, the lowest first: plain numbers. -/
namespace Go.Id
def valT (ds:List Nat):Nat→Nat
 | 0=>0
 | k+1=>valT ds k+ds.getD k 0*4294967296 ^ k
def valD (ds:List Nat):Nat:=valT ds ds.length
def Digs (ds:List Nat):Prop:=∀d∈ds,d<4294967296
def Norm (ds:List Nat):Prop:=ds = []∨ds.getD (ds.length - 1) 0≠0
theorem getD_lt {ds:List Nat} (h:Digs ds) (k:Nat):ds.getD k 0<4294967296:=by
 rw[List.getD_eq_getElem?_getD]
 cases hx:ds[k]? with
 | none=>simp
 | some x=>simpa using h x (List.mem_of_getElem? hx)
theorem getD_of_ge {ds:List Nat} {k:Nat} (h:ds.length≤k):ds.getD k 0=0:=by
 rw[List.getD_eq_getElem?_getD,List.getElem?_eq_none h];rfl
theorem pow_pos' (k:Nat):0<4294967296 ^ k:=Nat.pow_pos (by omega)
theorem valT_lt {ds:List Nat} (h:Digs ds) : ∀k,valT ds k<4294967296 ^ k
 | 0=>by simp[valT]
 | k+1=>by
  have ih:=valT_lt h k
  have hd:=getD_lt h k
  have h2:ds.getD k 0*4294967296 ^ k≤4294967295*4294967296 ^ k:=Nat.mul_le_mul_right _ (by omega)
  rw[valT,Nat.pow_succ]
  omega
theorem valT_ge {ds:List Nat} : ∀{k:Nat},ds.length≤k→valT ds k=valD ds
 | 0,h=>by
  have:ds = []:=List.length_eq_zero_iff.1 (by omega)
  subst this;rfl
 | k+1,h=>by
  by_cases hk:ds.length≤k
  ·rw[valT,valT_ge hk,getD_of_ge hk];simp
  ·have:ds.length=k+1:=by omega
   rw[valD,this]
theorem valT_congr {ds es:List Nat} : ∀{k:Nat},(∀j,j<k→ds.getD j 0=es.getD j 0)→valT ds k=valT es k
 | 0,_=>rfl
 | k+1,h=>by rw[valT,valT,valT_congr fun j hj=>h j (by omega),h k (by omega)]
theorem valD_lt {ds:List Nat} (h:Digs ds):valD ds<4294967296 ^ ds.length:=valT_lt h _
theorem getD_append {ds:List Nat} {x:Nat} (j:Nat):(ds ++ [x]).getD j 0=if j<ds.length then ds.getD j 0 else if j=ds.length then x else 0:=by
 simp only[List.getD_eq_getElem?_getD]
 by_cases h:j<ds.length
 ·rw[if_pos h,List.getElem?_append_left h]
 ·rw[if_neg h,List.getElem?_append_right (by omega)]
  by_cases h2:j=ds.length
  ·rw[if_pos h2];subst h2;simp
  ·rw[if_neg h2,List.getElem?_eq_none (by simp;omega)];rfl
theorem valD_append (ds:List Nat) (x:Nat):valD (ds ++ [x])=valD ds+x*4294967296 ^ ds.length:=by
 have h1:(ds ++ [x]).length=ds.length+1:=by simp
 rw[valD,h1,valT,getD_append,if_neg (by omega),if_pos rfl]
 congr 1
 refine valT_congr fun j hj=>?_
 rw[getD_append,if_pos hj]
theorem Digs.append {ds:List Nat} {x:Nat} (h:Digs ds) (hx:x<4294967296):Digs (ds ++ [x]):=by
 intro d hd
 rcases List.mem_append.1 hd with h1|h1
 ·exact h d h1
 ·simp at h1;omega
theorem Digs.take {ds:List Nat} (h:Digs ds) (n:Nat):Digs (ds.take n):=fun d hd=>h d (List.mem_of_mem_take hd)
theorem getD_take (ds:List Nat) (n j:Nat):(ds.take n).getD j 0=if j<n then ds.getD j 0 else 0:=by
 simp only[List.getD_eq_getElem?_getD,List.getElem?_take]
 split<;>rfl
theorem valT_split (ds:List Nat) (m:Nat) : ∀k,(∀j,m≤j→j<m+k→ds.getD j 0=0)→valT ds (m+k)=valT ds m
 | 0,_=>rfl
 | k+1,h=>by
  rw[show m+(k+1)=(m+k)+1 from rfl,valT,valT_split ds m k (fun j a b=>h j a (by omega)),h (m+k) (by omega) (by omega)]
  simp
theorem valD_take {ds:List Nat} {m:Nat} (hm:m≤ds.length) (h : ∀j,m≤j→ds.getD j 0=0):valD (ds.take m)=valD ds:=by
 have h1:(ds.take m).length=m:=by simp[hm]
 rw[valD,h1]
 have h2:valT (ds.take m) m=valT ds m:=valT_congr fun j hj=>by rw[getD_take,if_pos hj]
 rw[h2]
 have:=valT_split ds m (ds.length - m) (fun j a _=>h j a)
 rw[show m+(ds.length - m)=ds.length from by omega] at this
 exact this.symm
theorem Norm.ge {ds:List Nat} (h:Norm ds) (hne:ds ≠ []):4294967296 ^ (ds.length - 1)≤valD ds:=by
 rcases h with h|h
 ·exact absurd h hne
 ·have hl:0<ds.length:=List.length_pos_iff.2 hne
  obtain⟨n,hn⟩ : ∃n,ds.length=n+1:=⟨ds.length - 1,by omega⟩
  rw[valD,hn,valT]
  rw[hn] at h
  simp only[Nat.add_sub_cancel] at h ⊢
  have:1*4294967296 ^ n≤ds.getD n 0*4294967296 ^ n:=Nat.mul_le_mul_right _ (by omega)
  omega
theorem lt_of_len {a b:List Nat} (ha:Digs a) (hb:Norm b) (hl:a.length<b.length):valD a<valD b:=by
 have h1:=valD_lt ha
 have h2:=hb.ge (by intro h;subst h;simp at hl)
 have h3:4294967296 ^ a.length≤4294967296 ^ (b.length - 1):=Nat.pow_le_pow_right (by omega) (by omega)
 omega
theorem valT_top {a b:List Nat} (ha:Digs a) {i:Nat} (hi:a.getD i 0<b.getD i 0) : ∀k,(∀j,i<j→j<i+1+k→a.getD j 0=b.getD j 0)→valT a (i+1+k)<valT b (i+1+k)
 | 0,_=>by
  have h1:=valT_lt ha i
  have h2:(a.getD i 0+1)*4294967296 ^ i≤b.getD i 0*4294967296 ^ i:=Nat.mul_le_mul_right _ (by omega)
  rw[Nat.add_mul] at h2
  rw[Nat.add_zero,valT,valT]
  omega
 | k+1,h=>by
  have:=valT_top ha hi k (fun j x y=>h j x (by omega))
  rw[show i+1+(k+1)=(i+1+k)+1 from rfl,valT,valT,h (i+1+k) (by omega) (by omega)]
  omega
theorem lt_of_top {a b:List Nat} (ha:Digs a) (hl:a.length=b.length) {i:Nat} (hn:i<a.length) (hi:a.getD i 0<b.getD i 0) (h : ∀j,i<j→j<a.length→a.getD j 0=b.getD j 0):valD a<valD b:=by
 have:=valT_top ha hi (a.length - (i+1)) (fun j x y=>h j x (by omega))
 rw[show i+1+(a.length - (i+1))=a.length from by omega] at this
 rw[valD,valD,←hl];exact this
theorem eq_of_all {a b:List Nat} (hl:a.length=b.length) (h : ∀j,j<a.length→a.getD j 0=b.getD j 0):valD a=valD b:=by
 rw[valD,valD,←hl];exact valT_congr h
theorem Norm.nil_iff {ds:List Nat} (h:Norm ds):valD ds=0↔ds = []:=by
 constructor
 ·intro h0
  apply Classical.byContradiction;intro hne
  have:=h.ge hne
  have:=pow_pos' (ds.length - 1)
  omega
 ·rintro rfl;rfl
theorem Norm.len_le {a b:List Nat} (ha:Norm a) (hb:Digs b) (h:valD a≤valD b):a.length≤b.length:=by
 apply Classical.byContradiction;intro hn
 have:=lt_of_len hb ha (by omega)
 omega
end Go.Id

/-! Weakest preconditions over the ideal machine, eleventh part: maps with keys that are numbers or arrays of numbers; loops over functions. -/
namespace Go.Id
open Go
abbrev MapL:=List (Value×Value)
noncomputable def asc:List (Value×Value)→Value→Option Value
 | [],_=>none
 | e :: l,k=>@ite _ (e.1=k) (Classical.propDecidable _) (some e.2) (asc l k)
noncomputable def place:List (Value×Value)→Value→Option Nat
 | [],_=>none
 | e :: l,k=>@ite _ (e.1=k) (Classical.propDecidable _) (some 0) ((place l k).map (· + 1))
noncomputable def upd (l:MapL) (k v:Value):MapL:=match place l k with
 | none=>l ++ [(k,v)]
 | some i=>l.set i (k,v)
theorem place_none : ∀{l:MapL} {k:Value},place l k=none→asc l k=none
 | [],_,_=>rfl
 | e :: l,k,h=>by
  unfold place at h
  unfold asc
  split at h
  ·cases h
  ·rename_i hne
   rw[if_neg hne]
   exact place_none (by simpa using h)
theorem place_some : ∀{l:MapL} {k:Value} {i:Nat},place l k=some i → ∃v,l[i]?=some (k,v)∧asc l k=some v
 | [],_,_,h=>by cases h
 | e :: l,k,i,h=>by
  unfold place at h
  unfold asc
  split at h
  ·rename_i he
   cases h
   exact⟨e.2,by rw[←he];rfl,if_pos he⟩
  ·rename_i hne
   rw[if_neg hne]
   simp only[Option.map_eq_some_iff] at h
   obtain⟨j,hj,rfl⟩:=h
   obtain⟨v,h1,h2⟩:=place_some hj
   exact⟨v,by simpa using h1,h2⟩
theorem mem_upd {l:MapL} {k v:Value} {e:Value×Value} (h:e∈upd l k v):e=(k,v)∨e∈l:=by
 unfold upd at h
 split at h
 ·rw[List.mem_append] at h
  rcases h with h|h
  ·exact .inr h
  ·exact .inl (by simpa using h)
 ·rcases List.mem_or_eq_of_mem_set h with h|h
  ·exact .inr h
  ·exact .inl h
section
variable {P:Program}
def KeyT (P:Program) (kt:TypeId) (ok:Value→Prop):Prop :=
 (∀k,ok k→plain k=true∧Instr.sameBits 10000 k k=true ∧ ∀b,pureRun P (Instr.checkKey b 10000 kt k)=some ()) ∧
  ∀(k:Value) (l:MapL),ok k→(∀e∈l,ok e.1)→(pureRun P (Instr.findKey kt k (keyEntries l))).map (fun r=>r.map (·.1))=some (place l k)
theorem findK_eq {kt:TypeId} {ok:Value→Prop} (hK:KeyT P kt ok) {k:Value} {l:MapL} (hk:ok k) (hl : ∀e∈l,ok e.1):findK P kt k l=some (place l k):=by
 have h1:=hK.2 k l hk hl
 unfold findK
 rw[(hK.1 k hk).1,cond_true,(hK.1 k hk).2.2 l.isEmpty]
 cases hp:pureRun P (Instr.findKey kt k (keyEntries l)) with
 | none=>rw[hp] at h1;cases h1
 | some r=>rw[hp] at h1;simpa using h1
def MapT (P:Program) (mt kt:TypeId) (z:Value):Prop:=∃et,P.underlying mt=some (.map kt et)∧zeroT P et=some z∧plain z=true
theorem lookup_eq {mt kt:TypeId} {z:Value} {ok:Value→Prop} (hM:MapT P mt kt z) (hK:KeyT P kt ok) {h:IH} {m:Nat} {l:MapL} (hg:h.ext.get m=some (.map l)) {k:Value} (hk:ok k) (hl : ∀e∈l,ok e.1) :
  lookup P h mt (.map (some (2*m))) k true=some (match asc l k with|some v=>.tuple #[v,.bool true]|none=>.tuple #[z,.bool false]):=by
 obtain⟨et,hu,hz,hp⟩:=hM
 have hm:entriesOf h (.map (some (2*m)))=some l:=by
  have h1:(2*m % 2 == 1)=false:=by simp
  have h2:2*m / 2=m:=by omega
  simp[entriesOf,mapOf,h2,hg]
 simp only[lookup,hu,hm,findK_eq hK hk hl]
 cases hp2:place l k with
 | none=>simp only[place_none hp2,hz,hp,cond_true]
 | some i =>
  obtain⟨v,h1,h2⟩:=place_some hp2
  simp only[h1,h2,Option.map_some,cond_true]
theorem lookup_eq1 {mt kt:TypeId} {z:Value} {ok:Value→Prop} (hM:MapT P mt kt z) (hK:KeyT P kt ok) {h:IH} {m:Nat} {l:MapL} (hg:h.ext.get m=some (.map l)) {k:Value} (hk:ok k) (hl : ∀e∈l,ok e.1) :
  lookup P h mt (.map (some (2*m))) k false=some ((asc l k).getD z):=by
 obtain⟨et,hu,hz,hp⟩:=hM
 have hm:entriesOf h (.map (some (2*m)))=some l:=by
  have h1:(2*m % 2 == 1)=false:=by simp
  have h2:2*m / 2=m:=by omega
  simp[entriesOf,mapOf,h2,hg]
 simp only[lookup,hu,hm,findK_eq hK hk hl]
 cases hp2:place l k with
 | none=>simp only[place_none hp2,hz,hp,cond_true,cond_false,Option.getD]
 | some i =>
  obtain⟨v,h1,h2⟩:=place_some hp2
  simp only[h1,h2,Option.map_some,cond_false,Option.getD]
theorem mapUpdate_eq {mt kt:TypeId} {z:Value} {ok:Value→Prop} (hM:MapT P mt kt z) (hK:KeyT P kt ok) {h:IH} {m:Nat} {l:MapL} (hg:h.ext.get m=some (.map l)) {k:Value} (hk:ok k) (hl : ∀e∈l,ok e.1) (v:Value) :
  mapUpdate P h mt (.map (some (2*m))) k v=some (h.put m (.map (upd l k v))):=by
 obtain⟨et,hu,hz,hp⟩:=hM
 have h1:(2*m % 2 == 1)=false:=by simp
 have h2:2*m / 2=m:=by omega
 have hm:mapOf h (2*m)=some l:=by simp[mapOf,h2,hg]
 simp only[mapUpdate,hu,hm,findK_eq hK hk hl,(hK.1 k hk).2.2 false,okUnit,cond_true,h2]
 cases hp2:place l k with
 | none=>simp only[upd,hp2];rfl
 | some i =>
  obtain⟨w,h1,h2⟩:=place_some hp2
  simp only[h1,(hK.1 k hk).2.1,cond_true,upd,hp2];rfl
theorem findNow_int {kt:TypeId} {kd:IntKind} (a:Int) : ∀(l:MapL) (i:Nat),(∀e∈l,∃b,e.1=.int kd b)→(Instr.findNow (.int kd) (.int kd a) (keyEntries l) i).map (fun r=>r.map (·.1))=some ((place l (.int kd a)).map (· + i))
 | [],_,_=>rfl
 | e :: l,i,h=>by
  obtain⟨b,hb⟩:=h e (by simp)
  have e1:keyEntries (e :: l) = { key:=e.1,val:=.nilIface,born:=0 } :: keyEntries l:=rfl
  rw[e1]
  unfold Instr.findNow
  simp only[Instr.sameNow,hb,if_true]
  unfold place
  by_cases h1:a=b
  ·have h2:(a == b)=true:=by simpa using h1
   rw[h2]
   simp[h1,hb]
  ·have h2:(a == b)=false:=by simpa using h1
   rw[h2]
   have h3 : ¬e.1=.int kd a:=by rw[hb];intro hh;cases hh;exact h1 rfl
   rw[if_neg h3]
   simp only
   rw[findNow_int (kt:=kt) a l (i+1) fun e he=>h e (by simp[he])]
   cases place l (.int kd a) with
   | none=>rfl
   | some j=>simp;omega
theorem pr_checkKey_int {kt:TypeId} {kd:IntKind} (hu:P.underlying kt=some (.int kd)) (b:Bool) (a:Int) (n:Nat):pureRun P (Instr.checkKey b (n+1) kt (.int kd a))=some ():=by
 unfold Instr.checkKey
 rw[pr_bind (pr_underlying hu)]
 rfl
theorem keyT_int {kt:TypeId} {kd:IntKind} (hu:P.underlying kt=some (.int kd)):KeyT P kt fun k => ∃a,k=.int kd a:=by
 refine⟨?_,?_⟩
 ·rintro k ⟨a,rfl⟩
  exact⟨rfl,by simp[Instr.sameBits],fun b=>pr_checkKey_int hu b a 9999⟩
 ·rintro k l ⟨a,rfl⟩ hl
  have h1:=findNow_int (kt:=kt) (kd:=kd) a l 0 hl
  unfold Instr.findKey
  rw[pr_bind (pr_underlying hu)]
  cases hf:Instr.findNow (.int kd) (.int kd a) (keyEntries l) 0 with
  | none=>rw[hf] at h1;cases h1
  | some r =>
   rw[hf] at h1
   simp only
   rw[pr_pure]
   simpa using h1
theorem pr_loopUnit {n:Nat} (body:Nat→PUnit→Sem (ForInStep PUnit)) (hb : ∀i,i<n → ∀r,pureRun P (body i r)=some (.yield ⟨⟩)) : ∀is:List Nat,(∀i∈is,i<n)→pureRun P (forIn is PUnit.unit body)=some ⟨⟩:=by
 intro is
 induction is with
 | nil=>intro _;rfl
 | cons i is ih =>
  intro hi
  rw[List.forIn_cons,pr_bind (hb i (hi i (by simp)) _)]
  exact ih fun j hj=>hi j (by simp[hj])
theorem pr_checkKey_arr {kt e:TypeId} {n:Nat} {kd:IntKind} (hT:P.underlying kt=some (.array n e)) (he:P.underlying e=some (.int kd)) (hs:sizeT P e=some 1) (b:Bool) (xs:List Int) (hx:xs.length=n) (d:Nat) :
  pureRun P (Instr.checkKey b (d+2) kt (.agg (xs.map (.int kd)).toArray))=some ():=by
 unfold Instr.checkKey
 rw[pr_bind (pr_underlying hT)]
 simp only[Std.Legacy.Range.forIn_eq_forIn_range',Std.Legacy.Range.size,Nat.sub_zero,Nat.add_one_sub_one,Nat.div_one]
 rw[pr_bind (pr_loopUnit (n:=n) _ (fun i hi r=>?_) _ (fun i hi=>by rw[List.mem_range'_1] at hi;omega))]
 ·rfl
 ·have hxi:(xs.map (Value.int kd)).toArray[i*1]?=some (.int kd (xs[i]'(by omega))):=by simp[hx,hi]
  rw[pr_bind (pr_sizeOf hs),pr_bind (pr_part he hxi),pr_bind (pr_checkKey_int he b _ d)]
  rfl
theorem map_int_inj {kd:IntKind} : ∀{a b:List Int},a.map (Value.int kd)=b.map (Value.int kd)→a=b
 | [],[],_=>rfl
 | [],_ :: _,h=>by cases h
 | _ :: _,[],h=>by cases h
 | x :: a,y :: b,h=>by
  simp only[List.map_cons,List.cons.injEq,Value.int.injEq,true_and] at h
  rw[h.1,map_int_inj h.2]
theorem findAsking_arr {kt e:TypeId} {n:Nat} {kd:IntKind} (hT:P.underlying kt=some (.array n e)) (he:P.underlying e=some (.int kd)) (hs:sizeT P e=some 1) (xs:List Int) (hx:xs.length=n) : ∀(l:MapL) (i:Nat),(∀e∈l,∃ys:List Int,ys.length=n∧e.1=.agg (ys.map (.int kd)).toArray) →
  (pureRun P (Instr.findAsking kt (.agg (xs.map (.int kd)).toArray) (keyEntries l) i)).map (fun r=>r.map (·.1))=some ((place l (.agg (xs.map (.int kd)).toArray)).map (· + i))
 | [],_,_=>rfl
 | e0 :: l,i,h=>by
  obtain⟨ys,hy,hb⟩:=h e0 (by simp)
  have e1:keyEntries (e0 :: l) = { key:=e0.1,val:=.nilIface,born:=0 } :: keyEntries l:=rfl
  rw[e1]
  unfold Instr.findAsking
  have h2:pureRun P (Op.equal kt (.agg (xs.map (.int kd)).toArray) (.agg (ys.map (.int kd)).toArray))=some (decide (xs=ys)):=pr_equal_arr hT he hs 9998 xs ys hx hy
  simp only[hb]
  rw[pr_bind h2]
  unfold place
  by_cases h1:xs=ys
  ·simp only[h1,decide_true,if_true,hb]
   rw[pr_pure]
   simp
  ·have h3 : ¬e0.1=.agg (xs.map (.int kd)).toArray:=by
    rw[hb];intro hh
    have h4:ys.map (Value.int kd)=xs.map (Value.int kd):=by simpa using hh
    exact h1 (map_int_inj h4).symm
   rw[if_neg h3]
   simp only[h1,decide_false,Bool.false_eq_true,if_false]
   rw[findAsking_arr hT he hs xs hx l (i+1) fun e he=>h e (by simp[he])]
   cases place l (.agg (xs.map (.int kd)).toArray) with
   | none=>rfl
   | some j=>simp;omega
theorem keyT_arr {kt e:TypeId} {n:Nat} {kd:IntKind} (hT:P.underlying kt=some (.array n e)) (he:P.underlying e=some (.int kd)) (hs:sizeT P e=some 1):KeyT P kt fun k => ∃ys:List Int,ys.length=n∧k=.agg (ys.map (.int kd)).toArray:=by
 refine⟨?_,?_⟩
 ·rintro k ⟨xs,hx,rfl⟩
  refine⟨by simp[plain,scal],?_,fun b=>pr_checkKey_arr hT he hs b xs hx 9998⟩
  unfold Instr.sameBits
  have : ∀l:List Int,(((l.map (Value.int kd)).zip (l.map (Value.int kd))).all fun p=>Instr.sameBits 9999 p.1 p.2)=true:=by
   intro l
   induction l with
   | nil=>rfl
   | cons a l ih =>
    rw[List.map_cons,List.zip_cons_cons,List.all_cons,ih]
    simp[Instr.sameBits]
  simp only[beq_self_eq_true,Bool.true_and]
  exact this xs
 ·rintro k l ⟨xs,hx,rfl⟩ hl
  unfold Instr.findKey
  rw[pr_bind (pr_underlying hT)]
  cases l with
  | nil=>rfl
  | cons e0 l =>
   have hf:Instr.findNow (.array n e) (.agg (xs.map (.int kd)).toArray) (keyEntries (e0 :: l)) 0=none:=rfl
   rw[hf]
   simp only
   have h1:=findAsking_arr hT he hs xs hx (e0 :: l) 0 hl
   rw[h1]
   cases place (e0 :: l) (.agg (xs.map (.int kd)).toArray)<;>rfl
end
def busyL (r:ILoop):ILoop:={ r with state:=.busy }
@[reducible] def bodyK (k:Nat) (r:ILoop) (K:Value→IH→Prop) (e:IExit) (_:Fr) (h:IH):Prop :=
 e=.normal∧h.ext.get k=some (.loop (busyL r))∧K (.bool true) (h.put k (.loop r))
theorem get_loop {h:IH} {k:Nat} {r:ILoop} (hg:h.ext.get k=some (.loop r)):loopOf h k=some r:=by simp[loopOf,hg]
theorem wv_yield1 {P:Program} {k:Nat} {r:ILoop} {id:Nat} {d p:Tmp} {ty:TypeId} {pos:String} {af:Array Edge} (hst:r.state=.ready) (hpe:r.pending=none) (hps:r.params = [p])
  (ha:r.assign=.region id #[⟨some d,.assign (.tmp p),ty,pos,af,none⟩] false) (hd:d<r.nt) (hp:p<r.nt) (v:Value) (h:IH) (K:Value→IH→Prop) (hg:h.ext.get k=some (.loop r))
  (w:wpC P r.fn r.nt (some k) r.body ((d,v) :: (p,v) :: r.fr) (h.put k (.loop (busyL r))) (bodyK k r K)):WV P (.func (.yield (2*k)) #[] #[]) [v] h K:=by
 obtain⟨⟨e,fr,h1⟩,⟨N,hN⟩,rfl,hb,hk⟩:=wpC_sound w
 refine⟨(.bool true,h1.put k (.loop r)),⟨N+1,fun n hn=>?_⟩,hk⟩
 obtain⟨n,rfl⟩ : ∃m,n=m+1:=⟨n - 1,by omega⟩
 have h2:=hN n (by omega)
 have hp':Nat.blt p r.nt=true:=by simp only[Nat.blt,Nat.ble_eq];exact hp
 have hd':Nat.blt d r.nt=true:=by simp only[Nat.blt,Nat.ble_eq];exact hd
 have e1:(2*k % 2 == 0)=true:=by simp
 have e2:2*k / 2=k:=by omega
 have e3:putParams r.nt r.params [v] r.fr=some ((p,v) :: r.fr):=by
  rw[hps];simp[putParams,fput,hp']
 have e4:evC (E0 P) (callV (E0 P) n) r.fn r.nt (some k) n r.assign ((p,v) :: r.fr) h=some (.normal,(d,v) :: (p,v) :: r.fr,h):=by
  rw[ha]
  simp[evC,headFr0,runOps,stepOp,wantedI,runOp,iop,opd,fput,hd']
 have e5:(r.state == LoopState.ready)=true:=by rw[hst];rfl
 have e6:({ h with ext:=h.ext.set k (.loop { r with state:=.busy }) }:IH)=h.put k (.loop (busyL r)):=rfl
 show(bif 2*k % 2 == 0 then callYield (E0 P) (callV (E0 P) n) n (2*k / 2) ((#[]:Array Value).toList ++ [v]) h else none)=_
 rw[e1,cond_true,e2]
 simp only at h2
 simp only[callYield,get_loop hg,e3,e4,e5,cond_true,e6,h2,get_loop hb,List.nil_append]
 have e7:({ busyL r with state:=.ready,pending:=none }:ILoop)=r:=by
  cases r;simp only at hst hpe;subst hst;subst hpe;rfl
 rw[e7];rfl
theorem range1 {P:Program} {fn:FuncId} {nt:Nat} {rd:Option Nat} {f:Operand} {id:Nat} {d p:Tmp} {ty:TypeId} {pos:String} {af:Array Edge} {body:Code} {fr:Fr} {h:IH} {Q:IExit→Fr→IH→Prop} {fv:Value} (hf:opd fr f=some fv) (hrd:roundOK h rd=true) (hd:d<nt) (hp:p<nt)
  (w : ∀(r:ILoop) (y:Value),(∀v h1 K,h1.ext.get h.n=some (.loop r)→Do (wpC P fn nt (some h.n) body ((d,v) :: (p,v) :: fr) (h1.put h.n (.loop (busyL r)))) (bodyK h.n r K) nx→WV P y [v] h1 K) →
   WV P fv [y] (h.new (.loop r)) fun _ h1=>h1.ext.get h.n=some (.loop r)∧Q .normal fr (h1.put h.n .dead)) :
  Do (WRange P fn nt rd f #[p] (.region id #[⟨some d,.assign (.tmp p),ty,pos,af,none⟩] false) body fr h) Q nx:=by
 have w1:=w { state:=.ready,pending:=none,fn,nt,fr,params:=[p],assign:=.region id #[⟨some d,.assign (.tmp p),ty,pos,af,none⟩] false,body } (.func (.yield (2*h.n)) #[] #[])
  fun v h1 K hg w=>wv_yield1 (r:={ state:=.ready,pending:=none,fn,nt,fr,params:=[p],assign:=.region id #[⟨some d,.assign (.tmp p),ty,pos,af,none⟩] false,body }) rfl rfl rfl rfl hd hp v h1 K hg w
 obtain⟨⟨v,h1⟩,⟨N,hN⟩,hg,hq⟩:=w1
 refine⟨(.normal,fr,h1.put h.n .dead),⟨N,fun n hn=>?_⟩,hq⟩
 have h2:=hN n hn
 simp only at h2
 simp only[rangeFn,hrd,cond_true,hf]
 show(match callV (E0 P) n fv [_] _ with|none=>none|some (_,h1)=>_)=_
 rw[h2]
 simp only[get_loop hg]
 rfl
structure Mem (m:Nat) (h h':IH):Prop where
 n:h.n≤h'.n
 base:h'.base=h.base
 get : ∀k,k<h.n→k≠m→h'.ext.get k=h.ext.get k
 fams : ∀f,f<h.n→h'.fams.get f=h.fams.get f
theorem Ext.mem {h h':IH} (e:Ext h h') (m:Nat):Mem m h h':=⟨e.n,e.base,fun k hk _=>e.get k hk,e.fams⟩
theorem Mem.refl (m:Nat) (h:IH):Mem m h h:=(Ext.refl h).mem m
theorem Mem.trans {m:Nat} {a b c:IH} (x:Mem m a b) (y:Mem m b c):Mem m a c :=
 ⟨Nat.le_trans x.n y.n,y.base.trans x.base,fun k hk hm=>(y.get k (Nat.lt_of_lt_of_le hk x.n) hm).trans (x.get k hk hm),fun f hf=>(y.fams f (Nat.lt_of_lt_of_le hf x.n)).trans (x.fams f hf)⟩
theorem Mem.ext {m:Nat} {a h h':IH} (e:Ext a h) (hm:a.n≤m) (x:Mem m h h'):Ext a h' :=
 ⟨Nat.le_trans e.n x.n,x.base.trans e.base,fun k hk=>(x.get k (Nat.lt_of_lt_of_le hk e.n) (by omega)).trans (e.get k hk),fun f hf=>(x.fams f (Nat.lt_of_lt_of_le hf e.n)).trans (e.fams f hf)⟩
theorem Mem.new {m:Nat} {a b:IH} (x:Mem m a b) (o:IObj):Mem m a (b.new o) :=
 ⟨Nat.le_trans x.n (Nat.le_succ _),x.base,fun k hk hm=>by rw[get_new,if_neg (by have:=x.n;omega)];exact x.get k hk hm,x.fams⟩
theorem Mem.put {m:Nat} {a b:IH} (x:Mem m a b) {k:Nat} (hk:a.n≤k∨k=m) (o:IObj):Mem m a (b.put k o) :=
 ⟨x.n,x.base,fun j hj hm=>by rw[get_put,if_neg (by omega)];exact x.get j hj hm,x.fams⟩
theorem Mem.cells {m:Nat} {a b:IH} (x:Mem m a b) {k:Nat} (hk:k<a.n) (hm:k≠m):b.cells k=a.cells k:=by simp[IH.cells,x.get k hk hm]
theorem Mem.row {m:Nat} {a b:IH} (x:Mem m a b) {i:Nat} (hi:i % 2=1∨(i<2*a.n∧i / 2≠m)):b.row i=a.row i:=by
 simp only[IH.row,x.base,cond_eq_ite,beq_iff_eq]
 by_cases h1:i % 2=1
 ·rw[if_pos h1,if_pos h1]
 ·rw[if_neg h1,if_neg h1,x.get _ (by omega) (by omega)]
end Go.Id

/-! Weakest preconditions over the ideal machine, twelfth part: a store into a list that grows. -/
namespace Go.Id
open Go
theorem Acc.set {h:IH} {n0:Nat} {v:Value} {n:Nat} {cs:List Value} (a:Acc h n0 1 v n cs) {P:Program} {t:TypeId} (hT:sizeT P t=some 1) {i:Nat} (hi:i<n) {x:Value} (hx:x.cells = #[x]) (hc:cellOK x=true) {h0':IH} (e0:Ext h0' h) (hn0:h0'.n≤n0) :
  ∃h',store P h t (elemAddr v i) x=some h'∧Acc h' n0 1 v n (cs.set i x)∧Ext h0' h'∧h'.n=h.n:=by
 obtain⟨hz,hl,⟨rfl,rfl⟩|⟨k,fam,rfl,hn,h1,h2,h3,h4⟩⟩:=a
 ·omega
 ·have hsp:IH.splice cs i [x]=cs.set i x:=splice_set (by omega)
  have k2:2*k / 2=k:=by omega
  have k1:(2*k % 2 == 1)=false:=by simp
  have hst:store P h t (elemAddr (.slice (some ⟨2*k,0,none⟩) n (2*n)) i) x=h.wr (2*k) i [x]:=by
   simp only[elemAddr,Nat.zero_add,store,asAddr,ptr,hT,hx]
   simp[hc]
  have hle:Nat.ble (i + [x].length) cs.length=true:=by rw[Nat.ble_eq];simp;omega
  rw[hst]
  cases fam with
  | none =>
   refine⟨h.put k (.cells (cs.set i x) 1 none),?_,⟨hz,by simpa using hl,.inr ⟨k,none,rfl,hn,h1,h2,get_put_same _ _ rfl,trivial⟩⟩,e0.put (by omega) _,rfl⟩
   simp only[IH.wr,k1,k2,h3,hle,cond_true,cond_false,hsp];rfl
  | some f =>
   obtain⟨a1,a2,rest,a3,a4⟩:=h4
   refine⟨{ h with ext:=(IH.killAll h.ext (((k :: rest).filter (· != k)))).set k (.cells (cs.set i x) 1 none) },?_,⟨hz,by simpa using hl,.inr ⟨k,none,rfl,hn,h1,h2,?_,trivial⟩⟩,⟨e0.n,e0.base,fun j hj=>?_,e0.fams⟩,rfl⟩
   ·simp only[IH.wr,k1,k2,h3,hle,cond_true,cond_false,hsp,a3]
   ·simp[Tr.get_set]
   ·have hjk:j≠k:=by omega
    rw[Tr.get_set,if_neg hjk,get_killAll,if_neg]
    ·exact e0.get j hj
    ·intro hm
     simp only[List.mem_filter,List.mem_cons,bne_iff_ne,ne_eq] at hm
     rcases hm with⟨rfl|hm,hne⟩
     ·exact hne rfl
     ·have:=a4 j hm;omega
end Go.Id

/-! Weakest preconditions over the ideal machine: functions without a text of their own. -/
namespace Go.Id
open Go
theorem WV.and {P:Program} {fv:Value} {vs:List Value} {h:IH} {K L:Value→IH→Prop} (a:WV P fv vs h K) (b:WV P fv vs h L):WV P fv vs h fun v h'=>K v h'∧L v h':=by
 obtain⟨x,⟨N,hN⟩,kx⟩:=a
 obtain⟨y,⟨M,hM⟩,ky⟩:=b
 have h1:=hN (max N M) (Nat.le_max_left _ _)
 have h2:=hM (max N M) (Nat.le_max_right _ _)
 rw[h1] at h2
 cases h2
 exact⟨x,⟨N,hN⟩,kx,ky⟩
def blockOf:Value→Option Nat
 | .slice (some a) _ _=>some a.block
 | _=>none
theorem resliced_block {size:Nat} {b:Bool} {x r:Value} {lo hi mx:Option Value} (h:resliced size b x lo hi mx=some r):blockOf r=blockOf x:=by
 unfold resliced at h
 split at h
 ·simp only[cond_eq_ite] at h
  split at h
  ·split at h
   ·cases h;rfl
   ·cases h
  ·cases h
 ·split at h
  ·cases h
  ·rename_i b o n c _ _ _ _
   simp only[cond_eq_ite] at h
   repeat' split at h
   all_goals first|(cases h;rfl)|cases h
 ·cases h
theorem slice_block {P:Program} {t e:TypeId} (hu:P.underlying t=some (.slice e)) {h:IH} {x r:Value} {lo hi mx:Option Value} (hs:sliceOp P h t x lo hi mx=some r):blockOf r=blockOf x:=by
 simp only[sliceOp,hu] at hs
 split at hs
 ·exact resliced_block hs
 ·cases hs
end Go.Id

/-! Contracts: the reference's long integers. -/
namespace Go.Id
open Go
abbrev KN (n:Nat):Value:=.int .i64 (n:Int)
def DigU (h:IH) (v:Value) (ds:List Nat):Prop:=SlOf h 1 v ds.length (ds.map KN)∧Digs ds∧ds.length≤1100000
def Dig (h:IH) (v:Value) (x:Nat):Prop:=∃ds,DigU h v ds∧Norm ds∧valD ds=x
theorem DigU.keep {h h':IH} {v:Value} {ds:List Nat} (d:DigU h v ds) (e:Keep h h'):DigU h' v ds:=⟨d.1.keep e,d.2⟩
theorem Dig.keep {h h':IH} {v:Value} {x:Nat} (d:Dig h v x) (e:Keep h h'):Dig h' v x:=let ⟨ds,a,b⟩:=d;⟨ds,a.keep e,b⟩
theorem getD_some {ds:List Nat} {i x:Nat} (h:ds[i]?=some x):ds.getD i 0=x:=by rw[List.getD_eq_getElem?_getD,h];rfl
theorem get_some {ds:List Nat} {i:Nat} (h:i<ds.length):ds[i]?=some (ds.getD i 0):=by
 rw[List.getD_eq_getElem?_getD,List.getElem?_eq_getElem h];rfl
theorem map_get {α β:Type} (f:α→β) (l:List α) (i:Nat):(l.map f)[i]?=(l[i]?).map f:=List.getElem?_map
theorem cut_ok {h:IH} {v:Value} {ds:List Nat} (hd:DigU h v ds):WV Proofs.Tryd.prog (.func (.func 91) #[] #[]) [v] h fun r h'=>h'=h∧Dig h r (valD ds):=by
 refine enter (nt:=21) (rs:=[.tmp 2]) Proofs.Tryd.func91 rfl rfl rfl (by simp) ?_
 simp -dsimp (disch:=omega) only[wpS,Nat.reduceEqDiff,hd.1.len sl33]
 refine loop (fun m fr h1=>h1=h∧m≤ds.length∧fget fr 3=some (KN m)∧fget fr 0=some v ∧ ∀j,m≤j→ds.getD j 0=0) ds.length ⟨rfl,Nat.le_refl _,by simp,by simp,fun j hj=>getD_of_ge hj⟩ ?_
 rintro m fr h1 ⟨rfl,hm,f3,f0,hz⟩
 have fin : ∀n:Nat,n≤ds.length→(∀j,n≤j→ds.getD j 0=0)→(n=0∨ds.getD (n - 1) 0≠0) → ∃r,sliceOp Proofs.Tryd.prog h1 33 v none (some (KN n)) none=some r∧Dig h1 r (valD ds):=by
  intro n hn hz hne
  obtain⟨r,hr,hs⟩:=hd.1.slice (Keep.refl _) (P:=Proofs.Tryd.prog) (t:=33) u33 sz3 (l:=0) (m:=n) (Nat.zero_le _) hn (lo:=none) (hi:=some (KN n)) rfl (fun c hc=>natOf_nat (k:=.i64) (by omega))
  refine⟨r,hr,ds.take n,⟨?_,hd.2.1.take n,by simp;have:=hd.2.2;omega⟩,?_,valD_take hn hz⟩
  ·have hl:(ds.take n).length=n:=by simp[hn]
   rw[hl]
   simpa [List.map_take] using hs
  ·rcases hne with rfl|hne
   ·left;simp
   ·by_cases h0:n=0
    ·subst h0;left;simp
    ·right
     have hl:(ds.take n).length=n:=by simp[hn]
     rw[hl,getD_take,if_pos (by omega)];exact hne
 have hb:=hd.2.2
 rcases Nat.eq_zero_or_pos m with rfl|hp
 ·obtain⟨r,hr,hD⟩:=fin 0 hm hz (.inl rfl)
  simp -dsimp (disch:=omega) only[wpS,wpT,Nat.reduceEqDiff,f3,f0,hr]
  exact hD
 ·obtain⟨k,rfl⟩ : ∃k,m=k+1:=⟨m - 1,by omega⟩
  have h2:IntKind.i64.wrap (((k+1:Nat):Int) - 1)=(k:Int):=by rw[wrap_i64 (by omega)];omega
  simp -dsimp (disch:=omega) only[wpS,wpT,Nat.reduceEqDiff,f3,f0,h2,hd.1.idx es33 (show k<ds.length by omega),hd.1.ld (Keep.refl _) (P:=Proofs.Tryd.prog) (t:=3) (c:=k) (by simp<;>omega) ag3,map_get,get_some (show k<ds.length by omega)]
  refine bq_intro (fun hc=>?_) (fun hc=>?_)
  ·simp -dsimp (disch:=omega) only[wpS,Nat.reduceEqDiff,f3,h2]
   refine⟨k,by omega,rfl,by omega,by simp,by simp[f0],fun j hj=>?_⟩
   by_cases hjk:j=k
   ·subst hjk;simpa using hc
   ·exact hz j (by omega)
  ·obtain⟨r,hr,hD⟩:=fin (k+1) hm hz (.inr (by simpa using hc))
   simp -dsimp (disch:=omega) only[wpS,wpT,Nat.reduceEqDiff,f3,f0,hr]
   exact hD
theorem cut_block {h:IH} {v:Value} {ds:List Nat} (hd:DigU h v ds):WV Proofs.Tryd.prog (.func (.func 91) #[] #[]) [v] h fun r h'=>blockOf r=blockOf v:=by
 have hb:=hd.2.2
 refine enter (nt:=21) (rs:=[.tmp 2]) Proofs.Tryd.func91 rfl rfl rfl (by simp) ?_
 simp -dsimp (disch:=omega) only[wpS,Nat.reduceEqDiff,hd.1.len sl33]
 refine loop (fun m fr h1=>h1=h∧m≤ds.length∧fget fr 3=some (KN m)∧fget fr 0=some v) ds.length ⟨rfl,Nat.le_refl _,by simp,by simp⟩ ?_
 rintro m fr h1 ⟨rfl,hm,f3,f0⟩
 have fin : ∀n:Nat,n≤ds.length → ∃r,sliceOp Proofs.Tryd.prog h1 33 v none (some (KN n)) none=some r∧blockOf r=blockOf v:=by
  intro n hn
  obtain⟨r,hr,hs⟩:=hd.1.slice (Keep.refl _) (P:=Proofs.Tryd.prog) (t:=33) u33 sz3 (l:=0) (m:=n) (Nat.zero_le _) hn (lo:=none) (hi:=some (KN n)) rfl (fun c hc=>natOf_nat (k:=.i64) (by omega))
  exact⟨r,hr,slice_block u33 hr⟩
 rcases Nat.eq_zero_or_pos m with rfl|hp
 ·obtain⟨r,hr,hD⟩:=fin 0 hm
  simp -dsimp (disch:=omega) only[wpS,wpT,Nat.reduceEqDiff,f3,f0,hr]
  exact hD
 ·obtain⟨k,rfl⟩ : ∃k,m=k+1:=⟨m - 1,by omega⟩
  have h2:IntKind.i64.wrap (((k+1:Nat):Int) - 1)=(k:Int):=by rw[wrap_i64 (by omega)];omega
  simp -dsimp (disch:=omega) only[wpS,wpT,Nat.reduceEqDiff,f3,f0,h2,hd.1.idx es33 (show k<ds.length by omega),hd.1.ld (Keep.refl _) (P:=Proofs.Tryd.prog) (t:=3) (c:=k) (by simp<;>omega) ag3,map_get,get_some (show k<ds.length by omega)]
  refine bq_intro (fun hc=>?_) (fun hc=>?_)
  ·simp -dsimp (disch:=omega) only[wpS,Nat.reduceEqDiff,f3,h2]
   exact⟨k,by omega,rfl,by omega,by simp,by simp[f0]⟩
  ·obtain⟨r,hr,hD⟩:=fin (k+1) hm
   simp -dsimp (disch:=omega) only[wpS,Nat.reduceEqDiff,f3,f0,hr]
   exact hD
def LongIs (h:IH) (v:Value) (z:Int):Prop:=∃s,v=.agg #[.bool (decide (z<0)),s]∧Dig h s z.natAbs
theorem LongIs.keep {h h':IH} {v:Value} {z:Int} (d:LongIs h v z) (e:Keep h h'):LongIs h' v z:=let ⟨s,a,b⟩:=d;⟨s,a,b.keep e⟩
theorem made_ok {h:IH} {v:Value} {ds:List Nat} (hd:DigU h v ds) (b:Bool):WV Proofs.Tryd.prog (.func (.func 76) #[] #[]) [.bool b,v] h fun r h'=>Ext h h'∧LongIs h' r (if b then -(valD ds:Int) else valD ds):=by
 refine enter (nt:=15) (rs:=[.cell 4 101]) Proofs.Tryd.func76 rfl rfl rfl (by simp) ?_
 simp -dsimp (disch:=omega) only[wpS,Nat.reduceEqDiff,Nat.reduceAdd,zc101]
 refine call (cut_ok (hd.keep ((Keep.refl h).new _))) ?_
 rintro r h1 ⟨rfl,ds',hD,hN,hv⟩
 have hl:=hD.2.2
 have hz:=hN.nil_iff
 have hk : ∀o,Keep (h.new (.cells [.bool false,.slice none 0 0] 0 none)) ((h.new (.cells [.bool false,.slice none 0 0] 0 none)).put h.n o):=fun o=>(Keep.refl _).put (get_new_same _ _ rfl) o
 cases b
 ·simp -dsimp (disch:=omega) only[wpS,wpT,Nat.reduceEqDiff,Nat.reduceLeDiff,Nat.reduceAdd,bv101,pl101_0,pl101_1,st101,ld101,hD.1.cells,hD.1.cok]
  refine⟨((Ext.refl h).new _).put (Nat.le_refl _) _,r,?_,ds',hD.keep (hk _),hN,?_⟩
  ·simp
  ·simp[hv]
 ·simp -dsimp (disch:=omega) only[wpS,wpT,Nat.reduceEqDiff,Nat.reduceLeDiff,Nat.reduceAdd,bv101,pl101_0,pl101_1,st101,ld101,hD.1.cells,hD.1.cok,hD.1.len sl33]
  refine⟨((Ext.refl h).new _).put (Nat.le_refl _) _,r,?_,ds',hD.keep (hk _),hN,?_⟩
  ·rw[hv] at hz
   have:0<ds'.length↔0<valD ds:=by
    cases ds' with
    | nil=>simp at hz;simp[hz]
    | cons x l=>simp at hz;simp;omega
   simp[this]
  ·simp[hv]
theorem order_ok {h:IH} {v w:Value} {a b:List Nat} (ha:DigU h v a) (hb:DigU h w b) (na:Norm a) (nb:Norm b) :
  WV Proofs.Tryd.prog (.func (.func 74) #[] #[]) [v,w] h fun r h'=>h'=h ∧ ∃c:Int,r=KI c∧(c<0↔valD a<valD b)∧(c=0↔valD a=valD b) ∧ -9223372036854775808≤c∧c≤9223372036854775807:=by
 have la:=ha.2.2
 have lb:=hb.2.2
 refine enter (nt:=41) (rs:=[.tmp 4]) Proofs.Tryd.func74 rfl rfl rfl (by simp) ?_
 simp -dsimp (maxSteps:=1000000) (disch:=first|omega|(simp only[new_n,put_n];omega)|decide +kernel|(repeat first|rw[new_n]|rw[put_n])) only[wpS,Nat.reduceEqDiff,Nat.reduceAdd,ha.1.len sl33,hb.1.len sl33]
 refine bq_intro ?_ ?_<;>intro hc<;>simp only[bne_iff_ne,bne_eq_false_iff_eq,ne_eq] at hc
 ·simp -dsimp (maxSteps:=1000000) (disch:=first|omega|(simp only[new_n,put_n];omega)|decide +kernel|(repeat first|rw[new_n]|rw[put_n])) only[wpS,wpT,Nat.reduceEqDiff,ha.1.len sl33,hb.1.len sl33]
  refine⟨_,rfl,?_,?_,by omega,by omega⟩
  ·constructor
   ·intro h1;exact lt_of_len ha.2.1 nb (by omega)
   ·intro h1
    have:=na.len_le hb.2.1 (Nat.le_of_lt h1)
    omega
  ·constructor
   ·intro h1;omega
   ·intro h1
    have h2:=na.len_le hb.2.1 (Nat.le_of_eq h1)
    have h3:=nb.len_le ha.2.1 (Nat.le_of_eq h1.symm)
    omega
 ·have hl:a.length=b.length:=by omega
  simp -dsimp (maxSteps:=1000000) (disch:=first|omega|(simp only[new_n,put_n];omega)|decide +kernel|(repeat first|rw[new_n]|rw[put_n])) only[wpS,wpT,Nat.reduceEqDiff,ha.1.len sl33]
  refine loop (fun m fr h1=>h1=h∧m≤a.length∧fget fr 5=some (KI ((m:Int) - 1))∧fget fr 0=some v∧fget fr 1=some w ∧ ∀j,m≤j→j<a.length→a.getD j 0=b.getD j 0) a.length ⟨rfl,Nat.le_refl _,by simp,by simp,by simp,fun j hj hj2=>by omega⟩ ?_
  rintro m fr h1 ⟨rfl,hm,f5,f0,f1,hz⟩
  rcases Nat.eq_zero_or_pos m with rfl|hp
  ·simp -dsimp (maxSteps:=1000000) (disch:=first|omega|(simp only[new_n,put_n];omega)|decide +kernel|(repeat first|rw[new_n]|rw[put_n])) only[wpS,wpT,Nat.reduceEqDiff,f5]
   refine⟨_,rfl,?_,?_,by omega,by omega⟩
   ·have:=eq_of_all hl (fun j hj=>hz j (Nat.zero_le _) hj);omega
   ·have:=eq_of_all hl (fun j hj=>hz j (Nat.zero_le _) hj);omega
  ·obtain⟨k,rfl⟩ : ∃k,m=k+1:=⟨m - 1,by omega⟩
   have h2:(((k+1:Nat):Int) - 1)=(k:Int):=by omega
   rw[h2] at f5
   have da:=getD_lt ha.2.1 k
   have db:=getD_lt hb.2.1 k
   simp -dsimp (maxSteps:=1000000) (disch:=first|omega|(simp only[new_n,put_n];omega)|decide +kernel|(repeat first|rw[new_n]|rw[put_n])) only[wpS,wpT,Nat.reduceEqDiff,f5,f0,f1,ha.1.idx es33 (show k<a.length by omega),ha.1.ld (Keep.refl _) (P:=Proofs.Tryd.prog) (t:=3) (c:=k) (by simp<;>omega) ag3,hb.1.idx es33 (show k<b.length by omega),hb.1.ld (Keep.refl _) (P:=Proofs.Tryd.prog) (t:=3) (c:=k) (by simp<;>omega) ag3,map_get,get_some (show k<a.length by omega),get_some (show k<b.length by omega)]
   refine bq_intro ?_ ?_<;>intro hc<;>simp only[bne_iff_ne,bne_eq_false_iff_eq,ne_eq] at hc
   ·simp -dsimp (maxSteps:=1000000) (disch:=first|omega|(simp only[new_n,put_n];omega)|decide +kernel|(repeat first|rw[new_n]|rw[put_n])) only[wpS,wpT,Nat.reduceEqDiff,f5,f0,f1,ha.1.idx es33 (show k<a.length by omega),ha.1.ld (Keep.refl _) (P:=Proofs.Tryd.prog) (t:=3) (c:=k) (by simp<;>omega) ag3,hb.1.idx es33 (show k<b.length by omega),hb.1.ld (Keep.refl _) (P:=Proofs.Tryd.prog) (t:=3) (c:=k) (by simp<;>omega) ag3,map_get,get_some (show k<a.length by omega),get_some (show k<b.length by omega)]
    have key:(a.getD k 0<b.getD k 0→valD a<valD b)∧(b.getD k 0<a.getD k 0→valD b<valD a) :=
     ⟨fun h=>lt_of_top ha.2.1 hl (by omega) h (fun j x y=>hz j (by omega) y),fun h=>lt_of_top hb.2.1 hl.symm (by omega) h (fun j x y=>(hz j (by omega) (by omega)).symm)⟩
    refine⟨_,rfl,?_,?_,by omega,by omega⟩
    ·constructor
     ·intro h1;exact key.1 (by omega)
     ·intro h1
      apply Classical.byContradiction;intro h3
      have:=key.2 (by omega)
      omega
    ·constructor
     ·intro h1;omega
     ·intro h1
      rcases Nat.lt_or_ge (a.getD k 0) (b.getD k 0) with h3|h3
      ·have:=key.1 h3;omega
      ·have:=key.2 (by omega);omega
   ·simp -dsimp (maxSteps:=1000000) (disch:=first|omega|(simp only[new_n,put_n];omega)|decide +kernel|(repeat first|rw[new_n]|rw[put_n])) only[wpS,wpT,Nat.reduceEqDiff,f5]
    refine⟨k,by omega,rfl,by omega,by simp,by simp[f0],by simp[f1],fun j h3 h4=>?_⟩
    by_cases hjk:j=k
    ·subst hjk;exact Int.ofNat.inj hc
    ·exact hz j (by omega) h4
end Go.Id

/-! Contracts: the reference's long integers, second part: sums and differences of digits. -/
namespace Go.Id
open Go
theorem map_snoc (os:List Nat) (d:Nat):os.map KN ++ [KN d]=(os ++ [d]).map KN:=by simp
theorem Acc.block {h:IH} {n0 sz:Nat} {v:Value} {n:Nat} {cs:List Value} (a:Acc h n0 sz v n cs) {k:Nat} (hk:k<n0):blockOf v≠some (2*k):=by
 obtain⟨hz,hl,⟨rfl,_⟩|⟨j,fam,rfl,hn,h1,h2,h3,h4⟩⟩:=a
 ·intro h;cases h
 ·intro h
  have:2*j=2*k:=Option.some.inj h
  omega
theorem less_at {h:IH} {v w:Value} {a b:List Nat} (ha:DigU h v a) (hb:DigU h w b) (nb:Norm b) (hle:valD b≤valD a) :
  WV Proofs.Tryd.prog (.func (.func 75) #[] #[]) [v,w] h fun r h'=>(Ext h h'∧Dig h' r (valD a - valD b)) ∧ ∀k,k<h.n→blockOf r≠some (2*k):=by
 have la:=ha.2.2
 have lb:=hb.2.2
 refine enter (nt:=41) (rs:=[.tmp 4]) Proofs.Tryd.func75 rfl rfl rfl (by simp) ?_
 simp -dsimp (disch:=omega) only[wpS,Nat.reduceAdd]
 refine loop (fun m fr h1 => ∃(i bor:Nat) (os:List Nat) (out:Value),i+m=a.length∧fget fr 0=some v∧fget fr 1=some w∧fget fr 5=some out∧fget fr 6=some (KN bor)∧fget fr 7=some (KN i)∧bor≤1∧os.length=i∧Digs os ∧
  valT a i+bor*4294967296 ^ i=valT b i+valD os∧Acc h1 h.n 1 out i (os.map KN)∧Ext h h1) a.length ⟨0,0,[],.slice none 0 0,by simp,by simp,by simp,by simp,by simp,by simp,by omega,rfl,fun d hd=>(by cases hd),by simp[valT,valD],Acc.nil _ _ (by omega),Ext.refl _⟩ ?_
 rintro m fr h1 ⟨i,bor,os,out,him,f0,f1,f5,f6,f7,hbor,hos,hd,hv,hA,hE⟩
 simp -dsimp (disch:=omega) only[wpS,Nat.reduceEqDiff,f0,f7,ha.1.len sl33]
 refine bq_intro ?_ ?_<;>intro hc<;>simp only[decide_eq_true_eq,decide_eq_false_iff_not] at hc
 ·have hi:i<a.length:=by omega
  have da:=getD_lt ha.2.1 i
  have db:=getD_lt hb.2.1 i
  simp -dsimp (disch:=omega) only[wpS,wpT,Nat.reduceEqDiff,f0,f1,f6,f7,ha.1.idx es33 hi,ha.1.ld hE.keep (P:=Proofs.Tryd.prog) (t:=3) (c:=i) (by simpa using hi) ag3,map_get,get_some hi,hb.1.len sl33]
  refine bq_cut (fun fr2 h2=>h2=h1∧fget fr2 0=some v∧fget fr2 1=some w∧fget fr2 5=some out∧fget fr2 7=some (KN i)∧fget fr2 8=some (KI ((a.getD i 0:Int) - bor - (b.getD i 0:Int)))) (fun hc=>?_) (fun hc=>?_) ?_
  ·simp only[decide_eq_true_eq] at hc
   have hi2:i<b.length:=by omega
   simp -dsimp (disch:=omega) only[wpS,wpT,Nat.reduceEqDiff,f1,f7,hb.1.idx es33 hi2,hb.1.ld hE.keep (P:=Proofs.Tryd.prog) (t:=3) (c:=i) (by simpa using hi2) ag3,map_get,get_some hi2]
   exact⟨rfl,by simp[f0],by simp[f1],by simp[f5],by simp[f7],by simp⟩
  ·simp only[decide_eq_false_iff_not] at hc
   simp -dsimp (disch:=omega) only[wpS,wpT]
   exact⟨rfl,by simp[f0],by simp[f1],by simp[f5],by simp[f7],by rw[getD_of_ge (show b.length≤i by omega)];simp⟩
  ·rintro fr2 h2 ⟨rfl,f0,f1,f5,f7,f8⟩
   simp -dsimp (disch:=omega) only[wpS,Nat.reduceEqDiff,f8]
   refine bq_cut (fun fr3 h3=>h3=h2∧fget fr3 0=some v∧fget fr3 1=some w∧fget fr3 5=some out∧fget fr3 7=some (KN i) ∧ ∃d bor':Nat,fget fr3 8=some (KN d)∧fget fr3 6=some (KN bor')∧d<4294967296∧bor'≤1∧a.getD i 0+bor'*4294967296=b.getD i 0+bor+d) (fun hc=>?_) (fun hc=>?_) ?_
   ·simp only[decide_eq_true_eq] at hc
    simp -dsimp (disch:=omega) only[wpS,wpT,Nat.reduceEqDiff,f8]
    refine⟨rfl,by simp[f0],by simp[f1],by simp[f5],by simp[f7],a.getD i 0+4294967296 - bor - b.getD i 0,1,?_,by simp,by omega,by omega,by omega⟩
    simp only[fget_cons,Nat.reduceEqDiff,if_false,if_true]
    congr 2;omega
   ·simp only[decide_eq_false_iff_not] at hc
    simp -dsimp (disch:=omega) only[wpS,wpT]
    refine⟨rfl,by simp[f0],by simp[f1],by simp[f5],by simp[f7],a.getD i 0 - bor - b.getD i 0,0,?_,by simp,by omega,by omega,by omega⟩
    simp only[fget_cons,Nat.reduceEqDiff,if_false,f8]
    congr 2;omega
   ·rintro fr3 h3 ⟨rfl,f0,f1,f5,f7,d,bor',f8,f6,hd2,hb2,hrel⟩
    obtain⟨out',h',hap,hA',hG,hE'⟩:=hA.app1 (P:=Proofs.Tryd.prog) (t:=33) ap33 (x:=KN d) rfl (by omega) hE.n hE (Nat.le_refl _)
    simp -dsimp (disch:=omega) only[wpS,wpT,Nat.reduceEqDiff,Nat.reduceLeDiff,Nat.reduceAdd,bs33,ba33_33,f5,f7,f8,hap]
    refine⟨m - 1,by omega,i+1,bor',os ++ [d],out',by omega,by simp[f0],by simp[f1],by simp,by simp[f6],by simp,hb2,by simp[hos],hd.append hd2,?_,by rw[←map_snoc];exact hA',hE'⟩
    rw[valD_append,valT,valT,hos]
    grind
 ·obtain rfl:i=a.length:=by omega
  have hbl:=nb.len_le ha.2.1 hle
  rw[valT_ge hbl,valT_ge (Nat.le_refl _)] at hv
  have hlt:=valD_lt hd
  rw[hos] at hlt
  have hb0:bor=0:=by
   apply Classical.byContradiction;intro hne
   have:bor=1:=by omega
   subst this;omega
  subst hb0
  have hD:DigU h1 out os:=⟨by rw[hos];exact hA.sl,hd,by omega⟩
  simp -dsimp (disch:=omega) only[wpS,wpT,Nat.reduceEqDiff,f5]
  refine call ((cut_ok hD).and (cut_block hD)) ?_
  rintro r h2 ⟨⟨rfl,hr⟩,hbk⟩
  simp -dsimp (disch:=omega) only[wpS,Nat.reduceEqDiff]
  refine⟨⟨hE,?_⟩,fun k hk=>?_⟩
  ·rw[show valD a - valD b=valD os by omega];exact hr
  ·rw[hbk];exact hA.block hk
theorem less_ok {h:IH} {v w:Value} {a b:List Nat} (ha:DigU h v a) (hb:DigU h w b) (nb:Norm b) (hle:valD b≤valD a) :
  WV Proofs.Tryd.prog (.func (.func 75) #[] #[]) [v,w] h fun r h'=>Ext h h'∧Dig h' r (valD a - valD b):=(less_at ha hb nb hle).mono fun _ _ k=>k.1
end Go.Id

/-! Contracts: the reference's long integers, third part: sums, differences, comparisons. -/
namespace Go.Id
open Go
@[irreducible] def Small (x:Nat):Prop:=x<4294967296 ^ 1000000
theorem Small.lt {x:Nat} (h:Small x):x<4294967296 ^ 1000000:=by unfold Small at h;exact h
theorem Small.mk {x:Nat} (h:x<4294967296 ^ 1000000):Small x:=by unfold Small;exact h
theorem Small.le {x y:Nat} (h:Small x) (k:y≤x):Small y:=.mk (Nat.lt_of_le_of_lt k h.lt)
end Go.Id

/-! Contracts: the reference's long integers, fourth part: differences, comparisons, integers. -/
namespace Go.Id
open Go
theorem LongIs.form {h:IH} {v:Value} {z:Int} (d:LongIs h v z) : ∃s n,v=.agg #[.bool (decide (z<0)),s]∧s.cells = #[s]∧cellOK s=true∧(∀{P:Program} {t:TypeId} (_:isSliceT P (some t)=true) (h':IH),lenB P h' t s=some (.int .i64 ((n:Nat):Int)))∧(n=0↔z=0):=by
 obtain⟨s,rfl,ds,hD,hN,hx⟩:=d
 refine⟨s,ds.length,rfl,hD.1.cells,hD.1.cok,fun hT h'=>hD.1.len hT h',?_⟩
 have:=hN.nil_iff
 rw[hx] at this
 rw[List.length_eq_zero_iff,←this];omega
end Go.Id

/-! Words to the base 2^64: plain numbers. -/
namespace Go.Id
def wrd (n i:Nat):Nat:=n / 18446744073709551616 ^ i % 18446744073709551616
theorem wrd_lt (n i:Nat):wrd n i<18446744073709551616:=Nat.mod_lt _ (by omega)
theorem mod_wrd (n i:Nat):n % 18446744073709551616 ^ (i+1)=n % 18446744073709551616 ^ i+18446744073709551616 ^ i*wrd n i:=Nat.mod_pow_succ
theorem pow_two (i:Nat):4294967296 ^ (2*i)=18446744073709551616 ^ i:=by
 rw[Nat.pow_mul]
theorem pow_odd (i:Nat):4294967296 ^ (2*i+1)=4294967296*18446744073709551616 ^ i:=by
 rw[Nat.pow_succ,pow_two,Nat.mul_comm]
theorem wrd_high {n i j:Nat} (h:n<18446744073709551616 ^ i) (hj:i≤j):wrd n j=0:=by
 have:n<18446744073709551616 ^ j:=Nat.lt_of_lt_of_le h (Nat.pow_le_pow_right (by omega) hj)
 rw[wrd,Nat.div_eq_of_lt this]
theorem wrd_add_low {n x i j:Nat} (hj:j<i):wrd (n+x*18446744073709551616 ^ i) j=wrd n j:=by
 obtain⟨d,rfl⟩ : ∃d,i=j+1+d:=⟨i - j - 1,by omega⟩
 rw[wrd,wrd,show x*18446744073709551616 ^ (j+1+d)=18446744073709551616 ^ j*(18446744073709551616*(x*18446744073709551616 ^ d)) from by
  rw[Nat.pow_add,Nat.pow_add];grind]
 rw[Nat.add_mul_div_left _ _ (Nat.pow_pos (by omega)),Nat.add_mul_mod_self_left]
theorem wrd_add_at {n x i:Nat} (h:n<18446744073709551616 ^ (i+1)) (hx:wrd n i+x<18446744073709551616):wrd (n+x*18446744073709551616 ^ i) i=wrd n i+x:=by
 have h1:n / 18446744073709551616 ^ i<18446744073709551616:=by
  rw[Nat.div_lt_iff_lt_mul (Nat.pow_pos (by omega))]
  rw[Nat.pow_succ] at h;rw[Nat.mul_comm];exact h
 have h2:wrd n i=n / 18446744073709551616 ^ i:=Nat.mod_eq_of_lt h1
 rw[wrd,Nat.add_mul_div_right _ _ (Nat.pow_pos (by omega)),←h2,Nat.mod_eq_of_lt hx]
theorem add_at_lt {n x i:Nat} (h:n<18446744073709551616 ^ (i+1)) (hx:wrd n i+x<18446744073709551616):n+x*18446744073709551616 ^ i<18446744073709551616 ^ (i+1):=by
 have h1:n / 18446744073709551616 ^ i<18446744073709551616:=by
  rw[Nat.div_lt_iff_lt_mul (Nat.pow_pos (by omega))]
  rw[Nat.pow_succ] at h;rw[Nat.mul_comm];exact h
 have h2:wrd n i=n / 18446744073709551616 ^ i:=Nat.mod_eq_of_lt h1
 have hp:0<18446744073709551616 ^ i:=Nat.pow_pos (by omega)
 have h3:=Nat.div_add_mod n (18446744073709551616 ^ i)
 have h4:=Nat.mod_lt n hp
 rw[h2] at hx
 have h5:(n / 18446744073709551616 ^ i+x+1)*18446744073709551616 ^ i≤18446744073709551616*18446744073709551616 ^ i:=Nat.mul_le_mul_right _ (by omega)
 rw[Nat.pow_succ]
 generalize 18446744073709551616 ^ i=p at *
 have h6:(n / p+x+1)*p=p*(n / p)+x*p+p:=by grind
 rw[Nat.mul_comm 18446744073709551616 p] at h5
 omega
@[irreducible] def W8:Nat:=18446744073709551616 ^ 8
@[irreducible] def H8:Nat:=9223372036854775808*18446744073709551616 ^ 7
theorem W8_eq:W8=18446744073709551616 ^ 8:=by unfold W8;rfl
theorem W8_two:W8=2*H8:=by unfold W8 H8;rfl
theorem W8_dig:W8=4294967296 ^ 16:=by unfold W8;rfl
theorem H8_dig:H8=2147483648*4294967296 ^ 15:=by unfold H8;rfl
theorem H8_big:9223372036854775808<H8:=by unfold H8;decide
def wdI (n:Nat):Int:=if n<H8 then (n:Int) else (n:Int) - W8
end Go.Id

/-! Contracts: the reference's long integers, fifth part: words. -/
namespace Go.Id
open Go
def wdC (n:Nat):List Value:=(List.range 8).map fun i=>K64 (wrd n i)
def wdV (n:Nat):Value:=.agg (wdC n).toArray
theorem wdC_len (n:Nat):(wdC n).length=8:=by simp[wdC]
theorem wdC_get (n i:Nat) (hi:i<8):(wdC n)[i]?=some (K64 (wrd n i)):=by simp[wdC,hi]
theorem wdC_all (n:Nat):(wdC n).all cellOK=true:=by simp[wdC,cellOK]
end Go.Id

/-! Contracts: the reference's long integers, sixth part: wide integers read and written. -/
namespace Go.Id
open Go
theorem wd_take (n:Nat):List.take 8 (List.drop 0 (wdC n))=wdC n:=by
 rw[List.drop_zero,List.take_of_length_le (by rw[wdC_len];omega)]
end Go.Id

/-! Contracts: the reference's long integers, seventh part: written, made of integers, read as integers. -/
namespace Go.Id
open Go
def InW (z:Int):Prop:=-(H8:Int)≤z∧z<H8
instance (z:Int):Decidable (InW z):=inferInstanceAs (Decidable (_∧_))
def wideN (z:Int):Nat:=if 0≤z then z.toNat else W8 - z.natAbs
theorem wideN_lt {z:Int} (h:InW z):wideN z<W8:=by
 have:=W8_two
 unfold InW at h
 unfold wideN
 split<;>omega
theorem wdI_wideN {z:Int} (h:InW z):wdI (wideN z)=z:=by
 have:=W8_two
 unfold InW at h
 unfold wdI wideN
 split
 ·rw[if_pos (by omega)];omega
 ·rw[if_neg (by omega)];omega
abbrev wideV (z:Int):Value:=wdV (wideN z)
abbrev ZW:Value:=.int .u64 0
theorem wdC_zero:wdC 0 = [ZW,ZW,ZW,ZW,ZW,ZW,ZW,ZW]:=by
 simp[wdC,wrd,List.range_succ]
theorem lim_val:valD [0,0,0,0,0,0,0,0,0,0,0,0,0,0,0,2147483648]=H8:=by rw[H8_dig];simp[valD,valT]
theorem big_val:valD [0,0,0,0,0,0,0,0,0,0,0,0,0,0,0,0,1]=W8:=by rw[W8_dig];simp[valD,valT]
theorem wdC_set {n i x:Nat} (hi:i<8) (hn:n<18446744073709551616 ^ (i+1)) (hx:wrd n i+x<18446744073709551616):(wdC n).set i (K64 (wrd n i+x))=wdC (n+x*18446744073709551616 ^ i):=by
 apply List.ext_getElem?
 intro j
 rw[List.getElem?_set]
 by_cases hij:i=j
 ·subst hij
  rw[if_pos rfl,wdC_get _ _ hi,wdC_len,if_pos hi,wrd_add_at hn hx]
 ·rw[if_neg hij]
  by_cases hj:j<8
  ·rw[wdC_get _ _ hj,wdC_get _ _ hj]
   by_cases hlt:j<i
   ·rw[wrd_add_low hlt]
   ·rw[wrd_high hn (by omega),wrd_high (add_at_lt hn hx) (by omega)]
  ·rw[List.getElem?_eq_none (by rw[wdC_len];omega),List.getElem?_eq_none (by rw[wdC_len];omega)]
set_option maxHeartbeats 2000000 in
set_option maxRecDepth 100000 in
theorem out_ok {h:IH} {v:Value} {z:Int} (hv:LongIs h v z) :
  WV Proofs.Tryd.prog (.func (.func 47) #[] #[]) [v] h fun r h'=>Ext h h'∧r=if InW z then .tuple #[wideV z,KI 0] else .tuple #[wdV 0,KI 6]:=by
 obtain⟨s,rfl,ds,hD,hN,hx⟩:=hv
 have hl:=hD.2.2
 refine enter (nt:=63) (rs:=[.cell 2 58,.tmp 3]) Proofs.Tryd.func47 rfl rfl rfl (by simp) ?_
 simp -dsimp (maxSteps:=1000000) (disch:=first|omega|(simp only[new_n,put_n];omega)|decide +kernel|(repeat first|rw[new_n]|rw[put_n])) only[wpS,wpT,Nat.reduceEqDiff,Nat.reduceLeDiff,Nat.reduceAdd,Nat.reduceMul,Int.reduceToNat,zc58,ms33,es33,st3,fa101_1,ld33,show idxAt 15 16=some 15 from rfl]
 have hL:DigU ((((h.new (.cells [.bool (decide (z<0)),s] 0 none)).new (.cells [ZW,ZW,ZW,ZW,ZW,ZW,ZW,ZW] 0 none)).new (.cells (List.map KN [0,0,0,0,0,0,0,0,0,0,0,0,0,0,0,0]) 1 none)).put (h.n+1+1) (.cells (List.map KN [0,0,0,0,0,0,0,0,0,0,0,0,0,0,0,2147483648]) 1 none)) (.slice (some ⟨2*(h.n+1+1),0,none⟩) 16 33) [0,0,0,0,0,0,0,0,0,0,0,0,0,0,0,2147483648] :=
  ⟨sl_block (f:=none) (get_put_same _ _ rfl) (by simp) (by omega) rfl (by omega) (by simp),by intro d hd;simp at hd;omega,by simp⟩
 have hE : ∀a b c d:IObj,Ext h ((((h.new a).new b).new c).put (h.n+1+1) d):=fun a b c d=>((((Ext.refl h).new _).new _).new _).put (by omega) _
 refine call (order_ok (hD.keep (hE _ _ _ _).keep) hL hN (.inr (by simp))) ?_
 rintro r h1 ⟨e1,c,rfl,hc1,hc2,hc3,hc4⟩
 have g1:h1.row (2*h.n)=some [.bool (decide (z<0)),s]:=by rw[e1];simp -dsimp (maxSteps:=1000000) (disch:=first|omega|(simp only[new_n,put_n];omega)|decide +kernel|(repeat first|rw[new_n]|rw[put_n])) only[wpS]
 have g2:h1.ext.get (h.n+1)=some (.cells [ZW,ZW,ZW,ZW,ZW,ZW,ZW,ZW] 0 none):=by rw[e1];simp -dsimp (maxSteps:=1000000) (disch:=first|omega|(simp only[new_n,put_n];omega)|decide +kernel|(repeat first|rw[new_n]|rw[put_n])) only[wpS]
 have g3:Ext h h1:=by rw[e1];exact hE _ _ _ _
 have g4:h.n+1<h1.n:=by rw[e1];simp
 clear e1 hL hE
 rw[lim_val,hx] at hc1 hc2
 have hW8:=W8_two
 by_cases hW:InW z
 ·have hc:c<0∨c=0∧z<0:=by unfold InW at hW;omega
  simp -dsimp (maxSteps:=1000000) (disch:=first|omega|(simp only[new_n,put_n];omega)|decide +kernel|(repeat first|rw[new_n]|rw[put_n])) only[wpR,Nat.reduceEqDiff]
  rw[d_seq]
  refine cut (fun fr2 h2=>h2=h1∧fget fr2 2=some (ptr (2*(h.n+1)) 0)∧fget fr2 1=some (ptr (2*h.n) 0)) ?_ ?_
  ·rcases hc with hc|⟨rfl,hz⟩
   ·simp -dsimp (maxSteps:=1000000) (disch:=first|omega|(simp only[new_n,put_n];omega)|decide +kernel|(repeat first|rw[new_n]|rw[put_n])) only[wpS,wpT,Nat.reduceEqDiff]
    exact⟨rfl,by simp,by simp⟩
   ·simp -dsimp (maxSteps:=1000000) (disch:=first|omega|(simp only[new_n,put_n];omega)|decide +kernel|(repeat first|rw[new_n]|rw[put_n])) only[wpS,wpT,Nat.reduceEqDiff,fa101_0,ld4,g1,dec_lt_t hz]
    exact⟨rfl,by simp,by simp⟩
  ·rintro fr2 h2 ⟨rfl,f2,f1⟩
   simp -dsimp (maxSteps:=1000000) (disch:=first|omega|(simp only[new_n,put_n];omega)|decide +kernel|(repeat first|rw[new_n]|rw[put_n])) only[wpS,Nat.reduceEqDiff,zc58,fa101_1,ld33,fa101_0,ld4,g1,f1]
   refine bq_cut (fun fr3 h3=>fget fr3 2=some (ptr (2*(h.n+1)) 0)∧Ext h2 h3 ∧ ∃d ds2,fget fr3 6=some d∧DigU h3 d ds2∧valD ds2=wideN z∧ds2.length≤16) (fun hz=>?_) (fun hz=>?_) ?_
   ·simp only[decide_eq_true_eq] at hz
    simp -dsimp (maxSteps:=1000000) (disch:=first|omega|(simp only[new_n,put_n];omega)|decide +kernel|(repeat first|rw[new_n]|rw[put_n])) only[wpS,wpT,Nat.reduceEqDiff,Nat.reduceLeDiff,Nat.reduceAdd,Nat.reduceMul,Int.reduceToNat,ms33,es33,st3,show idxAt 16 17=some 16 from rfl]
    have hE3 : ∀a b:IObj,Ext h2 ((h2.new a).put h2.n b):=fun a b=>((Ext.refl h2).new _).put (Nat.le_refl _) _
    have hWW:DigU ((h2.new (.cells (List.map KN [0,0,0,0,0,0,0,0,0,0,0,0,0,0,0,0,0]) 1 none)).put h2.n (.cells (List.map KN [0,0,0,0,0,0,0,0,0,0,0,0,0,0,0,0,1]) 1 none)) (.slice (some ⟨2*h2.n,0,none⟩) 17 35) [0,0,0,0,0,0,0,0,0,0,0,0,0,0,0,0,1] :=
     ⟨sl_block (f:=none) (get_put_same _ _ rfl) (by simp) (by omega) rfl (by omega) (by simp),by intro d hd;simp at hd;omega,by simp⟩
    refine call (less_ok hWW (hD.keep (g3.trans (hE3 _ _)).keep) hN (by rw[big_val,hx];unfold InW at hW;omega)) ?_
    rintro e h3 ⟨hE4,es,hDe,hNe,hve⟩
    rw[big_val,hx] at hve
    have hv2:valD es=wideN z:=by rw[hve,wideN,if_neg (by omega)]
    simp -dsimp (maxSteps:=1000000) (disch:=first|omega|(simp only[new_n,put_n];omega)|decide +kernel|(repeat first|rw[new_n]|rw[put_n])) only[wpS,Nat.reduceEqDiff]
    refine⟨by simp[f2],(hE3 _ _).trans hE4,e,es,by simp,hDe,hv2,?_⟩
    have h5:=wideN_lt hW
    rw[←hv2,W8_dig] at h5
    by_cases hne:es = []
    ·subst hne;simp
    ·have h6:=hNe.ge hne
     have h7:=(Nat.pow_lt_pow_iff_right (a:=4294967296) (by omega)).1 (Nat.lt_of_le_of_lt h6 h5)
     omega
   ·simp only[decide_eq_false_iff_not] at hz
    simp -dsimp (maxSteps:=1000000) (disch:=first|omega|(simp only[new_n,put_n];omega)|decide +kernel|(repeat first|rw[new_n]|rw[put_n])) only[wpS,wpT]
    have hv2:valD ds=wideN z:=by rw[hx,wideN,if_pos (by omega)];omega
    refine⟨by simp[f2],Ext.refl _,s,ds,by simp,hD.keep g3.keep,hv2,?_⟩
    have h5:=wideN_lt hW
    rw[←hv2,W8_dig] at h5
    by_cases hne:ds = []
    ·subst hne;simp
    ·have h6:=hN.ge hne
     have h7:=(Nat.pow_lt_pow_iff_right (a:=4294967296) (by omega)).1 (Nat.lt_of_le_of_lt h6 h5)
     omega
   ·rintro fr3 h3 ⟨f2,hE3,d,ds2,f6,hD2,hv2,hl2⟩
    simp -dsimp (maxSteps:=1000000) (disch:=first|omega|(simp only[new_n,put_n];omega)|decide +kernel|(repeat first|rw[new_n]|rw[put_n])) only[wpS,zc58]
    have hlen:=hD2.2.2
    refine loop (fun m fr h4 => ∃i:Nat,i+m=ds2.length∧fget fr 2=some (ptr (2*(h.n+1)) 0)∧fget fr 6=some d∧fget fr 8=some (ptr (2*h3.n) 0)∧fget fr 9=some (KN i)∧h3.n<h4.n∧h4.ext.get h3.n=some (.cells (wdC (valT ds2 i)) 0 none)∧Ext h3 h4) ds2.length ⟨0,by simp,by simp[f2],by simp[f6],by simp,by simp,by simp,by rw[valT,wdC_zero];exact get_new_same _ _ rfl,(Ext.refl h3).new _⟩ ?_
    rintro m fr h4 ⟨i,him,f2,f6,f8,f9,hn4,hg4,hE4⟩
    simp -dsimp (maxSteps:=1000000) (disch:=first|omega|(simp only[new_n,put_n];omega)|decide +kernel|(repeat first|rw[new_n]|rw[put_n])) only[wpS,Nat.reduceEqDiff,f6,f9,hD2.1.len sl33]
    refine bq_intro ?_ ?_<;>intro hc<;>simp only[decide_eq_true_eq,decide_eq_false_iff_not] at hc
    ·have hi:i<ds2.length:=by omega
     have dd:=getD_lt hD2.2.1 i
     have hvl:=valT_lt hD2.2.1 i
     have hrow:h4.row (2*h3.n)=some (wdC (valT ds2 i)):=by rw[row_even];exact cells_of hg4
     have e1:((i:Int) / 2)=((i / 2:Nat):Int):=by omega
     have hi8:i / 2<8:=by omega
     obtain⟨x,hsh,hx1,hx2⟩ : ∃x:Nat,(∀t o1 o2,binop Proofs.Tryd.prog .shl t o1 o2 (K64 (ds2.getD i 0)) (.int .i64 (32*((i:Int) % 2)))=some (K64 x))∧valT ds2 (i+1)=valT ds2 i+x*18446744073709551616 ^ (i / 2)∧wrd (valT ds2 i) (i / 2)+x<18446744073709551616:=by
      rcases Nat.mod_two_eq_zero_or_one i with hm|hm
      ·obtain⟨k,rfl⟩ : ∃k,i=2*k:=⟨i / 2,by omega⟩
       have hk:2*k / 2=k:=by omega
       refine⟨ds2.getD (2*k) 0,fun t o1 o2=>?_,?_,?_⟩
       ·have e2:(32*(((2*k:Nat):Int) % 2))=((0:Nat):Int):=by omega
        rw[e2,shl_nat _ _ _ _ (by omega) (by omega)];simp
       ·rw[valT,hk,pow_two]
       ·rw[hk,wrd_high (by rw[←pow_two];exact hvl) (Nat.le_refl _)];omega
      ·obtain⟨k,rfl⟩ : ∃k,i=2*k+1:=⟨i / 2,by omega⟩
       have hk:(2*k+1) / 2=k:=by omega
       refine⟨ds2.getD (2*k+1) 0*4294967296,fun t o1 o2=>?_,?_,?_⟩
       ·have e2:(32*(((2*k+1:Nat):Int) % 2))=((32:Nat):Int):=by omega
        rw[e2,shl_nat _ _ _ _ (by omega) (by omega)]
       ·rw[valT,hk,pow_odd];grind
       ·rw[hk]
        rw[pow_odd] at hvl
        have h8:valT ds2 (2*k+1) / 18446744073709551616 ^ k<4294967296:=by
         rw[Nat.div_lt_iff_lt_mul (Nat.pow_pos (by omega))];exact hvl
        have h9:wrd (valT ds2 (2*k+1)) k≤valT ds2 (2*k+1) / 18446744073709551616 ^ k:=Nat.mod_le _ _
        omega
     have hwl:valT ds2 i<18446744073709551616 ^ (i / 2+1):=by
      have h8:4294967296 ^ i≤4294967296 ^ (2*(i / 2+1)):=Nat.pow_le_pow_right (by omega) (by omega)
      rw[pow_two] at h8
      omega
     have hset:=wdC_set hi8 hwl hx2
     rw[←hx1] at hset
     have hspl:IH.splice (wdC (valT ds2 i)) (i / 2) [.int .u64 ((wrd (valT ds2 i) (i / 2):Int)+(x:Int))]=wdC (valT ds2 (i+1)):=by
      rw[splice_set (by rw[wdC_len];exact hi8),←hset];rfl
     have hwr:=wrd_lt (valT ds2 i) (i / 2)
     simp -dsimp (maxSteps:=1000000) (disch:=first|omega|(simp only[new_n,put_n];omega)|decide +kernel|(repeat first|rw[new_n]|rw[put_n])) only[wpS,wpT,Nat.reduceEqDiff,Nat.reduceLeDiff,ar58,ld47,cv3_47,st47,f6,f8,f9,e1,ar58,hrow,wdC_get _ _ hi8,hD2.1.idx es33 hi,hD2.1.ld hE4.keep (P:=Proofs.Tryd.prog) (t:=3) (c:=i) (by simpa using hi) ag3,map_get,get_some hi,hsh,hg4,wdC_len,hspl]
     refine⟨m - 1,by omega,i+1,by omega,by simp[f2],by simp[f6],by simp[f8],by simp,by simpa using hn4,get_put_same _ _ rfl,hE4.put (Nat.le_refl _) _⟩
    ·obtain rfl:i=ds2.length:=by omega
     have hgz:h4.ext.get (h.n+1)=some (.cells [ZW,ZW,ZW,ZW,ZW,ZW,ZW,ZW] 0 none):=by
      rw[hE4.get _ (by have:=hE3.n;omega),hE3.get _ g4];exact g2
     have hrow:h4.row (2*h3.n)=some (wdC (wideN z)):=by rw[row_even,←hv2];exact cells_of hg4
     have hspl:IH.splice [ZW,ZW,ZW,ZW,ZW,ZW,ZW,ZW] 0 (wdC (wideN z))=wdC (wideN z):=splice_all (by rw[wdC_len];rfl)
     simp -dsimp (maxSteps:=1000000) (disch:=first|omega|(simp only[new_n,put_n];omega)|decide +kernel|(repeat first|rw[new_n]|rw[put_n])) only[wpS,wpT,Nat.reduceEqDiff,Nat.reduceLeDiff,Nat.reduceAdd,st58,ld58,f2,f8,hrow,hgz,wdC_len,wd_take,wdC_all,hspl]
     refine⟨((g3.trans hE3).trans hE4).put (by omega) _,?_⟩
     rw[if_pos hW];rfl
 ·have hc:0<c∨c=0 ∧ ¬z<0:=by unfold InW at hW;omega
  rcases hc with hc|⟨hc,hz⟩
  ·simp -dsimp (maxSteps:=1000000) (disch:=first|omega|(simp only[new_n,put_n];omega)|decide +kernel|(repeat first|rw[new_n]|rw[put_n])) only[wpS,wpT,Nat.reduceEqDiff,Nat.reduceLeDiff,Nat.reduceAdd,bv58,st58,ld58,g2]
   refine⟨g3.put (by omega) _,?_⟩
   rw[if_neg hW,wdV,wdC_zero];rfl
  ·subst hc
   simp -dsimp (maxSteps:=1000000) (disch:=first|omega|(simp only[new_n,put_n];omega)|decide +kernel|(repeat first|rw[new_n]|rw[put_n])) only[wpS,wpT,Nat.reduceEqDiff,Nat.reduceLeDiff,Nat.reduceAdd,fa101_0,ld4,bv58,st58,ld58,g1,g2,dec_lt_f hz]
   refine⟨g3.put (by omega) _,?_⟩
   rw[if_neg hW,wdV,wdC_zero];rfl
end Go.Id

/-! Contracts: the reference's long integers, eighth part: what the chapter names. -/
namespace Go.Id
open Go
theorem wrapU (n:Int):IntKind.u64.wrap n=n % 18446744073709551616:=by simp[IntKind.wrap,IntKind.bits,IntKind.signed]
theorem wdV_form (n:Nat):(wdV n).cells.toList=wdC n:=rfl
abbrev In64 (n:Int):Prop:=-9223372036854775808≤n∧n<9223372036854775808
set_option maxRecDepth 100000 in
theorem long1_ok {h:IH} (n:Int) (hn:In64 n):WV Proofs.Tryd.prog (.func (.func 48) #[] #[]) [KI n] h fun r h'=>Ext h h'∧LongIs h' r n:=by
 have hB : ∃u:Nat,u=n.natAbs:=⟨_,rfl⟩
 obtain⟨u,hu⟩:=hB
 refine enter (nt:=21) (rs:=[.cell 2 101]) Proofs.Tryd.func48 rfl rfl rfl (by simp) ?_
 simp -dsimp (maxSteps:=1000000) (disch:=first|omega|(simp only[new_n,put_n];omega)|decide +kernel|(repeat first|rw[new_n]|rw[put_n])) only[wpR]
 rw[d_seq]
 simp -dsimp (maxSteps:=1000000) (disch:=first|omega|(simp only[new_n,put_n];omega)|decide +kernel|(repeat first|rw[new_n]|rw[put_n])) only[wpR,zc101]
 rw[d_seq]
 simp -dsimp (maxSteps:=1000000) (disch:=first|omega|(simp only[new_n,put_n];omega)|decide +kernel|(repeat first|rw[new_n]|rw[put_n])) only[wpR,Nat.reduceEqDiff]
 rw[d_seq]
 simp -dsimp (maxSteps:=1000000) (disch:=first|omega|(simp only[new_n,put_n];omega)|decide +kernel|(repeat first|rw[new_n]|rw[put_n])) only[wpR,Nat.reduceEqDiff,cv3_47]
 rw[d_seq]
 refine cut (fun fr2 h2=>h2=h.new (.cells [.bool false,.slice none 0 0] 0 none)∧fget fr2 2=some (ptr (2*h.n) 0)∧fget fr2 3=some (.bool (decide (n<0)))∧fget fr2 4=some (K64 u)) ?_ ?_
 ·by_cases hz:n<0
  ·have e1:IntKind.u64.wrap n=n+18446744073709551616:=by rw[wrapU];omega
   have e2:IntKind.u64.wrap (-(n+18446744073709551616))=(u:Int):=by rw[wrapU];omega
   simp -dsimp (maxSteps:=1000000) (disch:=first|omega|(simp only[new_n,put_n];omega)|decide +kernel|(repeat first|rw[new_n]|rw[put_n])) only[wpS,Nat.reduceEqDiff,dec_lt_t hz,e1,e2]
   exact⟨rfl,by simp,by simp[hz],by simp⟩
  ·have e1:n=(u:Int):=by omega
   simp -dsimp (maxSteps:=1000000) (disch:=first|omega|(simp only[new_n,put_n];omega)|decide +kernel|(repeat first|rw[new_n]|rw[put_n])) only[wpS,Nat.reduceEqDiff,dec_lt_f hz]
   exact⟨rfl,by simp,by simp;omega,by simp;exact e1⟩
 ·rintro fr2 h2 ⟨rfl,f2,f3,f4⟩
  have e1:((u:Int) % 4294967296)=((u % 4294967296:Nat):Int):=by omega
  have e2:((u:Int) / 4294967296)=((u / 4294967296:Nat):Int):=by omega
  simp -dsimp (maxSteps:=1000000) (disch:=first|omega|(simp only[new_n,put_n];omega)|decide +kernel|(repeat first|rw[new_n]|rw[put_n])) only[wpS,wpT,Nat.reduceEqDiff,Nat.reduceLeDiff,Nat.reduceAdd,Nat.reduceMul,cv47_3,bs33,f3,f4,e1,e2]
  have hD:DigU ((h.new (.cells [.bool false,.slice none 0 0] 0 none)).new (.cells (List.map KN [u % 4294967296,u / 4294967296]) 1 none)) (.slice (some ⟨2*(h.n+1),0,none⟩) 2 5) [u % 4294967296,u / 4294967296] :=
   ⟨sl_block (f:=none) (get_new_same _ _ rfl) (by simp) (by omega) rfl (by omega) (by simp),by intro d hd;simp at hd;omega,by simp⟩
  refine call (made_ok hD _) ?_
  rintro r h1 ⟨hE,hr⟩
  have hz:(if decide (n<0)=true then -(valD [u % 4294967296,u / 4294967296]:Int) else valD [u % 4294967296,u / 4294967296])=n:=by
   have:valD [u % 4294967296,u / 4294967296]=u:=by simp[valD,valT];omega
   rw[this]
   by_cases h0:n<0<;>simp[h0]<;>omega
  rw[hz] at hr
  obtain⟨s1,n3,rfl,c3,o3,l3,z3⟩:=hr.form
  have hg:h1.ext.get h.n=some (.cells [.bool false,.slice none 0 0] 0 none):=by
   rw[hE.get _ (by simp<;>omega)];simp -dsimp (maxSteps:=1000000) (disch:=first|omega|(simp only[new_n,put_n];omega)|decide +kernel|(repeat first|rw[new_n]|rw[put_n])) only[wpS]
  simp -dsimp (maxSteps:=1000000) (disch:=first|omega|(simp only[new_n,put_n];omega)|decide +kernel|(repeat first|rw[new_n]|rw[put_n])) only[wpS,wpT,Nat.reduceEqDiff,Nat.reduceLeDiff,Nat.reduceAdd,st101,ld101,f2,hg,o3]
  refine⟨((((Ext.refl h).new _).new _).trans hE).put (by omega) _,?_⟩
  exact hr.keep ((Keep.refl _).put hg _)
theorem refOf_ok {h:IH} (n:Int) (hn:In64 n):WV Proofs.Tryd.prog (.func (.func 18) #[] #[]) [KI n] h fun r h'=>Ext h h'∧r=wideV n:=by
 refine enter (nt:=12) (rs:=[.cell 2 58]) Proofs.Tryd.func18 rfl rfl rfl (by simp) ?_
 simp -dsimp (disch:=omega) only[wpS,Nat.reduceEqDiff,zc58]
 refine call (long1_ok n hn) ?_
 rintro r h1 ⟨hE,hr⟩
 simp -dsimp (disch:=omega) only[wpS,Nat.reduceEqDiff]
 refine call (out_ok hr) ?_
 rintro r2 h2 ⟨hE2,rfl⟩
 have hW:InW n:=by have:=H8_big;unfold InW;omega
 rw[if_pos hW]
 have hg:h2.ext.get h.n=some (.cells [ZW,ZW,ZW,ZW,ZW,ZW,ZW,ZW] 0 none):=by
  rw[hE2.get _ (by have:=hE.n;simp at this;omega),hE.get _ (by simp)];exact get_new_same _ _ rfl
 have hspl:IH.splice [ZW,ZW,ZW,ZW,ZW,ZW,ZW,ZW] 0 (wdC (wideN n))=wdC (wideN n):=splice_all (by rw[wdC_len];rfl)
 have hlt:h.n<h2.n:=by have a1:=hE.n;have a2:=hE2.n;simp only[new_n] at a1;omega
 simp -dsimp (disch:=omega) only[wpS,wpT,Nat.reduceEqDiff,Nat.reduceLeDiff,Nat.reduceAdd,zc58,st58,ld58,wdV_form,wdC_len,wdC_all,wd_take,hspl,hg]
 exact⟨((((Ext.refl h).new _).trans hE).trans hE2 |>.new _).put (by omega) _ |>.put (by omega) _,rfl⟩
end Go.Id

/-! Contracts: the reference's long integers, ninth part: read as integers. -/
namespace Go.Id
open Go
theorem wrapI (n:Int):IntKind.i64.wrap n=(n+9223372036854775808) % 18446744073709551616 - 9223372036854775808:=by
 have e:IntKind.i64.wrap n=if decide (n % 18446744073709551616 ≥ 9223372036854775808)=true then n % 18446744073709551616 - 18446744073709551616 else n % 18446744073709551616:=by
  simp[IntKind.wrap,IntKind.bits,IntKind.signed]
 rw[e]
 split<;>simp at * <;> omega
end Go.Id
