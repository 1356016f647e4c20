/-
  Contracts: package divisor: Rank; package quota: Check; package bracket: within. The first place from which a property that stays holds. Signposts rise; the first seat whose signpost is not below a quotient. Contracts: sort.Search; the search for a signpost. Contracts: package bracket: within, open. The greater and the lesser of two integers. Loops over functions, whose rounds may lay their variable into memory and may end early. Weakest preconditions over the ideal machine: appends to slices without room; lengths and parts of slices in regions whose order is open. Weakest preconditions over the ideal machine: two lists that grow side by side. Contracts: bracket.At. The greatest and the least of two numbers. Contracts: drafted censuses; the greatest of a list. Contracts: the reference's valid shares. Contracts: the greatest of a list; fractions of whole numbers. What a divisor gives: numbers that fall with it. Tables of functions whose values are known; what a closed function gives. The ideal machine: a function's body in parts, each under a machine of its own. The ideal machine: a law whose first parts are carried out with functions whose values are known, and whose rest is shown step by step.
-/
import Derived.Test.YthpefnfbnaekaaaGreatBracketFallsAm
import Derived.Test.YthpefnfbnaekaaaGreatBracketFallsAh
import Derived.Test.YthpefnfbnaekaaaGreatBracketFallsAl
import Derived.Test.YthpefnfbnaekaaaGreatBracketFallsAg
import Derived.Test.YthpefnfbnaekaaaGreatBracketFallsAf
set_option linter.unusedVariables false
set_option linter.unusedSimpArgs false
set_option linter.defProp false
set_option linter.deprecated false
/-! Contracts: package divisor: Rank; package quota: Check; package bracket: within. -/
namespace Go.Id
open Go
theorem qcheck1_ok {h:IH} {n:Int}:WV Proofs.Tryz.prog (.func (.func 96) #[] #[]) [KI n] h fun r h'=>h'=h∧r=.bool (outR 0 1000000000 n):=by
 refine enter (nt:=9) (rs:=[.tmp 2]) Proofs.Tryz.func96 rfl rfl rfl (by simp) ?_
 by_cases c:n<0
 ·have d:decide (n<0)=true:=decide_eq_true c
  simp -dsimp (disch:=omega) only[wpS,wpT,Nat.reduceEqDiff,d]
  simp[outR,d]
 ·have d:decide (n<0)=false:=decide_eq_false c
  simp -dsimp (disch:=omega) only[wpS,wpT,Nat.reduceEqDiff,d]
  simp[outR,d]
theorem sum_bound : ∀(l:List Int),(∀n∈l,0≤n∧n≤1000000000)→0≤l.sum∧l.sum≤1000000000*(l.length:Int)
 | [],_=>by simp
 | a :: l,h=>by
  have h1:=sum_bound l fun n hn=>h n (by simp[hn])
  have h2:=h a (by simp)
  rw[List.sum_cons,List.length_cons]
  omega
theorem sum_take_succ (l:List Int) {i:Nat} {x:Int} (h:l[i]?=some x):(l.take (i+1)).sum=(l.take i).sum+x:=by
 rw[List.take_succ,h]
 simp
theorem qsum_ok {h:IH} {v:Value} {l:List Int} (hv:SlOf h 1 v l.length (l.map KI)) (hl:l.length≤60) (hr : ∀n∈l,0≤n∧n≤1000000000) :
  WV Proofs.Tryz.prog (.func (.func 97) #[] #[]) [v] h fun r h'=>h'=h∧r=KI l.sum:=by
 have hn:=hv.now
 refine enter (nt:=17) (rs:=[.tmp 2]) Proofs.Tryz.func97 rfl rfl rfl (by simp) ?_
 simp -dsimp (disch:=omega) only[wpS,Nat.reduceEqDiff,hn.len sl29]
 refine loop (fun m fr h1=>h1=h ∧ ∃i:Nat,i+m=l.length∧fget fr 3=some (KI (l.take i).sum)∧fget fr 6=some v∧fget fr 7=some (KI l.length)∧fget fr 8=some (KI i)) l.length ⟨rfl,0,by simp,by simp,by simp,by simp,by simp⟩ ?_
 rintro m fr h1 ⟨rfl,i,him,f3,f6,f7,f8⟩
 by_cases c:i<l.length
 ·obtain⟨x,hx⟩ : ∃x,l[i]?=some x:=⟨l[i],List.getElem?_eq_getElem c⟩
  have b1:=sum_bound (l.take i) fun n hn=>hr n (List.mem_of_mem_take hn)
  have b2:=hr x (List.mem_of_getElem? hx)
  have b3:(l.take i).length≤60:=by rw[List.length_take];omega
  have e1:IntKind.i64.wrap ((l.take i).sum+x)=(l.take (i+1)).sum:=by rw[sum_take_succ l hx,wrap_i64 (by omega)]
  have e2:IntKind.i64.wrap ((i:Int)+1)=((i+1:Nat):Int):=by rw[wrap_i64 (by omega)];omega
  simp -dsimp (disch:=omega) only[wpS,wpT,Nat.reduceEqDiff,f3,f6,f7,f8,e1,e2,hn.idx es29 c,hn.ld (P:=Proofs.Tryz.prog) (t:=3) (c:=i) (by simp<;>omega) ag3,map_get,hx]
  exact⟨m - 1,by omega,rfl,i+1,by omega,by simp,by simp[f6],by simp[f7],by simp⟩
 ·simp -dsimp (disch:=omega) only[wpS,wpT,Nat.reduceEqDiff,f3,f7,f8]
  rw[List.take_of_length_le (by omega)]
def quotaOK (l:List Int):Bool:=decide (l.length≤60) && (inR 0 1000000000 l && !(l.sum == 0))
theorem qcheck_ok {h:IH} {v:Value} {l:List Int} (hv:SlOf h 1 v l.length (l.map KI)) (hl:l.length≤1000000000) :
  WV Proofs.Tryz.prog (.func (.func 49) #[] #[]) [v] h fun r h'=>h'=h∧r=KI (if quotaOK l=true then 0 else 60):=by
 have hn:=hv.now
 refine enter (nt:=17) (rs:=[.tmp 2]) Proofs.Tryz.func49 rfl rfl rfl (by simp) ?_
 by_cases c:l.length≤60
 ·simp -dsimp (disch:=omega) only[wpS,wpT,Nat.reduceEqDiff,hn.len sl29]
  refine call (containsFunc_ok (outR 0 1000000000) hn hl (fun x hx=>qcheck1_ok)) ?_
  rintro _ _ ⟨rfl,rfl⟩
  cases c2:l.any (outR 0 1000000000)
  ·have c3:inR 0 1000000000 l=true:=by unfold inR;rw[c2];rfl
   simp -dsimp (disch:=omega) only[wpS,wpT,Nat.reduceEqDiff]
   refine call (qsum_ok hv c (inR_iff.1 c3)) ?_
   rintro _ _ ⟨rfl,rfl⟩
   cases c4:(l.sum == 0)
   ·simp -dsimp (disch:=omega) only[wpS,wpT,Nat.reduceEqDiff,c4]
    rw[if_pos (by unfold quotaOK;rw[c3,c4,decide_eq_true c];rfl)]
   ·simp -dsimp (disch:=omega) only[wpS,wpT,Nat.reduceEqDiff,c4]
    rw[if_neg (by unfold quotaOK;rw[c3,c4,decide_eq_true c];simp)]
  ·have c3:inR 0 1000000000 l=false:=by unfold inR;rw[c2];rfl
   simp -dsimp (disch:=omega) only[wpS,wpT,Nat.reduceEqDiff]
   rw[if_neg (by unfold quotaOK;rw[c3];simp)]
 ·simp -dsimp (disch:=omega) only[wpS,wpT,Nat.reduceEqDiff,hn.len sl29]
  rw[if_neg (by unfold quotaOK;rw[decide_eq_false c];simp)]
end Go.Id

/-! The first place from which a property that stays holds. -/
namespace Go.Id
open Go
def firstT (p:Nat→Bool):Nat→Nat
 | 0=>0
 | n+1=>if firstT p n<n then firstT p n else if p n=true then n else n+1
theorem firstT_le (p:Nat→Bool) : ∀n,firstT p n≤n
 | 0=>Nat.le_refl _
 | n+1=>by
  have:=firstT_le p n
  unfold firstT
  split
  ·omega
  ·split<;>omega
theorem firstT_below (p:Nat→Bool) : ∀n s,s<firstT p n→p s=false
 | 0,s,h=>absurd h (Nat.not_lt_zero _)
 | n+1,s,h=>by
  have ih:=firstT_below p n
  have hl:=firstT_le p n
  unfold firstT at h
  split at h
  ·exact ih s h
  ·split at h
   ·exact ih s (by omega)
   ·rename_i h1 h2
    rcases Nat.lt_or_ge s n with h3|h3
    ·exact ih s (by omega)
    ·obtain rfl:s=n:=by omega
     simpa using h2
theorem firstT_at (p:Nat→Bool) : ∀n,firstT p n<n→p (firstT p n)=true
 | 0,h=>absurd h (Nat.not_lt_zero _)
 | n+1,h=>by
  have ih:=firstT_at p n
  unfold firstT at h ⊢
  split
  ·rename_i h1;exact ih h1
  ·rename_i h1
   rw[if_neg h1] at h
   split
   ·assumption
   ·rename_i h2;rw[if_neg h2] at h;omega
theorem firstT_eq {p:Nat→Bool} {n a:Nat} (ha:a≤n) (h1 : ∀s,s<a→p s=false) (h2:a<n→p a=true):firstT p n=a:=by
 rcases Nat.lt_trichotomy (firstT p n) a with h|h|h
 ·have:=firstT_at p n (by omega)
  rw[h1 _ h] at this;cases this
 ·exact h
 ·have:=firstT_below p n a h
  have hl:=firstT_le p n
  rw[h2 (by omega)] at this;cases this
theorem firstT_mono {p q:Nat→Bool} {n:Nat} (h : ∀s,s<n→q s=true→p s=true):firstT p n≤firstT q n:=by
 rcases Nat.lt_or_ge (firstT q n) (firstT p n) with h1|h1
 ·have hl:=firstT_le p n
  have:=firstT_below p n _ h1
  rw[h _ (by omega) (firstT_at q n (by omega))] at this;cases this
 ·exact h1
end Go.Id

/-! Signposts rise; the first seat whose signpost is not below a quotient. -/
namespace Go.Id
open Go
theorem postN_cross {m:Nat} (hm:11≤m∧m≤15) (s:Nat):postN m s*postD m (s+1)<postN m (s+1)*postD m s:=by
 rcases(by omega:m=11∨m=12∨m=13∨m=14∨m=15) with rfl|rfl|rfl|rfl|rfl
 ·show s*1<(s+1)*1;omega
 ·show 2*s*(s+1)*(2*(s+1)+1)<2*(s+1)*(s+1+1)*(2*s+1)
  grind
 ·show s*(s+1)*1<(s+1)*(s+1+1)*1
  grind
 ·show(2*s+1)*2<(2*(s+1)+1)*2;omega
 ·show(s+1)*1<(s+1+1)*1;omega
theorem divInt_lt {a b c d:Nat} (hb:0<b) (hd:0<d) (h:a*d<c*b):Rat.divInt a b<Rat.divInt c d:=by
 have h1:(0:Rat)<((b:Int):Rat):=by exact_mod_cast hb
 have h2:(0:Rat)<((d:Int):Rat):=by exact_mod_cast hd
 have h3:((a:Int):Rat)*((d:Int):Rat)<((c:Int):Rat)*((b:Int):Rat):=by exact_mod_cast h
 rw[Rat.divInt_eq_div,Rat.divInt_eq_div,Rat.div_lt_iff h1,show((c:Int):Rat) / ((d:Int):Rat)*((b:Int):Rat)=((c:Int):Rat)*((b:Int):Rat) / ((d:Int):Rat) from by rw[Rat.div_def,Rat.div_def,Rat.mul_assoc,Rat.mul_comm ((d:Int):Rat)⁻¹,←Rat.mul_assoc],Rat.lt_div_iff h2]
 exact h3
theorem postQ_succ {m:Nat} (hm:11≤m∧m≤15) (s:Nat):postQ m s<postQ m (s+1):=divInt_lt (postD_pos m s) (postD_pos m (s+1)) (postN_cross hm s)
theorem postQ_lt {m:Nat} (hm:11≤m∧m≤15) {s t:Nat} (h:s<t):postQ m s<postQ m t:=by
 induction h with
 | refl=>exact postQ_succ hm s
 | step _ ih=>exact(by have h2:=postQ_succ hm (m:=m);grind)
theorem postQ_le {m:Nat} (hm:11≤m∧m≤15) {s t:Nat} (h:s≤t):postQ m s≤postQ m t:=by
 rcases Nat.lt_or_ge s t with h1|h1
 ·exact Rat.le_of_lt (postQ_lt hm h1)
 ·rw[show s=t from by omega];exact Rat.le_refl
theorem cmpQ_mono {x y:Rat} (z:Rat) (h:x≤y):cmpQ x z≤cmpQ y z:=by
 unfold cmpQ
 split<;>split<;>(try split)<;>(try split)<;>grind
def stepP (k:Int) (m:Nat) (t:Rat) (s:Nat):Bool:=decide (k≤cmpQ (postQ m s) t)
theorem stepP_mono {k:Int} {m:Nat} (hm:11≤m∧m≤15) {t:Rat} {s u:Nat} (h:s≤u) (hp:stepP k m t s=true):stepP k m t u=true:=by
 unfold stepP at *
 rw[decide_eq_true_eq] at *
 have:=cmpQ_mono t (postQ_le hm h)
 omega
noncomputable def atT (m:Nat) (x:Rat) (n:Int):Option Rat:=open Classical in
 if QW ((n:Rat) / x) then (if m=13 then (if QW ((n:Rat) / x*((n:Rat) / x)) then some ((n:Rat) / x*((n:Rat) / x)) else none) else some ((n:Rat) / x)) else none
def atLow (m:Nat) (t:Rat):Nat:=firstT (stepP 0 m t) 1001
def atHigh (m:Nat) (t:Rat):Nat:=firstT (stepP 1 m t) 1001
noncomputable def atReg (m:Nat) (x:Rat) (n:Int):Int×Int×Int:=match atT m x n with
 | none=>(6,0,0)
 | some t=>if n=0 then (0,0,0) else if 1000<atHigh m t then (2,0,0) else (0,(atLow m t:Nat),(atHigh m t:Nat))
noncomputable def atE (m:Nat) (x:Rat):List Int→Int
 | []=>0
 | n :: l=>if (atReg m x n).1=0 then atE m x l else (atReg m x n).1
noncomputable def atA (m:Nat) (x:Rat) (l:List Int):List Value:=l.map fun n=>KI (atReg m x n).2.1
noncomputable def atB (m:Nat) (x:Rat) (l:List Int):List Value:=l.map fun n=>KI (atReg m x n).2.2
theorem atE_first {m:Nat} {x:Rat} : ∀{l:List Int} {i:Nat} {n:Int},l[i]?=some n→(∀y∈l.take i,(atReg m x y).1=0)→(atReg m x n).1≠0→atE m x l=(atReg m x n).1
 | [],_,_,h,_,_=>by simp at h
 | a :: l,0,n,h,_,h1=>by
  simp at h;subst h
  rw[atE,if_neg h1]
 | a :: l,i+1,n,h,h0,h1=>by
  simp at h
  rw[atE,if_pos (h0 a (by simp))]
  exact atE_first h (fun y hy=>h0 y (by simp[hy])) h1
theorem atE_none {m:Nat} {x:Rat} : ∀{l:List Int},(∀y∈l,(atReg m x y).1=0)→atE m x l=0
 | [],_=>rfl
 | a :: l,h=>by rw[atE,if_pos (h a (by simp))];exact atE_none fun y hy=>h y (by simp[hy])
noncomputable def atErr (people:List Int) (p:Nat×Nat) (m:Int):Int:=open Classical in
 if quotaOK people=false then 60 else if ¬okS p.1 p.2 then 20 else if ¬0<rOf p∨inR 11 15 [m]=false then 2 else atE m.toNat (rOf p) people
def AtV (h':IH) (r:Value) (people:List Int) (p:Nat×Nat) (m:Int):Prop :=
 if atErr people p m=0 then ∃v w,r=.tuple #[v,w,KI 0]∧SlOf h' 1 v people.length (atA m.toNat (rOf p) people)∧SlOf h' 1 w people.length (atB m.toNat (rOf p) people)
 else r=.tuple #[.slice none 0 0,.slice none 0 0,KI (atErr people p m)]
end Go.Id

/-! Contracts: sort.Search; the search for a signpost. -/
namespace Go.Id
open Go
set_option maxHeartbeats 1000000 in
theorem search_ok {h0 h:IH} {y:Value} {n:Nat} (p:Nat→Bool) (hn:n≤1000000) (mono : ∀s u,s≤u→p s=true→p u=true) (e:Ext h0 h)
  (hy : ∀(hh:IH) (i:Nat),i<n→Ext h0 hh→WV Proofs.Tryz.prog y [KN i] hh fun r h'=>Ext hh h'∧r=.bool (p i)) :
  WV Proofs.Tryz.prog (.func (.func 55) #[] #[]) [KN n,y] h fun r h'=>Ext h h'∧r=KN (firstT p n):=by
 refine enter (nt:=26) (rs:=[.tmp 4]) Proofs.Tryz.func55 rfl rfl rfl (by simp) ?_
 simp -dsimp (disch:=omega) only[wpS,Nat.reduceEqDiff,Nat.reduceAdd]
 refine loop (fun m fr hh => ∃i j:Nat,i+m=j∧j≤n∧(∀s,s<i→p s=false)∧(j<n→p j=true)∧Ext h hh∧fget fr 1=some y∧fget fr 5=some (KN i)∧fget fr 6=some (KN j)) n ⟨0,n,by omega,by omega,fun s hs=>absurd hs (by omega),fun hj=>absurd hj (by omega),Ext.refl h,by simp,by simp,by simp⟩ ?_
 rintro m fr hh ⟨i,j,hij,hj,l1,l2,E,f1,f5,f6⟩
 by_cases c:i<j
 ·have e1:IntKind.i64.wrap ((i:Int)+(j:Int))=((i+j:Nat):Int):=by rw[wrap_i64 (by omega)];omega
  have e2:IntKind.i64.wrap ((nshr (i+j) 1:Nat):Int)=(((i+j) / 2:Nat):Int):=by
   rw[show nshr (i+j) 1=(i+j) / 2 from by rw[nshr,Nat.shiftRight_eq_div_pow],wrap_i64 (by omega)]
  have e3:IntKind.i64.wrap ((((i+j) / 2:Nat):Int)+1)=(((i+j) / 2+1:Nat):Int):=by rw[wrap_i64 (by omega)];omega
  simp -dsimp (disch:=omega) only[wpS,wpT,Nat.reduceEqDiff,cv3_145,cv145_3,f1,f5,f6,e1,e2]
  refine call (hy hh ((i+j) / 2) (by omega) (e.trans E)) ?_
  rintro _ h1 ⟨X1,rfl⟩
  cases hp:p ((i+j) / 2)
  ·simp -dsimp (disch:=omega) only[wpS,wpT,Nat.reduceEqDiff,e3]
   refine⟨j - ((i+j) / 2+1),by omega,(i+j) / 2+1,j,by omega,hj,fun s hs=>?_,l2,E.trans X1,by simp[f1],by simp,by simp[f6]⟩
   cases hs2:p s
   ·rfl
   ·rw[mono s ((i+j) / 2) (by omega) hs2] at hp;cases hp
  ·simp -dsimp (disch:=omega) only[wpS,wpT,Nat.reduceEqDiff]
   exact⟨(i+j) / 2 - i,by omega,i,(i+j) / 2,by omega,by omega,l1,fun _=>hp,E.trans X1,by simp[f1],by simp[f5],by simp⟩
 ·simp -dsimp (disch:=omega) only[wpS,wpT,Nat.reduceEqDiff,f5,f6]
  have hij:i=j:=by omega
  subst hij
  refine⟨E,?_⟩
  rw[firstT_eq hj l1 l2]
end Go.Id

/-! Contracts: package bracket: within, open. -/
namespace Go.Id
open Go
theorem bwithin1_ok {h:IH} {b b2:Nat} {lo hi n:Int} (g:h.ext.get b=some (.cells [KI lo] 0 none)) (g2:h.ext.get b2=some (.cells [KI hi] 0 none)) :
  WV Proofs.Tryz.prog (.func (.func 100) #[] #[ptr (2*b) 0,ptr (2*b2) 0]) [KI n] h fun r h'=>h'=h∧r=.bool (outR lo hi n):=by
 refine enter (nt:=13) (rs:=[.tmp 4]) Proofs.Tryz.func100 rfl rfl rfl (by simp) ?_
 by_cases c:n<lo
 ·have d:decide (n<lo)=true:=decide_eq_true c
  simp -dsimp (disch:=omega) only[wpS,wpT,Nat.reduceEqDiff,Nat.reduceAdd,ld3,row_of g,d]
  simp[outR,d]
 ·have d:decide (n<lo)=false:=decide_eq_false c
  simp -dsimp (disch:=omega) only[wpS,wpT,Nat.reduceEqDiff,Nat.reduceAdd,ld3,row_of g,row_of g2,d]
  simp[outR,d]
theorem bwithin_ok {h:IH} {v:Value} {l:List Int} (lo hi:Int) (hv:SlOf h 1 v l.length (l.map KI)) (hl:l.length≤1000000000) :
  WV Proofs.Tryz.prog (.func (.func 51) #[] #[]) [KI lo,KI hi,v] h fun r h'=>Ext h h'∧r=.bool (inR lo hi l):=by
 refine enter (nt:=11) (rs:=[.tmp 6]) Proofs.Tryz.func51 rfl rfl rfl (by simp) ?_
 simp -dsimp (disch:=omega) only[wpS,Nat.reduceEqDiff,Nat.reduceAdd]
 obtain⟨H0,hH0,n0,E0,g0,g1⟩:=boxes2 h [KI lo] [KI hi]
 rw[←hH0]
 clear hH0
 refine call (containsFunc_ok (outR lo hi) (hv.keep E0.keep).now hl (fun x hx=>bwithin1_ok g0 g1)) ?_
 rintro _ _ ⟨rfl,rfl⟩
 simp -dsimp (disch:=omega) only[wpS,wpT,Nat.reduceEqDiff]
 exact E0
abbrev Reg:=Int×Int×Int
def regC (r:Reg):List Value:=[KI r.1,KI r.2.1,KI r.2.2]
def regL (l:List Reg):List Value:=l.flatMap regC
def leastOr (n:Nat) (least:List Int):List Int:=if least = [] then List.replicate n 0 else least
def lowOK (won low:List Int) (n:Nat):Prop:=∀i,i<n→0≤low.getD i 0∧low.getD i 0≤won.getD i 0
instance (won low:List Int) (n:Nat):Decidable (lowOK won low n):=inferInstanceAs (Decidable (∀i,i<n→_))
def openErr (people won:List Int) (m:Int) (least:List Int):Int :=
 if quotaOK people=false then 60 else if won.length≠people.length∨inR 0 1000 won=false then 2
 else if inR 11 15 [m]=false∨(leastOr people.length least).length≠people.length then 2
 else if ¬lowOK won (leastOr people.length least) people.length then 2 else if inR 1 1000 [won.sum]=false then 2 else 0
def regsOf (people won low:List Int) (n:Nat):List Reg:=(List.range n).map fun i=>(people.getD i 0,won.getD i 0,low.getD i 0)
abbrev hallV (m:Int) (s:Value):Value:=.agg #[KI m,s]
structure OX (h H1 hh:IH) (fr:Fr) (vp vw vl:Value) (m:Int) (people won low:List Int) (b:Nat) (i:Nat) (out:Value):Prop where
 e:Ext h hh
 k:Keep H1 hh
 sp:SlOf H1 1 vp people.length (people.map KI)
 sw:SlOf H1 1 vw won.length (won.map KI)
 sl:SlOf H1 1 vl low.length (low.map KI)
 bn:h.n<b∧b<hh.n
 g8:hh.ext.get h.n=some (.cells [KI 0,.slice none 0 0] 0 none)
 g11:hh.ext.get b=some (.cells [KI m,out] 0 none)
 acc:Acc hh h.n 3 out i (regL (regsOf people won low i))
 lw:lowOK won low i
 f1:fget fr 1=some vw
 f3:fget fr 3=some vl
 f8:fget fr 8=some (ptr (2*h.n) 0)
 f11:fget fr 11=some (ptr (2*b) 0)
 f12:fget fr 12=some (KI (won.take i).sum)
 f52:fget fr 52=some vp
 f53:fget fr 53=some (KI people.length)
 f54:fget fr 54=some (KI i)
def OpenV (h':IH) (r:Value) (people won:List Int) (m:Int) (least:List Int):Prop :=
 if openErr people won m least=0 then ∃s,r=.tuple #[hallV m s,KI 0]∧SlOf h' 3 s people.length (regL (regsOf people won (leastOr people.length least) people.length))
 else r=.tuple #[hallV 0 (.slice none 0 0),KI (openErr people won m least)]
theorem OpenV.err {h':IH} {people won:List Int} {m:Int} {least:List Int} {e:Int} (h:openErr people won m least=e) (h0:e≠0):OpenV h' (.tuple #[hallV 0 (.slice none 0 0),KI e]) people won m least:=by
 unfold OpenV
 rw[h,if_neg h0]
end Go.Id

/-! The greater and the lesser of two integers. -/
namespace Go.Id
open Go
end Go.Id

/-! Loops over functions, whose rounds may lay their variable into memory and may end early. -/
namespace Go.Id
open Go
end Go.Id

/-! Weakest preconditions over the ideal machine: appends to slices without room; lengths and parts of slices in regions whose order is open. -/
namespace Go.Id
open Go
end Go.Id

/-! Weakest preconditions over the ideal machine: two lists that grow side by side. -/
namespace Go.Id
open Go
def AccK (h:IH) (n0 sz:Nat) (v:Value) (n:Nat) (cs:List Value) (k:Nat) (fam:Option Nat):Prop :=
 0<sz∧cs.length=n*sz∧v=.slice (some ⟨2*k,0,none⟩) n (2*n)∧0<n∧n0≤k∧k<h.n∧h.ext.get k=some (.cells cs sz fam)∧TopFam h n0 k fam
theorem AccK.acc {h:IH} {n0 sz:Nat} {v:Value} {n:Nat} {cs:List Value} {k:Nat} {fam:Option Nat} (a:AccK h n0 sz v n cs k fam):Acc h n0 sz v n cs:=⟨a.1,a.2.1,.inr ⟨k,fam,a.2.2⟩⟩
theorem AccK.other {h h':IH} {n0 sz:Nat} {v:Value} {n:Nat} {cs:List Value} {k:Nat} {fam:Option Nat} (a:AccK h n0 sz v n cs k fam) (hn:h.n≤h'.n) (he:h'.ext.get k=h.ext.get k) (hf : ∀f,fam=some f→h'.fams.get f=h.fams.get f):AccK h' n0 sz v n cs k fam:=by
 obtain⟨h1,h2,h3,h4,h5,h6,h7,h8⟩:=a
 refine⟨h1,h2,h3,h4,h5,by omega,by rw[he];exact h7,?_⟩
 cases fam with
 | none=>trivial
 | some f =>
  obtain⟨a1,a2,rest,a3,a4⟩:=h8
  exact⟨a1,by omega,rest,by rw[hf f rfl];exact a3,a4⟩
theorem AccK.app {h:IH} {n0 sz:Nat} {v:Value} {n:Nat} {cs:List Value} {kk:Nat} {fam:Option Nat} (a:AccK h n0 sz v n cs kk fam) {P:Program} {t:TypeId} {bytes:Nat} (hT:appT P t=some (sz,bytes)) {x:Value} {m:Nat} {new:List Value} (sx:SlNow h sz x m new) (hm:0<m)
  (hc:new.all cellOK=true) (hsz:(n+m)*(bytes+1)≤1099511627776) :
  ∃h' f,append P h t v x=some (.slice (some ⟨2*h.n,0,none⟩) (n+m) (2*(n+m)),h')∧AccK h' n0 sz (.slice (some ⟨2*h.n,0,none⟩) (n+m) (2*(n+m))) (n+m) (cs ++ new) h.n (some f)∧(fam=some f∨(fam=none∧f=h.n))∧h'.n=h.n+1∧h'.base=h.base ∧
   (∀j,j<h.n→j≠kk→h'.ext.get j=h.ext.get j)∧h'.ext.get kk=some (.cells cs sz (some f))∧(∀g,g<h.n→fam≠some g→h'.fams.get g=h.fams.get g):=by
 unfold appT at hT
 split at hT
 case h_2=>cases hT
 rename_i e hu
 split at hT
 case h_2=>cases hT
 rename_i zs h1 h2 h3
 simp only[cond_eq_ite] at hT
 split at hT
 case isTrue=>cases hT
 rename_i hbad
 cases hT
 have hbad':(sz == 0 || (!(Nat.ble bytes 65536) || !(zs.length == sz)))=false:=by simpa using hbad
 have hmne:(m == 0)=false:=by simp;omega
 have hln:new.length=m*sz∧firstOf h sz m x=some new∧lenOf x=some m:=by
  obtain⟨hz,hl,⟨rfl,rfl⟩|⟨b2,o2,k2,rfl,rfl|⟨row,a1,a2,a3⟩⟩⟩:=sx
  ·omega
  ·omega
  have hms : ¬m*sz=0:=by
   have:0<m*sz:=Nat.mul_pos hm hz
   omega
  refine⟨hl,?_,rfl⟩
  simp only[firstOf,cond_eq_ite,Nat.ble_eq,Nat.le_refl,if_true,beq_iff_eq,if_neg hms]
  rw[rd_of a1,if_pos a3,a2]
 obtain⟨hln,hfirst,hlx⟩:=hln
 obtain⟨hz,hl,rfl,hn,g1,g2,g3,g4⟩:=a
 have hble:Nat.ble ((n+m)*(bytes+1)) sizeMost=true:=by rw[Nat.ble_eq];exact hsz
 have hcap:Nat.ble (n+m) (2*n / 2)=false:=by
  rw[Bool.eq_false_iff];intro hh;rw[Nat.ble_eq] at hh;omega
 have hodd:(2*n % 2 == 1)=false:=by simp
 have hlen:(n == 2*n / 2 && Nat.blt 0 n && (2*kk) % 2 == 0)=true:=by
  have:2*n / 2=n:=by omega
  simp[this,Nat.blt,Nat.ble_eq];omega
 have hend:(0+n*sz == cs.length && sz == sz)=true:=by simp[hl]
 have hk2:2*kk / 2=kk:=by omega
 have body : ∀f below,(∀j∈below,n0≤j)→(n0≤f)→f<h.n+1→(∀g,g<h.n→fam≠some g→g≠f) →
   AccK (grown h kk f cs sz [] below (cs.drop 0 ++ new) sz) n0 sz (.slice (some ⟨2*h.n,0,none⟩) (n+m) (2*(n+m))) (n+m) (cs ++ new) h.n (some f)∧(grown h kk f cs sz [] below (cs.drop 0 ++ new) sz).n=h.n+1∧(grown h kk f cs sz [] below (cs.drop 0 ++ new) sz).base=h.base ∧
   (∀j,j<h.n→j≠kk→(grown h kk f cs sz [] below (cs.drop 0 ++ new) sz).ext.get j=h.ext.get j)∧(grown h kk f cs sz [] below (cs.drop 0 ++ new) sz).ext.get kk=some (.cells cs sz (some f))∧(∀g,g<h.n→fam≠some g→(grown h kk f cs sz [] below (cs.drop 0 ++ new) sz).fams.get g=h.fams.get g):=by
  intro f below hbl hf1 hf2 hf3
  have hget : ∀j,(grown h kk f cs sz [] below (cs.drop 0 ++ new) sz).ext.get j=if j=h.n then some (.cells (cs ++ new) sz (some f)) else if j=kk then some (.cells cs sz (some f)) else h.ext.get j:=by
   intro j
   simp[grown,IH.killAll,Tr.get_set]
  refine⟨⟨hz,by simp[hl,hln,Nat.add_mul],rfl,by omega,by omega,by simp[grown],by rw[hget,if_pos rfl],hf1,by simp[grown];omega,kk :: below,?_,fun j hj=>?_⟩,by simp[grown],rfl,fun j hj hne=>?_,?_,fun g hg hgf=>?_⟩
  ·simp[grown,Tr.get_set]
  ·rcases List.mem_cons.1 hj with rfl|hj
   ·exact g1
   ·exact hbl j hj
  ·rw[hget,if_neg (by omega),if_neg hne]
  ·rw[hget,if_neg (by omega),if_pos rfl]
  ·simp only[grown,Tr.get_set]
   rw[if_neg (hf3 g hg hgf)]
 cases fam with
 | none =>
  obtain⟨b1,b2,b3,b4,b5,b6⟩:=body h.n [] (fun _ h=>by cases h) (by omega) (by omega) (fun g hg _=>by omega)
  refine⟨_,h.n,?_,b1,.inr ⟨rfl,rfl⟩,b2,b3,b4,b5,b6⟩
  simp only[Id.append,hu,h1,h2,h3,hlx,hmne,hbad',hfirst,hc,hble,hcap,hodd,hlen,hk2,g3,hend,cond_true,cond_false,Bool.not_true]
 | some f =>
  obtain⟨f1,f2,rest,f3,f4⟩:=g4
  obtain⟨b1,b2,b3,b4,b5,b6⟩:=body f rest f4 f1 (by omega) (fun g hg hne e=>hne (by rw[e]))
  refine⟨_,f,?_,b1,.inl rfl,b2,b3,b4,b5,b6⟩
  have t1:(kk :: rest).takeWhile (· != kk) = []:=by simp
  have t2:((kk :: rest).dropWhile (· != kk)).drop 1=rest:=by simp
  simp only[Id.append,hu,h1,h2,h3,hlx,hmne,hbad',hfirst,hc,hble,hcap,hodd,hlen,hk2,g3,hend,f3,t1,t2,cond_true,cond_false,Bool.not_true]
def Acc2 (h:IH) (n0 sz:Nat) (v w:Value) (n:Nat) (cs ds:List Value):Prop :=
 (v=.slice none 0 0∧w=.slice none 0 0∧n=0∧cs = []∧ds = []) ∨
 ∃k fam j gam,AccK h n0 sz v n cs k fam∧AccK h n0 sz w n ds j gam∧k≠j ∧ ∀f,fam=some f→gam≠some f
theorem Acc2.sl {h:IH} {n0 sz:Nat} {v w:Value} {n:Nat} {cs ds:List Value} (hz:0<sz) (a:Acc2 h n0 sz v w n cs ds):SlOf h sz v n cs∧SlOf h sz w n ds:=by
 rcases a with⟨rfl,rfl,rfl,rfl,rfl⟩|⟨k,fam,j,gam,a,b,_⟩
 ·exact⟨SlOf.nil _ hz,SlOf.nil _ hz⟩
 ·exact⟨a.acc.sl,b.acc.sl⟩
theorem Acc2.ext {h h':IH} {n0 sz:Nat} {v w:Value} {n:Nat} {cs ds:List Value} (a:Acc2 h n0 sz v w n cs ds) (e:Ext h h'):Acc2 h' n0 sz v w n cs ds:=by
 rcases a with a|⟨k,fam,j,gam,a,b,c⟩
 ·exact .inl a
 ·have hf : ∀{k:Nat} {fam:Option Nat} {v:Value} {cs:List Value},AccK h n0 sz v n cs k fam→AccK h' n0 sz v n cs k fam:=fun a=>a.other e.n (e.get _ a.2.2.2.2.2.1) fun f hf=>e.fams f (by
   obtain⟨_,_,_,_,_,_,_,t⟩:=a
   subst hf
   exact t.2.1)
  exact .inr ⟨k,fam,j,gam,hf a,hf b,c⟩
theorem append_none {P:Program} {t:TypeId} {sz bytes:Nat} (hT:appT P t=some (sz,bytes)) (h:IH) {x:Value} {m:Nat} {new:List Value} (sx:SlNow h sz x m new) (hm:0<m) (hc:new.all cellOK=true) (hsz:m*(bytes+1)≤1099511627776) :
  append P h t (.slice none 0 0) x=some (.slice (some ⟨2*h.n,0,none⟩) m (2*m),h.new (.cells new sz none)):=by
 unfold appT at hT
 split at hT
 case h_2=>cases hT
 rename_i e hu
 split at hT
 case h_2=>cases hT
 rename_i zs h1 h2 h3
 simp only[cond_eq_ite] at hT
 split at hT
 case isTrue=>cases hT
 rename_i hbad
 cases hT
 have hbad':(sz == 0 || (!(Nat.ble bytes 65536) || !(zs.length == sz)))=false:=by simpa using hbad
 obtain⟨hz,hl,⟨rfl,rfl⟩|⟨b2,o2,k2,rfl,rfl|⟨row,a1,a2,a3⟩⟩⟩:=sx
 ·omega
 ·omega
 have hms : ¬m*sz=0:=by
  have:0<m*sz:=Nat.mul_pos hm hz
  omega
 have hmne:(m == 0)=false:=by simp;omega
 have hfirst:firstOf h sz m (.slice (some ⟨b2,o2,none⟩) m k2)=some new:=by
  simp only[firstOf,cond_eq_ite,Nat.ble_eq,Nat.le_refl,if_true,beq_iff_eq,if_neg hms]
  rw[rd_of a1,if_pos a3,a2]
 have hble:Nat.ble (m*(bytes+1)) sizeMost=true:=by rw[Nat.ble_eq];exact hsz
 simp only[Id.append,hu,h1,h2,h3,lenOf,hmne,hbad',hfirst,hc,hble,cond_true,cond_false,Bool.not_true,BEq.rfl,Bool.and_self]
theorem accK_new {h:IH} {n0 sz m:Nat} {cs:List Value} (hz:0<sz) (hl:cs.length=m*sz) (hm:0<m) (h0:n0≤h.n):AccK (h.new (.cells cs sz none)) n0 sz (.slice (some ⟨2*h.n,0,none⟩) m (2*m)) m cs h.n none :=
 ⟨hz,hl,rfl,hm,h0,by simp,get_new_same _ _ rfl,trivial⟩
theorem Acc2.round {h:IH} {n0 sz:Nat} {v w:Value} {n:Nat} {cs ds:List Value} (a:Acc2 h n0 sz v w n cs ds) {P:Program} {t:TypeId} {bytes:Nat} (hT:appT P t=some (sz,bytes)) (hz:0<sz) {new1 new2:List Value} (l1:new1.length=sz) (l2:new2.length=sz)
  (c1:new1.all cellOK=true) (c2:new2.all cellOK=true) (hsz:(n+1)*(bytes+1)≤1099511627776) (h0:n0≤h.n) {h0':IH} (e0:Ext h0' h) (hn0:h0'.n≤n0) :
  ∃v' h1 w' h2,append P (h.new (.cells new1 sz none)) t v (.slice (some ⟨2*h.n,0,none⟩) 1 3)=some (v',h1)∧append P (h1.new (.cells new2 sz none)) t w (.slice (some ⟨2*h1.n,0,none⟩) 1 3)=some (w',h2) ∧
   Acc2 h2 n0 sz v' w' (n+1) (cs ++ new1) (ds ++ new2)∧Grow h h1∧Grow h1 h2∧Ext h0' h2:=by
 have x1:SlNow (h.new (.cells new1 sz none)) sz (.slice (some ⟨2*h.n,0,none⟩) 1 3) 1 new1:=(sl_block (k:=h.n) (f:=none) (get_new_same _ _ rfl) (by simp) hz (by omega) (by omega) (by omega):SlOf _ _ _ _ _).now
 have x2 : ∀h1:IH,SlNow (h1.new (.cells new2 sz none)) sz (.slice (some ⟨2*h1.n,0,none⟩) 1 3) 1 new2:=fun h1=>(sl_block (k:=h1.n) (f:=none) (get_new_same _ _ rfl) (by simp) hz (by omega) (by omega) (by omega):SlOf _ _ _ _ _).now
 have E1:Ext h (h.new (.cells new1 sz none)):=(Ext.refl h).new _
 rcases a with⟨rfl,rfl,rfl,rfl,rfl⟩|⟨k,fam,j,gam,ay,az,hkj,hfg⟩
 ·refine⟨_,_,_,_,append_none hT _ x1 (by omega) c1 (by omega),append_none hT _ (x2 _) (by omega) c2 (by omega),.inr ⟨(h.new (.cells new1 sz none)).n,none,_,none,?_,accK_new hz (by omega) (by omega) (by simp only[new_n];omega),?_,fun f hf=>by cases hf⟩,(E1.new _).grow,(((Ext.refl _).new _).new _).grow,(((e0.trans E1).new _).new _).new _⟩
  ·have A:=accK_new (h:=h.new (.cells new1 sz none)) (n0:=n0) (cs:=new1) hz (m:=1) (by omega) (by omega) (by simp only[new_n];omega)
   refine A.other (by simp only[new_n];omega) ?_ (fun f hf=>by cases hf)
   rw[get_new_old _ _ (by simp only[new_n];omega),get_new_old _ _ (by simp only[new_n];omega)]
  ·simp only[new_n];omega
 ·have ay1:AccK (h.new (.cells new1 sz none)) n0 sz v n cs k fam:=ay.other E1.n (E1.get _ ay.2.2.2.2.2.1) fun f _=>rfl
  have az1:AccK (h.new (.cells new1 sz none)) n0 sz w n ds j gam:=az.other E1.n (E1.get _ az.2.2.2.2.2.1) fun f _=>rfl
  have jn:j<h.n:=az.2.2.2.2.2.1
  have gn : ∀g,gam=some g→g<h.n:=fun g hg=>by
   obtain⟨_,_,_,_,_,_,_,tz⟩:=az
   subst hg
   exact tz.2.1
  obtain⟨h1,f1,ap1,a1,hf1,n1,b1,o1,k1,s1⟩:=ay1.app hT x1 (by omega) c1 hsz
  simp only[new_n] at n1 o1 s1 hf1
  have hfn:gam≠some f1:=by
   rcases hf1 with hf|⟨_,hf⟩
   ·exact hfg _ hf
   ·intro e;have:=gn _ e;omega
  have az2:AccK h1 n0 sz w n ds j gam:=az1.other (by simp only[new_n];omega) (o1 j (by omega) (Ne.symm hkj)) fun g hg=>s1 g (by have:=gn g hg;omega) (fun e=>hfg _ e hg)
  have E2:Ext h1 (h1.new (.cells new2 sz none)):=(Ext.refl h1).new _
  have az3:AccK (h1.new (.cells new2 sz none)) n0 sz w n ds j gam:=az2.other E2.n (E2.get _ az2.2.2.2.2.2.1) fun f _=>rfl
  obtain⟨h2,g2,ap2,a2,hg2,n2,b2,o2,k2,s2⟩:=az3.app hT (x2 h1) (by omega) c2 hsz
  simp only[new_n] at n2 o2 s2 hg2
  have a1':AccK (h1.new (.cells new2 sz none)) n0 sz (.slice (some ⟨2*(h.new (.cells new1 sz none)).n,0,none⟩) (n+1) (2*(n+1))) (n+1) (cs ++ new1) (h.new (.cells new1 sz none)).n (some f1):=a1.other E2.n (E2.get _ a1.2.2.2.2.2.1) fun f _=>rfl
  have f1n:f1<h1.n:=a1.2.2.2.2.2.2.2.2.1
  have a1'':=a1'.other (h':=h2) (by simp only[new_n];omega) (o2 _ (by simp only[new_n];omega) (by simp only[new_n];omega)) fun f hf=>by
   cases hf
   exact s2 _ (by omega) hfn
  have G1:Grow h h1:=by
   refine⟨by omega,by rw[b1];rfl,fun i hi=>?_⟩
   by_cases hik:i=k
   ·subst hik
    exact .inr ⟨cs,sz,fam,some f1,by omega,ay.2.2.2.2.2.2.1,k1⟩
   ·left
    rw[o1 i (by omega) hik,get_new_old _ _ (by omega)]
  have G2:Grow h1 h2:=by
   refine⟨by omega,by rw[b2];rfl,fun i hi=>?_⟩
   by_cases hij:i=j
   ·subst hij
    exact .inr ⟨ds,sz,gam,some g2,by omega,az2.2.2.2.2.2.2.1,k2⟩
   ·left
    rw[o2 i (by omega) hij,get_new_old _ _ (by omega)]
  refine⟨_,h1,_,h2,ap1,ap2,.inr ⟨_,_,_,_,a1'',a2,by simp only[new_n];omega,fun f hf e=>?_⟩,G1,G2,?_⟩
  ·cases hf
   rcases hg2 with hg|⟨_,hg⟩
   ·exact hfn (hg.trans e)
   ·cases e;omega
  ·have kn0:n0≤k:=ay.2.2.2.2.1
   have jn0:n0≤j:=az.2.2.2.2.1
   have e0n:=e0.n
   refine⟨by omega,by rw[b2];show h1.base=_;rw[b1];exact e0.base,fun i hi=>?_,fun g hg=>?_⟩
   ·rw[o2 i (by omega) (by omega),get_new_old _ _ (by omega),o1 i (by omega) (by omega),get_new_old _ _ (by omega)]
    exact e0.get i hi
   ·have tg : ∀g,gam=some g→n0≤g:=fun g hg=>by
     obtain⟨_,_,_,_,_,_,_,tz⟩:=az
     subst hg
     exact tz.1
    have tf : ∀g,fam=some g→n0≤g:=fun g hg=>by
     obtain⟨_,_,_,_,_,_,_,tz⟩:=ay
     subst hg
     exact tz.1
    have r1:h2.fams.get g=(h1.new (.cells new2 sz none)).fams.get g:=s2 g (by omega) fun e=>by have:=tg g e;omega
    have r2:h1.fams.get g=(h.new (.cells new1 sz none)).fams.get g:=s1 g (by omega) fun e=>by have:=tf g e;omega
    rw[r1]
    show h1.fams.get g=_
    rw[r2]
    exact e0.fams g hg
end Go.Id

/-! Contracts: bracket.At. -/
namespace Go.Id
open Go
theorem postErr_in {m s:Nat} (hm:11≤m∧m≤15) (hs:s≤1000):postErr m s=false:=by
 unfold postErr
 rw[Bool.not_eq_false',Bool.and_eq_true,inR_iff,inR_iff]
 exact⟨by simp;omega,by simp;omega⟩
set_option maxHeartbeats 1000000 in
theorem atGeq_ok {h:IH} {km kt kl m s:Nat} {t:Rat} {k:Int} (hm:11≤m∧m≤15) (hs:s≤1000) (ht:QW t) (gm:h.ext.get km=some (.cells [KN m] 0 none)) (gt:h.ext.get kt=some (.cells (shC (shq t).1 (shq t).2) 0 none)) (gl:h.ext.get kl=some (.cells [KI k] 0 none))
  (bt:kt<h.n) (bl:kl<h.n) :
  WV Proofs.Tryz.prog (.func (.func 56) #[] #[ptr (2*km) 0,ptr (2*kt) 0,ptr (2*kl) 0]) [KN s] h fun r h'=>Ext h h'∧r=.bool (stepP k m t s):=by
 refine enter (nt:=25) (rs:=[.tmp 5]) Proofs.Tryz.func56 rfl rfl rfl (by simp) ?_
 simp -dsimp (disch:=omega) only[wpS,Nat.reduceEqDiff,Nat.reduceAdd,ld3,row_of gm]
 refine call (dPost_ok m s) ?_
 rintro _ h1 ⟨X1,hr⟩
 rw[if_neg (by rw[postErr_in hm hs];simp),Int.toNat_natCast,Int.toNat_natCast] at hr
 subst hr
 have m1:=X1.n
 obtain⟨H1,hH1,n1,E1,g1⟩:=boxed h1 Z16 (shC (shq (postQ m s)).1 (shq (postQ m s)).2)
 simp -dsimp (disch:=omega) only[wpS,wpT,Nat.reduceEqDiff,Nat.reduceLeDiff,Nat.reduceAdd,zc47,st47,ld47,shV_cells,shC_len,shC_all,sh_sp3,row_of (X1.kept bt gt),sh_take]
 rw[←hH1]
 clear hH1
 have X2:=X1.trans E1
 refine call (shcmp_ok (p1:=shq (postQ m s)) (p2:=shq t) (shq_lt (postQ_qw hs)) (shq_lt ht) (shq_rOf (postQ_qw hs)).2 (shq_rOf ht).2) ?_
 rintro _ h2 ⟨X3,rfl⟩
 rw[cmpQ_rOf (postQ_qw hs) ht]
 simp -dsimp (disch:=omega) only[wpS,Nat.reduceEqDiff,ld3,row_of ((X2.trans X3).kept bl gl)]
 exact⟨X2.trans X3,rfl⟩
theorem atFirst_ok {h:IH} {km kt m:Nat} {t:Rat} (k:Int) (hm:11≤m∧m≤15) (ht:QW t) (gm:h.ext.get km=some (.cells [KN m] 0 none)) (gt:h.ext.get kt=some (.cells (shC (shq t).1 (shq t).2) 0 none)) (bm:km<h.n) (bt:kt<h.n) :
  WV Proofs.Tryz.prog (.func (.func 54) #[] #[ptr (2*km) 0,ptr (2*kt) 0]) [KI k] h fun r h'=>Ext h h'∧r=KN (firstT (stepP k m t) 1001):=by
 refine enter (nt:=7) (rs:=[.tmp 4]) Proofs.Tryz.func54 rfl rfl rfl (by simp) ?_
 simp -dsimp (disch:=omega) only[wpS,Nat.reduceEqDiff,Nat.reduceAdd]
 obtain⟨H1,hH1⟩ : ∃H,H=h.new (.cells [KI k] 0 none):=⟨_,rfl⟩
 have E1:Ext h H1:=by rw[hH1];exact(Ext.refl h).new _
 have g1:H1.ext.get h.n=some (.cells [KI k] 0 none):=by rw[hH1];simp (disch:=first|omega|(simp only[new_n,put_n];omega)|(repeat first|rw[new_n]|rw[put_n])) only[get_new_same]
 have n1:H1.n=h.n+1:=by rw[hH1];simp
 rw[←hH1]
 clear hH1
 refine call (search_ok (h0:=H1) (n:=1001) (stepP k m t) (by omega) (fun s u=>stepP_mono hm) (Ext.refl _) (fun hh i hi E=>atGeq_ok hm (by omega) ht ((E1.trans E).kept bm gm) ((E1.trans E).kept bt gt) (E.kept (by omega) g1) (by have:=(E1.trans E).n;omega) (by have:=E.n;omega))) ?_
 rintro _ h2 ⟨X2,rfl⟩
 simp -dsimp (disch:=omega) only[wpS,wpT,Nat.reduceEqDiff]
 exact E1.trans X2
theorem sh_spA (a b c d:Nat):IH.splice (shC a b) 0 (shC c d)=shC c d:=splice_all (by rw[shC_len,shC_len])
theorem AtV.err {h':IH} {people:List Int} {p:Nat×Nat} {m e:Int} (h:atErr people p m=e) (h0:e≠0):AtV h' (.tuple #[.slice none 0 0,.slice none 0 0,KI e]) people p m:=by
 unfold AtV
 rw[h,if_neg h0]
theorem rOf_num0 {p:Nat×Nat} (h:0<rOf p):p.1≠0:=by
 intro e
 unfold rOf at h
 rw[e,show wdI 0=0 from by decide +kernel,Rat.zero_divInt] at h
 exact absurd h (by decide)
theorem divInt_one (n:Int):Rat.divInt n 1=(n:Rat):=by
 rw[Rat.divInt_eq_div]
 have:((1:Int):Rat)=1:=rfl
 rw[this]
 grind
set_option maxHeartbeats 4000000 in
theorem at_ok {h:IH} {vp:Value} {m:Int} {people:List Int} {p:Nat×Nat} (hp:SlOf h 1 vp people.length (people.map KI)) (lp:people.length≤1000000000) (h1:p.1<W8∧p.2<W8) :
  WV Proofs.Tryz.prog (.func (.func 22) #[] #[]) [vp,shV p.1 p.2,KI m] h fun r h'=>Ext h h'∧AtV h' r people p m:=by
 have z0 : ∀(n:Nat),((n:Nat):Int)=0↔n=0:=fun n=>by omega
 refine enter (nt:=97) (rs:=[.tmp 6,.tmp 7,.tmp 8]) Proofs.Tryz.func22 rfl rfl rfl (by simp) ?_
 simp -dsimp (maxSteps:=1000000) (disch:=first|omega|(simp only[new_n,put_n];omega)|decide +kernel|(repeat first|rw[new_n]|rw[put_n])) only[wpS,Nat.reduceEqDiff,Nat.reduceAdd,shV_cells]
 obtain⟨H0,hH0,n0,E0,g0,g1⟩:=boxes2 h (shC p.1 p.2) [KI m]
 rw[←hH0]
 clear hH0
 refine call (qcheck_ok (hp.keep E0.keep) lp) ?_
 rintro _ _ ⟨rfl,rfl⟩
 cases c1:quotaOK people
 ·simp -dsimp (maxSteps:=1000000) (disch:=first|omega|(simp only[new_n,put_n];omega)|decide +kernel|(repeat first|rw[new_n]|rw[put_n])) only[wpS,wpT,Nat.reduceEqDiff]
  exact⟨E0,AtV.err (e:=60) (by unfold atErr;rw[if_pos c1]) (by omega)⟩
 ·have c1' : ¬quotaOK people=false:=by rw[c1];simp
  simp -dsimp (maxSteps:=1000000) (disch:=first|omega|(simp only[new_n,put_n];omega)|decide +kernel|(repeat first|rw[new_n]|rw[put_n])) only[wpS,wpT,Nat.reduceEqDiff,Nat.reduceLeDiff,ld47,row_of g0,shC_len,sh_take]
  refine call (shcheck_ok p.1 p.2 h1.1 h1.2) ?_
  rintro _ h2 ⟨X2,rfl⟩
  have m2:=X2.n
  by_cases c2:okS p.1 p.2
  ·rw[if_pos c2]
   have c2' : ¬¬okS p.1 p.2:=fun h=>h c2
   simp -dsimp (maxSteps:=1000000) (disch:=first|omega|(simp only[new_n,put_n];omega)|decide +kernel|(repeat first|rw[new_n]|rw[put_n])) only[wpS,wpT,Nat.reduceEqDiff,Nat.reduceLeDiff,ld47,row_of (X2.kept (by omega) g0),shC_len,sh_take]
   refine call (shsign_ok (p1:=p) h1 c2) ?_
   rintro _ h3 ⟨X3,rfl⟩
   have Y3:=X2.trans X3
   have m3:=Y3.n
   by_cases c3:0<rOf p
   ·have sg:(if rOf p<0 then (-1:Int) else if rOf p=0 then 0 else 1)=1:=by
     rw[if_neg (fun h=>by grind),if_neg (fun h=>by rw[h] at c3;exact absurd c3 (by decide))]
    rw[sg]
    simp -dsimp (maxSteps:=1000000) (disch:=first|omega|(simp only[new_n,put_n];omega)|decide +kernel|(repeat first|rw[new_n]|rw[put_n])) only[wpS,wpT,Nat.reduceEqDiff,Nat.reduceLeDiff,Nat.reduceAdd,ld3,bs29,row_of (Y3.kept (by omega) g1)]
    refine call (bwithin_ok (l:=[m]) 11 15 (built1 h3 m) (by simp)) ?_
    rintro _ h4 ⟨X4,rfl⟩
    have Y4:=(Y3.trans ((Ext.refl h3).new _)).trans X4
    have m4:=Y4.n
    cases c4:inR 11 15 [m]
    ·simp -dsimp (maxSteps:=1000000) (disch:=first|omega|(simp only[new_n,put_n];omega)|decide +kernel|(repeat first|rw[new_n]|rw[put_n])) only[wpS,wpT,Nat.reduceEqDiff]
     exact⟨E0.trans Y4,AtV.err (e:=2) (by unfold atErr;rw[if_neg c1',if_neg c2',if_pos (.inr c4)]) (by omega)⟩
    ·have er:atErr people p m=atE m.toNat (rOf p) people:=by unfold atErr;rw[if_neg c1',if_neg c2',if_neg (by rw[c4];simp[c3])]
     have hm:=inR_iff.1 c4 m (by simp)
     obtain⟨a,rfl⟩ : ∃a:Nat,m=a:=⟨m.toNat,by omega⟩
     have ha:11≤a∧a≤15:=by omega
     rw[Int.toNat_natCast] at er
     obtain⟨x,hx⟩ : ∃x,x=rOf p:=⟨_,rfl⟩
     have G4:=E0.trans Y4
     have hq:people.length≤60 ∧ ∀n∈people,0≤n∧n≤1000000000:=by
      unfold quotaOK at c1
      simp only[Bool.and_eq_true,decide_eq_true_eq] at c1
      exact⟨c1.1,inR_iff.1 c1.2.1⟩
     have k0:=Y4.kept (by omega) g0
     have k1:=Y4.kept (by omega) g1
     simp -dsimp (maxSteps:=1000000) (disch:=first|omega|(simp only[new_n,put_n];omega)|decide +kernel|(repeat first|rw[new_n]|rw[put_n])) only[wpS,wpT,Nat.reduceEqDiff,(hp.keep G4.keep).now.len sl29]
     refine loop (fun mm fr hh => ∃(i:Nat) (v w:Value),i+mm=people.length∧Ext h4 hh∧Acc2 hh h4.n 1 v w i (atA a x (people.take i)) (atB a x (people.take i))∧(∀y∈people.take i,(atReg a x y).1=0)∧fget fr 4=some (ptr (2*h.n) 0)∧fget fr 5=some (ptr (2*(h.n+1)) 0)∧fget fr 6=some v∧fget fr 7=some w∧fget fr 45=some vp∧fget fr 46=some (KN people.length)∧fget fr 47=some (KN i)) people.length
      ⟨0,.slice none 0 0,.slice none 0 0,by omega,Ext.refl _,.inl ⟨rfl,rfl,rfl,by simp[atA],by simp[atB]⟩,fun y hy=>by simp at hy,by simp,by simp,by simp,by simp,by simp,by simp,by simp⟩ ?_
     rintro mm fr hh ⟨i,v,w,him,E,A,hz,f4,f5,f6,f7,f45,f46,f47⟩
     have EN:=E.n
     have k0':=E.kept (by omega) k0
     have k1':=E.kept (by omega) k1
     have P0:=(hp.keep (G4.trans E).keep).now
     by_cases c:i<people.length
     ·obtain⟨n,hn⟩ : ∃n,people[i]?=some n:=⟨_,List.getElem?_eq_getElem c⟩
      have hnm:=hq.2 n (List.mem_of_getElem? hn)
      have lP:=P0.ld (P:=Proofs.Tryz.prog) (t:=3) (c:=i) (by simp<;>omega) ag3
      rw[map_get,hn] at lP
      have e2:IntKind.i64.wrap ((i:Int)+1)=((i+1:Nat):Int):=by rw[wrap_i64 (by omega)];omega
      simp -dsimp (maxSteps:=1000000) (disch:=first|omega|(simp only[new_n,put_n];omega)|decide +kernel|(repeat first|rw[new_n]|rw[put_n])) only[wpS,wpT,Nat.reduceEqDiff,f45,f46,f47,P0.idx es29 c,lP]
      refine call (shof_ok n 1 ⟨by omega,by omega⟩ ⟨by omega,by omega⟩ (by omega)) ?_
      rintro _ h5 ⟨X5,rfl⟩
      have qn:QW (n:Rat):=by rw[←divInt_one];exact qw_small (by omega) (by omega) (by omega)
      rw[divInt_one,shareV_shq]
      obtain⟨H6,hH6,n6,E6,g6⟩:=boxed h5 Z16 (shC (shq (n:Rat)).1 (shq (n:Rat)).2)
      have m5:=X5.n
      simp -dsimp (maxSteps:=1000000) (disch:=first|omega|(simp only[new_n,put_n];omega)|decide +kernel|(repeat first|rw[new_n]|rw[put_n])) only[wpS,wpT,Nat.reduceEqDiff,Nat.reduceLeDiff,Nat.reduceAdd,ld47,zc47,st47,f4,shV_cells,shC_len,shC_all,sh_sp3,row_of (X5.kept (by omega) k0'),sh_take]
      rw[←hH6]
      clear hH6
      have Y6:=X5.trans E6
      refine call (shdiv_ok (p1:=shq (n:Rat)) (p2:=p) (shq_lt qn) h1 (shq_rOf qn).2 c2 (rOf_num0 c3)) ?_
      rintro _ h7 ⟨X7,rfl⟩
      rw[(shq_rOf qn).1,←hx]
      have Y7:=Y6.trans X7
      have m7:=Y7.n
      by_cases w1:QW ((n:Rat) / x)
      ·rw[toldV_qw w1]
       obtain⟨H8,hH8,n8,E8,g8⟩:=boxed h7 Z16 (shC (shq ((n:Rat) / x)).1 (shq ((n:Rat) / x)).2)
       simp -dsimp (maxSteps:=1000000) (disch:=first|omega|(simp only[new_n,put_n];omega)|decide +kernel|(repeat first|rw[new_n]|rw[put_n])) only[wpS,wpT,Nat.reduceEqDiff,Nat.reduceLeDiff,Nat.reduceAdd,ld3,zc47,st47,f5,shV_cells,shC_len,shC_all,sh_sp3,row_of (Y7.kept (by omega) k1')]
       rw[←hH8]
       clear hH8
       refine bq_cut (fun fr2 h2 => ∃(s:Nat×Nat) (er:Int),Ext h7 h2∧h7.n<h2.n∧h2.ext.get h7.n=some (.cells (shC s.1 s.2) 0 none)∧((er=0 ∧ ∃t,atT a x n=some t∧s=shq t∧QW t)∨(er=6∧atT a x n=none))∧fget fr2 4=some (ptr (2*h.n) 0)∧fget fr2 5=some (ptr (2*(h.n+1)) 0)∧fget fr2 6=some v∧fget fr2 7=some w∧fget fr2 14=some (KI n)∧fget fr2 17=some (ptr (2*h7.n) 0)∧fget fr2 18=some (KI er)∧fget fr2 45=some vp∧fget fr2 46=some (KN people.length)∧fget fr2 47=some (KN i)) (fun hc=>?_) (fun hc=>?_) ?_
       ·have a13:a=13:=by simp at hc;omega
        simp -dsimp (maxSteps:=1000000) (disch:=first|omega|(simp only[new_n,put_n];omega)|decide +kernel|(repeat first|rw[new_n]|rw[put_n])) only[wpS,wpT,Nat.reduceEqDiff,Nat.reduceLeDiff,ld47,row_of g8,shC_len,sh_take]
        refine call (shmul_ok (p1:=shq ((n:Rat) / x)) (p2:=shq ((n:Rat) / x)) (shq_lt w1) (shq_lt w1) (shq_rOf w1).2 (shq_rOf w1).2) ?_
        rintro _ h9 ⟨X9,rfl⟩
        have g9:=X9.kept (by omega) g8
        have m9:=X9.n
        rw[(shq_rOf w1).1]
        by_cases w2:QW ((n:Rat) / x*((n:Rat) / x))
        ·rw[toldV_qw w2]
         simp -dsimp (maxSteps:=1000000) (disch:=first|omega|(simp only[new_n,put_n];omega)|decide +kernel|(repeat first|rw[new_n]|rw[put_n])) only[wpS,wpT,Nat.reduceEqDiff,Nat.reduceLeDiff,st47,g9,shV_cells,shC_len,shC_all,sh_spA]
         exact⟨shq ((n:Rat) / x*((n:Rat) / x)),0,(E8.trans X9).put (by omega) _,by simp;omega,by simp (disch:=first|omega|(simp only[new_n,put_n];omega)|(repeat first|rw[new_n]|rw[put_n])) only[get_put_same],.inl ⟨rfl,_,by unfold atT;rw[if_pos w1,if_pos a13,if_pos w2],rfl,w2⟩,by simp[f4],by simp[f5],by simp[f6],by simp[f7],by simp,by simp,by simp,by simp[f45],by simp[f46],by simp[f47]⟩
        ·have tz:toldV ((n:Rat) / x*((n:Rat) / x))=.tuple #[shV 0 0,KI 6]:=by unfold toldV;rw[if_neg w2]
         rw[tz]
         simp -dsimp (maxSteps:=1000000) (disch:=first|omega|(simp only[new_n,put_n];omega)|decide +kernel|(repeat first|rw[new_n]|rw[put_n])) only[wpS,wpT,Nat.reduceEqDiff,Nat.reduceLeDiff,st47,g9,shV_cells,shC_len,shC_all,sh_spA]
         exact⟨(0,0),6,(E8.trans X9).put (by omega) _,by simp;omega,by simp (disch:=first|omega|(simp only[new_n,put_n];omega)|(repeat first|rw[new_n]|rw[put_n])) only[get_put_same],.inr ⟨rfl,by unfold atT;rw[if_pos w1,if_pos a13,if_neg w2]⟩,by simp[f4],by simp[f5],by simp[f6],by simp[f7],by simp,by simp,by simp,by simp[f45],by simp[f46],by simp[f47]⟩
       ·have a13 : ¬a=13:=by simp at hc;omega
        simp -dsimp (maxSteps:=1000000) (disch:=first|omega|(simp only[new_n,put_n];omega)|decide +kernel|(repeat first|rw[new_n]|rw[put_n])) only[wpS,wpT]
        exact⟨shq ((n:Rat) / x),0,E8,by omega,g8,.inl ⟨rfl,_,by unfold atT;rw[if_pos w1,if_neg a13],rfl,w1⟩,by simp[f4],by simp[f5],by simp[f6],by simp[f7],by simp,by simp,by simp,by simp[f45],by simp[f46],by simp[f47]⟩
       ·rintro fr2 h9 ⟨s,er9,X9,hn9,g9,hcase,f4,f5,f6,f7,f14,f17,f18,f45,f46,f47⟩
        have Y9:=Y7.trans X9
        have m9:=Y9.n
        rcases hcase with⟨rfl,t,ht,rfl,qt⟩|⟨rfl,ht⟩
        ·simp -dsimp (maxSteps:=1000000) (disch:=first|omega|(simp only[new_n,put_n];omega)|decide +kernel|(repeat first|rw[new_n]|rw[put_n])) only[wpS,wpT,Nat.reduceEqDiff,f18,f5,f17]
         refine call (atFirst_ok 0 ha qt (Y9.kept (by omega) k1') g9 (by omega) (by omega)) ?_
         rintro _ h10 ⟨X10,rfl⟩
         simp -dsimp (maxSteps:=1000000) (disch:=first|omega|(simp only[new_n,put_n];omega)|decide +kernel|(repeat first|rw[new_n]|rw[put_n])) only[wpS,Nat.reduceEqDiff]
         have m10:=X10.n
         refine call (atFirst_ok 1 ha qt ((Y9.trans X10).kept (by omega) k1') (X10.kept (by omega) g9) (by omega) (by omega)) ?_
         rintro _ h11 ⟨X11,rfl⟩
         have Y11:=Y9.trans (X10.trans X11)
         have m11:=Y11.n
         simp -dsimp (maxSteps:=1000000) (disch:=first|omega|(simp only[new_n,put_n];omega)|decide +kernel|(repeat first|rw[new_n]|rw[put_n])) only[wpS,Nat.reduceEqDiff,f14]
         refine bq_cut (fun fr3 h12 => ∃(lo hi:Nat),h12=h11∧(lo=if n=0 then 0 else atLow a t)∧(hi=if n=0 then 0 else atHigh a t)∧fget fr3 4=some (ptr (2*h.n) 0)∧fget fr3 5=some (ptr (2*(h.n+1)) 0)∧fget fr3 6=some v∧fget fr3 7=some w∧fget fr3 20=some (KN lo)∧fget fr3 21=some (KN hi)∧fget fr3 45=some vp∧fget fr3 46=some (KN people.length)∧fget fr3 47=some (KN i)) (fun hc=>?_) (fun hc=>?_) ?_
         ·have n0:n=0:=by simpa using hc
          simp -dsimp (maxSteps:=1000000) (disch:=first|omega|(simp only[new_n,put_n];omega)|decide +kernel|(repeat first|rw[new_n]|rw[put_n])) only[wpS,wpT]
          exact⟨0,0,rfl,by rw[if_pos n0],by rw[if_pos n0],by simp[f4],by simp[f5],by simp[f6],by simp[f7],by simp,by simp,by simp[f45],by simp[f46],by simp[f47]⟩
         ·have n0 : ¬n=0:=by simpa using hc
          simp -dsimp (maxSteps:=1000000) (disch:=first|omega|(simp only[new_n,put_n];omega)|decide +kernel|(repeat first|rw[new_n]|rw[put_n])) only[wpS,wpT]
          exact⟨atLow a t,atHigh a t,rfl,by rw[if_neg n0],by rw[if_neg n0],by simp[f4],by simp[f5],by simp[f6],by simp[f7],by simp[atLow],by simp[atHigh],by simp[f45],by simp[f46],by simp[f47]⟩
         ·rintro fr3 _ ⟨lo,hi,rfl,hlo,hhi,f4,f5,f6,f7,f20,f21,f45,f46,f47⟩
          by_cases w3:1000<hi
          ·simp -dsimp (maxSteps:=1000000) (disch:=first|omega|(simp only[new_n,put_n];omega)|decide +kernel|(repeat first|rw[new_n]|rw[put_n])) only[wpS,wpT,Nat.reduceEqDiff,f21]
           have n0 : ¬n=0:=fun h=>by rw[if_pos h] at hhi;omega
           rw[if_neg n0] at hhi
           refine⟨G4.trans (E.trans Y11),AtV.err (e:=2) ?_ (by omega)⟩
           rw[er,←hx]
           have hr:atReg a x n=(2,0,0):=by unfold atReg;rw[ht];show(if n=0 then _ else _)=_;rw[if_neg n0,if_pos (by omega)]
           rw[atE_first hn hz (by rw[hr];simp),hr]
          ·have hr:atReg a x n=(0,(lo:Int),(hi:Int)):=by
            unfold atReg;rw[ht];show(if n=0 then _ else _)=_
            by_cases n0:n=0
            ·rw[if_pos n0] at hlo hhi ⊢;rw[hlo,hhi];rfl
            ·rw[if_neg n0] at hlo hhi ⊢;rw[if_neg (by omega),hlo,hhi]
           obtain⟨v',q1,w',q2,a1,a2,A',Gr1,Gr2,E3⟩:=(A.ext Y11).round (P:=Proofs.Tryz.prog) (t:=29) ap29 (by omega) (new1:=[KN lo]) (new2:=[KN hi]) rfl rfl rfl rfl (by omega) (by omega) (E.trans Y11) (Nat.le_refl _)
           simp -dsimp (maxSteps:=1000000) (disch:=first|omega|(simp only[new_n,put_n];omega)|decide +kernel|(repeat first|rw[new_n]|rw[put_n])) only[wpS,wpT,Nat.reduceEqDiff,Nat.reduceLeDiff,Nat.reduceAdd,bs29,ba29_29,f6,f7,f20,f21,f47,a1,a2,e2]
           refine⟨mm - 1,by omega,i+1,v',w',by omega,E3,?_,?_,by simp[f4],by simp[f5],by simp,by simp,by simp[f45],by simp[f46],by simp⟩
           ·have ea:atA a x (people.take (i+1))=atA a x (people.take i) ++ [KN lo]:=by unfold atA;rw[List.take_add_one,hn];simp[hr]
            have eb:atB a x (people.take (i+1))=atB a x (people.take i) ++ [KN hi]:=by unfold atB;rw[List.take_add_one,hn];simp[hr]
            rw[ea,eb]
            exact A'
           ·intro y hy
            rw[List.take_add_one,hn] at hy
            simp at hy
            rcases hy with hy|rfl
            ·exact hz y hy
            ·rw[hr]
        ·simp -dsimp (maxSteps:=1000000) (disch:=first|omega|(simp only[new_n,put_n];omega)|decide +kernel|(repeat first|rw[new_n]|rw[put_n])) only[wpS,wpT,Nat.reduceEqDiff,f18]
         refine⟨G4.trans (E.trans Y9),AtV.err (e:=6) ?_ (by omega)⟩
         rw[er,←hx]
         have hr:atReg a x n=(6,0,0):=by unfold atReg;rw[ht]
         rw[atE_first hn hz (by rw[hr];simp),hr]
      ·have tz:toldV ((n:Rat) / x)=.tuple #[shV 0 0,KI 6]:=by unfold toldV;rw[if_neg w1]
       have at0:atT a x n=none:=by unfold atT;rw[if_neg w1]
       rw[tz]
       simp -dsimp (maxSteps:=1000000) (disch:=first|omega|(simp only[new_n,put_n];omega)|decide +kernel|(repeat first|rw[new_n]|rw[put_n])) only[wpS,wpT,Nat.reduceEqDiff,Nat.reduceLeDiff,Nat.reduceAdd,zc47,st47,shV_cells,shC_len,shC_all,sh_sp3]
       refine⟨G4.trans (E.trans ((Y7.new _).put (by omega) _)),AtV.err (e:=6) ?_ (by omega)⟩
       rw[er,←hx]
       have hr:atReg a x n=(6,0,0):=by unfold atReg;rw[at0]
       rw[atE_first hn hz (by rw[hr];simp),hr]
     ·have hin:i=people.length:=by omega
      subst hin
      rw[List.take_of_length_le (Nat.le_refl _)] at A hz
      simp -dsimp (maxSteps:=1000000) (disch:=first|omega|(simp only[new_n,put_n];omega)|decide +kernel|(repeat first|rw[new_n]|rw[put_n])) only[wpS,wpT,Nat.reduceEqDiff,f6,f7,f46,f47]
      refine⟨G4.trans E,?_⟩
      unfold AtV
      rw[er,←hx,atE_none hz,if_pos rfl]
      obtain⟨s1,s2⟩:=A.sl (by omega)
      exact⟨v,w,rfl,s1,s2⟩
   ·have sg : ∃z:Int,(if rOf p<0 then (-1:Int) else if rOf p=0 then 0 else 1)=z∧decide (z≤0)=true:=by
     by_cases c5:rOf p<0
     ·exact⟨-1,by rw[if_pos c5],rfl⟩
     ·exact⟨0,by rw[if_neg c5,if_pos (by grind)],rfl⟩
    obtain⟨z,hz,hz0⟩:=sg
    rw[hz]
    simp -dsimp (maxSteps:=1000000) (disch:=first|omega|(simp only[new_n,put_n];omega)|decide +kernel|(repeat first|rw[new_n]|rw[put_n])) only[wpS,wpT,Nat.reduceEqDiff,hz0]
    exact⟨E0.trans Y3,AtV.err (e:=2) (by unfold atErr;rw[if_neg c1',if_neg c2',if_pos (.inl c3)]) (by omega)⟩
  ·rw[if_neg c2]
   simp -dsimp (maxSteps:=1000000) (disch:=first|omega|(simp only[new_n,put_n];omega)|decide +kernel|(repeat first|rw[new_n]|rw[put_n])) only[wpS,wpT,Nat.reduceEqDiff]
   exact⟨E0.trans X2,AtV.err (e:=20) (by unfold atErr;rw[if_neg c1',if_pos c2]) (by omega)⟩
end Go.Id

/-! The greatest and the least of two numbers. -/
namespace Go.Id
open Go
theorem max_kk (P:Program) (h:IH) (ts:Array TypeId) (k:IntKind) (a b:Int):builtin P h .max ts [.int k a,.int k b]=some (.int k (if a<b then b else a),h):=by
 have h1:pureRun P (Builtin.max_ ts 0 #[.int k a,.int k b])=some (.int k (if a<b then b else a)):=by
  unfold Builtin.max_
  simp
  rfl
 show(bif [Value.int k a,Value.int k b].all plain then (pureVal P (Builtin.max_ ts 0 #[.int k a,.int k b])).map (·,h) else none)=_
 simp only[pureVal,h1]
 rfl
theorem min_kk (P:Program) (h:IH) (ts:Array TypeId) (k:IntKind) (a b:Int):builtin P h .min ts [.int k a,.int k b]=some (.int k (if b<a then b else a),h):=by
 have h1:pureRun P (Builtin.min_ ts 0 #[.int k a,.int k b])=some (.int k (if b<a then b else a)):=by
  unfold Builtin.min_
  simp
  rfl
 show(bif [Value.int k a,Value.int k b].all plain then (pureVal P (Builtin.min_ ts 0 #[.int k a,.int k b])).map (·,h) else none)=_
 simp only[pureVal,h1]
 rfl
end Go.Id

/-! Contracts: drafted censuses; the greatest of a list. -/
namespace Go.Id
open Go
abbrev B8 (n:Nat):Value:=.int .u8 (n:Int)
abbrev B16 (n:Nat):Value:=.int .u16 (n:Int)
def cenN (u p:Nat):Int:=if u % 3=0 then ((p % 12:Nat):Int) else ((p*u:Nat):Int)
def cenL (u:Nat) (ps:List Nat):List Int:=(ps.take 8).map (cenN u)
def census (u:Nat) (ps:List Nat):List Int:=if (cenL u ps).sum=0 then cenL u ps ++ [1] else cenL u ps
theorem cenN_le {u p:Nat} (hu:u<256) (hp:p<65536):0≤cenN u p∧cenN u p≤16711425:=by
 have:p*u≤65535*255:=Nat.mul_le_mul (by omega) (by omega)
 unfold cenN
 split<;>omega
structure Dr6 (h:IH) (x:Value) (ps ls:List Nat) (u s:Nat):Prop where
 ex : ∃vp vl,x=.agg #[vp,B8 u,vl,B16 s]∧SlOf h 1 vp ps.length (ps.map B16)∧SlOf h 1 vl ls.length (ls.map B8)
 bp : ∀p∈ps,p<65536
 bl : ∀p∈ls,p<256
 bu:u<256
 bs:s<65536
 lp:ps.length<9223372036854775808
 ll:ls.length<9223372036854775808
theorem Dr6.keep {h h':IH} {x:Value} {ps ls:List Nat} {u s:Nat} (d:Dr6 h x ps ls u s) (e:Keep h h'):Dr6 h' x ps ls u s:=by
 obtain⟨⟨vp,vl,a,b,c⟩,d1,d2,d3,d4,d5,d6⟩:=d
 exact⟨⟨vp,vl,a,b.keep e,c.keep e⟩,d1,d2,d3,d4,d5,d6⟩
theorem map_getN {f:Nat→Value} {l:List Nat} {i:Nat} {p:Nat} (h:l[i]?=some p):(l.map f)[i]?=some (f p):=by rw[List.getElem?_map,h];rfl
theorem cenL_succ {u:Nat} {ps:List Nat} {i p:Nat} (h:ps[i]?=some p) (h8:i<8):cenL u (ps.take (i+1))=cenL u (ps.take i) ++ [cenN u p]:=by
 unfold cenL
 rw[List.take_take,List.take_take,show min 8 (i+1)=i+1 from by omega,show min 8 i=i from by omega,List.take_add_one,h]
 simp
theorem cenL_all {u:Nat} {ps:List Nat}:cenL u (ps.take (min ps.length 8))=cenL u ps:=by
 unfold cenL
 rw[List.take_take]
 rcases Nat.lt_or_ge ps.length 8 with h|h
 ·rw[List.take_of_length_le (by omega),List.take_of_length_le (by omega)]
 ·rw[show min 8 (min ps.length 8)=8 from by omega]
theorem cenL_bound {u:Nat} {ps:List Nat} (hu:u<256) (hp : ∀p∈ps,p<65536):(∀n∈cenL u ps,0≤n∧n≤1000000000)∧(cenL u ps).length≤8:=by
 refine⟨fun n hn=>?_,by unfold cenL;rw[List.length_map,List.length_take];omega⟩
 obtain⟨p,h1,rfl⟩:=List.mem_map.1 hn
 have:=cenN_le hu (hp p (List.mem_of_mem_take h1))
 omega
set_option maxHeartbeats 2000000 in
theorem census_ok {h:IH} {x:Value} {ps ls:List Nat} {u s:Nat} (hx:Dr6 h x ps ls u s) :
  WV Proofs.Tryz.prog (.func (.func 9) #[] #[]) [x] h fun r h'=>Ext h h'∧SlOf h' 1 r (census u ps).length ((census u ps).map KI):=by
 obtain⟨⟨vp,vl,rfl,sp,sl⟩,bp,bl,hu,hs,lp,ll⟩:=hx
 refine enter (nt:=48) (rs:=[.tmp 2]) Proofs.Tryz.func9 rfl rfl rfl (by simp) ?_
 simp -dsimp (disch:=omega) only[wpS]
 obtain⟨H0,hH0⟩ : ∃H,H=h.new (.cells [vp,B8 u,vl,B16 s] 0 none):=⟨_,rfl⟩
 have E0:Ext h H0:=by rw[hH0];exact(Ext.refl h).new _
 have g0:H0.ext.get h.n=some (.cells [vp,B8 u,vl,B16 s] 0 none):=by rw[hH0];simp (disch:=first|omega|(simp only[new_n,put_n];omega)|(repeat first|rw[new_n]|rw[put_n])) only[get_new_same]
 have n0:H0.n=h.n+1:=by rw[hH0];simp
 rw[←hH0]
 clear hH0
 refine loop (fun m fr hh => ∃(i:Nat) (v:Value),i+m=min ps.length 8∧Ext H0 hh∧Acc hh H0.n 1 v i ((cenL u (ps.take i)).map KI)∧fget fr 1=some (ptr (2*h.n) 0)∧fget fr 3=some v∧fget fr 4=some (KI (cenL u (ps.take i)).sum)∧fget fr 5=some (KN i)) (min ps.length 8)
  ⟨0,.slice none 0 0,by omega,Ext.refl _,Acc.nil _ _ (sz:=1) (by decide),by simp,by simp,by simp[cenL],by simp⟩ ?_
 rintro m fr hh ⟨i,v,him,E,A,f1,f3,f4,f5⟩
 have g1:=E.kept (by omega) g0
 have P0:=(sp.keep (E0.trans E).keep).now
 have bt:=cenL_bound (u:=u) (ps:=ps.take i) hu (fun p hp=>bp p (List.mem_of_mem_take hp))
 have bsum:=sum_bound _ bt.1
 have hcl:(cenL u (ps.take i)).length≤8:=bt.2
 by_cases c:i<ps.length
 ·by_cases c8:i<8
  ·obtain⟨p,hp⟩ : ∃p,ps[i]?=some p:=⟨_,List.getElem?_eq_getElem c⟩
   have hpb:=bp p (List.mem_of_getElem? hp)
   have hN:=cenN_le hu hpb
   have lP:=P0.ld (P:=Proofs.Tryz.prog) (t:=24) (c:=i) (by simp<;>omega) ag24
   rw[map_getN hp] at lP
   have e3:(u:Int) % 3=((u % 3:Nat):Int):=by omega
   have e12:(p:Int) % 12=((p % 12:Nat):Int):=by omega
   simp -dsimp (disch:=omega) only[wpS,wpT,Nat.reduceEqDiff,fa26_0,ld22,cv24_3,fa26_1,ld5,f1,f5,row_of g1,P0.len sl22,P0.idx es22 c,lP,e3]

   refine bq_cut (fun fr2 h2=>h2=hh∧fget fr2 1=some (ptr (2*h.n) 0)∧fget fr2 3=some v∧fget fr2 4=some (KI (cenL u (ps.take i)).sum)∧fget fr2 5=some (KN i)∧fget fr2 6=some (KI (cenN u p))) (fun hc=>?_) (fun hc=>?_) ?_
   ·have hz:u % 3=0:=by simp at hc;omega
    simp -dsimp (disch:=omega) only[wpS,wpT,Nat.reduceEqDiff,e12]
    exact⟨rfl,by simp[f1],by simp[f3],by simp[f4],by simp[f5],by rw[cenN,if_pos hz];simp⟩
   ·have hz : ¬u % 3=0:=by simp at hc;omega
    have em:IntKind.i64.wrap ((p:Int)*(u:Int))=((p*u:Nat):Int):=by
     have:p*u≤65535*255:=Nat.mul_le_mul (by omega) (by omega)
     rw[←Int.natCast_mul,wrap_i64 (by omega)]
    simp -dsimp (disch:=omega) only[wpS,wpT,Nat.reduceEqDiff,fa26_1,ld5,cv5_3,f1,row_of g1,em]
    exact⟨rfl,by simp[f1],by simp[f3],by simp[f4],by simp[f5],by rw[cenN,if_neg hz];simp⟩
   ·rintro fr2 _ ⟨rfl,f1,f3,f4,f5,f6⟩
    have En:=E.n
    obtain⟨v',h5,hap,A5,G5,E5⟩:=A.app1 (P:=Proofs.Tryz.prog) (t:=29) ap29 (x:=KI (cenN u p)) rfl (by omega) (by omega) E (Nat.le_refl _)
    have e2:IntKind.i64.wrap ((i:Int)+1)=((i+1:Nat):Int):=by rw[wrap_i64 (by omega)];omega
    have es:IntKind.i64.wrap ((cenL u (ps.take i)).sum+cenN u p)=(cenL u (ps.take (i+1))).sum:=by
     rw[cenL_succ hp c8,List.sum_append,wrap_i64 (by omega)];simp
    simp -dsimp (disch:=omega) only[wpS,wpT,Nat.reduceEqDiff,Nat.reduceLeDiff,Nat.reduceAdd,bs29,ba29_29,f3,f4,f5,f6,hap,e2,es]
    refine⟨m - 1,by omega,i+1,v',by omega,E5,?_,by simp[f1],by simp,by simp,by simp⟩
    rw[cenL_succ hp c8,List.map_append]
    exact A5
  ·have him2:i=min ps.length 8:=by omega
   have e0:cenL u (ps.take i)=cenL u ps:=by rw[him2];exact cenL_all
   have hli:(cenL u ps).length=i:=by unfold cenL;rw[List.length_map,List.length_take];omega
   have En:=E.n
   rw[e0] at A bsum f4
   simp -dsimp (disch:=omega) only[wpS,wpT,Nat.reduceEqDiff,fa26_0,ld22,f1,f4,f5,row_of g1,P0.len sl22]
   refine bq_intro (fun hc=>?_) (fun hc=>?_)
   ·have hz:(cenL u ps).sum=0:=by simpa using hc
    obtain⟨v',h5,hap,A5,G5,E5⟩:=A.app1 (P:=Proofs.Tryz.prog) (t:=29) ap29 (x:=KI 1) rfl (by omega) (by omega) E (Nat.le_refl _)
    simp -dsimp (disch:=omega) only[wpS,wpT,Nat.reduceEqDiff,Nat.reduceLeDiff,Nat.reduceAdd,bs29,ba29_29,f3,hap]
    refine⟨E0.trans E5,?_⟩
    have e9:census u ps=cenL u ps ++ [1]:=by unfold census;rw[if_pos hz]
    rw[e9,List.map_append,List.length_append,hli]
    exact A5.sl
   ·have hz : ¬(cenL u ps).sum=0:=by simpa using hc
    simp -dsimp (disch:=omega) only[wpS,wpT,Nat.reduceEqDiff,f3]
    refine⟨E0.trans E,?_⟩
    have e9:census u ps=cenL u ps:=by unfold census;rw[if_neg hz]
    rw[e9,hli]
    exact A.sl
 ·have him2:i=min ps.length 8:=by omega
  have e0:cenL u (ps.take i)=cenL u ps:=by rw[him2];exact cenL_all
  have hli:(cenL u ps).length=i:=by unfold cenL;rw[List.length_map,List.length_take];omega
  have En:=E.n
  rw[e0] at A bsum f4
  simp -dsimp (disch:=omega) only[wpS,wpT,Nat.reduceEqDiff,fa26_0,ld22,f1,f4,f5,row_of g1,P0.len sl22]
  refine bq_intro (fun hc=>?_) (fun hc=>?_)
  ·have hz:(cenL u ps).sum=0:=by simpa using hc
   obtain⟨v',h5,hap,A5,G5,E5⟩:=A.app1 (P:=Proofs.Tryz.prog) (t:=29) ap29 (x:=KI 1) rfl (by omega) (by omega) E (Nat.le_refl _)
   simp -dsimp (disch:=omega) only[wpS,wpT,Nat.reduceEqDiff,Nat.reduceLeDiff,Nat.reduceAdd,bs29,ba29_29,f3,hap]
   refine⟨E0.trans E5,?_⟩
   have e9:census u ps=cenL u ps ++ [1]:=by unfold census;rw[if_pos hz]
   rw[e9,List.map_append,List.length_append,hli]
   exact A5.sl
  ·have hz : ¬(cenL u ps).sum=0:=by simpa using hc
   simp -dsimp (disch:=omega) only[wpS,wpT,Nat.reduceEqDiff,f3]
   refine⟨E0.trans E,?_⟩
   have e9:census u ps=cenL u ps:=by unfold census;rw[if_neg hz]
   rw[e9,hli]
   exact A.sl
end Go.Id

/-! Contracts: the reference's valid shares. -/
namespace Go.Id
open Go
end Go.Id

/-! Contracts: the greatest of a list; fractions of whole numbers. -/
namespace Go.Id
open Go
def maxL:List Int→Int
 | []=>0
 | a :: l=>l.foldl max a
theorem maxL_snoc (l:List Int) (a b:Int):maxL ((a :: l) ++ [b])=max (maxL (a :: l)) b:=by
 simp[maxL,List.foldl_append]
theorem le_maxL : ∀(l:List Int) (x:Int),x∈l→x≤maxL l
 | [],x,h=>by cases h
 | a :: l,x,h=>by
  have g : ∀(l:List Int) (b x:Int),(x=b∨x∈l)→x≤l.foldl max b:=by
   intro l
   induction l with
   | nil=>intro b x h;simp at h;simp[h]
   | cons c l ih =>
    intro b x h
    rw[List.foldl_cons]
    rcases h with rfl|h
    ·have:=ih (max x c) (max x c) (.inl rfl);omega
    ·rcases List.mem_cons.1 h with rfl|h
     ·have:=ih (max b x) (max b x) (.inl rfl);omega
     ·exact ih _ _ (.inr h)
  exact g l a x (by simpa using h)
theorem maxL_mem : ∀(l:List Int),l ≠ []→maxL l∈l
 | [],h=>absurd rfl h
 | a :: l,_=>by
  have g : ∀(l:List Int) (b:Int),l.foldl max b=b∨l.foldl max b∈l:=by
   intro l
   induction l with
   | nil=>intro b;exact .inl rfl
   | cons c l ih =>
    intro b
    rw[List.foldl_cons]
    rcases ih (max b c) with h|h
    ·rcases(by omega:max b c=b∨max b c=c) with h2|h2
     ·exact .inl (h.trans h2)
     ·exact .inr (by rw[h,h2];exact List.mem_cons_self)
    ·exact .inr (List.mem_cons_of_mem _ h)
  rcases g l a with h|h
  ·show l.foldl max a∈_;rw[h];exact List.mem_cons_self
  ·exact List.mem_cons_of_mem _ h
theorem maxI_ok {h:IH} {v:Value} {l:List Int} (hv:SlOf h 1 v l.length (l.map KI)) (hl:l.length≤1000000000) (h0:l ≠ []) :
  WV Proofs.Tryz.prog (.func (.func 19) #[] #[]) [v] h fun r h'=>h'=h∧r=KI (maxL l):=by
 have P0:=hv.now
 have l0:0<l.length:=List.length_pos_iff.2 h0
 obtain⟨a,ha⟩ : ∃a,l[0]?=some a:=⟨_,List.getElem?_eq_getElem l0⟩
 have lP:=P0.ld (P:=Proofs.Tryz.prog) (t:=3) (c:=0) (by simp<;>omega) ag3
 rw[map_get,ha] at lP
 have e1:maxL (l.take 1)=a:=by
  cases l with
  | nil=>cases ha
  | cons b l=>simp at ha;subst ha;rfl
 have ix:indexAddr Proofs.Tryz.prog 29 v (.int .i64 0)=some (elemAddr v 0):=by
  have:=P0.idx (P:=Proofs.Tryz.prog) (t:=29) es29 (k:=.i64) (j:=0) l0
  simpa using this
 refine enter (nt:=25) (rs:=[.tmp 2]) Proofs.Tryz.func19 rfl rfl rfl (by simp) ?_
 simp -dsimp (disch:=omega) only[wpS,wpT,Nat.reduceEqDiff,P0.len sl29,ix,lP]
 refine loop (fun m fr hh => ∃i:Nat,i+m=l.length∧0<i∧hh=h∧fget fr 0=some v∧fget fr 3=some (KI (maxL (l.take i)))∧fget fr 4=some (KN i)) (l.length - 1) ⟨1,by omega,by omega,rfl,by simp,by rw[e1];simp,by simp⟩ ?_
 rintro m fr _ ⟨i,him,hi0,rfl,f0,f3,f4⟩
 by_cases c:i<l.length
 ·obtain⟨n,hn⟩ : ∃n,l[i]?=some n:=⟨_,List.getElem?_eq_getElem c⟩
  have lN:=P0.ld (P:=Proofs.Tryz.prog) (t:=3) (c:=i) (by simp<;>omega) ag3
  rw[map_get,hn] at lN
  have e2:IntKind.i64.wrap ((i:Int)+1)=((i+1:Nat):Int):=by rw[wrap_i64 (by omega)];omega
  simp -dsimp (disch:=omega) only[wpS,wpT,Nat.reduceEqDiff,f0,f3,f4,P0.len sl29,P0.idx es29 c,lN,max_kk,e2]
  refine⟨m - 1,by omega,i+1,by omega,by omega,rfl,by simp[f0],?_,by simp⟩
  rw[List.take_add_one,hn]
  obtain⟨b,t,hb⟩ : ∃b t,l.take i=b :: t:=by
   cases ht:l.take i with
   | nil=>have h9:=congrArg List.length ht;rw[List.length_take,List.length_nil] at h9;omega
   | cons b t=>exact⟨b,t,rfl⟩
  rw[hb,show(some n).toList = [n] from rfl,maxL_snoc]
  have:(if maxL (b :: t)<n then n else maxL (b :: t))=max (maxL (b :: t)) n:=by split<;>omega
  simp[this]
 ·simp -dsimp (disch:=omega) only[wpS,wpT,Nat.reduceEqDiff,f0,f3,f4,P0.len sl29]
  rw[List.take_of_length_le (by omega)]
theorem lof_ok {h:IH} (n d:Int) (hn:In64 n) (hd:In64 d) (d0:d≠0):WV Proofs.Tryz.prog (.func (.func 20) #[] #[]) [KI n,KI d] h fun r h'=>Ext h h'∧r=shareV (Rat.divInt n d):=by
 refine enter (nt:=14) (rs:=[.cell 4 47]) Proofs.Tryz.func20 rfl rfl rfl (by simp) ?_
 simp -dsimp (disch:=omega) only[wpS,Nat.reduceEqDiff,Nat.reduceAdd,zc47]
 obtain⟨H0,hH0⟩ : ∃H,H=h.new (.cells Z16 0 none):=⟨_,rfl⟩
 have E0:Ext h H0:=by rw[hH0];exact(Ext.refl h).new _
 have g0:H0.ext.get h.n=some (.cells Z16 0 none):=by rw[hH0];simp (disch:=first|omega|(simp only[new_n,put_n];omega)|(repeat first|rw[new_n]|rw[put_n])) only[get_new_same]
 have n0:H0.n=h.n+1:=by rw[hH0];simp
 rw[←hH0]
 clear hH0
 refine call (ref02Of_ok n d hn hd d0) ?_
 rintro _ h1 ⟨X1,rfl⟩
 have m1:=X1.n
 rw[shareV_shq]
 simp -dsimp (disch:=omega) only[wpS,wpT,Nat.reduceEqDiff,Nat.reduceLeDiff,Nat.reduceAdd,zc47,st47,ld47,shV_cells,shC_len,shC_all,sh_sp3,sh_take,X1.kept (by omega) g0]
 exact⟨((E0.trans X1).new _).put (by omega) _ |>.put (by omega) _,rfl⟩
end Go.Id

/-! What a divisor gives: numbers that fall with it. -/
namespace Go.Id
open Go
theorem firstT_le_of {p:Nat→Bool} {n a:Nat} (h:p a=true):firstT p n≤a∨n≤a:=by
 rcases Nat.lt_or_ge a (firstT p n) with h1|h1
 ·rw[firstT_below p n a h1] at h;cases h
 ·exact .inl h1
theorem cmpQ_anti {x y:Rat} (z:Rat) (h:x≤y):cmpQ z y≤cmpQ z x:=by
 unfold cmpQ
 split<;>split<;>(try split)<;>(try split)<;>grind
theorem stepP_anti {k:Int} {m:Nat} {t t':Rat} (h:t≤t') {s:Nat} (hp:stepP k m t' s=true):stepP k m t s=true:=by
 unfold stepP at *
 rw[decide_eq_true_eq] at *
 have:=cmpQ_anti (postQ m s) h
 omega
theorem atLow_mono {m:Nat} {t t':Rat} (h:t≤t'):atLow m t≤atLow m t':=firstT_mono fun s _ hs=>stepP_anti h hs
theorem atHigh_mono {m:Nat} {t t':Rat} (h:t≤t'):atHigh m t≤atHigh m t':=firstT_mono fun s _ hs=>stepP_anti h hs
theorem step_zero {m:Nat} {t:Rat} {s:Nat}:stepP 0 m t s=true↔t≤postQ m s:=by
 unfold stepP cmpQ
 rw[decide_eq_true_eq]
 split
 ·rename_i h;exact⟨fun h=>absurd h (by omega),fun h2=>by grind⟩
 ·rename_i h;exact⟨fun _=>by grind,fun h2=>by split<;>omega⟩
theorem step_one {m:Nat} {t:Rat} {s:Nat}:stepP 1 m t s=true↔t<postQ m s:=by
 unfold stepP cmpQ
 rw[decide_eq_true_eq]
 split
 ·rename_i h;exact⟨fun h=>absurd h (by omega),fun h2=>by grind⟩
 ·split
  ·rename_i h1 h2;exact⟨fun h=>absurd h (by omega),fun h3=>by grind⟩
  ·exact⟨fun _=>by grind,fun _=>by omega⟩
theorem atLow_high {m:Nat} {t:Rat}:atLow m t≤atHigh m t:=firstT_mono fun s _ hs=>step_zero.2 (by have:=step_one.1 hs;grind)
theorem atHigh_low {m:Nat} (hm:11≤m∧m≤15) {t:Rat}:atHigh m t≤atLow m t+1:=by
 have hl:=firstT_le (stepP 1 m t) 1001
 rcases Nat.lt_or_ge (atLow m t) 1001 with h|h
 ·have h1:=step_zero.1 (firstT_at _ _ h)
  have h2:=postQ_succ hm (firstT (stepP 0 m t) 1001)
  rcases firstT_le_of (p:=stepP 1 m t) (n:=1001) (a:=atLow m t+1) (step_one.2 (by unfold atLow;grind)) with h3|h3
  ·exact h3
  ·unfold atHigh;omega
 ·unfold atHigh;omega
theorem atHigh_le {m:Nat} (hm:11≤m∧m≤15) {t:Rat} (h:t≤if m=13 then 250000 else 500):atHigh m t≤501:=by
 have h2:t<postQ m 501:=by
  rcases(by omega:m=11∨m=12∨m=13∨m=14∨m=15) with rfl|rfl|rfl|rfl|rfl
  ·have:(500:Rat)<postQ 11 501:=by decide +kernel
   simp at h;grind
  ·have:(500:Rat)<postQ 12 501:=by decide +kernel
   simp at h;grind
  ·have:(250000:Rat)<postQ 13 501:=by decide +kernel
   simp at h;grind
  ·have:(500:Rat)<postQ 14 501:=by decide +kernel
   simp at h;grind
  ·have:(500:Rat)<postQ 15 501:=by decide +kernel
   simp at h;grind
 rcases firstT_le_of (p:=stepP 1 m t) (n:=1001) (a:=501) (step_one.2 h2) with h3|h3
 ·exact h3
 ·omega
theorem rdiv_le {a b c:Rat} (hb:0<b) (h:a≤c*b):a / b≤c:=by
 rcases Classical.em (c<a / b) with h1|h1
 ·have:=(Rat.lt_div_iff hb).1 h1
  grind
 ·grind
structure Dvs (top d:Int) (x:Rat):Prop where
 bt:1≤top∧top≤1000000000
 bd:1≤d∧d≤500
 eq:x=Rat.divInt top d
theorem Dvs.pos {top d:Int} {x:Rat} (v:Dvs top d x):0<x:=by
 have h1:(0:Rat)<(top:Rat):=by exact_mod_cast (by have:=v.bt;omega:(0:Int)<top)
 have h2:(0:Rat)<(d:Rat):=by exact_mod_cast (by have:=v.bd;omega:(0:Int)<d)
 rw[v.eq,Rat.divInt_eq_div,Rat.lt_div_iff h2]
 grind
theorem Dvs.qw {top d:Int} {x:Rat} (v:Dvs top d x):QW x:=by
 rw[v.eq]
 exact qw_small (by have:=v.bt;omega) (by have:=v.bd;omega) (by have:=v.bd;omega)
theorem Dvs.quo {top d n:Int} {x:Rat} (v:Dvs top d x) (hn:0≤n∧n≤top):QB 40 ((n:Rat) / x)∧0≤(n:Rat) / x∧(n:Rat) / x≤500:=by
 have hx:=v.pos
 have h1:(0:Rat)<(top:Rat):=by exact_mod_cast (by have:=v.bt;omega:(0:Int)<top)
 have h2:(0:Rat)<(d:Rat):=by exact_mod_cast (by have:=v.bd;omega:(0:Int)<d)
 have h3:(0:Rat)≤(n:Rat):=by exact_mod_cast hn.1
 have h4:(n:Rat)≤(top:Rat):=by exact_mod_cast hn.2
 have h5:((d:Int):Rat)≤((500:Int):Rat):=Rat.intCast_le_intCast.2 v.bd.2
 have h6:((500:Int):Rat)=500:=rfl
 have e:(n:Rat) / x=Rat.divInt (n*d) top:=by
  rw[v.eq,Rat.divInt_eq_div,Rat.divInt_eq_div,Rat.intCast_mul]
  grind
 refine⟨?_,?_,?_⟩
 ·rw[e]
  have b1:=v.bt
  have b2:=v.bd
  have b3:(n*d).natAbs≤1000000000*500:=by
   rw[Int.natAbs_mul]
   exact Nat.mul_le_mul (by omega) (by omega)
  exact QB.divInt (by omega) (Nat.le_trans b3 (by decide)) (Nat.le_trans (by omega:top.natAbs≤1000000000) (by decide))
 ·rw[e]
  exact Rat.divInt_nonneg (Int.mul_nonneg hn.1 (by have:=v.bd;omega)) (by have:=v.bt;omega)
 ·have e2:(n:Rat) / x=(n:Rat)*(d:Rat) / (top:Rat):=by
   rw[e,Rat.divInt_eq_div,Rat.intCast_mul]
  rw[e2]
  have h7:(n:Rat)*(d:Rat)≤500*(top:Rat):=by
   have a1:(n:Rat)*(d:Rat)≤(top:Rat)*(d:Rat):=Rat.mul_le_mul_of_nonneg_right h4 (by grind)
   have a2:(top:Rat)*(d:Rat)≤(top:Rat)*500:=Rat.mul_le_mul_of_nonneg_left (by grind) (by grind)
   grind
  exact rdiv_le h1 h7
theorem Dvs.fine {top d n:Int} {x:Rat} {m:Nat} (v:Dvs top d x) (hm:11≤m∧m≤15) (hn:0≤n∧n≤top) : ∃t,atT m x n=some t∧t=(if m=13 then (n:Rat) / x*((n:Rat) / x) else (n:Rat) / x)∧atHigh m t≤501:=by
 obtain⟨q,q0,q1⟩:=v.quo hn
 have w1:QW ((n:Rat) / x):=qw_bits q (by omega)
 have w2:QW ((n:Rat) / x*((n:Rat) / x)):=qw_bits (QB.mul q q) (by omega)
 by_cases c:m=13
 ·refine⟨_,by unfold atT;rw[if_pos w1,if_pos c,if_pos w2],by rw[if_pos c],atHigh_le hm ?_⟩
  rw[if_pos c]
  generalize (n:Rat) / x=y at *
  have a1:y*y≤500*y:=Rat.mul_le_mul_of_nonneg_right q1 q0
  grind
 ·refine⟨_,by unfold atT;rw[if_pos w1,if_neg c],by rw[if_neg c],atHigh_le hm ?_⟩
  rw[if_neg c]
  exact q1
theorem Dvs.reg {top d n:Int} {x:Rat} {m:Nat} (v:Dvs top d x) (hm:11≤m∧m≤15) (hn:0≤n∧n≤top) :
  ∃t,t=(if m=13 then (n:Rat) / x*((n:Rat) / x) else (n:Rat) / x)∧atReg m x n=(0,((if n=0 then 0 else atLow m t:Nat):Int),((if n=0 then 0 else atHigh m t:Nat):Int)):=by
 obtain⟨t,h1,h2,h3⟩:=v.fine hm hn
 refine⟨t,h2,?_⟩
 unfold atReg
 rw[h1]
 show(if n=0 then _ else _)=_
 by_cases c:n=0
 ·rw[if_pos c,if_pos c,if_pos c];rfl
 ·rw[if_neg c,if_neg c,if_neg c,if_neg (by omega)]
theorem Dvs.falls {top d e n:Int} {x y:Rat} {m:Nat} (v:Dvs top d x) (w:Dvs top e y) (h:y≤x) (hm:11≤m∧m≤15) (hn:0≤n∧n≤top) :
  ∃a b p q:Nat,atReg m x n=(0,(a:Int),(b:Int))∧atReg m y n=(0,(p:Int),(q:Int))∧a≤p∧b≤q∧a≤b∧b≤a+1∧p≤q∧q≤p+1∧q≤501:=by
 obtain⟨t,h1,h2⟩:=v.reg hm hn
 obtain⟨u,h3,h4⟩:=w.reg hm hn
 obtain⟨u',_,h3',h5⟩:=w.fine hm hn
 rw[←h3] at h3'
 subst h3'
 refine⟨_,_,_,_,h2,h4,?_⟩
 have x0:=v.pos
 have y0:=w.pos
 obtain⟨_,p0,_⟩:=v.quo hn
 have le:(n:Rat) / x≤(n:Rat) / y:=by
  refine rdiv_le x0 ?_
  have e1:(n:Rat)=(n:Rat) / y*y:=(Rat.div_mul_cancel (by grind)).symm
  have p1:=(w.quo hn).2.1
  have:=Rat.mul_le_mul_of_nonneg_left h p1
  grind
 have tu:t≤u':=by
  rw[h1,h3]
  split
  ·generalize (n:Rat) / x=a at *
   generalize (n:Rat) / y=b at *
   have a1:a*a≤b*a:=Rat.mul_le_mul_of_nonneg_right le p0
   have a2:b*a≤b*b:=Rat.mul_le_mul_of_nonneg_left le (by grind)
   grind
  ·exact le
 by_cases c:n=0
 ·rw[if_pos c,if_pos c,if_pos c,if_pos c];omega
 ·rw[if_neg c,if_neg c,if_neg c,if_neg c]
  exact⟨atLow_mono tu,atHigh_mono tu,atLow_high,atHigh_low hm,atLow_high,atHigh_low hm,h5⟩
end Go.Id

/-! Tables of functions whose values are known; what a closed function gives. -/
namespace Go.Id
open Go
noncomputable section
def tbOf (l:List (FuncId×(List Value→Option Value))) (f:FuncId):Option (List Value→Option Value):=List.rec (motive:=fun _=>Option (List Value→Option Value)) none (fun p _ ih=>iB (Nat.beq f p.1) (some p.2) ih) l
def EntryOK (P:Program) (f:FuncId) (g:List Value→Option Value):Prop :=
 (∃fn,P.funcs[f]?=some fn∧fn.body.isSome=true) ∧ ∀args v,args.all plain=true→g args=some v→plainT v=true∧Gives P f args v
theorem tbOf_mem : ∀{l:List (FuncId×(List Value→Option Value))} {f:FuncId} {g:List Value→Option Value},tbOf l f=some g→(f,g)∈l
 | [],_,_,h=>by cases h
 | p :: l,f,g,h=>by
  change iB (Nat.beq f p.1) (some p.2) (tbOf l f)=some g at h
  rw[iB_eq] at h
  cases hb:Nat.beq f p.1 with
  | true =>
   rw[hb] at h;cases h
   have:=Nat.beq_eq.mp hb
   subst this
   exact List.mem_cons_self
  | false =>
   rw[hb] at h
   exact List.mem_cons_of_mem _ (tbOf_mem h)
theorem sound_tb {P:Program} (S:Sound (E0 P)) {l:List (FuncId×(List Value→Option Value))} (h : ∀p∈l,EntryOK P p.1 p.2):Sound (E1 P (tbOf l)) :=
 sound1 S (fun f g hg=>(h _ (tbOf_mem hg)).1) (fun f g hg=>(h _ (tbOf_mem hg)).2)
theorem entry_wv {P:Program} (S:Sound (E0 P)) {f:FuncId} {fn:Func} (hf:P.funcs[f]?=some fn) (hb:fn.body.isSome=true) {g:List Value→Option Value}
  (h : ∀args v,args.all plain=true→g args=some v→plainT v=true∧WV P (.func (.func f) #[] #[]) args (IH.start fun _=>none) fun r _=>r=v):EntryOK P f g :=
 ⟨⟨fn,hf,hb⟩,fun args v hp e=>⟨(h args v hp e).1,gives_wv S ⟨fn,hf,hb⟩ hp (h args v hp e).2⟩⟩
def okT (args:List Value):Option Value:=match args with
 | []=>some (.bool true)
 | _=>none
theorem entry_true {E:Env} (S:Sound E) {n:Nat} {f:FuncId} {fn:Func} (hf:E.P.funcs[f]?=some fn) (hb:fn.body.isSome=true) (h:boolF E (n+1) f (fun _=>none)=true):EntryOK E.P f okT:=by
 refine⟨⟨fn,hf,hb⟩,fun args v hp e=>?_⟩
 unfold okT at e
 split at e
 ·cases e
  obtain⟨h',hr⟩:=boolF_true h
  exact⟨rfl,gives_run S hr ⟨fn,hf,hb⟩ hp⟩
 ·cases e
end
end Go.Id

/-! The ideal machine: a function's body in parts, each under a machine of its own. -/
namespace Go.Id
open Go
def Follows (P:Program) (f:FuncId) (nt:Nat) (run:Fr→IH→Out) (c:Code):Prop :=
 (∀fr h e fr' h',run fr h=some (e,fr',h')→h.n≤h'.n) ∧ ∀(b:Frame) (z B:Nat) (w0:World) (cs:List Frame),b.fn=f→SimCode (E0 P) run b none B w0 z nt cs c
theorem follows_code {E:Env} (S:Sound E) (n:Nat) (f:FuncId) (nt:Nat) (c:Code):Follows E.P f nt (evC E (callV E n) f nt none n c) c:=by
 refine⟨fun fr h e fr' h' hr=>evC_n (callV_mono S n) _ _ _ _ _ _ hr,fun b z B w0 cs hb=>?_⟩
 subst hb
 exact sim_code (E:=E) (callV_sim S n) (callV_mono S n) S.mixed n c
def seqR (ra rb:Fr→IH→Out):Fr→IH→Out:=fun fr h=>match ra fr h with
 | some (.normal,fr,h)=>rb fr h
 | o=>o
theorem follows_seq {P:Program} {f:FuncId} {nt:Nat} {ra rb:Fr→IH→Out} {x y:Code} (hx:Follows P f nt ra x) (hy:Follows P f nt rb y):Follows P f nt (seqR ra rb) (.seq x y):=by
 refine⟨fun fr h e fr' h' hr=>?_,fun b z B w0 cs hb=>?_⟩
 ·unfold seqR at hr
  split at hr
  ·rename_i hx1
   exact Nat.le_trans (hx.1 _ _ _ _ _ hx1) (hy.1 _ _ _ _ _ hr)
  ·exact hx.1 _ _ _ _ _ hr
 ·intro fr h e fr' h' hr m w tmps k ds R hf ht hfr hfo hd hz
  unfold seqR at hr
  split at hr
  ·rename_i fr1 h1 hx1
   have n1:=hx.1 _ _ _ _ _ hx1
   have n2:=hy.1 _ _ _ _ _ hr
   obtain⟨m1,w1,tmps1,ds1,k1,a1,a2,a3,a4,a5,a6,a7⟩:=hx.2 b z B w0 cs hb fr h .normal fr1 h1 hx1 m w tmps (.code y :: k) ds R hf ht (hfr.sub (Nat.le_refl _) n2) hfo hd hz
   obtain rfl:k1=_:=a2
   refine .first (.head st_seq a1) (.step a6 ?_)
   exact hy.2 b z B w0 cs hb fr1 h1 e fr' h' hr m1 w1 tmps1 k ds1 a5 a3 a4 (a6.fresh hfr) (hfo.mono a6.le) a7 (Nat.le_trans hz a6.size)
  ·rename_i hne
   cases e with
   | normal=>exact absurd hr (hne _ _)
   | exit i=>exact .first (.one st_seq) ((hx.2 b z B w0 cs hb fr h _ _ _ hr m w tmps (.code y :: k) ds R hf ht hfr hfo hd hz).out (by simp) (fun i _=>rfl))
   | ret=>exact .first (.one st_seq) ((hx.2 b z B w0 cs hb fr h _ _ _ hr m w tmps (.code y :: k) ds R hf ht hfr hfo hd hz).out (by simp) (fun i hi=>by cases hi))
theorem follows_calls {P:Program} {f:FuncId} {fn:Func} {c:Code} {run:Fr→IH→Out} (hfn:P.funcs[f]?=some fn) (hc:fn.body=some c) (F:Follows P f fn.ntmps run c) {args:List Value} {h h1:IH} {e:IExit} {fr1:Fr} {vs:List Value}
  (hlen':args.length≤fn.ntmps) (hx:run (enterFr 0 args) h=some (e,fr1,h1)) (hne : ∀i,e≠.exit i) (hvs:resultsOf P fr1 h1 fn.results.toList=some vs)
  {B:Nat} {w0:World} {m:Mp} {w:World} {args':Array Value} (R:Rel B w0 m h w) (hargs:LRel m args args'.toList) (hfr:Fresh m h.n h1.n):CallsTo P f args' B w0 m h w (single vs) h1:=by
 have hsz:args'.size=args.length:=by rw[hargs.1];simp
 intro cs
 let b:Frame:={ fn:=f,tmps:=#[],todo:=[],defers:=[],mode:=.run,kind:=.normal,roundOf:=none }
 let tmps:Array Value:=args' ++ Array.replicate (fn.ntmps - args'.size) undef
 have hen:Frame.enter P f args' .normal=on b tmps [.code c] []:=by
  simp[Frame.enter,hfn,hc,on,b,tmps]
 have htmps:FrRel m (enterFr 0 args) tmps:=by
  intro t u hu
  rw[fget_enterFr] at hu
  simp only[Nat.zero_le,if_true,Nat.sub_zero] at hu
  obtain⟨u',h2,h3⟩:=hargs.get hu
  have h4:args'[t]?=some u':=by simpa using h2
  refine⟨u',?_,h3⟩
  have:=(Array.getElem?_eq_some_iff.1 h4).1
  rw[Array.getElem?_append_left this,h4]
 have htsz:fn.ntmps≤tmps.size:=by simp[tmps];omega
 obtain⟨m1,w1,tmps1,ds1,k1,a1,a2,a3,a4,a5,a6,a7⟩:=F.2 b w.heap.size B w0 cs rfl _ _ _ _ _ hx m w tmps [] [] R htmps htsz hfr (.inl ⟨rfl,rfl⟩) (DefOK.nil _ _ _ _) (Nat.le_refl _)
 obtain⟨rs,d1,d2,d3⟩:=a7
 have hleave : ∃todo,step P (lone (on b tmps1 k1 ds1) cs w1)=.next (lone { on b tmps1 todo ds1 with mode:=.returning } cs w1):=by
  cases e with
  | normal=>obtain rfl:k1=_:=a2;exact⟨_,stepR_end (b:=b) (a:=⟨tmps1,ds1⟩) rfl⟩
  | exit i=>exact absurd rfl (hne i)
  | ret=>obtain⟨k2,rfl⟩:=a2;exact⟨_,stepR_ret (b:=b) (a:=⟨tmps1,ds1⟩) rfl⟩
 obtain⟨todo,hleave⟩:=hleave
 obtain⟨w2,b1,b2,b3,b4⟩:=unwind_marks (P:=P) R.size rs { on b tmps1 todo ds1 with mode:=.returning } cs w1 rfl d1 d2 d3 a5
 obtain⟨v',r1,r2⟩:=results_run b2 a3 hvs
 refine⟨.returned v',w2,{ on b tmps1 todo ds1 with mode:=.returning,defers:=[] },⟨v',m1,rfl,r2,b2,?_⟩,?_,?_,?_⟩
 ·refine⟨a6.le,a6.new,a6.n,a6.base,fun r hr hk=>?_,a6.idle,by rw[b3];exact a6.size,a6.img,a6.idleF⟩
  rw[b4 r (fun hm=>by have:=(d3 r hm).1;omega)]
  exact a6.frame r hr hk
 ·exact(by rw[hen];exact a1.trans (.head hleave b1):Steps P (lone (Frame.enter P f args' .normal) cs w) _)
 ·rfl
 ·exact⟨rfl,rfl,rfl,fn,hfn,r1⟩
end Go.Id

/-! The ideal machine: a law whose first parts are carried out with functions whose values are known, and whose rest is shown step by step. -/
namespace Go.Id
open Go Go.RowKit
def partAt:Code→Nat→Code
 | .seq a _,0=>a
 | .seq _ b,n+1=>partAt b n
 | c,_=>c
def restAt:Code→Nat→Code
 | c,0=>c
 | .seq _ b,n+1=>restAt b n
 | c,_=>c
theorem parts_true {P:Program} {tb:FuncId→Option (List Value→Option Value)} (S0:Sound (E0 P)) (S1:Sound (E1 P tb)) {f:FuncId} {fn:Func} {a b rest:Code} {rs:List ResultVar} {nt:Nat} (hfn:P.funcs[f]?=some fn) (hc:fn.body=some (.seq a (.seq b rest))) (hrs:fn.results.toList=rs) (hnt:fn.ntmps=nt)
  {args:List Value} {base:Nat→Option (List Value)} {A:Nat→Nat×Nat} (hlen:args.length≤nt) {fra fr1:Fr} {ha h1:IH} {n:Nat}
  (ea:evC (E1 P tb) (callV (E1 P tb) n) f nt none n a (enterFr 0 args) (IH.start base)=some (.normal,fra,ha))
  (eb:evC (E1 P tb) (callV (E1 P tb) n) f nt none n b fra ha=some (.normal,fr1,h1))
  (w:Do (wpC P f nt none rest fr1 h1) (retK P rs fun r _=>r=.bool true) nx)
  {W:World} {args':Array Value} (hb:BaseOK A base W) (hargs:LRel (Mp.startOf A) args args'.toList):Calls P f args' W fun e W'=>e=.returned (.bool true)∧Below W.heap.size W W':=by
 subst hrs hnt
 obtain⟨⟨e,fr2,h2⟩,⟨N,hN⟩,hq⟩:=wpC_sound w
 have hn:=hN N (Nat.le_refl _)
 have key : ∀(K:Prop),retK P fn.results.toList (fun r _=>r=.bool true) e fr2 h2→(∀vs,(∀i,e≠.exit i)→resultsOf P fr2 h2 fn.results.toList=some vs→single vs=.bool true→K)→K:=by
  intro K hr k
  cases e with
  | exit i=>exact hr.elim
  | normal=>obtain⟨l,h3,h4⟩:=(hr:Ex _ _);exact k l (fun i h=>by cases h) h3 h4
  | ret=>obtain⟨l,h3,h4⟩:=(hr:Ex _ _);exact k l (fun i h=>by cases h) h3 h4
 refine key _ hq fun vs hne hvs hs=>?_
 have F:=follows_seq (follows_code S1 n f fn.ntmps a) (follows_seq (follows_code S1 n f fn.ntmps b) (follows_code S0 N f fn.ntmps rest))
 have hx:seqR (evC (E1 P tb) (callV (E1 P tb) n) f fn.ntmps none n a) (seqR (evC (E1 P tb) (callV (E1 P tb) n) f fn.ntmps none n b) (evC (E0 P) (callV (E0 P) N) f fn.ntmps none N rest)) (enterFr 0 args) (IH.start base)=some (e,fr2,h2):=by
  unfold seqR
  rw[ea]
  show(match evC (E1 P tb) (callV (E1 P tb) n) f fn.ntmps none n b fra ha with|some (.normal,fr,h)=>_|o=>o)=_
  rw[eb]
  exact hn
 refine(follows_calls hfn hc F hlen hx hne hvs (Rel.start hb) hargs (fun k _ _=>Mp.startOf_even A k)).mono fun e w' ⟨v',m',he,hv,R,_⟩=>?_
 rw[hs] at hv
 rw[he,hv.scal_eq rfl]
 exact⟨rfl,R.below⟩
end Go.Id
