/-
  Contracts: drafted censuses; the greatest of a list. Contracts: the reference's valid shares.
-/
import Derived.Test.YthpefnfbnaekaaaGreatBracketTwoAr
import Derived.Test.YthpefnfbnaekaaaGreatBracketTwoBn
import Derived.Test.YthpefnfbnaekaaaGreatBracketTwoBh
import Derived.Test.YthpefnfbnaekaaaGreatBracketTwoBk
import Derived.Test.YthpefnfbnaekaaaGreatBracketTwoAq
import Derived.Test.YthpefnfbnaekaaaGreatBracketTwoBl
set_option linter.unusedVariables false
set_option linter.unusedSimpArgs false
set_option linter.defProp false
set_option linter.deprecated false
namespace Go.Id
open Go
open Go.Proofs.Tryz (prog)
open Nat (reduceAdd reduceEqDiff reduceLeDiff)
set_option maxHeartbeats 16000000
abbrev B8 (n:Nat):Value:=.int .u8 (n:Int)
abbrev B16 (n:Nat):Value:=.int .u16 (n:Int)
def cenN (u p:Nat):Int:=if u % 3=0 then ((p % 12:Nat):Int) else ((p*u:Nat):Int)
def cenL (u:Nat) (ps:List Nat):List Int:=(ps.take 8).map (cenN u)
def census (u:Nat) (ps:List Nat):List Int:=if (cenL u ps).sum=0 then cenL u ps ++ [1] else cenL u ps
theorem cenN_le {u p:Nat} (hu:u<256) (hp:p<65536):0≤cenN u p∧cenN u p≤16711425:=by
 have:p*u≤65535*255:=Nat.mul_le_mul (by omega) (by omega)
 unfold cenN
 split<;>omega
structure Dr6 (h:IH) (x:Value) (ps ls:List Nat) (u s:Nat):Prop where
 ex : ∃vp vl,x=.agg #[vp,B8 u,vl,B16 s]∧SlOf h 1 vp ps.length (ps.map B16)∧SlOf h 1 vl ls.length (ls.map B8)
 bp : ∀p∈ps,p<65536
 bl : ∀p∈ls,p<256
 bu:u<256
 bs:s<65536
 lp:ps.length<9223372036854775808
 ll:ls.length<9223372036854775808
theorem Dr6.keep {h h':IH} {x:Value} {ps ls:List Nat} {u s:Nat} (d:Dr6 h x ps ls u s) (e:Keep h h'):Dr6 h' x ps ls u s:=by
 obtain⟨⟨vp,vl,a,b,c⟩,d1,d2,d3,d4,d5,d6⟩:=d
 exact⟨⟨vp,vl,a,b.keep e,c.keep e⟩,d1,d2,d3,d4,d5,d6⟩
theorem map_getN {f:Nat→Value} {l:List Nat} {i:Nat} {p:Nat} (h:l[i]?=some p):(l.map f)[i]?=some (f p):=by rw[List.getElem?_map,h];rfl
theorem cenL_succ {u:Nat} {ps:List Nat} {i p:Nat} (h:ps[i]?=some p) (h8:i<8):cenL u (ps.take (i+1))=cenL u (ps.take i) ++ [cenN u p]:=by
 unfold cenL
 rw[List.take_take,List.take_take,show min 8 (i+1)=i+1 from by omega,show min 8 i=i from by omega,List.take_add_one,h]
 simp
theorem cenL_all {u:Nat} {ps:List Nat}:cenL u (ps.take (min ps.length 8))=cenL u ps:=by
 unfold cenL
 rw[List.take_take]
 rcases Nat.lt_or_ge ps.length 8 with h|h
 ·rw[List.take_of_length_le (by omega),List.take_of_length_le (by omega)]
 ·rw[show min 8 (min ps.length 8)=8 from by omega]
theorem cenL_bound {u:Nat} {ps:List Nat} (hu:u<256) (hp : ∀p∈ps,p<65536):(∀n∈cenL u ps,0≤n∧n≤1000000000)∧(cenL u ps).length≤8:=by
 refine⟨fun n hn=>?_,by unfold cenL;rw[List.length_map,List.length_take];omega⟩
 obtain⟨p,h1,rfl⟩:=List.mem_map.1 hn
 have:=cenN_le hu (hp p (List.mem_of_mem_take h1))
 omega
theorem census_ok {h:IH} {x:Value} {ps ls:List Nat} {u s:Nat} (hx:Dr6 h x ps ls u s) :
  WV prog (.func (.func 9) #[] #[]) [x] h fun r h'=>Ext h h'∧SlOf h' 1 r (census u ps).length ((census u ps).map KI):=by
 obtain⟨⟨vp,vl,rfl,sp,sl⟩,bp,bl,hu,hs,lp,ll⟩:=hx
 refine enter (nt:=48) (rs:=[.tmp 2]) Proofs.Tryz.func9 rfl rfl rfl (by simp) ?_
 simp -dsimp (maxSteps:=1000000) (disch:=try exact dx) only[wpS]
 obtain⟨H0,hH0⟩ : ∃H,H=h.new (.cells [vp,B8 u,vl,B16 s] 0 none):=⟨_,rfl⟩
 have E0:Ext h H0:=by rw[hH0];exact(Ext.refl h).new _
 have g0:H0.ext.get h.n=some (.cells [vp,B8 u,vl,B16 s] 0 none):=by rw[hH0];simp (disch:=try exact dx) only[get_new_same]
 have n0:H0.n=h.n+1:=by rw[hH0];simp
 rw[←hH0]
 clear hH0
 refine loop (fun m fr hh => ∃(i:Nat) (v:Value),i+m=min ps.length 8∧Ext H0 hh∧Acc hh H0.n 1 v i ((cenL u (ps.take i)).map KI)∧fget fr 1=some (ptr (2*h.n) 0)∧fget fr 3=some v∧fget fr 4=some (KI (cenL u (ps.take i)).sum)∧fget fr 5=some (KN i)) (min ps.length 8)
  ⟨0,.slice none 0 0,by omega,Ext.refl _,Acc.nil _ _ (sz:=1) (by decide),by simp,by simp,by simp[cenL],by simp⟩ ?_
 rintro m fr hh ⟨i,v,him,E,A,f1,f3,f4,f5⟩
 have g1:=E.kept (by omega) g0
 have P0:=(sp.keep (E0.trans E).keep).now
 have bt:=cenL_bound (u:=u) (ps:=ps.take i) hu (fun p hp=>bp p (List.mem_of_mem_take hp))
 have bsum:=sum_bound _ bt.1
 have hcl:(cenL u (ps.take i)).length≤8:=bt.2
 by_cases c:i<ps.length
 ·by_cases c8:i<8
  ·obtain⟨p,hp⟩ : ∃p,ps[i]?=some p:=⟨_,List.getElem?_eq_getElem c⟩
   have hpb:=bp p (List.mem_of_getElem? hp)
   have hN:=cenN_le hu hpb
   have lP:=P0.ld (P:=prog) (t:=24) (c:=i) (by simp<;>omega) ag24
   rw[map_getN hp] at lP
   have e3:(u:Int) % 3=((u % 3:Nat):Int):=by omega
   have e12:(p:Int) % 12=((p % 12:Nat):Int):=by omega
   simp -dsimp (maxSteps:=1000000) (disch:=try exact dx) only[wpS,wpT,reduceEqDiff,fa26_0,ld22,cv24_3,fa26_1,ld5,f1,f5,row_of g1,P0.len sl22,P0.idx es22 c,lP,e3]

   refine bq_cut (fun fr2 h2=>h2=hh∧fget fr2 1=some (ptr (2*h.n) 0)∧fget fr2 3=some v∧fget fr2 4=some (KI (cenL u (ps.take i)).sum)∧fget fr2 5=some (KN i)∧fget fr2 6=some (KI (cenN u p))) (fun hc=>?_) (fun hc=>?_) ?_
   ·have hz:u % 3=0:=by simp at hc;omega
    simp -dsimp (maxSteps:=1000000) (disch:=try exact dx) only[wpS,wpT,reduceEqDiff,e12]
    exact⟨rfl,by simp[f1],by simp[f3],by simp[f4],by simp[f5],by rw[cenN,if_pos hz];simp⟩
   ·have hz : ¬u % 3=0:=by simp at hc;omega
    have em:IntKind.i64.wrap ((p:Int)*(u:Int))=((p*u:Nat):Int):=by
     have:p*u≤65535*255:=Nat.mul_le_mul (by omega) (by omega)
     rw[←Int.natCast_mul,wrap_i64 (by omega)]
    simp -dsimp (maxSteps:=1000000) (disch:=try exact dx) only[wpS,wpT,reduceEqDiff,fa26_1,ld5,cv5_3,f1,row_of g1,em]
    exact⟨rfl,by simp[f1],by simp[f3],by simp[f4],by simp[f5],by rw[cenN,if_neg hz];simp⟩
   ·rintro fr2 _ ⟨rfl,f1,f3,f4,f5,f6⟩
    have En:=E.n
    obtain⟨v',h5,hap,A5,G5,E5⟩:=A.app1 (P:=prog) (t:=29) ap29 (x:=KI (cenN u p)) rfl (by omega) (by omega) E (Nat.le_refl _)
    have e2:IntKind.i64.wrap ((i:Int)+1)=((i+1:Nat):Int):=by rw[wrap_i64 (by omega)];omega
    have es:IntKind.i64.wrap ((cenL u (ps.take i)).sum+cenN u p)=(cenL u (ps.take (i+1))).sum:=by
     rw[cenL_succ hp c8,List.sum_append,wrap_i64 (by omega)];simp
    simp -dsimp (maxSteps:=1000000) (disch:=try exact dx) only[wpS,wpT,reduceEqDiff,reduceLeDiff,reduceAdd,bs29,ba29_29,f3,f4,f5,f6,hap,e2,es]
    refine⟨m - 1,by omega,i+1,v',by omega,E5,?_,by simp[f1],by simp,by simp,by simp⟩
    rw[cenL_succ hp c8,List.map_append]
    exact A5
  ·have him2:i=min ps.length 8:=by omega
   have e0:cenL u (ps.take i)=cenL u ps:=by rw[him2];exact cenL_all
   have hli:(cenL u ps).length=i:=by unfold cenL;rw[List.length_map,List.length_take];omega
   have En:=E.n
   rw[e0] at A bsum f4
   simp -dsimp (maxSteps:=1000000) (disch:=try exact dx) only[wpS,wpT,reduceEqDiff,fa26_0,ld22,f1,f4,f5,row_of g1,P0.len sl22]
   refine bq_intro (fun hc=>?_) (fun hc=>?_)
   ·have hz:(cenL u ps).sum=0:=by simpa using hc
    obtain⟨v',h5,hap,A5,G5,E5⟩:=A.app1 (P:=prog) (t:=29) ap29 (x:=KI 1) rfl (by omega) (by omega) E (Nat.le_refl _)
    simp -dsimp (maxSteps:=1000000) (disch:=try exact dx) only[wpS,wpT,reduceEqDiff,reduceLeDiff,reduceAdd,bs29,ba29_29,f3,hap]
    refine⟨E0.trans E5,?_⟩
    have e9:census u ps=cenL u ps ++ [1]:=by unfold census;rw[if_pos hz]
    rw[e9,List.map_append,List.length_append,hli]
    exact A5.sl
   ·have hz : ¬(cenL u ps).sum=0:=by simpa using hc
    simp -dsimp (maxSteps:=1000000) (disch:=try exact dx) only[wpS,wpT,reduceEqDiff,f3]
    refine⟨E0.trans E,?_⟩
    have e9:census u ps=cenL u ps:=by unfold census;rw[if_neg hz]
    rw[e9,hli]
    exact A.sl
 ·have him2:i=min ps.length 8:=by omega
  have e0:cenL u (ps.take i)=cenL u ps:=by rw[him2];exact cenL_all
  have hli:(cenL u ps).length=i:=by unfold cenL;rw[List.length_map,List.length_take];omega
  have En:=E.n
  rw[e0] at A bsum f4
  simp -dsimp (maxSteps:=1000000) (disch:=try exact dx) only[wpS,wpT,reduceEqDiff,fa26_0,ld22,f1,f4,f5,row_of g1,P0.len sl22]
  refine bq_intro (fun hc=>?_) (fun hc=>?_)
  ·have hz:(cenL u ps).sum=0:=by simpa using hc
   obtain⟨v',h5,hap,A5,G5,E5⟩:=A.app1 (P:=prog) (t:=29) ap29 (x:=KI 1) rfl (by omega) (by omega) E (Nat.le_refl _)
   simp -dsimp (maxSteps:=1000000) (disch:=try exact dx) only[wpS,wpT,reduceEqDiff,reduceLeDiff,reduceAdd,bs29,ba29_29,f3,hap]
   refine⟨E0.trans E5,?_⟩
   have e9:census u ps=cenL u ps ++ [1]:=by unfold census;rw[if_pos hz]
   rw[e9,List.map_append,List.length_append,hli]
   exact A5.sl
  ·have hz : ¬(cenL u ps).sum=0:=by simpa using hc
   simp -dsimp (maxSteps:=1000000) (disch:=try exact dx) only[wpS,wpT,reduceEqDiff,f3]
   refine⟨E0.trans E,?_⟩
   have e9:census u ps=cenL u ps:=by unfold census;rw[if_neg hz]
   rw[e9,hli]
   exact A.sl
end Go.Id

namespace Go.Id
open Go
end Go.Id

namespace Go.Id
open Go
def maxL:List Int→Int
 | []=>0
 | a :: l=>l.foldl max a
theorem le_maxL : ∀(l:List Int) (x:Int),x∈l→x≤maxL l
 | [],x,h=>by cases h
 | a :: l,x,h=>by
  have g : ∀(l:List Int) (b x:Int),(x=b∨x∈l)→x≤l.foldl max b:=by
   intro l
   induction l with
   | nil=>intro b x h;simp at h;simp[h]
   | cons c l ih =>
    intro b x h
    rw[List.foldl_cons]
    rcases h with rfl|h
    ·have:=ih (max x c) (max x c) (.inl rfl);omega
    ·rcases List.mem_cons.1 h with rfl|h
     ·have:=ih (max b x) (max b x) (.inl rfl);omega
     ·exact ih _ _ (.inr h)
  exact g l a x (by simpa using h)
theorem maxL_mem : ∀(l:List Int),l ≠ []→maxL l∈l
 | [],h=>absurd rfl h
 | a :: l,_=>by
  have g : ∀(l:List Int) (b:Int),l.foldl max b=b∨l.foldl max b∈l:=by
   intro l
   induction l with
   | nil=>intro b;exact .inl rfl
   | cons c l ih =>
    intro b
    rw[List.foldl_cons]
    rcases ih (max b c) with h|h
    ·rcases(by omega:max b c=b∨max b c=c) with h2|h2
     ·exact .inl (h.trans h2)
     ·exact .inr (by rw[h,h2];exact List.mem_cons_self)
    ·exact .inr (List.mem_cons_of_mem _ h)
  rcases g l a with h|h
  ·show l.foldl max a∈_;rw[h];exact List.mem_cons_self
  ·exact List.mem_cons_of_mem _ h
end Go.Id

namespace Go.Id
open Go
theorem firstT_le_of {p:Nat→Bool} {n a:Nat} (h:p a=true):firstT p n≤a∨n≤a:=by
 rcases Nat.lt_or_ge a (firstT p n) with h1|h1
 ·rw[firstT_below p n a h1] at h;cases h
 ·exact .inl h1
theorem step_one {m:Nat} {t:Rat} {s:Nat}:stepP 1 m t s=true↔t<postQ m s:=by
 unfold stepP cmpQ
 rw[decide_eq_true_eq]
 split
 ·rename_i h;exact⟨fun h=>absurd h (by omega),fun h2=>by grind⟩
 ·split
  ·rename_i h1 h2;exact⟨fun h=>absurd h (by omega),fun h3=>by grind⟩
  ·exact⟨fun _=>by grind,fun _=>by omega⟩
theorem atHigh_le {m:Nat} (hm:11≤m∧m≤15) {t:Rat} (h:t≤if m=13 then 250000 else 500):atHigh m t≤501:=by
 have h2:t<postQ m 501:=by
  rcases(by omega:m=11∨m=12∨m=13∨m=14∨m=15) with rfl|rfl|rfl|rfl|rfl
  ·have:(500:Rat)<postQ 11 501:=by decide +kernel
   simp at h;grind
  ·have:(500:Rat)<postQ 12 501:=by decide +kernel
   simp at h;grind
  ·have:(250000:Rat)<postQ 13 501:=by decide +kernel
   simp at h;grind
  ·have:(500:Rat)<postQ 14 501:=by decide +kernel
   simp at h;grind
  ·have:(500:Rat)<postQ 15 501:=by decide +kernel
   simp at h;grind
 rcases firstT_le_of (p:=stepP 1 m t) (n:=1001) (a:=501) (step_one.2 h2) with h3|h3
 ·exact h3
 ·omega
theorem rdiv_le {a b c:Rat} (hb:0<b) (h:a≤c*b):a / b≤c:=by
 rcases Classical.em (c<a / b) with h1|h1
 ·have:=(Rat.lt_div_iff hb).1 h1
  grind
 ·grind
structure Dvs (top d:Int) (x:Rat):Prop where
 bt:1≤top∧top≤1000000000
 bd:1≤d∧d≤500
 eq:x=Rat.divInt top d
theorem Dvs.pos {top d:Int} {x:Rat} (v:Dvs top d x):0<x:=by
 have h1:(0:Rat)<(top:Rat):=by exact_mod_cast (by have:=v.bt;omega:(0:Int)<top)
 have h2:(0:Rat)<(d:Rat):=by exact_mod_cast (by have:=v.bd;omega:(0:Int)<d)
 rw[v.eq,Rat.divInt_eq_div,Rat.lt_div_iff h2]
 grind
theorem Dvs.quo {top d n:Int} {x:Rat} (v:Dvs top d x) (hn:0≤n∧n≤top):QB 40 ((n:Rat) / x)∧0≤(n:Rat) / x∧(n:Rat) / x≤500:=by
 have hx:=v.pos
 have h1:(0:Rat)<(top:Rat):=by exact_mod_cast (by have:=v.bt;omega:(0:Int)<top)
 have h2:(0:Rat)<(d:Rat):=by exact_mod_cast (by have:=v.bd;omega:(0:Int)<d)
 have h3:(0:Rat)≤(n:Rat):=by exact_mod_cast hn.1
 have h4:(n:Rat)≤(top:Rat):=by exact_mod_cast hn.2
 have h5:((d:Int):Rat)≤((500:Int):Rat):=Rat.intCast_le_intCast.2 v.bd.2
 have h6:((500:Int):Rat)=500:=rfl
 have e:(n:Rat) / x=Rat.divInt (n*d) top:=by
  rw[v.eq,Rat.divInt_eq_div,Rat.divInt_eq_div,Rat.intCast_mul]
  grind
 refine⟨?_,?_,?_⟩
 ·rw[e]
  have b1:=v.bt
  have b2:=v.bd
  have b3:(n*d).natAbs≤1000000000*500:=by
   rw[Int.natAbs_mul]
   exact Nat.mul_le_mul (by omega) (by omega)
  exact QB.divInt (by omega) (Nat.le_trans b3 (by decide)) (Nat.le_trans (by omega:top.natAbs≤1000000000) (by decide))
 ·rw[e]
  exact Rat.divInt_nonneg (Int.mul_nonneg hn.1 (by have:=v.bd;omega)) (by have:=v.bt;omega)
 ·have e2:(n:Rat) / x=(n:Rat)*(d:Rat) / (top:Rat):=by
   rw[e,Rat.divInt_eq_div,Rat.intCast_mul]
  rw[e2]
  have h7:(n:Rat)*(d:Rat)≤500*(top:Rat):=by
   have a1:(n:Rat)*(d:Rat)≤(top:Rat)*(d:Rat):=Rat.mul_le_mul_of_nonneg_right h4 (by grind)
   have a2:(top:Rat)*(d:Rat)≤(top:Rat)*500:=Rat.mul_le_mul_of_nonneg_left (by grind) (by grind)
   grind
  exact rdiv_le h1 h7
theorem Dvs.fine {top d n:Int} {x:Rat} {m:Nat} (v:Dvs top d x) (hm:11≤m∧m≤15) (hn:0≤n∧n≤top) : ∃t,atT m x n=some t∧t=(if m=13 then (n:Rat) / x*((n:Rat) / x) else (n:Rat) / x)∧atHigh m t≤501:=by
 obtain⟨q,q0,q1⟩:=v.quo hn
 have w1:QW ((n:Rat) / x):=qw_bits q (by omega)
 have w2:QW ((n:Rat) / x*((n:Rat) / x)):=qw_bits (QB.mul q q) (by omega)
 by_cases c:m=13
 ·refine⟨_,by unfold atT;rw[if_pos w1,if_pos c,if_pos w2],by rw[if_pos c],atHigh_le hm ?_⟩
  rw[if_pos c]
  generalize (n:Rat) / x=y at *
  have a1:y*y≤500*y:=Rat.mul_le_mul_of_nonneg_right q1 q0
  grind
 ·refine⟨_,by unfold atT;rw[if_pos w1,if_neg c],by rw[if_neg c],atHigh_le hm ?_⟩
  rw[if_neg c]
  exact q1
end Go.Id

namespace Go.Id
open Go
noncomputable section
def tbOf (l:List (FuncId×(List Value→Option Value))) (f:FuncId):Option (List Value→Option Value):=List.rec (motive:=fun _=>Option (List Value→Option Value)) none (fun p _ ih=>iB (Nat.beq f p.1) (some p.2) ih) l
def EntryOK (P:Program) (f:FuncId) (g:List Value→Option Value):Prop :=
 (∃fn,P.funcs[f]?=some fn∧fn.body.isSome=true) ∧ ∀args v,args.all plain=true→g args=some v→plainT v=true∧Gives P f args v
theorem tbOf_mem : ∀{l:List (FuncId×(List Value→Option Value))} {f:FuncId} {g:List Value→Option Value},tbOf l f=some g→(f,g)∈l
 | [],_,_,h=>by cases h
 | p :: l,f,g,h=>by
  change iB (Nat.beq f p.1) (some p.2) (tbOf l f)=some g at h
  rw[iB_eq] at h
  cases hb:Nat.beq f p.1 with
  | true =>
   rw[hb] at h;cases h
   have:=Nat.beq_eq.mp hb
   subst this
   exact List.mem_cons_self
  | false =>
   rw[hb] at h
   exact List.mem_cons_of_mem _ (tbOf_mem h)
theorem sound_tb {P:Program} (S:Sound (E0 P)) {l:List (FuncId×(List Value→Option Value))} (h : ∀p∈l,EntryOK P p.1 p.2):Sound (E1 P (tbOf l)) :=
 sound1 S (fun f g hg=>(h _ (tbOf_mem hg)).1) (fun f g hg=>(h _ (tbOf_mem hg)).2)
theorem entry_wv {P:Program} (S:Sound (E0 P)) {f:FuncId} {fn:Func} (hf:P.funcs[f]?=some fn) (hb:fn.body.isSome=true) {g:List Value→Option Value}
  (h : ∀args v,args.all plain=true→g args=some v→plainT v=true∧WV P (.func (.func f) #[] #[]) args (IH.start fun _=>none) fun r _=>r=v):EntryOK P f g :=
 ⟨⟨fn,hf,hb⟩,fun args v hp e=>⟨(h args v hp e).1,gives_wv S ⟨fn,hf,hb⟩ hp (h args v hp e).2⟩⟩
def okT (args:List Value):Option Value:=match args with
 | []=>some (.bool true)
 | _=>none
theorem entry_true {E:Env} (S:Sound E) {n:Nat} {f:FuncId} {fn:Func} (hf:E.P.funcs[f]?=some fn) (hb:fn.body.isSome=true) (h:boolF E (n+1) f (fun _=>none)=true):EntryOK E.P f okT:=by
 refine⟨⟨fn,hf,hb⟩,fun args v hp e=>?_⟩
 unfold okT at e
 split at e
 ·cases e
  obtain⟨h',hr⟩:=boolF_true h
  exact⟨rfl,gives_run S hr ⟨fn,hf,hb⟩ hp⟩
 ·cases e
end
end Go.Id

namespace Go.Id
open Go
def Follows (P:Program) (f:FuncId) (nt:Nat) (run:Fr→IH→Out) (c:Code):Prop :=
 (∀fr h e fr' h',run fr h=some (e,fr',h')→h.n≤h'.n) ∧ ∀(b:Frame) (z B:Nat) (w0:World) (cs:List Frame),b.fn=f→SimCode (E0 P) run b none B w0 z nt cs c
theorem follows_code {E:Env} (S:Sound E) (n:Nat) (f:FuncId) (nt:Nat) (c:Code):Follows E.P f nt (evC E (callV E n) f nt none n c) c:=by
 refine⟨fun fr h e fr' h' hr=>evC_n (callV_mono S n) _ _ _ _ _ _ hr,fun b z B w0 cs hb=>?_⟩
 subst hb
 exact sim_code (E:=E) (callV_sim S n) (callV_mono S n) S.mixed n c
def seqR (ra rb:Fr→IH→Out):Fr→IH→Out:=fun fr h=>match ra fr h with
 | some (.normal,fr,h)=>rb fr h
 | o=>o
theorem follows_seq {P:Program} {f:FuncId} {nt:Nat} {ra rb:Fr→IH→Out} {x y:Code} (hx:Follows P f nt ra x) (hy:Follows P f nt rb y):Follows P f nt (seqR ra rb) (.seq x y):=by
 refine⟨fun fr h e fr' h' hr=>?_,fun b z B w0 cs hb=>?_⟩
 ·unfold seqR at hr
  split at hr
  ·rename_i hx1
   exact Nat.le_trans (hx.1 _ _ _ _ _ hx1) (hy.1 _ _ _ _ _ hr)
  ·exact hx.1 _ _ _ _ _ hr
 ·intro fr h e fr' h' hr m w tmps k ds R hf ht hfr hfo hd hz
  unfold seqR at hr
  split at hr
  ·rename_i fr1 h1 hx1
   have n1:=hx.1 _ _ _ _ _ hx1
   have n2:=hy.1 _ _ _ _ _ hr
   obtain⟨m1,w1,tmps1,ds1,k1,a1,a2,a3,a4,a5,a6,a7⟩:=hx.2 b z B w0 cs hb fr h .normal fr1 h1 hx1 m w tmps (.code y :: k) ds R hf ht (hfr.sub (Nat.le_refl _) n2) hfo hd hz
   obtain rfl:k1=_:=a2
   refine .first (.head st_seq a1) (.step a6 ?_)
   exact hy.2 b z B w0 cs hb fr1 h1 e fr' h' hr m1 w1 tmps1 k ds1 a5 a3 a4 (a6.fresh hfr) (hfo.mono a6.le) a7 (Nat.le_trans hz a6.size)
  ·rename_i hne
   cases e with
   | normal=>exact absurd hr (hne _ _)
   | exit i=>exact .first (.one st_seq) ((hx.2 b z B w0 cs hb fr h _ _ _ hr m w tmps (.code y :: k) ds R hf ht hfr hfo hd hz).out (by simp) (fun i _=>rfl))
   | ret=>exact .first (.one st_seq) ((hx.2 b z B w0 cs hb fr h _ _ _ hr m w tmps (.code y :: k) ds R hf ht hfr hfo hd hz).out (by simp) (fun i hi=>by cases hi))
theorem follows_calls {P:Program} {f:FuncId} {fn:Func} {c:Code} {run:Fr→IH→Out} (hfn:P.funcs[f]?=some fn) (hc:fn.body=some c) (F:Follows P f fn.ntmps run c) {args:List Value} {h h1:IH} {e:IExit} {fr1:Fr} {vs:List Value}
  (hlen':args.length≤fn.ntmps) (hx:run (enterFr 0 args) h=some (e,fr1,h1)) (hne : ∀i,e≠.exit i) (hvs:resultsOf P fr1 h1 fn.results.toList=some vs)
  {B:Nat} {w0:World} {m:Mp} {w:World} {args':Array Value} (R:Rel B w0 m h w) (hargs:LRel m args args'.toList) (hfr:Fresh m h.n h1.n):CallsTo P f args' B w0 m h w (single vs) h1:=by
 have hsz:args'.size=args.length:=by rw[hargs.1];simp
 intro cs
 let b:Frame:={ fn:=f,tmps:=#[],todo:=[],defers:=[],mode:=.run,kind:=.normal,roundOf:=none }
 let tmps:Array Value:=args' ++ Array.replicate (fn.ntmps - args'.size) undef
 have hen:Frame.enter P f args' .normal=on b tmps [.code c] []:=by
  simp[Frame.enter,hfn,hc,on,b,tmps]
 have htmps:FrRel m (enterFr 0 args) tmps:=by
  intro t u hu
  rw[fget_enterFr] at hu
  simp only[Nat.zero_le,if_true,Nat.sub_zero] at hu
  obtain⟨u',h2,h3⟩:=hargs.get hu
  have h4:args'[t]?=some u':=by simpa using h2
  refine⟨u',?_,h3⟩
  have:=(Array.getElem?_eq_some_iff.1 h4).1
  rw[Array.getElem?_append_left this,h4]
 have htsz:fn.ntmps≤tmps.size:=by simp[tmps];omega
 obtain⟨m1,w1,tmps1,ds1,k1,a1,a2,a3,a4,a5,a6,a7⟩:=F.2 b w.heap.size B w0 cs rfl _ _ _ _ _ hx m w tmps [] [] R htmps htsz hfr (.inl ⟨rfl,rfl⟩) (DefOK.nil _ _ _ _) (Nat.le_refl _)
 obtain⟨rs,d1,d2,d3⟩:=a7
 have hleave : ∃todo,step P (lone (on b tmps1 k1 ds1) cs w1)=.next (lone { on b tmps1 todo ds1 with mode:=.returning } cs w1):=by
  cases e with
  | normal=>obtain rfl:k1=_:=a2;exact⟨_,stepR_end (b:=b) (a:=⟨tmps1,ds1⟩) rfl⟩
  | exit i=>exact absurd rfl (hne i)
  | ret=>obtain⟨k2,rfl⟩:=a2;exact⟨_,stepR_ret (b:=b) (a:=⟨tmps1,ds1⟩) rfl⟩
 obtain⟨todo,hleave⟩:=hleave
 obtain⟨w2,b1,b2,b3,b4⟩:=unwind_marks (P:=P) R.size rs { on b tmps1 todo ds1 with mode:=.returning } cs w1 rfl d1 d2 d3 a5
 obtain⟨v',r1,r2⟩:=results_run b2 a3 hvs
 refine⟨.returned v',w2,{ on b tmps1 todo ds1 with mode:=.returning,defers:=[] },⟨v',m1,rfl,r2,b2,?_⟩,?_,?_,?_⟩
 ·refine⟨a6.le,a6.new,a6.n,a6.base,fun r hr hk=>?_,a6.idle,by rw[b3];exact a6.size,a6.img,a6.idleF⟩
  rw[b4 r (fun hm=>by have:=(d3 r hm).1;omega)]
  exact a6.frame r hr hk
 ·exact(by rw[hen];exact a1.trans (.head hleave b1):Steps P (lone (Frame.enter P f args' .normal) cs w) _)
 ·rfl
 ·exact⟨rfl,rfl,rfl,fn,hfn,r1⟩
end Go.Id

namespace Go.Id
open Go Go.RowKit
def partAt:Code→Nat→Code
 | .seq a _,0=>a
 | .seq _ b,n+1=>partAt b n
 | c,_=>c
def restAt:Code→Nat→Code
 | c,0=>c
 | .seq _ b,n+1=>restAt b n
 | c,_=>c
theorem parts_true {P:Program} {tb:FuncId→Option (List Value→Option Value)} (S0:Sound (E0 P)) (S1:Sound (E1 P tb)) {f:FuncId} {fn:Func} {a b rest:Code} {rs:List ResultVar} {nt:Nat} (hfn:P.funcs[f]?=some fn) (hc:fn.body=some (.seq a (.seq b rest))) (hrs:fn.results.toList=rs) (hnt:fn.ntmps=nt)
  {args:List Value} {base:Nat→Option (List Value)} {A:Nat→Nat×Nat} (hlen:args.length≤nt) {fra fr1:Fr} {ha h1:IH} {n:Nat}
  (ea:evC (E1 P tb) (callV (E1 P tb) n) f nt none n a (enterFr 0 args) (IH.start base)=some (.normal,fra,ha))
  (eb:evC (E1 P tb) (callV (E1 P tb) n) f nt none n b fra ha=some (.normal,fr1,h1))
  (w:Do (wpC P f nt none rest fr1 h1) (retK P rs fun r _=>r=.bool true) nx)
  {W:World} {args':Array Value} (hb:BaseOK A base W) (hargs:LRel (Mp.startOf A) args args'.toList):Calls P f args' W fun e W'=>e=.returned (.bool true)∧Below W.heap.size W W':=by
 subst hrs hnt
 obtain⟨⟨e,fr2,h2⟩,⟨N,hN⟩,hq⟩:=wpC_sound w
 have hn:=hN N (Nat.le_refl _)
 have key : ∀(K:Prop),retK P fn.results.toList (fun r _=>r=.bool true) e fr2 h2→(∀vs,(∀i,e≠.exit i)→resultsOf P fr2 h2 fn.results.toList=some vs→single vs=.bool true→K)→K:=by
  intro K hr k
  cases e with
  | exit i=>exact hr.elim
  | normal=>obtain⟨l,h3,h4⟩:=(hr:Ex _ _);exact k l (fun i h=>by cases h) h3 h4
  | ret=>obtain⟨l,h3,h4⟩:=(hr:Ex _ _);exact k l (fun i h=>by cases h) h3 h4
 refine key _ hq fun vs hne hvs hs=>?_
 have F:=follows_seq (follows_code S1 n f fn.ntmps a) (follows_seq (follows_code S1 n f fn.ntmps b) (follows_code S0 N f fn.ntmps rest))
 have hx:seqR (evC (E1 P tb) (callV (E1 P tb) n) f fn.ntmps none n a) (seqR (evC (E1 P tb) (callV (E1 P tb) n) f fn.ntmps none n b) (evC (E0 P) (callV (E0 P) N) f fn.ntmps none N rest)) (enterFr 0 args) (IH.start base)=some (e,fr2,h2):=by
  unfold seqR
  rw[ea]
  show(match evC (E1 P tb) (callV (E1 P tb) n) f fn.ntmps none n b fra ha with|some (.normal,fr,h)=>_|o=>o)=_
  rw[eb]
  exact hn
 refine(follows_calls hfn hc F hlen hx hne hvs (Rel.start hb) hargs (fun k _ _=>Mp.startOf_even A k)).mono fun e w' ⟨v',m',he,hv,R,_⟩=>?_
 rw[hs] at hv
 rw[he,hv.scal_eq rfl]
 exact⟨rfl,R.below⟩
end Go.Id

namespace Go.Id
open Go
noncomputable def tbW:FuncId→Option (List Value→Option Value):=tbOf [(8,okT)]
noncomputable abbrev bodyFa:Code:=Proofs.Tryz.f4.body.getD .skip
structure CenOK (c:List Int):Prop where
 ne:c ≠ []
 b : ∀n∈c,0≤n∧n≤16711425
 len:c.length≤9
 sum:0<c.sum
theorem sum_nonneg : ∀(l:List Int),(∀n∈l,0≤n)→0≤l.sum
 | [],_=>by simp
 | a :: l,h=>by
  have:=sum_nonneg l fun n hn=>h n (List.mem_cons_of_mem _ hn)
  have:=h a List.mem_cons_self
  simp;omega
theorem census_cen {u:Nat} {ps:List Nat} (hu:u<256) (hp : ∀p∈ps,p<65536):CenOK (census u ps):=by
 have hb : ∀n∈cenL u ps,0≤n∧n≤16711425:=fun n hn=>by
  obtain⟨p,h1,rfl⟩:=List.mem_map.1 hn
  exact cenN_le hu (hp p (List.mem_of_mem_take h1))
 have hl:=(cenL_bound (u:=u) hu hp).2
 have h0:=sum_nonneg _ fun n hn=>(hb n hn).1
 unfold census
 split
 ·rename_i hz
  refine⟨by simp,fun n hn=>?_,by rw[List.length_append];simp;omega,by rw[List.sum_append,hz];decide⟩
  rcases List.mem_append.1 hn with h|h
  ·exact hb n h
  ·simp at h;omega
 ·rename_i hz
  exact⟨fun e=>hz (by rw[e];rfl),hb,by omega,by omega⟩
theorem pos_of_sum : ∀(l:List Int),0<l.sum → ∃n∈l,0<n
 | [],h=>absurd h (by decide)
 | a :: l,h=>by
  by_cases c:0<a
  ·exact⟨a,List.mem_cons_self,c⟩
  ·obtain⟨n,h1,h2⟩:=pos_of_sum l (by simp at h;omega)
   exact⟨n,List.mem_cons_of_mem _ h1,h2⟩
theorem CenOK.quota {c:List Int} (h:CenOK c):quotaOK c=true:=by
 have h1:=h.len
 have h2:=h.sum
 unfold quotaOK
 simp only[Bool.and_eq_true,decide_eq_true_eq]
 refine⟨by omega,inR_iff.2 fun n hn=>by have:=h.b n hn;omega,?_⟩
 simp;omega
theorem CenOK.max {c:List Int} (h:CenOK c):1≤maxL c∧maxL c≤16711425:=by
 obtain⟨n,h1,h2⟩:=pos_of_sum c h.sum
 have h3:=le_maxL c n h1
 have h4:=h.b _ (maxL_mem c h.ne)
 omega
theorem AtV.fine {h:IH} {r:Value} {c:List Int} {p:Nat×Nat} {m:Int} (a:AtV h r c p m) (e:atErr c p m=0) : ∃v w,r=.tuple #[v,w,KI 0]∧SlOf h 1 v c.length (atA m.toNat (rOf p) c)∧SlOf h 1 w c.length (atB m.toNat (rOf p) c):=by
 unfold AtV at a
 rwa [if_pos e] at a
end Go.Id

namespace Go.Proofs.YthpefnfbnaekaaaGreat
open Go.ChangeShapes Go.WideShapes Go.ChangeAt Go.RowKit Go.Id
noncomputable def tb1:List (FuncId×(List Value→Option Value)):=[(101,make2),(52,of2),(46,of2),(50,check1),(27,sign1),(21,cmp2),(26,mul2),(53,quo2),(85,max2)]
theorem sound_1 : ∀p∈tb1,EntryOK Tryz.prog p.1 p.2:=by
 intro p hp
 simp only[tb1,List.mem_cons,List.not_mem_nil,or_false] at hp
 rcases hp with rfl|rfl|rfl|rfl|rfl|rfl|rfl|rfl|rfl
 ·exact entry_wv Tryz.sound Tryz.func101 rfl val_make
 ·exact entry_wv Tryz.sound Tryz.func52 rfl val_of
 ·exact entry_wv Tryz.sound Tryz.func46 rfl val_of02
 ·exact entry_wv Tryz.sound Tryz.func50 rfl val_check
 ·exact entry_wv Tryz.sound Tryz.func27 rfl val_sign
 ·exact entry_wv Tryz.sound Tryz.func21 rfl val_cmp
 ·exact entry_wv Tryz.sound Tryz.func26 rfl val_mul
 ·exact entry_wv Tryz.sound Tryz.func53 rfl val_div
 ·exact entry_wv Tryz.sound Tryz.func85 rfl val_max
theorem wakes_true:boolF (E1 Tryz.prog (tbOf tb1)) (4999+1) 8 (fun _=>none)=true:=by decide +kernel
theorem sound_W:Sound (E1 Tryz.prog tbW):=sound_tb Tryz.sound fun p hp=>by
 obtain rfl:=List.mem_singleton.1 hp
 exact entry_true (E:=E1 Tryz.prog (tbOf tb1)) (sound_tb Tryz.sound sound_1) Tryz.func8 rfl wakes_true
theorem u_draft6:Tryz.prog.underlying 26=some (.struct { toList:=[{ name := "People",type:=22,offset:=0,embedded:=false,tag := "",pkgPath := "",byteOffset:=0 },{ name := "Unit",type:=5,offset:=1,embedded:=false,tag := "",pkgPath := "",byteOffset:=24 },{ name := "Least",type:=23,offset:=2,embedded:=false,tag := "",pkgPath := "",byteOffset:=32 },{ name := "Seats",type:=24,offset:=3,embedded:=false,tag := "",pkgPath := "",byteOffset:=56 }] }):=by kernel_rfl
theorem u_u16s:Tryz.prog.underlying 22=some (.slice 24):=by kernel_rfl
theorem u_u8s:Tryz.prog.underlying 23=some (.slice 5):=by kernel_rfl
theorem u_u16:Tryz.prog.underlying 24=some (.int .u16):=by kernel_rfl
theorem u_u8:Tryz.prog.underlying 5=some (.int .u8):=by kernel_rfl
theorem c_draft6:Tryz.prog.cellsOf 26=4:=by kernel_rfl
theorem c_u16s:Tryz.prog.cellsOf 22=1:=by kernel_rfl
theorem c_u8s:Tryz.prog.cellsOf 23=1:=by kernel_rfl
theorem c_u16:Tryz.prog.cellsOf 24=1:=by kernel_rfl
theorem c_u8:Tryz.prog.cellsOf 5=1:=by kernel_rfl
theorem wf_u8 {x:Int} (h:(Lit.int .u8 x).wf=true):0≤x∧x<256:=by
 simp only[Lit.wf,Bool.and_eq_true,decide_eq_true_eq] at h
 have h1:(0:Int)≤x:=h.1
 have h2:x≤(255:Int):=h.2
 exact⟨h1,by omega⟩
theorem len4 {α:Type} : ∀{l:List α},l.length=4 → ∃a b c d,l = [a,b,c,d]
 | [a,b,c,d],_=>⟨a,b,c,d,rfl⟩
theorem nums_of {f:Nat→Value} {m:Nat} : ∀(n:Nat) (cs:List Value),cs.length=n*1→(∀i,i<n → ∃p,p<m∧(cs.drop (i*1)).take 1 = [f p]) → ∃ps:List Nat,ps.length=n∧cs=ps.map f ∧ ∀p∈ps,p<m
 | 0,cs,h,_=>⟨[],rfl,by simpa using h,fun p hp=>by cases hp⟩
 | n+1,[],h,_=>by simp at h
 | n+1,c :: cs,h,k=>by
  obtain⟨p,h1,h2⟩:=k 0 (by omega)
  obtain⟨ps,h3,h4,h5⟩:=nums_of n cs (by simp at h ⊢;omega) fun i hi=>by
   obtain⟨q,h6,h7⟩:=k (i+1) (by omega)
   exact⟨q,h6,by simpa using h7⟩
  refine⟨p :: ps,by simp[h3],?_,fun q hq=>?_⟩
  ·simp at h2;rw[List.map_cons,h2,h4]
  ·rcases List.mem_cons.1 hq with rfl|hq
   ·exact h1
   ·exact h5 q hq
section
variable {H:Type} {enc:TypeId×Value→H} {W:World} {held:Bool}
theorem tell_nums {t e:TypeId} {k:IntKind} {m:Nat} (hk:k.min=0) (hm:k.max=(m:Int)) (hs:Tryz.prog.underlying t=some (.slice e)) (he:Tryz.prog.underlying e=some (.int k)) (hc:Tryz.prog.cellsOf e=1) (G:Nat→Option (List Value)) {fuel:Nat} {cs0:List Value} {x:DataW H×List MemPlace} (h:DataW.trod enc Tryz.prog W 0 (fun _=>true) held fuel t cs0=some x) :
  ∃(v:Value) (ps:List Nat),cs0 = [v]∧tellable v=true∧ps.length≤maxLen∧SlOf (IH.start (tellB G W)) 1 (trV v) ps.length (ps.map fun n:Nat=>Value.int k (n:Int)) ∧ ∀p∈ps,p<m+1:=by
 obtain⟨v,n,cs,e1,ht,hn,hs,hR⟩:=tell_slice (R:=fun cs => ∃p:Nat,p<m+1∧cs.map trV = [.int k (p:Int)]) hs hc (by omega) (fun n cs x hx=>by
  obtain⟨i,rfl,hi⟩:=trod_nat hk hm he hx
  exact⟨⟨i,by omega,rfl⟩,fun y hy=>by rw[List.mem_singleton.1 hy];rfl⟩) G h
 obtain⟨ps,h1,h2,h3⟩:=nums_of (f:=fun n:Nat=>Value.int k (n:Int)) (m:=m+1) n (cs.map trV) hs.2.1 fun i hi=>by
  obtain⟨p,hp,e⟩:=hR i hi
  exact⟨p,hp,by rw[←List.map_drop,←List.map_take];exact e⟩
 subst h1
 exact⟨v,ps,e1,ht,hn,h2▸hs,h3⟩
theorem draft6_of (G:Nat→Option (List Value)) {fuel:Nat} {cs:List Value} {x:DataW H×List MemPlace} (h:DataW.trod enc Tryz.prog W 0 (fun _=>true) held fuel 26 cs=some x) :
  ∃y1 u y2 s ps ls,cs = [y1,B8 u,y2,B16 s]∧(tellable y1=true∧tellable y2=true)∧Dr6 (IH.start (tellB G W)) (.agg #[trV y1,B8 u,trV y2,B16 s]) ps ls u s:=by
 obtain⟨xs,m,_,_,hl,hn,hf⟩:=DataW.trod_struct u_draft6 h
 rw[c_draft6] at hl
 have hn2:xs.length=4:=hn
 obtain⟨x0,hx0⟩ : ∃y,xs[0]?=some y:=⟨_,List.getElem?_eq_getElem (by omega)⟩
 have f0:DataW.trod enc Tryz.prog W 0 (fun _=>true) held m 22 ((cs.drop 0).take (Tryz.prog.cellsOf 22))=some x0:=(hf 0 { name := "People",type:=22,offset:=0,embedded:=false,tag := "",pkgPath := "",byteOffset:=0 } rfl).trans hx0
 obtain⟨x1,hx1⟩ : ∃y,xs[1]?=some y:=⟨_,List.getElem?_eq_getElem (by omega)⟩
 have f1:DataW.trod enc Tryz.prog W 0 (fun _=>true) held m 5 ((cs.drop 1).take (Tryz.prog.cellsOf 5))=some x1:=(hf 1 { name := "Unit",type:=5,offset:=1,embedded:=false,tag := "",pkgPath := "",byteOffset:=24 } rfl).trans hx1
 obtain⟨x2,hx2⟩ : ∃y,xs[2]?=some y:=⟨_,List.getElem?_eq_getElem (by omega)⟩
 have f2:DataW.trod enc Tryz.prog W 0 (fun _=>true) held m 23 ((cs.drop 2).take (Tryz.prog.cellsOf 23))=some x2:=(hf 2 { name := "Least",type:=23,offset:=2,embedded:=false,tag := "",pkgPath := "",byteOffset:=32 } rfl).trans hx2
 obtain⟨x3,hx3⟩ : ∃y,xs[3]?=some y:=⟨_,List.getElem?_eq_getElem (by omega)⟩
 have f3:DataW.trod enc Tryz.prog W 0 (fun _=>true) held m 24 ((cs.drop 3).take (Tryz.prog.cellsOf 24))=some x3:=(hf 3 { name := "Seats",type:=24,offset:=3,embedded:=false,tag := "",pkgPath := "",byteOffset:=56 } rfl).trans hx3
 rw[c_u16s] at f0
 rw[c_u8] at f1
 rw[c_u8s] at f2
 rw[c_u16] at f3
 obtain⟨a,b,c,d,rfl⟩:=len4 hl
 obtain⟨v,ps,e0,t0,n0,s0,b0⟩:=tell_nums (k:=.u16) (m:=65535) rfl rfl u_u16s u_u16 c_u16 G f0
 obtain⟨u,e1,hu⟩:=trod_nat (m:=255) rfl rfl u_u8 f1
 obtain⟨w,ls,e2,t2,n2,s2,b2⟩:=tell_nums (k:=.u8) (m:=255) rfl rfl u_u8s u_u8 c_u8 G f2
 obtain⟨s,e3,hs⟩:=trod_nat (m:=65535) rfl rfl u_u16 f3
 cases e0;cases e1;cases e2;cases e3
 refine⟨_,u,_,s,ps,ls,rfl,⟨t0,t2⟩,⟨_,_,rfl,s0,s2⟩,b0,b2,by omega,by omega,?_,?_⟩
 ·exact Nat.lt_of_le_of_lt n0 (by decide)
 ·exact Nat.lt_of_le_of_lt n2 (by decide)
end
end Go.Proofs.YthpefnfbnaekaaaGreat
