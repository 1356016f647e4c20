/-
  Contracts: the reference's long integers, second part: sums and differences of digits. Contracts: the reference's long integers, third part: sums, differences, comparisons.
-/
import Derived.Test.YtjhnilfelokpcaaGreatOutlierTellsAr
import Derived.Test.YtjhnilfelokpcaaGreatOutlierTellsAu
set_option linter.unusedVariables false
set_option linter.unusedSimpArgs false
set_option linter.defProp false
set_option linter.deprecated false
namespace Go.Id
open Go
open Go.Proofs.Tryz (prog)
open Nat (reduceAdd reduceEqDiff reduceLeDiff)
theorem map_snoc (os:List Nat) (d:Nat):os.map KN ++ [KN d]=(os ++ [d]).map KN:=by simp
theorem Acc.block {h:IH} {n0 sz:Nat} {v:Value} {n:Nat} {cs:List Value} (a:Acc h n0 sz v n cs) {k:Nat} (hk:k<n0):blockOf v≠some (2*k):=by
 obtain⟨hz,hl,⟨rfl,_⟩|⟨j,fam,rfl,hn,h1,h2,h3,h4⟩⟩:=a
 ·intro h;cases h
 ·intro h
  have:2*j=2*k:=Option.some.inj h
  omega
theorem less_at {h:IH} {v w:Value} {a b:List Nat} (ha:DigU h v a) (hb:DigU h w b) (nb:Norm b) (hle:valD b≤valD a) :
  WV prog (.func (.func 148) #[] #[]) [v,w] h fun r h'=>(Ext h h'∧Dig h' r (valD a - valD b)) ∧ ∀k,k<h.n→blockOf r≠some (2*k):=by
 have la:=ha.2.2
 have lb:=hb.2.2
 refine enter (nt:=41) (rs:=[.tmp 4]) Proofs.Tryz.func148 rfl rfl rfl (by simp) ?_
 simp -dsimp (maxSteps:=1000000) (disch:=try exact dx) only[wpS,reduceAdd]
 refine loop (fun m fr h1 => ∃(i bor:Nat) (os:List Nat) (out:Value),i+m=a.length∧fget fr 0=some v∧fget fr 1=some w∧fget fr 5=some out∧fget fr 6=some (KN bor)∧fget fr 7=some (KN i)∧bor≤1∧os.length=i∧Digs os ∧
  valT a i+bor*4294967296 ^ i=valT b i+valD os∧Acc h1 h.n 1 out i (os.map KN)∧Ext h h1) a.length ⟨0,0,[],.slice none 0 0,by simp,by simp,by simp,by simp,by simp,by simp,by omega,rfl,fun d hd=>(by cases hd),by simp[valT,valD],Acc.nil _ _ (by omega),Ext.refl _⟩ ?_
 rintro m fr h1 ⟨i,bor,os,out,him,f0,f1,f5,f6,f7,hbor,hos,hd,hv,hA,hE⟩
 simp -dsimp (maxSteps:=1000000) (disch:=try exact dx) only[wpS,reduceEqDiff,f0,f7,ha.1.len sl25]
 refine bq_intro ?_ ?_<;>intro hc<;>simp only[decide_eq_true_eq,decide_eq_false_iff_not] at hc
 ·have hi:i<a.length:=by omega
  have da:=getD_lt ha.2.1 i
  have db:=getD_lt hb.2.1 i
  simp -dsimp (maxSteps:=1000000) (disch:=try exact dx) only[wpS,wpT,reduceEqDiff,f0,f1,f6,f7,ha.1.idx es25 hi,ha.1.ld hE.keep (P:=prog) (t:=3) (c:=i) (by simpa using hi) ag3,map_get,get_some hi,hb.1.len sl25]
  refine bq_cut (fun fr2 h2=>h2=h1∧fget fr2 0=some v∧fget fr2 1=some w∧fget fr2 5=some out∧fget fr2 7=some (KN i)∧fget fr2 8=some (KI ((a.getD i 0:Int) - bor - (b.getD i 0:Int)))) (fun hc=>?_) (fun hc=>?_) ?_
  ·simp only[decide_eq_true_eq] at hc
   have hi2:i<b.length:=by omega
   simp -dsimp (maxSteps:=1000000) (disch:=try exact dx) only[wpS,wpT,reduceEqDiff,f1,f7,hb.1.idx es25 hi2,hb.1.ld hE.keep (P:=prog) (t:=3) (c:=i) (by simpa using hi2) ag3,map_get,get_some hi2]
   exact⟨rfl,by simp[f0],by simp[f1],by simp[f5],by simp[f7],by simp⟩
  ·simp only[decide_eq_false_iff_not] at hc
   simp -dsimp (maxSteps:=1000000) (disch:=try exact dx) only[wpS,wpT]
   exact⟨rfl,by simp[f0],by simp[f1],by simp[f5],by simp[f7],by rw[getD_of_ge (show b.length≤i by omega)];simp⟩
  ·rintro fr2 h2 ⟨rfl,f0,f1,f5,f7,f8⟩
   simp -dsimp (maxSteps:=1000000) (disch:=try exact dx) only[wpS,reduceEqDiff,f8]
   refine bq_cut (fun fr3 h3=>h3=h2∧fget fr3 0=some v∧fget fr3 1=some w∧fget fr3 5=some out∧fget fr3 7=some (KN i) ∧ ∃d bor':Nat,fget fr3 8=some (KN d)∧fget fr3 6=some (KN bor')∧d<4294967296∧bor'≤1∧a.getD i 0+bor'*4294967296=b.getD i 0+bor+d) (fun hc=>?_) (fun hc=>?_) ?_
   ·simp only[decide_eq_true_eq] at hc
    simp -dsimp (maxSteps:=1000000) (disch:=try exact dx) only[wpS,wpT,reduceEqDiff,f8]
    refine⟨rfl,by simp[f0],by simp[f1],by simp[f5],by simp[f7],a.getD i 0+4294967296 - bor - b.getD i 0,1,?_,by simp,by omega,by omega,by omega⟩
    simp only[fget_cons,reduceEqDiff,if_false,if_true]
    congr 2;omega
   ·simp only[decide_eq_false_iff_not] at hc
    simp -dsimp (maxSteps:=1000000) (disch:=try exact dx) only[wpS,wpT]
    refine⟨rfl,by simp[f0],by simp[f1],by simp[f5],by simp[f7],a.getD i 0 - bor - b.getD i 0,0,?_,by simp,by omega,by omega,by omega⟩
    simp only[fget_cons,reduceEqDiff,if_false,f8]
    congr 2;omega
   ·rintro fr3 h3 ⟨rfl,f0,f1,f5,f7,d,bor',f8,f6,hd2,hb2,hrel⟩
    obtain⟨out',h',hap,hA',hG,hE'⟩:=hA.app1 (P:=prog) (t:=25) ap25 (x:=KN d) rfl (by omega) hE.n hE (Nat.le_refl _)
    simp -dsimp (maxSteps:=1000000) (disch:=try exact dx) only[wpS,wpT,reduceEqDiff,reduceLeDiff,reduceAdd,bs25,ba25_25,f5,f7,f8,hap]
    refine⟨m - 1,by omega,i+1,bor',os ++ [d],out',by omega,by simp[f0],by simp[f1],by simp,by simp[f6],by simp,hb2,by simp[hos],hd.append hd2,?_,by rw[←map_snoc];exact hA',hE'⟩
    rw[valD_append,valT,valT,hos]
    grind
 ·obtain rfl:i=a.length:=by omega
  have hbl:=nb.len_le ha.2.1 hle
  rw[valT_ge hbl,valT_ge (Nat.le_refl _)] at hv
  have hlt:=valD_lt hd
  rw[hos] at hlt
  have hb0:bor=0:=by
   apply Classical.byContradiction;intro hne
   have:bor=1:=by omega
   subst this;omega
  subst hb0
  have hD:DigU h1 out os:=⟨by rw[hos];exact hA.sl,hd,by omega⟩
  simp -dsimp (maxSteps:=1000000) (disch:=try exact dx) only[wpS,wpT,reduceEqDiff,f5]
  refine call ((cut_ok hD).and (cut_block hD)) ?_
  rintro r h2 ⟨⟨rfl,hr⟩,hbk⟩
  simp -dsimp (maxSteps:=1000000) (disch:=try exact dx) only[wpS,reduceEqDiff]
  refine⟨⟨hE,?_⟩,fun k hk=>?_⟩
  ·rw[show valD a - valD b=valD os by omega];exact hr
  ·rw[hbk];exact hA.block hk
theorem less_ok {h:IH} {v w:Value} {a b:List Nat} (ha:DigU h v a) (hb:DigU h w b) (nb:Norm b) (hle:valD b≤valD a) :
  WV prog (.func (.func 148) #[] #[]) [v,w] h fun r h'=>Ext h h'∧Dig h' r (valD a - valD b):=(less_at ha hb nb hle).mono fun _ _ k=>k.1
theorem more_ok {h:IH} {v w:Value} {a b:List Nat} (ha:DigU h v a) (hb:DigU h w b) (la:a.length≤1000001) (lb:b.length≤1000001) :
  WV prog (.func (.func 228) #[] #[]) [v,w] h fun r h'=>Ext h h' ∧ ∃os,DigU h' r os∧valD os=valD a+valD b:=by
 refine enter (nt:=52) (rs:=[.tmp 4]) Proofs.Tryz.func228 rfl rfl rfl (by simp) ?_
 simp -dsimp (maxSteps:=1000000) (disch:=try exact dx) only[wpS,reduceAdd]
 refine loop (fun m fr h1 => ∃(i c:Nat) (os:List Nat) (out:Value),i+m=1000003∧fget fr 0=some v∧fget fr 1=some w∧fget fr 5=some out∧fget fr 6=some (KN c)∧fget fr 7=some (KN i)∧c≤1∧os.length=i∧Digs os∧i≤1000002∧(1000001<i→c=0) ∧
  valD os+c*4294967296 ^ i=valT a i+valT b i∧Acc h1 h.n 1 out i (os.map KN)∧Ext h h1) 1000003 ⟨0,0,[],.slice none 0 0,by simp,by simp,by simp,by simp,by simp,by simp,by omega,rfl,fun d hd=>(by cases hd),by omega,by omega,by simp[valT,valD],Acc.nil _ _ (by omega),Ext.refl _⟩ ?_
 rintro m fr h1 ⟨i,c,os,out,him,f0,f1,f5,f6,f7,hcc,hos,hd,hi2,hi3,hv,hA,hE⟩
 rw[d_seq]
 by_cases hcont:i<a.length∨i<b.length∨0<c
 ·refine cut (fun fr2 h2=>h2=h1∧fget fr2 0=some v∧fget fr2 1=some w∧fget fr2 5=some out∧fget fr2 6=some (KN c)∧fget fr2 7=some (KN i)) ?_ ?_
  ·by_cases c1:i<a.length
   ·simp -dsimp (maxSteps:=1000000) (disch:=try exact dx) only[wpS,wpT,reduceEqDiff,f0,f7,ha.1.len sl25]
    exact⟨rfl,by simp[f0],by simp[f1],by simp[f5],by simp[f6],by simp[f7]⟩
   ·by_cases c2:i<b.length
    ·simp -dsimp (maxSteps:=1000000) (disch:=try exact dx) only[wpS,wpT,reduceEqDiff,f0,f1,f7,ha.1.len sl25,hb.1.len sl25]
     exact⟨rfl,by simp[f0],by simp[f1],by simp[f5],by simp[f6],by simp[f7]⟩
    ·simp -dsimp (maxSteps:=1000000) (disch:=try exact dx) only[wpS,wpT,reduceEqDiff,f0,f1,f6,f7,ha.1.len sl25,hb.1.len sl25]
     exact⟨rfl,by simp[f0],by simp[f1],by simp[f5],by simp[f6],by simp[f7]⟩
  ·rintro fr2 h2 ⟨rfl,f0,f1,f5,f6,f7⟩
   have da:=getD_lt ha.2.1 i
   have db:=getD_lt hb.2.1 i
   simp -dsimp (maxSteps:=1000000) (disch:=try exact dx) only[wpS,reduceEqDiff,f0,f7,ha.1.len sl25]
   refine bq_cut (fun fr3 h3=>h3=h2∧fget fr3 0=some v∧fget fr3 1=some w∧fget fr3 5=some out∧fget fr3 7=some (KN i)∧fget fr3 6=some (KN (c+a.getD i 0))) (fun hc=>?_) (fun hc=>?_) ?_
   ·simp only[decide_eq_true_eq] at hc
    have hi:i<a.length:=by omega
    simp -dsimp (maxSteps:=1000000) (disch:=try exact dx) only[wpS,wpT,reduceEqDiff,f0,f6,f7,ha.1.idx es25 hi,ha.1.ld hE.keep (P:=prog) (t:=3) (c:=i) (by simpa using hi) ag3,map_get,get_some hi]
    exact⟨rfl,by simp[f0],by simp[f1],by simp[f5],by simp[f7],by simp⟩
   ·simp only[decide_eq_false_iff_not] at hc
    simp -dsimp (maxSteps:=1000000) (disch:=try exact dx) only[wpS,wpT]
    exact⟨rfl,by simp[f0],by simp[f1],by simp[f5],by simp[f7],by rw[getD_of_ge (show a.length≤i by omega)];simp[f6]⟩
   ·rintro fr3 h3 ⟨rfl,f0,f1,f5,f7,f6⟩
    simp -dsimp (maxSteps:=1000000) (disch:=try exact dx) only[wpS,reduceEqDiff,f1,f7,hb.1.len sl25]
    refine bq_cut (fun fr4 h4=>h4=h3∧fget fr4 0=some v∧fget fr4 1=some w∧fget fr4 5=some out∧fget fr4 7=some (KN i)∧fget fr4 6=some (KN (c+a.getD i 0+b.getD i 0))) (fun hc=>?_) (fun hc=>?_) ?_
    ·simp only[decide_eq_true_eq] at hc
     have hi:i<b.length:=by omega
     simp -dsimp (maxSteps:=1000000) (disch:=try exact dx) only[wpS,wpT,reduceEqDiff,f1,f6,f7,hb.1.idx es25 hi,hb.1.ld hE.keep (P:=prog) (t:=3) (c:=i) (by simpa using hi) ag3,map_get,get_some hi]
     exact⟨rfl,by simp[f0],by simp[f1],by simp[f5],by simp[f7],by simp⟩
    ·simp only[decide_eq_false_iff_not] at hc
     simp -dsimp (maxSteps:=1000000) (disch:=try exact dx) only[wpS,wpT]
     exact⟨rfl,by simp[f0],by simp[f1],by simp[f5],by simp[f7],by rw[getD_of_ge (show b.length≤i by omega)];simp[f6]⟩
    ·rintro fr4 h4 ⟨rfl,f0,f1,f5,f7,f6⟩
     have hi5:i≤1000001:=by
      apply Classical.byContradiction;intro hn
      have:=hi3 (by omega)
      omega
     generalize hs:c+a.getD i 0+b.getD i 0=s at f6
     have e1:((s:Int) % 4294967296)=((s % 4294967296:Nat):Int):=by omega
     have e2:((s:Int) / 4294967296)=((s / 4294967296:Nat):Int):=by omega
     obtain⟨out',h',hap,hA',hG,hE'⟩:=hA.app1 (P:=prog) (t:=25) ap25 (x:=KN (s % 4294967296)) rfl (by omega) hE.n hE (Nat.le_refl _)
     simp -dsimp (maxSteps:=1000000) (disch:=try exact dx) only[wpS,wpT,reduceEqDiff,reduceLeDiff,reduceAdd,bs25,ba25_25,f5,f6,f7,e1,hap,e2]
     refine⟨m - 1,by omega,i+1,s / 4294967296,os ++ [s % 4294967296],out',by omega,by simp[f0],by simp[f1],by simp,by simp,by simp,by omega,by simp[hos],hd.append (by omega),by omega,fun hh=>?_,?_,by rw[←map_snoc];exact hA',hE'⟩
     ·have h1:=getD_of_ge (ds:=a) (k:=i) (by omega)
      have h2:=getD_of_ge (ds:=b) (k:=i) (by omega)
      omega
     ·rw[valD_append,valT,valT,hos]
      have h5:s % 4294967296+s / 4294967296*4294967296=c+a.getD i 0+b.getD i 0:=by omega
      grind
 ·refine cut (fun fr2 h2=>False) ?_ (fun _ _ h=>h.elim)
  simp -dsimp (maxSteps:=1000000) (disch:=try exact dx) only[wpS,wpT,reduceEqDiff,f0,f1,f5,f6,f7,ha.1.len sl25,hb.1.len sl25]
  obtain rfl:c=0:=by omega
  rw[valT_ge (by omega),valT_ge (by omega)] at hv
  exact⟨hE,os,⟨by rw[hos];exact hA.sl,hd,by omega⟩,by omega⟩
end Go.Id

namespace Go.Id
open Go
open Nat (reduceAdd reduceEqDiff reduceLeDiff)
set_option maxHeartbeats 16000000
@[irreducible] def Small (x:Nat):Prop:=x<4294967296 ^ 1000000
theorem Small.lt {x:Nat} (h:Small x):x<4294967296 ^ 1000000:=by unfold Small at h;exact h
theorem Small.mk {x:Nat} (h:x<4294967296 ^ 1000000):Small x:=by unfold Small;exact h
theorem Small.le {x y:Nat} (h:Small x) (k:y≤x):Small y:=.mk (Nat.lt_of_le_of_lt k h.lt)
theorem Norm.small {ds:List Nat} (h:Norm ds) (hs:Small (valD ds)):ds.length≤1000000:=by
 by_cases hne:ds = []
 ·subst hne;simp
 ·have h1:=h.ge hne
  have h2:4294967296 ^ (ds.length - 1)<4294967296 ^ 1000000:=Nat.lt_of_le_of_lt h1 hs.lt
  have:=(Nat.pow_lt_pow_iff_right (a:=4294967296) (by omega)).1 h2
  omega
abbrev SmallI (z:Int):Prop:=Small z.natAbs
theorem turn_ok {h:IH} {v:Value} {z:Int} (hv:LongIs h v z):WV Proofs.Tryz.prog (.func (.func 211) #[] #[]) [v] h fun r h'=>Ext h h'∧LongIs h' r (-z):=by
 obtain⟨s,rfl,ds,hD,hN,hx⟩:=hv
 refine enter (nt:=9) (rs:=[.cell 2 131]) Proofs.Tryz.func211 rfl rfl rfl (by simp) ?_
 simp -dsimp (maxSteps:=1000000) (disch:=try exact dx) only[wpS,reduceEqDiff,zc131,fa131_0,ld4,fa131_1,ld25]
 refine call (made_ok (hD.keep (((Keep.refl h).new _).new _)) _) ?_
 rintro r h1 ⟨hE,s1,rfl,h2⟩
 have hg:h1.ext.get (h.n+1)=some (.cells [.bool false,.slice none 0 0] 0 none):=by
  rw[hE.get _ (by simp)];exact get_new_same _ _ rfl
 obtain⟨ds1,hD1,hr1⟩:=h2
 simp -dsimp (maxSteps:=1000000) (disch:=try exact dx) only[wpS,wpT,reduceEqDiff,reduceLeDiff,reduceAdd,st131,ld131,hg,hD1.1.cok]
 refine⟨((((Ext.refl h).new _).new _).trans hE).put (by omega) _,?_⟩
 have hz:(if (!decide (z<0))=true then -(valD ds:Int) else valD ds) = -z:=by
  by_cases h0:z<0<;>simp[h0]<;>omega
 rw[hz] at hr1 ⊢
 exact⟨s1,rfl,ds1,hD1.keep ((Keep.refl _).put hg _),hr1⟩
theorem plus_ok {h:IH} {v w:Value} {x y:Int} (hv:LongIs h v x) (hw:LongIs h w y) (sx:SmallI x) (sy:SmallI y) :
  WV Proofs.Tryz.prog (.func (.func 180) #[] #[]) [v,w] h fun r h'=>Ext h h'∧LongIs h' r (x+y):=by
 obtain⟨s,rfl,a,ha,na,hx⟩:=hv
 obtain⟨t,rfl,b,hb,nb,hy⟩:=hw
 have la:a.length≤1000000:=na.small (by rw[hx];exact sx)
 have lb:b.length≤1000000:=nb.small (by rw[hy];exact sy)
 refine enter (nt:=40) (rs:=[.cell 4 131]) Proofs.Tryz.func180 rfl rfl rfl (by simp) ?_
 simp -dsimp (maxSteps:=1000000) (disch:=try exact dx) only[wpS,reduceEqDiff,reduceAdd,zc131,fa131_0,ld4,be4]
 have kk : ∀o1 o2 o3,Keep h (((h.new o1).new o2).new o3):=fun o1 o2 o3=>(((Keep.refl h).new _).new _).new _
 have ee : ∀o1 o2 o3,Ext h (((h.new o1).new o2).new o3):=fun o1 o2 o3=>(((Ext.refl h).new _).new _).new _
 refine bq_intro (fun hc=>?_) (fun hc=>?_)
 ·have hc:(x<0↔y<0):=by simpa using hc
  simp -dsimp (maxSteps:=1000000) (disch:=try exact dx) only[wpS]
  refine drawn [(1,[7])] (by kernel_rfl) (by kernel_rfl) rfl ?_
  simp -dsimp (maxSteps:=1000000) (disch:=try exact dx) only[wpS,reduceEqDiff,fa131_0,ld4,fa131_1,ld25]
  refine call (more_ok (ha.keep (kk _ _ _)) (hb.keep (kk _ _ _)) (by omega) (by omega)) ?_
  rintro r h1 ⟨hE,os,hD,hval⟩
  simp -dsimp (maxSteps:=1000000) (disch:=try exact dx) only[wpS,reduceEqDiff]
  refine call (made_ok hD _) ?_
  rintro r2 h2 ⟨hE2,s1,rfl,ds1,hD1,hr1⟩
  have hg:h2.ext.get (h.n+1+1)=some (.cells [.bool false,.slice none 0 0] 0 none):=by
   rw[hE2.get _ (by have:=hE.n;simp at this;omega),hE.get _ (by simp)];exact get_new_same _ _ rfl
  have hrow : ∀k',k'≤h.n→True:=fun _ _=>trivial
  have hr0:h1.row (2*h.n)=some [.bool (decide (x<0)),s]:=by
   rw[hE.row (by simp<;>omega)];simp -dsimp (maxSteps:=1000000) (disch:=try exact dx) only[wpS]
  simp -dsimp (maxSteps:=1000000) (disch:=try exact dx) only[wpS,wpT,reduceEqDiff,reduceLeDiff,reduceAdd,st131,hg,hD1.1.cok]
  refine⟨wpSteady_one rfl rfl rfl rfl (steady_load (av:=ptr (2*h.n) 0) (v:=.bool (decide (x<0))) rfl ?_ ?_),?_⟩
  ·simp -dsimp (maxSteps:=1000000) (disch:=try exact dx) only[wpS,ld4]
  ·simp -dsimp (maxSteps:=1000000) (disch:=try exact dx) only[wpS,ld4,hr0]
  ·simp -dsimp (maxSteps:=1000000) (disch:=try exact dx) only[wpS,wpT,reduceEqDiff,reduceLeDiff,reduceAdd,ld131]
   refine⟨(((ee _ _ _).trans hE).trans hE2).put (by omega) _,?_⟩
   have hz:(if decide (x<0)=true then -(valD os:Int) else valD os)=x+y:=by
    by_cases h0:x<0<;>simp[h0]<;>omega
   rw[hz] at hr1 ⊢
   exact⟨s1,rfl,ds1,hD1.keep ((Keep.refl _).put hg _),hr1⟩
 ·have hc : ¬(x<0↔y<0):=by simpa using hc
  simp -dsimp (maxSteps:=1000000) (disch:=try exact dx) only[wpS,reduceEqDiff,fa131_1,ld25]
  refine call (order_ok (ha.keep (kk _ _ _)) (hb.keep (kk _ _ _)) na nb) ?_
  rintro r h1 ⟨rfl,c,rfl,hc1,hc2,hc3,hc4⟩
  simp -dsimp (maxSteps:=1000000) (disch:=try exact dx) only[wpS,reduceEqDiff]
  refine bq_intro ?_ ?_<;>intro hc5<;>simp only[decide_eq_true_eq,decide_eq_false_iff_not] at hc5
  ·simp -dsimp (maxSteps:=1000000) (disch:=try exact dx) only[wpS,wpT]
   refine drawn [(1,[7])] (by kernel_rfl) (by kernel_rfl) rfl ?_
   simp -dsimp (maxSteps:=1000000) (disch:=try exact dx) only[wpS,reduceEqDiff,fa131_0,ld4,fa131_1,ld25]
   refine call (less_ok (ha.keep (kk _ _ _)) (hb.keep (kk _ _ _)) nb (by omega)) ?_
   rintro r h1 ⟨hE,os,hD,hN,hval⟩
   simp -dsimp (maxSteps:=1000000) (disch:=try exact dx) only[wpS,reduceEqDiff]
   refine call (made_ok hD _) ?_
   rintro r2 h2 ⟨hE2,s1,rfl,ds1,hD1,hr1⟩
   have hg:h2.ext.get (h.n+1+1)=some (.cells [.bool false,.slice none 0 0] 0 none):=by
    rw[hE2.get _ (by have:=hE.n;simp at this;omega),hE.get _ (by simp)];exact get_new_same _ _ rfl
   have hr0:h1.row (2*h.n)=some [.bool (decide (x<0)),s]:=by
    rw[hE.row (by simp<;>omega)];simp -dsimp (maxSteps:=1000000) (disch:=try exact dx) only[wpS]
   simp -dsimp (maxSteps:=1000000) (disch:=try exact dx) only[wpS,wpT,reduceEqDiff,reduceLeDiff,reduceAdd,st131,hg,hD1.1.cok]
   refine⟨wpSteady_one rfl rfl rfl rfl (steady_load (av:=ptr (2*h.n) 0) (v:=.bool (decide (x<0))) rfl ?_ ?_),?_⟩
   ·simp -dsimp (maxSteps:=1000000) (disch:=try exact dx) only[wpS,ld4]
   ·simp -dsimp (maxSteps:=1000000) (disch:=try exact dx) only[wpS,ld4,hr0]
   ·simp -dsimp (maxSteps:=1000000) (disch:=try exact dx) only[wpS,wpT,reduceEqDiff,reduceLeDiff,reduceAdd,ld131]
    refine⟨(((ee _ _ _).trans hE).trans hE2).put (by omega) _,?_⟩
    have hz:(if decide (x<0)=true then -(valD os:Int) else valD os).natAbs=(x+y).natAbs∧((if decide (x<0)=true then -(valD os:Int) else valD os)<0↔x+y<0):=by
     by_cases h0:x<0<;>simp[h0]<;>omega
    rw[hz.1] at hr1
    refine⟨s1,?_,ds1,hD1.keep ((Keep.refl _).put hg _),hr1⟩
    simp only[hz.2]<;>rfl
  ·simp -dsimp (maxSteps:=1000000) (disch:=try exact dx) only[wpS,wpT]
   refine drawn [(1,[7])] (by kernel_rfl) (by kernel_rfl) rfl ?_
   simp -dsimp (maxSteps:=1000000) (disch:=try exact dx) only[wpS,reduceEqDiff,fa131_0,ld4,fa131_1,ld25]
   refine call (less_ok (hb.keep (kk _ _ _)) (ha.keep (kk _ _ _)) na (by omega)) ?_
   rintro r h1 ⟨hE,os,hD,hN,hval⟩
   simp -dsimp (maxSteps:=1000000) (disch:=try exact dx) only[wpS,reduceEqDiff]
   refine call (made_ok hD _) ?_
   rintro r2 h2 ⟨hE2,s1,rfl,ds1,hD1,hr1⟩
   have hg:h2.ext.get (h.n+1+1)=some (.cells [.bool false,.slice none 0 0] 0 none):=by
    rw[hE2.get _ (by have:=hE.n;simp at this;omega),hE.get _ (by simp)];exact get_new_same _ _ rfl
   have hr0:h1.row (2*(h.n+1))=some [.bool (decide (y<0)),t]:=by
    rw[hE.row (by simp<;>omega)];simp -dsimp (maxSteps:=1000000) (disch:=try exact dx) only[wpS]
   simp -dsimp (maxSteps:=1000000) (disch:=try exact dx) only[wpS,wpT,reduceEqDiff,reduceLeDiff,reduceAdd,st131,hg,hD1.1.cok]
   refine⟨wpSteady_one rfl rfl rfl rfl (steady_load (av:=ptr (2*(h.n+1)) 0) (v:=.bool (decide (y<0))) rfl ?_ ?_),?_⟩
   ·simp -dsimp (maxSteps:=1000000) (disch:=try exact dx) only[wpS,ld4]
   ·simp -dsimp (maxSteps:=1000000) (disch:=try exact dx) only[wpS,ld4,hr0]
   ·simp -dsimp (maxSteps:=1000000) (disch:=try exact dx) only[wpS,wpT,reduceEqDiff,reduceLeDiff,reduceAdd,ld131]
    refine⟨(((ee _ _ _).trans hE).trans hE2).put (by omega) _,?_⟩
    have hz:(if decide (y<0)=true then -(valD os:Int) else valD os).natAbs=(x+y).natAbs∧((if decide (y<0)=true then -(valD os:Int) else valD os)<0↔x+y<0):=by
     by_cases h0:y<0<;>simp[h0]<;>omega
    rw[hz.1] at hr1
    refine⟨s1,?_,ds1,hD1.keep ((Keep.refl _).put hg _),hr1⟩
    simp only[hz.2]<;>rfl
end Go.Id

namespace Go.Id
open Go
open Nat (reduceAdd reduceEqDiff reduceLeDiff)
set_option maxHeartbeats 16000000
theorem LongIs.form {h:IH} {v:Value} {z:Int} (d:LongIs h v z) : ∃s n,v=.agg #[.bool (decide (z<0)),s]∧s.cells = #[s]∧cellOK s=true∧(∀{P:Program} {t:TypeId} (_:isSliceT P (some t)=true) (h':IH),lenB P h' t s=some (.int .i64 ((n:Nat):Int)))∧(n=0↔z=0):=by
 obtain⟨s,rfl,ds,hD,hN,hx⟩:=d
 refine⟨s,ds.length,rfl,hD.1.cells,hD.1.cok,fun hT h'=>hD.1.len hT h',?_⟩
 have:=hN.nil_iff
 rw[hx] at this
 rw[List.length_eq_zero_iff,←this];omega
theorem minus_ok {h:IH} {v w:Value} {x y:Int} (hv:LongIs h v x) (hw:LongIs h w y) (sx:SmallI x) (sy:SmallI y) :
  WV Proofs.Tryz.prog (.func (.func 210) #[] #[]) [v,w] h fun r h'=>Ext h h'∧LongIs h' r (x - y):=by
 obtain⟨s,n1,rfl,c1,o1,l1,z1⟩:=hv.form
 obtain⟨t,n2,rfl,c2,o2,l2,z2⟩:=hw.form
 refine enter (nt:=9) (rs:=[.cell 4 131]) Proofs.Tryz.func210 rfl rfl rfl (by simp) ?_
 simp -dsimp (maxSteps:=1000000) (disch:=try exact dx) only[wpS,reduceEqDiff,reduceAdd,zc131]
 have kk : ∀o1 o2 o3,Keep h (((h.new o1).new o2).new o3):=fun o1 o2 o3=>(((Keep.refl h).new _).new _).new _
 have ee : ∀o1 o2 o3,Ext h (((h.new o1).new o2).new o3):=fun o1 o2 o3=>(((Ext.refl h).new _).new _).new _
 refine drawn [(0,[3])] (by kernel_rfl) (by kernel_rfl) rfl ?_
 simp -dsimp (maxSteps:=1000000) (disch:=try exact dx) only[wpS,wpT,reduceEqDiff,reduceLeDiff,reduceAdd,ld131]
 refine call (turn_ok (hw.keep (kk _ _ _))) ?_
 rintro r h1 ⟨hE,hT⟩
 simp -dsimp (maxSteps:=1000000) (disch:=try exact dx) only[wpS,reduceEqDiff]
 refine call (plus_ok (hv.keep ((kk _ _ _).trans hE.keep)) hT sx (by rw[SmallI,Int.natAbs_neg];exact sy)) ?_
 rintro r2 h2 ⟨hE2,hr⟩
 obtain⟨s1,n3,rfl,c3,o3,l3,z3⟩:=hr.form
 have hg:h2.ext.get (h.n+1+1)=some (.cells [.bool false,.slice none 0 0] 0 none):=by
  rw[hE2.get _ (by have:=hE.n;simp at this;omega),hE.get _ (by simp)];exact get_new_same _ _ rfl
 have hr0:h1.row (2*h.n)=some [.bool (decide (x<0)),s]:=by
  rw[hE.row (by simp<;>omega)];simp -dsimp (maxSteps:=1000000) (disch:=try exact dx) only[wpS]
 simp -dsimp (maxSteps:=1000000) (disch:=try exact dx) only[wpS,wpT,reduceEqDiff,reduceLeDiff,reduceAdd,st131,hg,o3]
 refine⟨wpSteady_one rfl rfl rfl rfl (steady_load (av:=ptr (2*h.n) 0) (v:=.agg #[.bool (decide (x<0)),s]) rfl ?_ ?_),?_⟩
 ·simp -dsimp (maxSteps:=1000000) (disch:=try exact dx) only[wpS,wpT,reduceLeDiff,reduceAdd,ld131]
  rfl
 ·simp -dsimp (maxSteps:=1000000) (disch:=try exact dx) only[wpS,wpT,reduceLeDiff,reduceAdd,ld131,hr0]
  rfl
 ·simp -dsimp (maxSteps:=1000000) (disch:=try exact dx) only[wpS,wpT,reduceEqDiff,reduceLeDiff,reduceAdd,ld131]
  refine⟨(((ee _ _ _).trans hE).trans hE2).put (by omega) _,?_⟩
  have:x + -y=x - y:=by omega
  rw[this] at hr ⊢
  exact hr.keep ((Keep.refl _).put hg _)
end Go.Id

namespace Go.Id
def wrd (n i:Nat):Nat:=n / 18446744073709551616 ^ i % 18446744073709551616
theorem wrd_lt (n i:Nat):wrd n i<18446744073709551616:=Nat.mod_lt _ (by omega)
theorem mod_wrd (n i:Nat):n % 18446744073709551616 ^ (i+1)=n % 18446744073709551616 ^ i+18446744073709551616 ^ i*wrd n i:=Nat.mod_pow_succ
theorem pow_two (i:Nat):4294967296 ^ (2*i)=18446744073709551616 ^ i:=by
 rw[Nat.pow_mul]
theorem pow_odd (i:Nat):4294967296 ^ (2*i+1)=4294967296*18446744073709551616 ^ i:=by
 rw[Nat.pow_succ,pow_two,Nat.mul_comm]
theorem wrd_high {n i j:Nat} (h:n<18446744073709551616 ^ i) (hj:i≤j):wrd n j=0:=by
 have:n<18446744073709551616 ^ j:=Nat.lt_of_lt_of_le h (Nat.pow_le_pow_right (by omega) hj)
 rw[wrd,Nat.div_eq_of_lt this]
theorem wrd_add_low {n x i j:Nat} (hj:j<i):wrd (n+x*18446744073709551616 ^ i) j=wrd n j:=by
 obtain⟨d,rfl⟩ : ∃d,i=j+1+d:=⟨i - j - 1,by omega⟩
 rw[wrd,wrd,show x*18446744073709551616 ^ (j+1+d)=18446744073709551616 ^ j*(18446744073709551616*(x*18446744073709551616 ^ d)) from by
  rw[Nat.pow_add,Nat.pow_add];grind]
 rw[Nat.add_mul_div_left _ _ (Nat.pow_pos (by omega)),Nat.add_mul_mod_self_left]
theorem wrd_add_at {n x i:Nat} (h:n<18446744073709551616 ^ (i+1)) (hx:wrd n i+x<18446744073709551616):wrd (n+x*18446744073709551616 ^ i) i=wrd n i+x:=by
 have h1:n / 18446744073709551616 ^ i<18446744073709551616:=by
  rw[Nat.div_lt_iff_lt_mul (Nat.pow_pos (by omega))]
  rw[Nat.pow_succ] at h;rw[Nat.mul_comm];exact h
 have h2:wrd n i=n / 18446744073709551616 ^ i:=Nat.mod_eq_of_lt h1
 rw[wrd,Nat.add_mul_div_right _ _ (Nat.pow_pos (by omega)),←h2,Nat.mod_eq_of_lt hx]
theorem add_at_lt {n x i:Nat} (h:n<18446744073709551616 ^ (i+1)) (hx:wrd n i+x<18446744073709551616):n+x*18446744073709551616 ^ i<18446744073709551616 ^ (i+1):=by
 have h1:n / 18446744073709551616 ^ i<18446744073709551616:=by
  rw[Nat.div_lt_iff_lt_mul (Nat.pow_pos (by omega))]
  rw[Nat.pow_succ] at h;rw[Nat.mul_comm];exact h
 have h2:wrd n i=n / 18446744073709551616 ^ i:=Nat.mod_eq_of_lt h1
 have hp:0<18446744073709551616 ^ i:=Nat.pow_pos (by omega)
 have h3:=Nat.div_add_mod n (18446744073709551616 ^ i)
 have h4:=Nat.mod_lt n hp
 rw[h2] at hx
 have h5:(n / 18446744073709551616 ^ i+x+1)*18446744073709551616 ^ i≤18446744073709551616*18446744073709551616 ^ i:=Nat.mul_le_mul_right _ (by omega)
 rw[Nat.pow_succ]
 generalize 18446744073709551616 ^ i=p at *
 have h6:(n / p+x+1)*p=p*(n / p)+x*p+p:=by grind
 rw[Nat.mul_comm 18446744073709551616 p] at h5
 omega
@[irreducible] def W8:Nat:=18446744073709551616 ^ 8
@[irreducible] def H8:Nat:=9223372036854775808*18446744073709551616 ^ 7
theorem W8_eq:W8=18446744073709551616 ^ 8:=by unfold W8;rfl
theorem W8_two:W8=2*H8:=by unfold W8 H8;rfl
theorem W8_dig:W8=4294967296 ^ 16:=by unfold W8;rfl
theorem H8_dig:H8=2147483648*4294967296 ^ 15:=by unfold H8;rfl
theorem H8_big:9223372036854775808<H8:=by unfold H8;decide
def wdI (n:Nat):Int:=if n<H8 then (n:Int) else (n:Int) - W8
theorem wrd7 {n:Nat} (h:n<W8):wrd n 7<9223372036854775808↔n<H8:=by
 rw[W8_eq] at h
 unfold H8
 have h1:n / 18446744073709551616 ^ 7<18446744073709551616:=by
  rw[Nat.div_lt_iff_lt_mul (Nat.pow_pos (by decide))];exact h
 rw[wrd,Nat.mod_eq_of_lt h1,Nat.div_lt_iff_lt_mul (Nat.pow_pos (by decide))]
end Go.Id

namespace Go.Id
open Go
set_option maxHeartbeats 16000000
def wdC (n:Nat):List Value:=(List.range 8).map fun i=>K64 (wrd n i)
def wdV (n:Nat):Value:=.agg (wdC n).toArray
theorem wdC_len (n:Nat):(wdC n).length=8:=by simp[wdC]
theorem wdC_get (n i:Nat) (hi:i<8):(wdC n)[i]?=some (K64 (wrd n i)):=by simp[wdC,hi]
theorem wdV_cells (n:Nat):(wdV n).cells.toList=wdC n:=rfl
theorem wdC_all (n:Nat):(wdC n).all cellOK=true:=by simp[wdC,cellOK]
theorem halves_ok {h:IH} (n:Nat):WV Proofs.Tryz.prog (.func (.func 150) #[] #[]) [wdV n] h fun r h'=>Ext h h' ∧ ∃os,DigU h' r os∧os.length=16∧valD os=n % W8:=by
 refine enter (nt:=23) (rs:=[.tmp 2]) Proofs.Tryz.func150 rfl rfl rfl (by simp) ?_
 simp -dsimp (maxSteps:=1000000) (disch:=try exact dx) only[wpS,wdV_cells]
 refine loop (fun m fr h1 => ∃(i:Nat) (os:List Nat) (out:Value),i+m=8∧fget fr 1=some (ptr (2*h.n) 0)∧fget fr 3=some out∧fget fr 4=some (KN i)∧os.length=2*i∧Digs os∧valD os=n % 18446744073709551616 ^ i ∧
  Acc h1 (h.n+1) 1 out (2*i) (os.map KN)∧Ext (h.new (.cells (wdC n) 0 none)) h1) 8 ⟨0,[],.slice none 0 0,by simp,by simp,by simp,by simp,rfl,fun d hd=>(by cases hd),by simp[valD,valT,Nat.mod_one],Acc.nil _ _ (by omega),Ext.refl _⟩ ?_
 rintro m fr h1 ⟨i,os,out,him,f1,f3,f4,hos,hd,hv,hA,hE⟩
 have hr:h1.row (2*h.n)=some (wdC n):=by rw[hE.row (by simp)];exact row_new_same _ _ _ _ rfl
 simp -dsimp (maxSteps:=1000000) (disch:=try exact dx) only[wpS,Nat.reduceEqDiff,f4]
 refine bq_intro ?_ ?_<;>intro hc<;>simp only[decide_eq_true_eq,decide_eq_false_iff_not] at hc
 ·have hi:i<8:=by omega
  have hw:=wrd_lt n i
  have e1:((wrd n i:Int) % 4294967296)=((wrd n i % 4294967296:Nat):Int):=by omega
  have e2:((wrd n i:Int) / 4294967296)=((wrd n i / 4294967296:Nat):Int):=by omega
  simp -dsimp (maxSteps:=1000000) (disch:=try exact dx) only[wpS,wpT]
  refine drawn [(3,[12]),(8,[12])] (by kernel_rfl) (by kernel_rfl) rfl ?_
  obtain⟨out',h',hap,hA',hG,hE'⟩:=hA.app2 (P:=Proofs.Tryz.prog) (t:=25) ap25 (x:=KN (wrd n i % 4294967296)) (y:=KN (wrd n i / 4294967296)) rfl rfl (by omega) hE.n hE (by simp)
  simp -dsimp (maxSteps:=1000000) (disch:=try exact dx) only[wpS,wpT,Nat.reduceEqDiff,Nat.reduceLeDiff,Nat.reduceAdd,Nat.reduceMul,ar44,ld42,cv42_3,bs25,ba25_25,f1,f3,f4,hr,ar44,wdC_get n i hi,e1,e2,hap]
  refine⟨wpSteady_cons (wpSteady_one rfl rfl rfl rfl (steady_load (av:=ptr (2*h.n) (0+i)) (v:=K64 (wrd n i)) (by simp) ?_ ?_)) (wpSteady_one rfl rfl rfl rfl (steady_load (av:=ptr (2*h.n) (0+i)) (v:=K64 (wrd n i)) (by simp) ?_ ?_)),?_⟩
  ·simp -dsimp (maxSteps:=1000000) (disch:=try exact dx) only[wpS,ld42,hr,wdC_get n i hi]
  ·have:=hE.n
   simp at this
   simp -dsimp (maxSteps:=1000000) (disch:=try exact dx) only[wpS,ld42,hr,wdC_get n i hi]
  ·simp -dsimp (maxSteps:=1000000) (disch:=try exact dx) only[wpS,ld42,hr,wdC_get n i hi]
  ·have:=hE.n
   simp at this
   simp -dsimp (maxSteps:=1000000) (disch:=try exact dx) only[wpS,ld42,hr,wdC_get n i hi]
  ·simp -dsimp (maxSteps:=1000000) (disch:=try exact dx) only[wpS,wpT,Nat.reduceEqDiff,Nat.reduceAdd,f4]
   refine⟨m - 1,by omega,i+1,os ++ [wrd n i % 4294967296] ++ [wrd n i / 4294967296],out',by omega,by simp[f1],by simp,by simp,by simp[hos];omega,(hd.append (by omega)).append (by omega),?_,?_,hE'⟩
   ·rw[valD_append,valD_append,hv,mod_wrd]
    have h1:(os ++ [wrd n i % 4294967296]).length=2*i+1:=by simp[hos]
    rw[h1,hos,pow_two,pow_odd]
    have h2:wrd n i % 4294967296+4294967296*(wrd n i / 4294967296)=wrd n i:=Nat.mod_add_div _ _
    generalize hx:wrd n i % 4294967296=x at *
    generalize hy:wrd n i / 4294967296=y at *
    rw[←h2]
    grind
   ·have:List.map KN os ++ [KN (wrd n i % 4294967296),KN (wrd n i / 4294967296)]=(os ++ [wrd n i % 4294967296] ++ [wrd n i / 4294967296]).map KN:=by simp
    rw[←this];exact hA'
 ·obtain rfl:i=8:=by omega
  simp -dsimp (maxSteps:=1000000) (disch:=try exact dx) only[wpS,wpT,Nat.reduceEqDiff,f3]
  exact⟨((Ext.refl h).new _).trans hE,os,⟨by rw[hos];exact hA.sl,hd,by omega⟩,hos,by rw[W8_eq];exact hv⟩
end Go.Id

namespace Go.Id
open Go
open Nat (reduceAdd reduceEqDiff reduceLeDiff reduceMul)
set_option maxHeartbeats 16000000
theorem wd_take (n:Nat):List.take 8 (List.drop 0 (wdC n))=wdC n:=by
 rw[List.drop_zero,List.take_of_length_le (by rw[wdC_len];omega)]
set_option maxRecDepth 100000 in
theorem in_ok {h:IH} (n:Nat) (hn:n<W8):WV Proofs.Tryz.prog (.func (.func 74) #[] #[]) [wdV n] h fun r h'=>Ext h h'∧LongIs h' r (wdI n):=by
 refine enter (nt:=20) (rs:=[.cell 2 131]) Proofs.Tryz.func74 rfl rfl rfl (by simp) ?_
 simp -dsimp (maxSteps:=1000000) (disch:=try exact dx) only[wpS,reduceEqDiff,reduceLeDiff,zc131,ld44,wdV_cells,wdC_len,wd_take]
 refine call (halves_ok n) ?_
 rintro d h1 ⟨hE,os,hD,hos,hval⟩
 rw[Nat.mod_eq_of_lt hn] at hval
 have hE1:Ext h h1:=(((Ext.refl h).new _).new _).trans hE
 have hr:h1.row (2*h.n)=some (wdC n):=by
  rw[hE.row (by simp<;>omega)];simp -dsimp (maxSteps:=1000000) (disch:=try exact dx) only[wpS]
 have h7:=wrd7 hn
 simp -dsimp (maxSteps:=1000000) (disch:=try exact dx) only[wpS,wpT,reduceEqDiff,reduceAdd,reduceMul,Int.reduceToNat,ar44,ld42,ms25,es25,hr,ar44,wdC_get n 7 (by omega),show idxAt 7 8=some 7 from rfl]
 refine bq_intro ?_ ?_<;>intro hc<;>simp only[decide_eq_true_eq,decide_eq_false_iff_not] at hc
 ·simp -dsimp (maxSteps:=1000000) (disch:=try exact dx) only[wpS,wpT,reduceEqDiff]
  refine call (made_ok hD false) ?_
  rintro r h2 ⟨hE2,hr2⟩
  have hg:h2.ext.get (h.n+1)=some (.cells [.bool false,.slice none 0 0] 0 none):=by
   rw[hE2.get _ (by have:=hE.n;simp at this;omega),hE.get _ (by simp)];exact get_new_same _ _ rfl
  obtain⟨s1,n3,rfl,c3,o3,l3,z3⟩:=hr2.form
  simp -dsimp (maxSteps:=1000000) (disch:=try exact dx) only[wpS,wpT,reduceEqDiff,reduceLeDiff,reduceAdd,reduceMul,Int.reduceToNat,st131,ms25,es25,ld131,hg,o3]
  refine⟨(hE1.trans hE2).put (by omega) _,?_⟩
  have:(if false=true then -(valD os:Int) else valD os)=wdI n:=by
   rw[wdI,if_pos (h7.1 (by omega)),hval];rfl
  rw[this] at hr2 ⊢
  exact hr2.keep ((Keep.refl _).put hg _)
 ·simp -dsimp (maxSteps:=1000000) (disch:=try exact dx) only[wpS,wpT,reduceEqDiff,reduceAdd,reduceMul,Int.reduceToNat,ms25,es25]
  simp -dsimp (maxSteps:=1000000) (disch:=try exact dx) only[wpS,wpT,reduceEqDiff,reduceLeDiff,reduceAdd,st3,show idxAt 16 17=some 16 from rfl]
  have hE3 : ∀a b:IObj,Ext h1 ((h1.new a).put h1.n b):=fun a b=>((Ext.refl h1).new _).put (Nat.le_refl _) _
  refine call (cut_ok (hD.keep (hE3 _ _).keep)) ?_
  rintro c h2 ⟨rfl,ds,hDs,hNs,hvs⟩
  have hW:DigU ((h1.new (.cells (List.map KN [0,0,0,0,0,0,0,0,0,0,0,0,0,0,0,0,0]) 1 none)).put h1.n (.cells (List.map KN [0,0,0,0,0,0,0,0,0,0,0,0,0,0,0,0,1]) 1 none)) (.slice (some ⟨2*h1.n,0,none⟩) 17 35) [0,0,0,0,0,0,0,0,0,0,0,0,0,0,0,0,1] :=
   ⟨sl_block (f:=none) (get_put_same _ _ rfl) (by simp) (by omega) rfl (by omega) (by simp),by intro d hd;simp at hd;omega,by simp⟩
  have hWv:valD [0,0,0,0,0,0,0,0,0,0,0,0,0,0,0,0,1]=W8:=by rw[W8_dig];simp[valD,valT]
  simp -dsimp (maxSteps:=1000000) (disch:=try exact dx) only[wpS,reduceEqDiff]
  refine call (less_ok hW hDs hNs (by rw[hWv,hvs,hval];omega)) ?_
  rintro e h3 ⟨hE4,es,hDe,hNe,hve⟩
  rw[hWv,hvs,hval] at hve
  simp -dsimp (maxSteps:=1000000) (disch:=try exact dx) only[wpS,reduceEqDiff]
  refine call (made_ok hDe true) ?_
  rintro r h4 ⟨hE5,hr2⟩
  have hz:(if true=true then -(valD es:Int) else valD es)=wdI n:=by
   have hnot : ¬n<H8:=by rw[←h7];omega
   rw[if_pos rfl,wdI,if_neg hnot,hve];omega
  rw[hz] at hr2
  have hE6:=(hE3 _ _).trans (hE4.trans hE5)
  have hg:h4.ext.get (h.n+1)=some (.cells [.bool false,.slice none 0 0] 0 none):=by
   rw[hE6.get _ (by have:=hE.n;simp at this;omega),hE.get _ (by simp)];exact get_new_same _ _ rfl
  obtain⟨s1,n3,rfl,c3,o3,l3,z3⟩:=hr2.form
  simp -dsimp (maxSteps:=1000000) (disch:=try exact dx) only[wpS,wpT,reduceEqDiff,reduceLeDiff,reduceAdd,st131,ld131,hg,o3]
  refine⟨(hE1.trans hE6).put (by omega) _,?_⟩
  exact hr2.keep ((Keep.refl _).put hg _)
end Go.Id
