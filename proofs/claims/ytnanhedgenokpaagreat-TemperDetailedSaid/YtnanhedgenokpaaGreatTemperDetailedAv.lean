/-
  Contracts: the reference's long integers, second part: sums and differences of digits. Contracts: the reference's long integers, third part: sums, differences, comparisons.
-/
import Derived.Test.YtnanhedgenokpaaGreatTemperDetailedAt
import Derived.Test.YtnanhedgenokpaaGreatTemperDetailedAu
set_option linter.unusedVariables false
set_option linter.unusedSimpArgs false
set_option linter.defProp false
set_option linter.deprecated false
namespace Go.Id
open Go
open Go.Proofs.Tryz (prog)
open Nat renaming reduceAdd→zA,reduceEqDiff→zE,reduceLeDiff→zL
theorem map_snoc (os:List Nat) (d:Nat):os.map KN ++ [KN d]=(os ++ [d]).map KN:=by simp
theorem Acc.block {h:IH} {n0 sz:Nat} {v:Value} {n:Nat} {cs:List Value} (a:Acc h n0 sz v n cs) {k:Nat} (hk:k<n0):blockOf v≠some (2*k):=by
 obtain⟨hz,hl,⟨rfl,_⟩|⟨j,fam,rfl,hn,h1,h2,h3,h4⟩⟩:=a
 ·intro h;cases h
 ·intro h
  have:2*j=2*k:=Option.some.inj h
  omega
theorem less_at {h:IH} {v w:Value} {a b:List Nat} (ha:DigU h v a) (hb:DigU h w b) (nb:Norm b) (hle:valD b≤valD a) :
  WV prog (.func (.func 219) #[] #[]) [v,w] h fun r h'=>(Ext h h'∧Dig h' r (valD a - valD b)) ∧ ∀k,k<h.n→blockOf r≠some (2*k):=by
 have la:=ha.2.2
 have lb:=hb.2.2
 refine enter (nt:=41) (rs:=[.tmp 4]) Proofs.Tryz.func219 rfl rfl rfl (by simp) ?_
 simp -dsimp (disch:=try exact dx) only[wpS,zA]
 refine loop (fun m fr h1 => ∃(i bor:Nat) (os:List Nat) (out:Value),i+m=a.length∧fget fr 0=some v∧fget fr 1=some w∧fget fr 5=some out∧fget fr 6=some (KN bor)∧fget fr 7=some (KN i)∧bor≤1∧os.length=i∧Digs os ∧
  valT a i+bor*4294967296 ^ i=valT b i+valD os∧Acc h1 h.n 1 out i (os.map KN)∧Ext h h1) a.length ⟨0,0,[],.slice none 0 0,by simp,by simp,by simp,by simp,by simp,by simp,by omega,rfl,fun d hd=>(by cases hd),by simp[valT,valD],Acc.nil _ _ (by omega),Ext.refl _⟩ ?_
 rintro m fr h1 ⟨i,bor,os,out,him,f0,f1,f5,f6,f7,hbor,hos,hd,hv,hA,hE⟩
 simp -dsimp (disch:=try exact dx) only[wpS,zE,f0,f7,ha.1.len sl25]
 refine bq_intro ?_ ?_<;>intro hc<;>simp only[decide_eq_true_eq,decide_eq_false_iff_not] at hc
 ·have hi:i<a.length:=by omega
  have da:=getD_lt ha.2.1 i
  have db:=getD_lt hb.2.1 i
  simp -dsimp (disch:=try exact dx) only[wpS,wpT,zE,f0,f1,f6,f7,ha.1.idx es25 hi,ha.1.ld hE.keep (P:=prog) (t:=3) (c:=i) (by simpa using hi) ag3,map_get,get_some hi,hb.1.len sl25]
  refine bq_cut (fun fr2 h2=>h2=h1∧fget fr2 0=some v∧fget fr2 1=some w∧fget fr2 5=some out∧fget fr2 7=some (KN i)∧fget fr2 8=some (KI ((a.getD i 0:Int) - bor - (b.getD i 0:Int)))) (fun hc=>?_) (fun hc=>?_) ?_
  ·simp only[decide_eq_true_eq] at hc
   have hi2:i<b.length:=by omega
   simp -dsimp (disch:=try exact dx) only[wpS,wpT,zE,f1,f7,hb.1.idx es25 hi2,hb.1.ld hE.keep (P:=prog) (t:=3) (c:=i) (by simpa using hi2) ag3,map_get,get_some hi2]
   exact⟨rfl,by simp[f0],by simp[f1],by simp[f5],by simp[f7],by simp⟩
  ·simp only[decide_eq_false_iff_not] at hc
   simp -dsimp (disch:=try exact dx) only[wpS,wpT]
   exact⟨rfl,by simp[f0],by simp[f1],by simp[f5],by simp[f7],by rw[getD_of_ge (show b.length≤i by omega)];simp⟩
  ·rintro fr2 h2 ⟨rfl,f0,f1,f5,f7,f8⟩
   simp -dsimp (disch:=try exact dx) only[wpS,zE,f8]
   refine bq_cut (fun fr3 h3=>h3=h2∧fget fr3 0=some v∧fget fr3 1=some w∧fget fr3 5=some out∧fget fr3 7=some (KN i) ∧ ∃d bor':Nat,fget fr3 8=some (KN d)∧fget fr3 6=some (KN bor')∧d<4294967296∧bor'≤1∧a.getD i 0+bor'*4294967296=b.getD i 0+bor+d) (fun hc=>?_) (fun hc=>?_) ?_
   ·simp only[decide_eq_true_eq] at hc
    simp -dsimp (disch:=try exact dx) only[wpS,wpT,zE,f8]
    refine⟨rfl,by simp[f0],by simp[f1],by simp[f5],by simp[f7],a.getD i 0+4294967296 - bor - b.getD i 0,1,?_,by simp,by omega,by omega,by omega⟩
    simp only[fget_cons,zE,if_false,if_true]
    congr 2;omega
   ·simp only[decide_eq_false_iff_not] at hc
    simp -dsimp (disch:=try exact dx) only[wpS,wpT]
    refine⟨rfl,by simp[f0],by simp[f1],by simp[f5],by simp[f7],a.getD i 0 - bor - b.getD i 0,0,?_,by simp,by omega,by omega,by omega⟩
    simp only[fget_cons,zE,if_false,f8]
    congr 2;omega
   ·rintro fr3 h3 ⟨rfl,f0,f1,f5,f7,d,bor',f8,f6,hd2,hb2,hrel⟩
    obtain⟨out',h',hap,hA',hG,hE'⟩:=hA.app1 (P:=prog) (t:=25) ap25 (x:=KN d) rfl (by omega) hE.n hE (Nat.le_refl _)
    simp -dsimp (disch:=try exact dx) only[wpS,wpT,zE,zL,zA,bs25,ba25_25,f5,f7,f8,hap]
    refine⟨m - 1,by omega,i+1,bor',os ++ [d],out',by omega,by simp[f0],by simp[f1],by simp,by simp[f6],by simp,hb2,by simp[hos],hd.append hd2,?_,by rw[←map_snoc];exact hA',hE'⟩
    rw[valD_append,valT,valT,hos]
    grind
 ·obtain rfl:i=a.length:=by omega
  have hbl:=nb.len_le ha.2.1 hle
  rw[valT_ge hbl,valT_ge (Nat.le_refl _)] at hv
  have hlt:=valD_lt hd
  rw[hos] at hlt
  have hb0:bor=0:=by
   apply Classical.byContradiction;intro hne
   have:bor=1:=by omega
   subst this;omega
  subst hb0
  have hD:DigU h1 out os:=⟨by rw[hos];exact hA.sl,hd,by omega⟩
  simp -dsimp (disch:=try exact dx) only[wpS,wpT,zE,f5]
  refine call ((cut_ok hD).and (cut_block hD)) ?_
  rintro r h2 ⟨⟨rfl,hr⟩,hbk⟩
  simp -dsimp (disch:=try exact dx) only[wpS,zE]
  refine⟨⟨hE,?_⟩,fun k hk=>?_⟩
  ·rw[show valD a - valD b=valD os by omega];exact hr
  ·rw[hbk];exact hA.block hk
theorem less_ok {h:IH} {v w:Value} {a b:List Nat} (ha:DigU h v a) (hb:DigU h w b) (nb:Norm b) (hle:valD b≤valD a) :
  WV prog (.func (.func 219) #[] #[]) [v,w] h fun r h'=>Ext h h'∧Dig h' r (valD a - valD b):=(less_at ha hb nb hle).mono fun _ _ k=>k.1
theorem more_ok {h:IH} {v w:Value} {a b:List Nat} (ha:DigU h v a) (hb:DigU h w b) (la:a.length≤1000001) (lb:b.length≤1000001) :
  WV prog (.func (.func 236) #[] #[]) [v,w] h fun r h'=>Ext h h' ∧ ∃os,DigU h' r os∧valD os=valD a+valD b:=by
 refine enter (nt:=52) (rs:=[.tmp 4]) Proofs.Tryz.func236 rfl rfl rfl (by simp) ?_
 simp -dsimp (disch:=try exact dx) only[wpS,zA]
 refine loop (fun m fr h1 => ∃(i c:Nat) (os:List Nat) (out:Value),i+m=1000003∧fget fr 0=some v∧fget fr 1=some w∧fget fr 5=some out∧fget fr 6=some (KN c)∧fget fr 7=some (KN i)∧c≤1∧os.length=i∧Digs os∧i≤1000002∧(1000001<i→c=0) ∧
  valD os+c*4294967296 ^ i=valT a i+valT b i∧Acc h1 h.n 1 out i (os.map KN)∧Ext h h1) 1000003 ⟨0,0,[],.slice none 0 0,by simp,by simp,by simp,by simp,by simp,by simp,by omega,rfl,fun d hd=>(by cases hd),by omega,by omega,by simp[valT,valD],Acc.nil _ _ (by omega),Ext.refl _⟩ ?_
 rintro m fr h1 ⟨i,c,os,out,him,f0,f1,f5,f6,f7,hcc,hos,hd,hi2,hi3,hv,hA,hE⟩
 rw[d_seq]
 by_cases hcont:i<a.length∨i<b.length∨0<c
 ·refine cut (fun fr2 h2=>h2=h1∧fget fr2 0=some v∧fget fr2 1=some w∧fget fr2 5=some out∧fget fr2 6=some (KN c)∧fget fr2 7=some (KN i)) ?_ ?_
  ·by_cases c1:i<a.length
   ·simp -dsimp (disch:=try exact dx) only[wpS,wpT,zE,f0,f7,ha.1.len sl25]
    exact⟨rfl,by simp[f0],by simp[f1],by simp[f5],by simp[f6],by simp[f7]⟩
   ·by_cases c2:i<b.length
    ·simp -dsimp (disch:=try exact dx) only[wpS,wpT,zE,f0,f1,f7,ha.1.len sl25,hb.1.len sl25]
     exact⟨rfl,by simp[f0],by simp[f1],by simp[f5],by simp[f6],by simp[f7]⟩
    ·simp -dsimp (disch:=try exact dx) only[wpS,wpT,zE,f0,f1,f6,f7,ha.1.len sl25,hb.1.len sl25]
     exact⟨rfl,by simp[f0],by simp[f1],by simp[f5],by simp[f6],by simp[f7]⟩
  ·rintro fr2 h2 ⟨rfl,f0,f1,f5,f6,f7⟩
   have da:=getD_lt ha.2.1 i
   have db:=getD_lt hb.2.1 i
   simp -dsimp (disch:=try exact dx) only[wpS,zE,f0,f7,ha.1.len sl25]
   refine bq_cut (fun fr3 h3=>h3=h2∧fget fr3 0=some v∧fget fr3 1=some w∧fget fr3 5=some out∧fget fr3 7=some (KN i)∧fget fr3 6=some (KN (c+a.getD i 0))) (fun hc=>?_) (fun hc=>?_) ?_
   ·simp only[decide_eq_true_eq] at hc
    have hi:i<a.length:=by omega
    simp -dsimp (disch:=try exact dx) only[wpS,wpT,zE,f0,f6,f7,ha.1.idx es25 hi,ha.1.ld hE.keep (P:=prog) (t:=3) (c:=i) (by simpa using hi) ag3,map_get,get_some hi]
    exact⟨rfl,by simp[f0],by simp[f1],by simp[f5],by simp[f7],by simp⟩
   ·simp only[decide_eq_false_iff_not] at hc
    simp -dsimp (disch:=try exact dx) only[wpS,wpT]
    exact⟨rfl,by simp[f0],by simp[f1],by simp[f5],by simp[f7],by rw[getD_of_ge (show a.length≤i by omega)];simp[f6]⟩
   ·rintro fr3 h3 ⟨rfl,f0,f1,f5,f7,f6⟩
    simp -dsimp (disch:=try exact dx) only[wpS,zE,f1,f7,hb.1.len sl25]
    refine bq_cut (fun fr4 h4=>h4=h3∧fget fr4 0=some v∧fget fr4 1=some w∧fget fr4 5=some out∧fget fr4 7=some (KN i)∧fget fr4 6=some (KN (c+a.getD i 0+b.getD i 0))) (fun hc=>?_) (fun hc=>?_) ?_
    ·simp only[decide_eq_true_eq] at hc
     have hi:i<b.length:=by omega
     simp -dsimp (disch:=try exact dx) only[wpS,wpT,zE,f1,f6,f7,hb.1.idx es25 hi,hb.1.ld hE.keep (P:=prog) (t:=3) (c:=i) (by simpa using hi) ag3,map_get,get_some hi]
     exact⟨rfl,by simp[f0],by simp[f1],by simp[f5],by simp[f7],by simp⟩
    ·simp only[decide_eq_false_iff_not] at hc
     simp -dsimp (disch:=try exact dx) only[wpS,wpT]
     exact⟨rfl,by simp[f0],by simp[f1],by simp[f5],by simp[f7],by rw[getD_of_ge (show b.length≤i by omega)];simp[f6]⟩
    ·rintro fr4 h4 ⟨rfl,f0,f1,f5,f7,f6⟩
     have hi5:i≤1000001:=by
      apply Classical.byContradiction;intro hn
      have:=hi3 (by omega)
      omega
     generalize hs:c+a.getD i 0+b.getD i 0=s at f6
     have e1:((s:Int) % 4294967296)=((s % 4294967296:Nat):Int):=by omega
     have e2:((s:Int) / 4294967296)=((s / 4294967296:Nat):Int):=by omega
     obtain⟨out',h',hap,hA',hG,hE'⟩:=hA.app1 (P:=prog) (t:=25) ap25 (x:=KN (s % 4294967296)) rfl (by omega) hE.n hE (Nat.le_refl _)
     simp -dsimp (disch:=try exact dx) only[wpS,wpT,zE,zL,zA,bs25,ba25_25,f5,f6,f7,e1,hap,e2]
     refine⟨m - 1,by omega,i+1,s / 4294967296,os ++ [s % 4294967296],out',by omega,by simp[f0],by simp[f1],by simp,by simp,by simp,by omega,by simp[hos],hd.append (by omega),by omega,fun hh=>?_,?_,by rw[←map_snoc];exact hA',hE'⟩
     ·have h1:=getD_of_ge (ds:=a) (k:=i) (by omega)
      have h2:=getD_of_ge (ds:=b) (k:=i) (by omega)
      omega
     ·rw[valD_append,valT,valT,hos]
      have h5:s % 4294967296+s / 4294967296*4294967296=c+a.getD i 0+b.getD i 0:=by omega
      grind
 ·refine cut (fun fr2 h2=>False) ?_ (fun _ _ h=>h.elim)
  simp -dsimp (disch:=try exact dx) only[wpS,wpT,zE,f0,f1,f5,f6,f7,ha.1.len sl25,hb.1.len sl25]
  obtain rfl:c=0:=by omega
  rw[valT_ge (by omega),valT_ge (by omega)] at hv
  exact⟨hE,os,⟨by rw[hos];exact hA.sl,hd,by omega⟩,by omega⟩
end Go.Id

namespace Go.Id
open Go
open Nat renaming reduceAdd→zA,reduceEqDiff→zE,reduceLeDiff→zL
set_option maxHeartbeats 16000000
@[irreducible] def Small (x:Nat):Prop:=x<4294967296 ^ 1000000
theorem Small.lt {x:Nat} (h:Small x):x<4294967296 ^ 1000000:=by unfold Small at h;exact h
theorem Small.mk {x:Nat} (h:x<4294967296 ^ 1000000):Small x:=by unfold Small;exact h
theorem Small.le {x y:Nat} (h:Small x) (k:y≤x):Small y:=.mk (Nat.lt_of_le_of_lt k h.lt)
theorem Norm.small {ds:List Nat} (h:Norm ds) (hs:Small (valD ds)):ds.length≤1000000:=by
 by_cases hne:ds = []
 ·subst hne;simp
 ·have h1:=h.ge hne
  have h2:4294967296 ^ (ds.length - 1)<4294967296 ^ 1000000:=Nat.lt_of_le_of_lt h1 hs.lt
  have:=(Nat.pow_lt_pow_iff_right (a:=4294967296) (by omega)).1 h2
  omega
abbrev SmallI (z:Int):Prop:=Small z.natAbs
theorem turn_ok {h:IH} {v:Value} {z:Int} (hv:LongIs h v z):WV Proofs.Tryz.prog (.func (.func 256) #[] #[]) [v] h fun r h'=>Ext h h'∧LongIs h' r (-z):=by
 obtain⟨s,rfl,ds,hD,hN,hx⟩:=hv
 refine enter (nt:=9) (rs:=[.cell 2 194]) Proofs.Tryz.func256 rfl rfl rfl (by simp) ?_
 simp -dsimp (disch:=try exact dx) only[wpS,zE,zc194,fa194_0,ld4,fa194_1,ld25]
 refine call (made_ok (hD.keep (((Keep.refl h).new _).new _)) _) ?_
 rintro r h1 ⟨hE,s1,rfl,h2⟩
 have hg:h1.ext.get (h.n+1)=some (.cells [.bool false,.slice none 0 0] 0 none):=by
  rw[hE.get _ (by simp)];exact get_new_same _ _ rfl
 obtain⟨ds1,hD1,hr1⟩:=h2
 simp -dsimp (disch:=try exact dx) only[wpS,wpT,zE,zL,zA,st194,ld194,hg,hD1.1.cok]
 refine⟨((((Ext.refl h).new _).new _).trans hE).put (by omega) _,?_⟩
 have hz:(if (!decide (z<0))=true then -(valD ds:Int) else valD ds) = -z:=by
  by_cases h0:z<0<;>simp[h0]<;>omega
 rw[hz] at hr1 ⊢
 exact⟨s1,rfl,ds1,hD1.keep ((Keep.refl _).put hg _),hr1⟩
theorem plus_ok {h:IH} {v w:Value} {x y:Int} (hv:LongIs h v x) (hw:LongIs h w y) (sx:SmallI x) (sy:SmallI y) :
  WV Proofs.Tryz.prog (.func (.func 157) #[] #[]) [v,w] h fun r h'=>Ext h h'∧LongIs h' r (x+y):=by
 obtain⟨s,rfl,a,ha,na,hx⟩:=hv
 obtain⟨t,rfl,b,hb,nb,hy⟩:=hw
 have la:a.length≤1000000:=na.small (by rw[hx];exact sx)
 have lb:b.length≤1000000:=nb.small (by rw[hy];exact sy)
 refine enter (nt:=40) (rs:=[.cell 4 194]) Proofs.Tryz.func157 rfl rfl rfl (by simp) ?_
 simp -dsimp (disch:=try exact dx) only[wpS,zE,zA,zc194,fa194_0,ld4,be4]
 have kk : ∀o1 o2 o3,Keep h (((h.new o1).new o2).new o3):=fun o1 o2 o3=>(((Keep.refl h).new _).new _).new _
 have ee : ∀o1 o2 o3,Ext h (((h.new o1).new o2).new o3):=fun o1 o2 o3=>(((Ext.refl h).new _).new _).new _
 refine bq_intro (fun hc=>?_) (fun hc=>?_)
 ·have hc:(x<0↔y<0):=by simpa using hc
  simp -dsimp (disch:=try exact dx) only[wpS]
  refine drawn [(1,[7])] (by kernel_rfl) (by kernel_rfl) rfl ?_
  simp -dsimp (disch:=try exact dx) only[wpS,zE,fa194_0,ld4,fa194_1,ld25]
  refine call (more_ok (ha.keep (kk _ _ _)) (hb.keep (kk _ _ _)) (by omega) (by omega)) ?_
  rintro r h1 ⟨hE,os,hD,hval⟩
  simp -dsimp (disch:=try exact dx) only[wpS,zE]
  refine call (made_ok hD _) ?_
  rintro r2 h2 ⟨hE2,s1,rfl,ds1,hD1,hr1⟩
  have hg:h2.ext.get (h.n+1+1)=some (.cells [.bool false,.slice none 0 0] 0 none):=by
   rw[hE2.get _ (by have:=hE.n;simp at this;omega),hE.get _ (by simp)];exact get_new_same _ _ rfl
  have hrow : ∀k',k'≤h.n→True:=fun _ _=>trivial
  have hr0:h1.row (2*h.n)=some [.bool (decide (x<0)),s]:=by
   rw[hE.row (by simp<;>omega)];simp -dsimp (disch:=try exact dx) only[wpS]
  simp -dsimp (disch:=try exact dx) only[wpS,wpT,zE,zL,zA,st194,hg,hD1.1.cok]
  refine⟨wpSteady_one rfl rfl rfl rfl (steady_load (av:=ptr (2*h.n) 0) (v:=.bool (decide (x<0))) rfl ?_ ?_),?_⟩
  ·simp -dsimp (disch:=try exact dx) only[wpS,ld4]
  ·simp -dsimp (disch:=try exact dx) only[wpS,ld4,hr0]
  ·simp -dsimp (disch:=try exact dx) only[wpS,wpT,zE,zL,zA,ld194]
   refine⟨(((ee _ _ _).trans hE).trans hE2).put (by omega) _,?_⟩
   have hz:(if decide (x<0)=true then -(valD os:Int) else valD os)=x+y:=by
    by_cases h0:x<0<;>simp[h0]<;>omega
   rw[hz] at hr1 ⊢
   exact⟨s1,rfl,ds1,hD1.keep ((Keep.refl _).put hg _),hr1⟩
 ·have hc : ¬(x<0↔y<0):=by simpa using hc
  simp -dsimp (disch:=try exact dx) only[wpS,zE,fa194_1,ld25]
  refine call (order_ok (ha.keep (kk _ _ _)) (hb.keep (kk _ _ _)) na nb) ?_
  rintro r h1 ⟨rfl,c,rfl,hc1,hc2,hc3,hc4⟩
  simp -dsimp (disch:=try exact dx) only[wpS,zE]
  refine bq_intro ?_ ?_<;>intro hc5<;>simp only[decide_eq_true_eq,decide_eq_false_iff_not] at hc5
  ·simp -dsimp (disch:=try exact dx) only[wpS,wpT]
   refine drawn [(1,[7])] (by kernel_rfl) (by kernel_rfl) rfl ?_
   simp -dsimp (disch:=try exact dx) only[wpS,zE,fa194_0,ld4,fa194_1,ld25]
   refine call (less_ok (ha.keep (kk _ _ _)) (hb.keep (kk _ _ _)) nb (by omega)) ?_
   rintro r h1 ⟨hE,os,hD,hN,hval⟩
   simp -dsimp (disch:=try exact dx) only[wpS,zE]
   refine call (made_ok hD _) ?_
   rintro r2 h2 ⟨hE2,s1,rfl,ds1,hD1,hr1⟩
   have hg:h2.ext.get (h.n+1+1)=some (.cells [.bool false,.slice none 0 0] 0 none):=by
    rw[hE2.get _ (by have:=hE.n;simp at this;omega),hE.get _ (by simp)];exact get_new_same _ _ rfl
   have hr0:h1.row (2*h.n)=some [.bool (decide (x<0)),s]:=by
    rw[hE.row (by simp<;>omega)];simp -dsimp (disch:=try exact dx) only[wpS]
   simp -dsimp (disch:=try exact dx) only[wpS,wpT,zE,zL,zA,st194,hg,hD1.1.cok]
   refine⟨wpSteady_one rfl rfl rfl rfl (steady_load (av:=ptr (2*h.n) 0) (v:=.bool (decide (x<0))) rfl ?_ ?_),?_⟩
   ·simp -dsimp (disch:=try exact dx) only[wpS,ld4]
   ·simp -dsimp (disch:=try exact dx) only[wpS,ld4,hr0]
   ·simp -dsimp (disch:=try exact dx) only[wpS,wpT,zE,zL,zA,ld194]
    refine⟨(((ee _ _ _).trans hE).trans hE2).put (by omega) _,?_⟩
    have hz:(if decide (x<0)=true then -(valD os:Int) else valD os).natAbs=(x+y).natAbs∧((if decide (x<0)=true then -(valD os:Int) else valD os)<0↔x+y<0):=by
     by_cases h0:x<0<;>simp[h0]<;>omega
    rw[hz.1] at hr1
    refine⟨s1,?_,ds1,hD1.keep ((Keep.refl _).put hg _),hr1⟩
    simp only[hz.2]<;>rfl
  ·simp -dsimp (disch:=try exact dx) only[wpS,wpT]
   refine drawn [(1,[7])] (by kernel_rfl) (by kernel_rfl) rfl ?_
   simp -dsimp (disch:=try exact dx) only[wpS,zE,fa194_0,ld4,fa194_1,ld25]
   refine call (less_ok (hb.keep (kk _ _ _)) (ha.keep (kk _ _ _)) na (by omega)) ?_
   rintro r h1 ⟨hE,os,hD,hN,hval⟩
   simp -dsimp (disch:=try exact dx) only[wpS,zE]
   refine call (made_ok hD _) ?_
   rintro r2 h2 ⟨hE2,s1,rfl,ds1,hD1,hr1⟩
   have hg:h2.ext.get (h.n+1+1)=some (.cells [.bool false,.slice none 0 0] 0 none):=by
    rw[hE2.get _ (by have:=hE.n;simp at this;omega),hE.get _ (by simp)];exact get_new_same _ _ rfl
   have hr0:h1.row (2*(h.n+1))=some [.bool (decide (y<0)),t]:=by
    rw[hE.row (by simp<;>omega)];simp -dsimp (disch:=try exact dx) only[wpS]
   simp -dsimp (disch:=try exact dx) only[wpS,wpT,zE,zL,zA,st194,hg,hD1.1.cok]
   refine⟨wpSteady_one rfl rfl rfl rfl (steady_load (av:=ptr (2*(h.n+1)) 0) (v:=.bool (decide (y<0))) rfl ?_ ?_),?_⟩
   ·simp -dsimp (disch:=try exact dx) only[wpS,ld4]
   ·simp -dsimp (disch:=try exact dx) only[wpS,ld4,hr0]
   ·simp -dsimp (disch:=try exact dx) only[wpS,wpT,zE,zL,zA,ld194]
    refine⟨(((ee _ _ _).trans hE).trans hE2).put (by omega) _,?_⟩
    have hz:(if decide (y<0)=true then -(valD os:Int) else valD os).natAbs=(x+y).natAbs∧((if decide (y<0)=true then -(valD os:Int) else valD os)<0↔x+y<0):=by
     by_cases h0:y<0<;>simp[h0]<;>omega
    rw[hz.1] at hr1
    refine⟨s1,?_,ds1,hD1.keep ((Keep.refl _).put hg _),hr1⟩
    simp only[hz.2]<;>rfl
end Go.Id

namespace Go.Id
open Go
open Nat renaming reduceAdd→zA,reduceEqDiff→zE,reduceLeDiff→zL
set_option maxHeartbeats 16000000
theorem LongIs.form {h:IH} {v:Value} {z:Int} (d:LongIs h v z) : ∃s n,v=.agg #[.bool (decide (z<0)),s]∧s.cells = #[s]∧cellOK s=true∧(∀{P:Program} {t:TypeId} (_:isSliceT P (some t)=true) (h':IH),lenB P h' t s=some (.int .i64 ((n:Nat):Int)))∧(n=0↔z=0):=by
 obtain⟨s,rfl,ds,hD,hN,hx⟩:=d
 refine⟨s,ds.length,rfl,hD.1.cells,hD.1.cok,fun hT h'=>hD.1.len hT h',?_⟩
 have:=hN.nil_iff
 rw[hx] at this
 rw[List.length_eq_zero_iff,←this];omega
theorem minus_ok {h:IH} {v w:Value} {x y:Int} (hv:LongIs h v x) (hw:LongIs h w y) (sx:SmallI x) (sy:SmallI y) :
  WV Proofs.Tryz.prog (.func (.func 234) #[] #[]) [v,w] h fun r h'=>Ext h h'∧LongIs h' r (x - y):=by
 obtain⟨s,n1,rfl,c1,o1,l1,z1⟩:=hv.form
 obtain⟨t,n2,rfl,c2,o2,l2,z2⟩:=hw.form
 refine enter (nt:=9) (rs:=[.cell 4 194]) Proofs.Tryz.func234 rfl rfl rfl (by simp) ?_
 simp -dsimp (disch:=try exact dx) only[wpS,zE,zA,zc194]
 have kk : ∀o1 o2 o3,Keep h (((h.new o1).new o2).new o3):=fun o1 o2 o3=>(((Keep.refl h).new _).new _).new _
 have ee : ∀o1 o2 o3,Ext h (((h.new o1).new o2).new o3):=fun o1 o2 o3=>(((Ext.refl h).new _).new _).new _
 refine drawn [(0,[3])] (by kernel_rfl) (by kernel_rfl) rfl ?_
 simp -dsimp (disch:=try exact dx) only[wpS,wpT,zE,zL,zA,ld194]
 refine call (turn_ok (hw.keep (kk _ _ _))) ?_
 rintro r h1 ⟨hE,hT⟩
 simp -dsimp (disch:=try exact dx) only[wpS,zE]
 refine call (plus_ok (hv.keep ((kk _ _ _).trans hE.keep)) hT sx (by rw[SmallI,Int.natAbs_neg];exact sy)) ?_
 rintro r2 h2 ⟨hE2,hr⟩
 obtain⟨s1,n3,rfl,c3,o3,l3,z3⟩:=hr.form
 have hg:h2.ext.get (h.n+1+1)=some (.cells [.bool false,.slice none 0 0] 0 none):=by
  rw[hE2.get _ (by have:=hE.n;simp at this;omega),hE.get _ (by simp)];exact get_new_same _ _ rfl
 have hr0:h1.row (2*h.n)=some [.bool (decide (x<0)),s]:=by
  rw[hE.row (by simp<;>omega)];simp -dsimp (disch:=try exact dx) only[wpS]
 simp -dsimp (disch:=try exact dx) only[wpS,wpT,zE,zL,zA,st194,hg,o3]
 refine⟨wpSteady_one rfl rfl rfl rfl (steady_load (av:=ptr (2*h.n) 0) (v:=.agg #[.bool (decide (x<0)),s]) rfl ?_ ?_),?_⟩
 ·simp -dsimp (disch:=try exact dx) only[wpS,wpT,zL,zA,ld194]
  rfl
 ·simp -dsimp (disch:=try exact dx) only[wpS,wpT,zL,zA,ld194,hr0]
  rfl
 ·simp -dsimp (disch:=try exact dx) only[wpS,wpT,zE,zL,zA,ld194]
  refine⟨(((ee _ _ _).trans hE).trans hE2).put (by omega) _,?_⟩
  have:x + -y=x - y:=by omega
  rw[this] at hr ⊢
  exact hr.keep ((Keep.refl _).put hg _)
end Go.Id

namespace Go.Id
def wrd (n i:Nat):Nat:=n / 18446744073709551616 ^ i % 18446744073709551616
theorem wrd_lt (n i:Nat):wrd n i<18446744073709551616:=Nat.mod_lt _ (by omega)
theorem mod_wrd (n i:Nat):n % 18446744073709551616 ^ (i+1)=n % 18446744073709551616 ^ i+18446744073709551616 ^ i*wrd n i:=Nat.mod_pow_succ
theorem pow_two (i:Nat):4294967296 ^ (2*i)=18446744073709551616 ^ i:=by
 rw[Nat.pow_mul]
theorem pow_odd (i:Nat):4294967296 ^ (2*i+1)=4294967296*18446744073709551616 ^ i:=by
 rw[Nat.pow_succ,pow_two,Nat.mul_comm]
theorem wrd_high {n i j:Nat} (h:n<18446744073709551616 ^ i) (hj:i≤j):wrd n j=0:=by
 have:n<18446744073709551616 ^ j:=Nat.lt_of_lt_of_le h (Nat.pow_le_pow_right (by omega) hj)
 rw[wrd,Nat.div_eq_of_lt this]
theorem wrd_add_low {n x i j:Nat} (hj:j<i):wrd (n+x*18446744073709551616 ^ i) j=wrd n j:=by
 obtain⟨d,rfl⟩ : ∃d,i=j+1+d:=⟨i - j - 1,by omega⟩
 rw[wrd,wrd,show x*18446744073709551616 ^ (j+1+d)=18446744073709551616 ^ j*(18446744073709551616*(x*18446744073709551616 ^ d)) from by
  rw[Nat.pow_add,Nat.pow_add];grind]
 rw[Nat.add_mul_div_left _ _ (Nat.pow_pos (by omega)),Nat.add_mul_mod_self_left]
theorem wrd_add_at {n x i:Nat} (h:n<18446744073709551616 ^ (i+1)) (hx:wrd n i+x<18446744073709551616):wrd (n+x*18446744073709551616 ^ i) i=wrd n i+x:=by
 have h1:n / 18446744073709551616 ^ i<18446744073709551616:=by
  rw[Nat.div_lt_iff_lt_mul (Nat.pow_pos (by omega))]
  rw[Nat.pow_succ] at h;rw[Nat.mul_comm];exact h
 have h2:wrd n i=n / 18446744073709551616 ^ i:=Nat.mod_eq_of_lt h1
 rw[wrd,Nat.add_mul_div_right _ _ (Nat.pow_pos (by omega)),←h2,Nat.mod_eq_of_lt hx]
theorem add_at_lt {n x i:Nat} (h:n<18446744073709551616 ^ (i+1)) (hx:wrd n i+x<18446744073709551616):n+x*18446744073709551616 ^ i<18446744073709551616 ^ (i+1):=by
 have h1:n / 18446744073709551616 ^ i<18446744073709551616:=by
  rw[Nat.div_lt_iff_lt_mul (Nat.pow_pos (by omega))]
  rw[Nat.pow_succ] at h;rw[Nat.mul_comm];exact h
 have h2:wrd n i=n / 18446744073709551616 ^ i:=Nat.mod_eq_of_lt h1
 have hp:0<18446744073709551616 ^ i:=Nat.pow_pos (by omega)
 have h3:=Nat.div_add_mod n (18446744073709551616 ^ i)
 have h4:=Nat.mod_lt n hp
 rw[h2] at hx
 have h5:(n / 18446744073709551616 ^ i+x+1)*18446744073709551616 ^ i≤18446744073709551616*18446744073709551616 ^ i:=Nat.mul_le_mul_right _ (by omega)
 rw[Nat.pow_succ]
 generalize 18446744073709551616 ^ i=p at *
 have h6:(n / p+x+1)*p=p*(n / p)+x*p+p:=by grind
 rw[Nat.mul_comm 18446744073709551616 p] at h5
 omega
@[irreducible] def W8:Nat:=18446744073709551616 ^ 8
@[irreducible] def H8:Nat:=9223372036854775808*18446744073709551616 ^ 7
theorem W8_eq:W8=18446744073709551616 ^ 8:=by unfold W8;rfl
theorem W8_two:W8=2*H8:=by unfold W8 H8;rfl
theorem W8_dig:W8=4294967296 ^ 16:=by unfold W8;rfl
theorem H8_dig:H8=2147483648*4294967296 ^ 15:=by unfold H8;rfl
theorem H8_big:9223372036854775808<H8:=by unfold H8;decide
def wdI (n:Nat):Int:=if n<H8 then (n:Int) else (n:Int) - W8
theorem wrd7 {n:Nat} (h:n<W8):wrd n 7<9223372036854775808↔n<H8:=by
 rw[W8_eq] at h
 unfold H8
 have h1:n / 18446744073709551616 ^ 7<18446744073709551616:=by
  rw[Nat.div_lt_iff_lt_mul (Nat.pow_pos (by decide))];exact h
 rw[wrd,Nat.mod_eq_of_lt h1,Nat.div_lt_iff_lt_mul (Nat.pow_pos (by decide))]
end Go.Id

namespace Go.Id
open Go
def wdC (n:Nat):List Value:=(List.range 8).map fun i=>K64 (wrd n i)
def wdV (n:Nat):Value:=.agg (wdC n).toArray
theorem wdC_len (n:Nat):(wdC n).length=8:=by simp[wdC]
theorem wdC_get (n i:Nat) (hi:i<8):(wdC n)[i]?=some (K64 (wrd n i)):=by simp[wdC,hi]
theorem wdC_all (n:Nat):(wdC n).all cellOK=true:=by simp[wdC,cellOK]
end Go.Id

namespace Go.Id
open Go
theorem wd_take (n:Nat):List.take 8 (List.drop 0 (wdC n))=wdC n:=by
 rw[List.drop_zero,List.take_of_length_le (by rw[wdC_len];omega)]
end Go.Id

namespace Go.Id
open Go
open Nat (reduceMul)
open Nat renaming reduceAdd→zA,reduceEqDiff→zE,reduceLeDiff→zL
set_option maxHeartbeats 16000000
def InW (z:Int):Prop:=-(H8:Int)≤z∧z<H8
instance (z:Int):Decidable (InW z):=inferInstanceAs (Decidable (_∧_))
def wideN (z:Int):Nat:=if 0≤z then z.toNat else W8 - z.natAbs
theorem wideN_lt {z:Int} (h:InW z):wideN z<W8:=by
 have:=W8_two
 unfold InW at h
 unfold wideN
 split<;>omega
theorem wdI_wideN {z:Int} (h:InW z):wdI (wideN z)=z:=by
 have:=W8_two
 unfold InW at h
 unfold wdI wideN
 split
 ·rw[if_pos (by omega)];omega
 ·rw[if_neg (by omega)];omega
abbrev wideV (z:Int):Value:=wdV (wideN z)
abbrev ZW:Value:=.int .u64 0
theorem wdC_zero:wdC 0 = [ZW,ZW,ZW,ZW,ZW,ZW,ZW,ZW]:=by
 simp[wdC,wrd,List.range_succ]
theorem lim_val:valD [0,0,0,0,0,0,0,0,0,0,0,0,0,0,0,2147483648]=H8:=by rw[H8_dig];simp[valD,valT]
theorem big_val:valD [0,0,0,0,0,0,0,0,0,0,0,0,0,0,0,0,1]=W8:=by rw[W8_dig];simp[valD,valT]
theorem wdC_set {n i x:Nat} (hi:i<8) (hn:n<18446744073709551616 ^ (i+1)) (hx:wrd n i+x<18446744073709551616):(wdC n).set i (K64 (wrd n i+x))=wdC (n+x*18446744073709551616 ^ i):=by
 apply List.ext_getElem?
 intro j
 rw[List.getElem?_set]
 by_cases hij:i=j
 ·subst hij
  rw[if_pos rfl,wdC_get _ _ hi,wdC_len,if_pos hi,wrd_add_at hn hx]
 ·rw[if_neg hij]
  by_cases hj:j<8
  ·rw[wdC_get _ _ hj,wdC_get _ _ hj]
   by_cases hlt:j<i
   ·rw[wrd_add_low hlt]
   ·rw[wrd_high hn (by omega),wrd_high (add_at_lt hn hx) (by omega)]
  ·rw[List.getElem?_eq_none (by rw[wdC_len];omega),List.getElem?_eq_none (by rw[wdC_len];omega)]
set_option maxRecDepth 100000 in
theorem out_ok {h:IH} {v:Value} {z:Int} (hv:LongIs h v z) :
  WV Proofs.Tryz.prog (.func (.func 136) #[] #[]) [v] h fun r h'=>Ext h h'∧r=if InW z then .tuple #[wideV z,KI 0] else .tuple #[wdV 0,KI 6]:=by
 obtain⟨s,rfl,ds,hD,hN,hx⟩:=hv
 have hl:=hD.2.2
 refine enter (nt:=63) (rs:=[.cell 2 30,.tmp 3]) Proofs.Tryz.func136 rfl rfl rfl (by simp) ?_
 simp -dsimp (disch:=try exact dx) only[wpS,wpT,zE,zL,zA,reduceMul,Int.reduceToNat,zc30,ms25,es25,st3,fa194_1,ld25,show idxAt 15 16=some 15 from rfl]
 have hL:DigU ((((h.new (.cells [.bool (decide (z<0)),s] 0 none)).new (.cells [ZW,ZW,ZW,ZW,ZW,ZW,ZW,ZW] 0 none)).new (.cells (List.map KN [0,0,0,0,0,0,0,0,0,0,0,0,0,0,0,0]) 1 none)).put (h.n+1+1) (.cells (List.map KN [0,0,0,0,0,0,0,0,0,0,0,0,0,0,0,2147483648]) 1 none)) (.slice (some ⟨2*(h.n+1+1),0,none⟩) 16 33) [0,0,0,0,0,0,0,0,0,0,0,0,0,0,0,2147483648] :=
  ⟨sl_block (f:=none) (get_put_same _ _ rfl) (by simp) (by omega) rfl (by omega) (by simp),by intro d hd;simp at hd;omega,by simp⟩
 have hE : ∀a b c d:IObj,Ext h ((((h.new a).new b).new c).put (h.n+1+1) d):=fun a b c d=>((((Ext.refl h).new _).new _).new _).put (by omega) _
 refine call (order_ok (hD.keep (hE _ _ _ _).keep) hL hN (.inr (by simp))) ?_
 rintro r h1 ⟨e1,c,rfl,hc1,hc2,hc3,hc4⟩
 have g1:h1.row (2*h.n)=some [.bool (decide (z<0)),s]:=by rw[e1];simp -dsimp (disch:=try exact dx) only[wpS]
 have g2:h1.ext.get (h.n+1)=some (.cells [ZW,ZW,ZW,ZW,ZW,ZW,ZW,ZW] 0 none):=by rw[e1];simp -dsimp (disch:=try exact dx) only[wpS]
 have g3:Ext h h1:=by rw[e1];exact hE _ _ _ _
 have g4:h.n+1<h1.n:=by rw[e1];simp
 clear e1 hL hE
 rw[lim_val,hx] at hc1 hc2
 have hW8:=W8_two
 by_cases hW:InW z
 ·have hc:c<0∨c=0∧z<0:=by unfold InW at hW;omega
  simp -dsimp (disch:=try exact dx) only[wpR,zE]
  rw[d_seq]
  refine cut (fun fr2 h2=>h2=h1∧fget fr2 2=some (ptr (2*(h.n+1)) 0)∧fget fr2 1=some (ptr (2*h.n) 0)) ?_ ?_
  ·rcases hc with hc|⟨rfl,hz⟩
   ·simp -dsimp (disch:=try exact dx) only[wpS,wpT,zE]
    exact⟨rfl,by simp,by simp⟩
   ·simp -dsimp (disch:=try exact dx) only[wpS,wpT,zE,fa194_0,ld4,g1,dec_lt_t hz]
    exact⟨rfl,by simp,by simp⟩
  ·rintro fr2 h2 ⟨rfl,f2,f1⟩
   simp -dsimp (disch:=try exact dx) only[wpS,zE,zc30,fa194_1,ld25,fa194_0,ld4,g1,f1]
   refine bq_cut (fun fr3 h3=>fget fr3 2=some (ptr (2*(h.n+1)) 0)∧Ext h2 h3 ∧ ∃d ds2,fget fr3 6=some d∧DigU h3 d ds2∧valD ds2=wideN z∧ds2.length≤16) (fun hz=>?_) (fun hz=>?_) ?_
   ·simp only[decide_eq_true_eq] at hz
    simp -dsimp (disch:=try exact dx) only[wpS,wpT,zE,zL,zA,reduceMul,Int.reduceToNat,ms25,es25,st3,show idxAt 16 17=some 16 from rfl]
    have hE3 : ∀a b:IObj,Ext h2 ((h2.new a).put h2.n b):=fun a b=>((Ext.refl h2).new _).put (Nat.le_refl _) _
    have hWW:DigU ((h2.new (.cells (List.map KN [0,0,0,0,0,0,0,0,0,0,0,0,0,0,0,0,0]) 1 none)).put h2.n (.cells (List.map KN [0,0,0,0,0,0,0,0,0,0,0,0,0,0,0,0,1]) 1 none)) (.slice (some ⟨2*h2.n,0,none⟩) 17 35) [0,0,0,0,0,0,0,0,0,0,0,0,0,0,0,0,1] :=
     ⟨sl_block (f:=none) (get_put_same _ _ rfl) (by simp) (by omega) rfl (by omega) (by simp),by intro d hd;simp at hd;omega,by simp⟩
    refine call (less_ok hWW (hD.keep (g3.trans (hE3 _ _)).keep) hN (by rw[big_val,hx];unfold InW at hW;omega)) ?_
    rintro e h3 ⟨hE4,es,hDe,hNe,hve⟩
    rw[big_val,hx] at hve
    have hv2:valD es=wideN z:=by rw[hve,wideN,if_neg (by omega)]
    simp -dsimp (disch:=try exact dx) only[wpS,zE]
    refine⟨by simp[f2],(hE3 _ _).trans hE4,e,es,by simp,hDe,hv2,?_⟩
    have h5:=wideN_lt hW
    rw[←hv2,W8_dig] at h5
    by_cases hne:es = []
    ·subst hne;simp
    ·have h6:=hNe.ge hne
     have h7:=(Nat.pow_lt_pow_iff_right (a:=4294967296) (by omega)).1 (Nat.lt_of_le_of_lt h6 h5)
     omega
   ·simp only[decide_eq_false_iff_not] at hz
    simp -dsimp (disch:=try exact dx) only[wpS,wpT]
    have hv2:valD ds=wideN z:=by rw[hx,wideN,if_pos (by omega)];omega
    refine⟨by simp[f2],Ext.refl _,s,ds,by simp,hD.keep g3.keep,hv2,?_⟩
    have h5:=wideN_lt hW
    rw[←hv2,W8_dig] at h5
    by_cases hne:ds = []
    ·subst hne;simp
    ·have h6:=hN.ge hne
     have h7:=(Nat.pow_lt_pow_iff_right (a:=4294967296) (by omega)).1 (Nat.lt_of_le_of_lt h6 h5)
     omega
   ·rintro fr3 h3 ⟨f2,hE3,d,ds2,f6,hD2,hv2,hl2⟩
    simp -dsimp (disch:=try exact dx) only[wpS,zc30]
    have hlen:=hD2.2.2
    refine loop (fun m fr h4 => ∃i:Nat,i+m=ds2.length∧fget fr 2=some (ptr (2*(h.n+1)) 0)∧fget fr 6=some d∧fget fr 8=some (ptr (2*h3.n) 0)∧fget fr 9=some (KN i)∧h3.n<h4.n∧h4.ext.get h3.n=some (.cells (wdC (valT ds2 i)) 0 none)∧Ext h3 h4) ds2.length ⟨0,by simp,by simp[f2],by simp[f6],by simp,by simp,by simp,by rw[valT,wdC_zero];exact get_new_same _ _ rfl,(Ext.refl h3).new _⟩ ?_
    rintro m fr h4 ⟨i,him,f2,f6,f8,f9,hn4,hg4,hE4⟩
    simp -dsimp (disch:=try exact dx) only[wpS,zE,f6,f9,hD2.1.len sl25]
    refine bq_intro ?_ ?_<;>intro hc<;>simp only[decide_eq_true_eq,decide_eq_false_iff_not] at hc
    ·have hi:i<ds2.length:=by omega
     have dd:=getD_lt hD2.2.1 i
     have hvl:=valT_lt hD2.2.1 i
     have hrow:h4.row (2*h3.n)=some (wdC (valT ds2 i)):=by rw[row_even];exact cells_of hg4
     have e1:((i:Int) / 2)=((i / 2:Nat):Int):=by omega
     have hi8:i / 2<8:=by omega
     obtain⟨x,hsh,hx1,hx2⟩ : ∃x:Nat,(∀t o1 o2,binop Proofs.Tryz.prog .shl t o1 o2 (K64 (ds2.getD i 0)) (.int .i64 (32*((i:Int) % 2)))=some (K64 x))∧valT ds2 (i+1)=valT ds2 i+x*18446744073709551616 ^ (i / 2)∧wrd (valT ds2 i) (i / 2)+x<18446744073709551616:=by
      rcases Nat.mod_two_eq_zero_or_one i with hm|hm
      ·obtain⟨k,rfl⟩ : ∃k,i=2*k:=⟨i / 2,by omega⟩
       have hk:2*k / 2=k:=by omega
       refine⟨ds2.getD (2*k) 0,fun t o1 o2=>?_,?_,?_⟩
       ·have e2:(32*(((2*k:Nat):Int) % 2))=((0:Nat):Int):=by omega
        rw[e2,shl_nat _ _ _ _ (by omega) (by omega)];simp
       ·rw[valT,hk,pow_two]
       ·rw[hk,wrd_high (by rw[←pow_two];exact hvl) (Nat.le_refl _)];omega
      ·obtain⟨k,rfl⟩ : ∃k,i=2*k+1:=⟨i / 2,by omega⟩
       have hk:(2*k+1) / 2=k:=by omega
       refine⟨ds2.getD (2*k+1) 0*4294967296,fun t o1 o2=>?_,?_,?_⟩
       ·have e2:(32*(((2*k+1:Nat):Int) % 2))=((32:Nat):Int):=by omega
        rw[e2,shl_nat _ _ _ _ (by omega) (by omega)]
       ·rw[valT,hk,pow_odd];grind
       ·rw[hk]
        rw[pow_odd] at hvl
        have h8:valT ds2 (2*k+1) / 18446744073709551616 ^ k<4294967296:=by
         rw[Nat.div_lt_iff_lt_mul (Nat.pow_pos (by omega))];exact hvl
        have h9:wrd (valT ds2 (2*k+1)) k≤valT ds2 (2*k+1) / 18446744073709551616 ^ k:=Nat.mod_le _ _
        omega
     have hwl:valT ds2 i<18446744073709551616 ^ (i / 2+1):=by
      have h8:4294967296 ^ i≤4294967296 ^ (2*(i / 2+1)):=Nat.pow_le_pow_right (by omega) (by omega)
      rw[pow_two] at h8
      omega
     have hset:=wdC_set hi8 hwl hx2
     rw[←hx1] at hset
     have hspl:IH.splice (wdC (valT ds2 i)) (i / 2) [.int .u64 ((wrd (valT ds2 i) (i / 2):Int)+(x:Int))]=wdC (valT ds2 (i+1)):=by
      rw[splice_set (by rw[wdC_len];exact hi8),←hset];rfl
     have hwr:=wrd_lt (valT ds2 i) (i / 2)
     simp -dsimp (disch:=try exact dx) only[wpS,wpT,zE,zL,ar30,ld28,cv3_28,st28,f6,f8,f9,e1,ar30,hrow,wdC_get _ _ hi8,hD2.1.idx es25 hi,hD2.1.ld hE4.keep (P:=Proofs.Tryz.prog) (t:=3) (c:=i) (by simpa using hi) ag3,map_get,get_some hi,hsh,hg4,wdC_len,hspl]
     refine⟨m - 1,by omega,i+1,by omega,by simp[f2],by simp[f6],by simp[f8],by simp,by simpa using hn4,get_put_same _ _ rfl,hE4.put (Nat.le_refl _) _⟩
    ·obtain rfl:i=ds2.length:=by omega
     have hgz:h4.ext.get (h.n+1)=some (.cells [ZW,ZW,ZW,ZW,ZW,ZW,ZW,ZW] 0 none):=by
      rw[hE4.get _ (by have:=hE3.n;omega),hE3.get _ g4];exact g2
     have hrow:h4.row (2*h3.n)=some (wdC (wideN z)):=by rw[row_even,←hv2];exact cells_of hg4
     have hspl:IH.splice [ZW,ZW,ZW,ZW,ZW,ZW,ZW,ZW] 0 (wdC (wideN z))=wdC (wideN z):=splice_all (by rw[wdC_len];rfl)
     simp -dsimp (disch:=try exact dx) only[wpS,wpT,zE,zL,zA,st30,ld30,f2,f8,hrow,hgz,wdC_len,wd_take,wdC_all,hspl]
     refine⟨((g3.trans hE3).trans hE4).put (by omega) _,?_⟩
     rw[if_pos hW];rfl
 ·have hc:0<c∨c=0 ∧ ¬z<0:=by unfold InW at hW;omega
  rcases hc with hc|⟨hc,hz⟩
  ·simp -dsimp (disch:=try exact dx) only[wpS,wpT,zE,zL,zA,bv30,st30,ld30,g2]
   refine⟨g3.put (by omega) _,?_⟩
   rw[if_neg hW,wdV,wdC_zero];rfl
  ·subst hc
   simp -dsimp (disch:=try exact dx) only[wpS,wpT,zE,zL,zA,fa194_0,ld4,bv30,st30,ld30,g1,g2,dec_lt_f hz]
   refine⟨g3.put (by omega) _,?_⟩
   rw[if_neg hW,wdV,wdC_zero];rfl
end Go.Id
