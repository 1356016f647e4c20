/-
  Contracts: package diagnose: what is wrong with several chains. Contracts: package kernel: Check.
-/
import Derived.Test.YtjhnilfelokpcaaGreatOutlierPathsBa
import Derived.Test.YtjhnilfelokpcaaGreatOutlierPathsAq
import Derived.Test.YtjhnilfelokpcaaGreatOutlierPathsBb
import Derived.Test.YtjhnilfelokpcaaGreatOutlierPathsBg
import Derived.Test.YtjhnilfelokpcaaGreatOutlierPathsBf
set_option linter.unusedVariables false
set_option linter.unusedSimpArgs false
set_option linter.defProp false
set_option linter.deprecated false
namespace Go.Id
open Go
def hP (h:IH) (v:Value) (ll:List (List (Nat×Nat))):Prop:=∃vs:List Value,bI h 1 v ll.length vs∧ll.length<1152921504606846976 ∧ ∀(i:Nat) (x:List (Nat×Nat)),ll[i]?=some x → ∃w,vs[i]?=some w∧jt h w x
theorem hP.ae {h h':IH} {v:Value} {ll:List (List (Nat×Nat))} (s:hP h v ll) (e:aN h h'):hP h' v ll:=by
 obtain⟨vs,a,b,c⟩:=s
 refine⟨vs,a.ae e,b,fun i x hx=>?_⟩
 obtain⟨w,h1,h2⟩:=c i x hx
 exact⟨w,h1,h2.ae e⟩
theorem hP.at {h h':IH} {v:Value} {ll:List (List (Nat×Nat))} (s:hP h v ll) (e:aN h h') {i:Nat} {x:List (Nat×Nat)} (hx:ll[i]?=some x) :
  ∃w,load Proofs.Tryz.prog h' 82 (aO v i)=some w∧jt h' w x ∧ ∀k:IntKind,indexAddr Proofs.Tryz.prog 54 v (.int k (i:Int))=some (aO v i):=by
 obtain⟨vs,a,b,c⟩:=s
 obtain⟨w,h1,h2⟩:=c i x hx
 have hi:=(List.getElem?_eq_some_iff.1 hx).1
 refine⟨w,?_,h2.ae e,fun k=>by rw[a.idx SR hi,Nat.mul_one]⟩
 rw[a.ld e (by rw[a.2.1];omega) Rh]
 exact h1
theorem hP.co {h:IH} {v:Value} {ll:List (List (Nat×Nat))} (s:hP h v ll):v.cells = #[v]∧aH v=true ∧ ∀h',qo Proofs.Tryz.prog h' 54 v=some (.int .i64 ll.length):=by
 obtain⟨vs,a,_⟩:=s
 exact⟨a.cells,a.cok,fun h'=>a.len US h'⟩
theorem jt.co {h:IH} {v:Value} {l:List (Nat×Nat)} (s:jt h v l):v.cells = #[v]∧aH v=true:=⟨s.1.cells,s.1.cok⟩
end Go.Id

namespace Go.Id
open Go
open Go.Proofs.Tryz (prog)
open Nat renaming reduceAdd→zA,reduceEqDiff→zE,reduceLeDiff→zL
set_option maxHeartbeats 16000000
def xK (p:Nat×Nat):Prop:=¬okS p.1 p.2∨wdI p.1<0
def kj (l:List (Nat×Nat)):Prop:=(∀p∈l,¬xK p)∧gF (l.map rOf)=1
def fk (ll:List (List (Nat×Nat))):Prop:=1≤ll.length∧ll.length≤60 ∧ ∀l∈ll,l.length=ll.length∧kj l
theorem Dc {p:Nat×Nat} (h : ¬xK p):okS p.1 p.2∧0≤wdI p.1:=by
 unfold xK at h
 refine⟨Classical.byContradiction fun hn=>h (.inl hn),?_⟩
 have : ¬wdI p.1<0:=fun hn=>h (.inr hn)
 omega
open Classical in
theorem Qe {h:IH} {p:Nat×Nat} (h1:p.1<W8) (h2:p.2<W8) :
  WV prog (.func (.func 213) #[] #[]) [shV p.1 p.2] h fun r h'=>Ext h h'∧r=.bool (decide (xK p)):=by
 have E1:Ext h (h.new (.cells (shC p.1 p.2) 0 none)):=(Ext.refl h).new _
 have g1:(h.new (.cells (shC p.1 p.2) 0 none)).ext.get h.n=some (.cells (shC p.1 p.2) 0 none):=by simp (disch:=try exact dx) only[ab]
 refine enter (nt:=13) (rs:=[.tmp 2]) Proofs.Tryz.func213 rfl rfl rfl (by simp) ?_
 simp -dsimp (disch:=try exact dx) only[wpS,zE,zL,kA,bV,aP,dG]
 refine call (sD p.1 p.2 h1 h2) ?_
 rintro _ v1 ⟨X1,rfl⟩
 have m1:=X1.n
 simp only[ax] at m1
 by_cases ok:okS p.1 p.2
 case neg =>
  rw[if_neg ok,decide_eq_true (show xK p from .inl ok)]
  simp -dsimp (disch:=try exact dx) only[wpS,wpT,zE]
  exact E1.trans X1
 rw[if_pos ok]
 simp -dsimp (disch:=try exact dx) only[wpS,wpT,zE,zL,kA,aj (X1.kept (by simp) g1),aP,dG]
 refine call (lg p.1 p.2 h1 h2) ?_
 rintro _ v2 ⟨X2,a,s,b,t,rfl,q1,q2⟩
 simp -dsimp (disch:=try exact dx) only[wpS,wpT,zE,SO]
 refine call (ub q1) ?_
 rintro _ v3 ⟨X3,rfl⟩
 have XX:=((E1.trans X1).trans X2).trans X3
 by_cases c:wdI p.1<0
 ·rw[if_pos c,decide_eq_true (show xK p from .inr c)]
  simp -dsimp (disch:=try exact dx) only[wpS,wpT,zE]
  exact XX
 ·rw[if_neg c,decide_eq_false (show ¬xK p from fun h=>h.elim (fun h=>h ok) c)]
  obtain⟨z,hz,hz0⟩ : ∃z:Int,(if wdI p.1=0 then (0:Int) else 1)=z∧0≤z:=⟨_,rfl,by split<;>omega⟩
  rw[hz]
  simp -dsimp (disch:=try exact dx) only[wpS,wpT,zE]
  exact XX
open Classical in
theorem AE {h:IH} {v F:Value} {l:List (Nat×Nat)} (hv:jt h v l) (B:Nat×Nat→Prop) (hF : ∀h1 p,Ext h h1→p∈l→WV prog F [shV p.1 p.2] h1 fun r h2=>Ext h1 h2∧r=.bool (decide (B p))) :
  WV prog (.func (.func 212) #[] #[]) [v,F] h fun r h'=>Ext h h'∧r=.bool (decide (∃p∈l,B p)):=by
 have hlb:=hv.2.1
 have ZN:WV prog (.func (.func 251) #[] #[]) [v,F] h fun r h'=>Ext h h' ∧ ∃c:Int,r=KI c∧(0≤c ↔ ∃p∈l,B p):=by
  refine enter (nt:=19) (rs:=[.tmp 4]) Proofs.Tryz.func251 rfl rfl rfl (by simp) ?_
  simp -dsimp (disch:=try exact dx) only[wpS,zE,zA,hv.1.len tP]
  refine loop (fun m fr h1 => ∃i:Nat,i+m=l.length∧Ext h h1∧(∀(j:Nat) p,j<i→l[j]?=some p → ¬B p)∧ai fr 0=some v∧ai fr 1=some F∧ai fr 7=some (KN l.length)∧ai fr 8=some (KN i)) l.length
   ⟨0,by omega,Ext.refl _,fun j p hj=>by omega,by simp,by simp,by simp,by simp⟩ ?_
  rintro m fr h1 ⟨i,him,hE,hno,f0,f1,f7,f8⟩
  simp -dsimp (disch:=try exact dx) only[wpS,f7,f8]
  refine aA ?_ ?_<;>intro hc<;>simp only[decide_eq_true_eq,decide_eq_false_iff_not] at hc
  ·have hi:i<l.length:=by omega
   obtain⟨p,hp⟩ : ∃p,l[i]?=some p:=⟨_,List.getElem?_eq_getElem hi⟩
   have hpm:=List.mem_of_getElem? hp
   simp -dsimp (disch:=try exact dx) only[wpS,wpT,zE,f0,f1,f8,hv.1.idx xJ hi,hv.ld hE.ae hp]
   refine call (hF h1 p hE hpm) ?_
   rintro _ h2 ⟨hE2,rfl⟩
   have E2:=hE.trans hE2
   by_cases hk:B p
   ·rw[decide_eq_true hk]
    simp -dsimp (disch:=try exact dx) only[wpS,zE]
    exact⟨E2,(i:Int),rfl,fun _=>⟨p,hpm,hk⟩,fun _=>by omega⟩
   ·rw[decide_eq_false hk]
    simp -dsimp (disch:=try exact dx) only[wpS,zE,f8]
    refine⟨m - 1,by omega,i+1,by omega,E2,?_,by simp[f0],by simp[f1],by simp[f7],by simp⟩
    intro j q hj hq
    by_cases hji:j=i
    ·subst hji;rw[hp] at hq;cases hq;exact hk
    ·exact hno j q (by omega) hq
  ·simp -dsimp (disch:=try exact dx) only[wpS,wpT]
   refine⟨hE,-1,rfl,fun h=>by omega,fun⟨p,hp,hb⟩=>?_⟩
   obtain⟨j,hj⟩:=List.getElem?_of_mem hp
   have:=(List.getElem?_eq_some_iff.1 hj).1
   exact absurd hb (hno j p (by omega) hj)
 refine enter (nt:=9) (rs:=[.tmp 4]) Proofs.Tryz.func212 rfl rfl rfl (by simp) ?_
 simp -dsimp (disch:=try exact dx) only[wpS,zE,zA]
 refine call ZN ?_
 rintro _ h1 ⟨hE,c,rfl,hc⟩
 simp -dsimp (disch:=try exact dx) only[wpS,zE]
 exact⟨hE,by rw[decide_eq_decide.2 hc]⟩
theorem My {h:IH} {v:Value} {l:List (Nat×Nat)} (hv:jt h v l) (ho : ∀p∈l,okS p.1 p.2) (hl:l.length≤1000) :
  WV prog (.func (.func 214) #[] #[]) [v,(.func (.func 114) #[] #[])] h fun r h'=>Ext h h'∧fc h' r (gF (l.map rOf))∧QB (l.length*(512+1)) (gF (l.map rOf)):=by
 have hq0 : ∀q∈l.map rOf,QB 512 q:=by
  intro q hq
  obtain⟨p,hp,rfl⟩:=List.mem_map.1 hq
  exact Bx (hv.2.2 p hp).1 (hv.2.2 p hp).2 (ho p hp)
 have hQ : ∀i,i≤l.length→QB (i*(512+1)) (gF ((l.take i).map rOf)):=by
  intro i hi
  have:=QB.gF (k:=512) hq0 i (by simpa using hi)
  rwa [←List.map_take] at this
 refine enter (nt:=22) (rs:=[.cell 4 169]) Proofs.Tryz.func214 rfl rfl rfl (by simp) ?_
 simp -dsimp (disch:=try exact dx) only[wpS,zA,ny]
 have E1:Ext h (h.new (.cells ZR 0 none)):=(Ext.refl h).new _
 have g1:(h.new (.cells ZR 0 none)).ext.get h.n=some (.cells ZR 0 none):=by simp (disch:=try exact dx) only[ab]
 refine call (yR 0 ⟨by omega,by omega⟩) ?_
 rintro z h1 ⟨X1,p1⟩
 have m1:=X1.n
 simp only[ax] at m1
 obtain⟨a3,s3,b3,t3,rfl,_,_,d1,o1,d2,o2,o3,o4⟩:=p1.parts
 have kg:=X1.kept (by simp) g1
 simp -dsimp (disch:=try exact dx) only[wpS,wpT,zE,zL,zA,ny,nK,o1,o2,o3,o4,hv.1.len tP]
 have Ex2:Ext h1 ((h1.new (.cells ZR 0 none)).put h1.n (.cells [a3,s3,b3,t3] 0 none)):=((Ext.refl h1).new _).put (Nat.le_refl _) _
 refine loop (fun m fr hh => ∃(i:Nat) (a s b t:Value),i+m=l.length∧Ext h hh∧h1.n<hh.n∧hh.ext.get h.n=some (.cells ZR 0 none)∧hh.ext.get h1.n=some (.cells [a,s,b,t] 0 none)∧fc hh (.agg #[a,s,b,t]) (gF ((l.take i).map rOf)) ∧
   ai fr 1=some (.func (.func 114) #[] #[])∧ai fr 4=some (ptr (2*h.n) 0)∧ai fr 5=some (ptr (2*h1.n) 0)∧ai fr 9=some v∧ai fr 10=some (KN l.length)∧ai fr 11=some (KN i)) l.length
  ⟨0,a3,s3,b3,t3,by omega,(E1.trans X1).trans Ex2,by simp,by simp (disch:=try exact dx) only[ar,ah];exact kg,by simp (disch:=try exact dx) only[aa],p1.ae Ex2.ae,by simp,by simp,by simp,by simp,by simp,by simp⟩ ?_
 clear p1 kg Ex2
 rintro m fr hh ⟨i,a,s,b,t,him,hE,hn,hg,hg5,hp,f1,f4,f5,f9,f10,f11⟩
 simp -dsimp (disch:=try exact dx) only[wpS,zA,f10,f11]
 refine aA ?_ ?_<;>intro hc<;>simp only[decide_eq_true_eq,decide_eq_false_iff_not] at hc
 ·have hi:i<l.length:=by omega
  obtain⟨q,hq⟩ : ∃q,l[i]?=some q:=⟨_,List.getElem?_eq_getElem hi⟩
  have hqm:=List.mem_of_getElem? hq
  obtain⟨w1,w2⟩:=hv.2.2 q hqm
  simp -dsimp (disch:=try exact dx) only[wpS,wpT,zE,zL,zA,xr,rz,f9,f11,hv.1.idx xJ hi,hv.ld hE.ae hq,bV,aP,dH,iI]
  obtain⟨H0,hH0⟩ : ∃H0,H0=(hh.new (.cells Z16 0 none)).put hh.n (.cells (shC q.1 q.2) 0 none):=⟨_,rfl⟩
  have e0:Ext hh H0:=by rw[hH0];exact((Ext.refl hh).new _).put (Nat.le_refl _) _
  have n0:H0.n=hh.n+1:=by rw[hH0];rfl
  have gx:H0.ext.get hh.n=some (.cells (shC q.1 q.2) 0 none):=by rw[hH0];simp (disch:=try exact dx) only[aa]
  have hnn:=hE.n
  have gs:=e0.kept hn hg5
  have gz:=e0.kept (by omega) hg
  rw[←hH0]
  clear hH0
  have X0:=Ext.refl H0
  obtain⟨_,_,L1⟩:=pl4 gs
  refine drawn [(0,[4])] (by kernel_rfl) (by kernel_rfl) rfl ?_
  simp -dsimp (disch:=try exact dx) only[wpS,wpT,zE,zL,zA,kA,nU,f1,f5,aj gs,aj gx,pJ,aP,dG]
  refine call (lg q.1 q.2 w1 w2) ?_
  rintro r h2 ⟨X2,p2⟩
  have m2:=X2.n
  have p2:=p2.rat (ho q hqm)
  simp -dsimp (disch:=try exact dx) only[wpS,zE]
  have hkb:i*(512+1)+512+1<16000000:=by omega
  refine call (yP (hp.ae (e0.trans X2).ae) p2 (hQ i (by omega)) (Bx w1 w2 (ho q hqm)) hkb) ?_
  rintro r3 h3 ⟨hE3,p3⟩
  have m3:=hE3.n
  have X3:=X2.trans hE3
  have eT:gF ((l.take i).map rOf)+rOf (q.1,q.2)=gF ((l.take (i+1)).map rOf):=by rw[nG hq,List.map_append,List.map_cons,List.map_nil,vj]
  rw[eT] at p3
  obtain⟨a4,s4,b4,t4,rfl,_,_,_,o1,_,o2,o3,o4⟩:=p3.parts
  have k5:=X3.kept (by omega) gs
  have kz:=X3.kept (by omega) gz
  simp -dsimp (disch:=try exact dx) only[wpS,wpT,zE,zL,zA,nK,f5,k5,o1,o2,o3,o4]
  refine⟨ao rfl rfl rfl rfl (aD (H0:=H0) (b:=2*h1.n) (o:=0) f5 (by omega) (by assumption) (by assumption) L1),?_⟩
  simp -dsimp (disch:=try exact dx) only[wpS,wpT,zE,zA,f11]
  refine⟨m - 1,by omega,i+1,a4,s4,b4,t4,by omega,((hE.trans e0).trans X3).put (by omega) _,by simp only[ay];omega,by simp (disch:=try exact dx) only[ah];exact kz,aa _ _ rfl,p3.ae ((aN.refl _).put k5 _),by simp[f1],by simp[f4],by simp[f5],by simp[f9],by simp[f10],by simp⟩
 ·obtain rfl:i=l.length:=by omega
  have hQl:=hQ l.length (Nat.le_refl _)
  rw[List.take_length] at hp hQl
  obtain⟨_,_,_,_,hhe,_,_,_,o1,_,o2,o3,o4⟩:=hp.parts
  cases hhe
  simp -dsimp (disch:=try exact dx) only[wpS,wpT,zE,zL,zA,nK,nU,f4,f5,aj hg5,hg,pJ,o1,o2,o3,o4]
  exact⟨hE.put (Nat.le_refl _) _,hp.ae ((aN.refl _).put hg _),hQl⟩
open Classical in
theorem SQ {h:IH} {v:Value} {l:List (Nat×Nat)} (hv:jt h v l) (hl:l.length≤1000) :
  WV prog (.func (.func 157) #[] #[]) [v] h fun r h'=>Ext h h'∧r=.bool (decide (kj l)):=by
 refine enter (nt:=10) (rs:=[.tmp 2]) Proofs.Tryz.func157 rfl rfl rfl (by simp) ?_
 simp -dsimp (disch:=try exact dx) only[wpS,zE]
 refine call (AE hv xK (fun h1 p _ hp=>Qe (hv.2.2 p hp).1 (hv.2.2 p hp).2)) ?_
 rintro _ h1 ⟨X1,rfl⟩
 by_cases c : ∃p∈l,xK p
 ·rw[decide_eq_true c,decide_eq_false (show ¬kj l from fun⟨h1,_⟩=>by obtain⟨p,hp,hb⟩:=c;exact h1 p hp hb)]
  simp -dsimp (disch:=try exact dx) only[wpS,wpT,zE]
  exact X1
 rw[decide_eq_false c]
 have hno : ∀p∈l,¬xK p:=fun p hp hb=>c ⟨p,hp,hb⟩
 simp -dsimp (disch:=try exact dx) only[wpS,zE]
 refine call (My (hv.ae X1.ae) (fun p hp=>(Dc (hno p hp)).1) hl) ?_
 rintro r2 h2 ⟨X2,p2,q2⟩
 simp -dsimp (disch:=try exact dx) only[wpS]
 refine call (yR 1 ⟨by omega,by omega⟩) ?_
 rintro r3 h3 ⟨X3,p3⟩
 simp -dsimp (disch:=try exact dx) only[wpS,zE]
 refine call (CY (p2.ae X3.ae) p3 q2 (QB.int (k:=64) (by decide)) (by omega)) ?_
 rintro _ h4 ⟨X4,rfl⟩
 have XX:=((X1.trans X2).trans X3).trans X4
 have e1:((1:Int):Rat)=1:=rfl
 rw[e1]
 by_cases c1:gF (l.map rOf)=1
 ·rw[decide_eq_true (show kj l from⟨hno,c1⟩),c1,if_neg (by exact Rat.lt_irrefl),if_pos rfl]
  simp -dsimp (disch:=try exact dx) only[wpS,wpT,zE]
  exact XX
 ·rw[decide_eq_false (show ¬kj l from fun h=>c1 h.2)]
  obtain⟨z,hz,hz0⟩ : ∃z:Int,(if gF (l.map rOf)<1 then (-1:Int) else if gF (l.map rOf)=1 then 0 else 1)=z∧z≠0:=⟨_,rfl,by split<;>simp[]⟩
  rw[hz]
  have d:(z == 0)=false:=by simpa using hz0
  simp -dsimp (disch:=try exact dx) only[wpS,wpT,zE,d]
  exact XX
open Classical in
noncomputable def PE (ll:List (List (Nat×Nat))):Int:=if fk ll then 0 else 330
open Classical in
theorem BR {h:IH} {v:Value} {ll:List (List (Nat×Nat))} (hv:hP h v ll) :
  WV prog (.func (.func 78) #[] #[]) [v] h fun r h'=>Ext h h'∧r=KI (PE ll):=by
 obtain⟨_,_,hlen⟩:=hv.co
 have hlb:=hv.choose_spec.2.1
 unfold PE
 refine enter (nt:=30) (rs:=[.tmp 2]) Proofs.Tryz.func78 rfl rfl rfl (by simp) ?_
 by_cases a1:ll.length<1
 ·rw[if_neg (fun hk=>by have:=hk.1;omega)]
  simp -dsimp (disch:=try exact dx) only[wpS,wpT,zE,hlen]
  exact Ext.refl _
 by_cases a2:60<ll.length
 ·rw[if_neg (fun hk=>by have:=hk.2.1;omega)]
  simp -dsimp (disch:=try exact dx) only[wpS,wpT,zE,hlen]
  exact Ext.refl _
 simp -dsimp (disch:=try exact dx) only[wpS,wpT,zE,hlen]
 refine loop (fun m fr h1 => ∃i:Nat,i+m=ll.length∧Ext h h1∧(∀(j:Nat) x,j<i→ll[j]?=some x→x.length=ll.length∧kj x)∧ai fr 0=some v∧ai fr 13=some v∧ai fr 14=some (KN ll.length)∧ai fr 15=some (KN i)) ll.length
  ⟨0,by omega,Ext.refl _,fun j p hj=>by omega,by simp,by simp,by simp,by simp⟩ ?_
 rintro m fr h1 ⟨i,him,hE,hok,f0,f13,f14,f15⟩
 simp -dsimp (disch:=try exact dx) only[wpS,f14,f15]
 refine aA ?_ ?_<;>intro hc<;>simp only[decide_eq_true_eq,decide_eq_false_iff_not] at hc
 ·have hi:i<ll.length:=by omega
  obtain⟨x,hx⟩ : ∃x,ll[i]?=some x:=⟨_,List.getElem?_eq_getElem hi⟩
  have hxm:=List.mem_of_getElem? hx
  obtain⟨w,l1,l2,l3⟩:=hv.at hE.ae hx
  have lx:=l2.2.1
  by_cases cl:x.length=ll.length
  case neg =>
   rw[if_neg (fun hk=>cl (hk.2.2 x hxm).1)]
   have d:(((x.length:Nat):Int) != ((ll.length:Nat):Int))=true:=by simpa using fun h=>cl (by omega)
   simp -dsimp (disch:=try exact dx) only[wpS,wpT,zE,f0,f13,f15,l1,l3,l2.1.len tP,hlen,d]
   exact hE
  have d:(((x.length:Nat):Int) != ((ll.length:Nat):Int))=false:=by simp[cl]
  simp -dsimp (disch:=try exact dx) only[wpS,wpT,zE,f0,f13,f15,l1,l3,l2.1.len tP,hlen,d]
  refine call (SQ l2 (by omega)) ?_
  rintro _ h2 ⟨X2,rfl⟩
  have E2:=hE.trans X2
  by_cases cr:kj x
  ·rw[decide_eq_true cr]
   simp -dsimp (disch:=try exact dx) only[wpS,wpT,zE,f15]
   refine⟨m - 1,by omega,i+1,by omega,E2,?_,by simp[f0],by simp[f13],by simp[f14],by simp⟩
   intro j q hj hq
   by_cases hji:j=i
   ·subst hji;rw[hx] at hq;cases hq;exact⟨cl,cr⟩
   ·exact hok j q (by omega) hq
  ·rw[decide_eq_false cr,if_neg (fun hk=>cr (hk.2.2 x hxm).2)]
   simp -dsimp (disch:=try exact dx) only[wpS,wpT,zE]
   exact E2
 ·rw[if_pos (show fk ll from⟨by omega,by omega,fun x hx=>by
   obtain⟨j,hj⟩:=List.getElem?_of_mem hx
   exact hok j x (by have:=(List.getElem?_eq_some_iff.1 hj).1;omega) hj⟩)]
  simp -dsimp (disch:=try exact dx) only[wpS,wpT]
  exact hE
end Go.Id

namespace Go.Id
open Go
structure Ut (z:Nat) (h h':IH):Prop where
 n:h.n≤h'.n
 base:h'.base=h.base
 get : ∀k c f,k<h.n→h.ext.get k=some (.cells c z f) → ∃f',h'.ext.get k=some (.cells c z f')
theorem bI.PF {h h':IH} {sz:Nat} {v:Value} {n:Nat} {cs:List Value} (s:bI h sz v n cs) (e:Ut sz h h'):bI h' sz v n cs:=by
 obtain⟨hz,hl,s|⟨b,o,k,rfl,s⟩⟩:=s
 ·exact⟨hz,hl,.inl s⟩
 ·refine⟨hz,hl,.inr ⟨b,o,k,rfl,s.imp id fun⟨a1,a2,row,a3,h1,h2,h3⟩=>?_⟩⟩
  rcases a3 with a3|⟨a4,a5,f,a6⟩
  ·refine⟨a1,a2,row,.inl a3,?_,h2,h3⟩
   rw[←h1];simp[IH.row,a3.1,e.base]
  ·obtain⟨f',h4⟩:=e.get (b / 2) row f (by omega) a6
   refine⟨a1,a2,row,.inr ⟨a4,by have:=e.n;omega,f',h4⟩,?_,h2,h3⟩
   simp only[IH.row,cond_eq_ite,beq_iff_eq]
   rw[if_neg (by omega)]
   simp only[h4]
structure RowB (h:IH) (z k:Nat) (v:Value) (n:Nat) (cs:List Value):Prop where
 form:v=.slice (some ⟨2*k,0,none⟩) n (2*n+1)
 len:cs.length=n*z
 size:0<z
 some_:0<n
 old:k<h.n
 got:h.ext.get k=some (.cells cs z none)
def Yw (R:IH→Value→Rat→Prop) (h:IH) (cs:List Value) (j:Nat) (q:Rat):Prop:=∃a s b t,(cs.drop (j*4)).take 4 = [a,s,b,t]∧R h (.agg #[a,s,b,t]) q
end Go.Id

namespace Go.Id
open Go
end Go.Id

namespace Go.Id
open Go
def Vc (g:Nat→Rat) (i:Nat):Nat→Rat
 | 0=>1
 | j+1=>if j=i then Vc g i j else Vc g i j - g j
end Go.Id

namespace Go.Id
theorem qf (i:Nat):18446744073709551616 ^ i=2 ^ (64*i):=by rw[Nat.pow_mul]
theorem GP {v k j:Nat} (h:64*(j+1)≤k):wrd (v % 2 ^ k) j=wrd v j:=by
 have e:2 ^ k=18446744073709551616 ^ (j+1)*2 ^ (k - 64*(j+1)):=by rw[qf,←Nat.pow_add];congr 1;omega
 rw[wrd,wrd,e]
 have h1:v % (18446744073709551616 ^ (j+1)*2 ^ (k - 64*(j+1))) % 18446744073709551616 ^ (j+1)=v % 18446744073709551616 ^ (j+1):=Nat.mod_mul_right_mod _ _ _
 have h2 : ∀n,n / 18446744073709551616 ^ j % 18446744073709551616=n % 18446744073709551616 ^ (j+1) / 18446744073709551616 ^ j:=fun n=>by
  rw[Nat.pow_succ,Nat.mod_mul_right_div_self]
 rw[h2,h2,h1]
theorem GO {v q r:Nat} (hr:r<64):wrd (v % 2 ^ (64*q+r)) q=wrd v q % 2 ^ r:=by
 have e:2 ^ (64*q+r)=18446744073709551616 ^ q*2 ^ r:=by rw[qf,Nat.pow_add]
 have h1:v % (18446744073709551616 ^ q*2 ^ r) / 18446744073709551616 ^ q=v / 18446744073709551616 ^ q % 2 ^ r:=Nat.mod_mul_right_div_self _ _ _
 rw[wrd,wrd,e,h1]
 have h2:18446744073709551616=2 ^ r*2 ^ (64 - r):=by rw[←Nat.pow_add,show r+(64 - r)=64 by omega]
 have h3:v / 18446744073709551616 ^ q % 2 ^ r<18446744073709551616:=by
  have a:=Nat.mod_lt (v / 18446744073709551616 ^ q) (Nat.two_pow_pos r)
  have b:2 ^ r≤2 ^ 64:=Nat.pow_le_pow_right (by omega) (by omega)
  omega
 rw[Nat.mod_eq_of_lt h3]
 generalize v / 18446744073709551616 ^ q=z
 conv=>rhs;rw[h2]
 rw[Nat.mod_mul_right_mod]
theorem D6 {v q r j:Nat} (hr:r≤64) (hj:q<j):wrd (v % 2 ^ (64*q+r)) j=0:=by
 refine hZ (i:=q+1) ?_ (by omega)
 rw[qf]
 exact Nat.lt_of_lt_of_le (Nat.mod_lt _ (Nat.two_pow_pos _)) (Nat.pow_le_pow_right (by omega) (by omega))
end Go.Id

namespace Go.Id
open Go
open Nat renaming reduceAdd→zA,reduceEqDiff→zE,reduceLeDiff→zL
set_option maxHeartbeats 16000000
theorem Bj {cs:List Value} {i:Nat} {x:Value} (hi:i<cs.length) (j:Nat):(IH.aG cs i [x])[j]?=if j=i then some x else cs[j]?:=by
 simp only[IH.aG]
 by_cases h:j<i
 ·rw[List.getElem?_append_left (by rw[List.length_take];omega),List.getElem?_take,if_pos h,if_neg (by omega)]
 ·rw[List.getElem?_append_right (by rw[List.length_take];omega),List.length_take,Nat.min_eq_left (by omega)]
  by_cases h2:j=i
  ·subst h2;rw[Nat.sub_self,if_pos rfl];rfl
  ·rw[if_neg h2,show j - i=(j - i - 1)+1 by omega]
   simp only[List.singleton_append,List.getElem?_cons_succ,List.length_singleton,List.getElem?_drop]
   congr 1
   omega
theorem RB {v x i:Nat} (hi:i<8) (hv:v<18446744073709551616 ^ i) (hx:x<18446744073709551616):IH.aG (wdC v) i [K64 x]=wdC (v+x*18446744073709551616 ^ i):=by
 have hz:wrd v i=0:=hZ hv (Nat.le_refl _)
 have hv2:v<18446744073709551616 ^ (i+1):=Nat.lt_of_lt_of_le hv (Nat.pow_le_pow_right (by omega) (by omega))
 apply List.ext_getElem?
 intro j
 rw[Bj (by rw[aq];exact hi)]
 by_cases h8:j<8
 ·by_cases hj:j=i
  ·subst hj
   rw[if_pos rfl,cw _ _ h8,sh hv2 (by omega),hz,Nat.zero_add]
  ·rw[if_neg hj,cw _ _ h8,cw _ _ h8]
   by_cases hl:j<i
   ·rw[mE hl]
   ·have h1:wrd v j=0:=hZ hv (by omega)
    have h2:wrd (v+x*18446744073709551616 ^ i) j=0:=hZ (i:=i+1) (Cs hv2 (by omega)) (by omega)
    rw[h1,h2]
 ·rw[if_neg (by omega),List.getElem?_eq_none (by rw[aq];omega),List.getElem?_eq_none (by rw[aq];omega)]
theorem NQ {v q r:Nat} (hq:q<8) (hr:r<64) (hv:v<18446744073709551616 ^ (q+1)):IH.aG (wdC v) q [K64 (wrd v q % 2 ^ r)]=wdC (v % 2 ^ (64*q+r)):=by
 apply List.ext_getElem?
 intro j
 rw[Bj (by rw[aq];exact hq)]
 by_cases h8:j<8
 ·by_cases hj:j=q
  ·subst hj
   rw[if_pos rfl,cw _ _ h8,GO hr]
  ·rw[if_neg hj,cw _ _ h8,cw _ _ h8]
   by_cases hl:j<q
   ·rw[GP (by omega)]
   ·have h1:wrd v j=0:=hZ hv (by omega)
    rw[h1,D6 (by omega) (by omega)]
 ·rw[if_neg (by omega),List.getElem?_eq_none (by rw[aq];omega),List.getElem?_eq_none (by rw[aq];omega)]
theorem MQ (i s:Nat):(cf (i+1) s).1=(cf i s).1+nxO (cf i s).2*18446744073709551616 ^ i:=rfl
theorem Uv {P:Program} {f:FuncId} {a:Value} {h:IH} {K:Value→IH→Prop} (w:WV P (.func (.func f) #[a] #[]) [] h K):WV P (.func (.func f) #[] #[]) [a] h K:=by
 obtain⟨p,⟨N,hN⟩,hk⟩:=w
 refine⟨p,⟨N,fun n hn=>?_⟩,hk⟩
 have:=hN n hn
 cases n with
 | zero=>exact this
 | succ n=>exact this
theorem Pk {h:IH} {k s:Nat} (g:h.ext.get k=some (.cells [K64 s] 0 none)) :
  WV Proofs.Tryz.prog (.func (.func 224) #[] #[]) [ptr (2*k) 0] h fun r h'=>h'=h.put k (.cells [K64 (nxS s)] 0 none)∧r=K64 (nxO s) :=
 Uv (JS g)
theorem KZ {h:IH} {b8 b2 ks k s:Nat} (k0:0<k) (k1:k≤512) (hb8:b8<h.n) (hb2:b2<h.n) (hks:ks<h.n) (d8:b8≠ks) (d2:b2≠ks)
  (g8:h.ext.get b8=some (.cells [KN k] 0 none)) (g2:h.ext.get b2=some (.cells [ptr (2*ks) 0] 0 none)) (gs:h.ext.get ks=some (.cells [K64 s] 0 none)) :
  WV Proofs.Tryz.prog (.func (.func 256) #[] #[ptr (2*b8) 0,ptr (2*b2) 0]) [] h fun r h'=>h.n≤h'.n∧(∀j,j<h.n→j≠ks→h'.ext.get j=h.ext.get j)∧(∀h0,Ext h0 h→h0.n≤ks→Ext h0 h')∧h'.ext.get ks=some (.cells [K64 (cf ((k+63) / 64) s).2] 0 none)∧r=wdV ((cf ((k+63) / 64) s).1 % 2 ^ k):=by
 obtain⟨m,hm⟩ : ∃m,m=(k+63) / 64:=⟨_,rfl⟩
 have em:((k:Int)+63) / 64=(m:Int):=by omega
 rw[←hm]
 obtain⟨H0,hH0⟩ : ∃H,H=(h.new (.cells (wdC 0) 0 none)).new (.cells (wdC 0) 0 none):=⟨_,rfl⟩
 have n0:H0.n=h.n+2:=by rw[hH0];rfl
 have E0:Ext h H0:=by rw[hH0];exact((Ext.refl h).new _).new _
 have c2:H0.ext.get h.n=some (.cells (wdC 0) 0 none):=by rw[hH0];simp (disch:=try exact dx) only[ab,ar]
 have c3:H0.ext.get (h.n+1)=some (.cells (wdC 0) 0 none):=by rw[hH0];simp (disch:=try exact dx) only[ab]
 have z0:([.int .u64 0,.int .u64 0,.int .u64 0,.int .u64 0,.int .u64 0,.int .u64 0,.int .u64 0,.int .u64 0]:List Value)=wdC 0:=by rw[je]
 have q8:=E0.kept hb8 g8
 have q2:=E0.kept hb2 g2
 have qs:=E0.kept hks gs
 refine enter (nt:=32) (rs:=[.cell 2 44]) Proofs.Tryz.func256 rfl rfl rfl (by simp) ?_
 simp -dsimp (disch:=try exact dx) only[wpS,zE,zA,fo,ld3,aj g8,em]
 rw[z0,←hH0]
 clear hH0
 refine loop (fun u fr hh => ∃i:Nat,i+u=m∧H0.n≤hh.n∧(∀j,j<H0.n→j≠ks→j≠h.n+1→hh.ext.get j=H0.ext.get j)∧(∀h0,Ext h0 h→h0.n≤ks→Ext h0 hh)∧hh.ext.get ks=some (.cells [K64 (cf i s).2] 0 none)∧hh.ext.get (h.n+1)=some (.cells (wdC (cf i s).1) 0 none)∧ai fr 0=some (ptr (2*b8) 0)∧ai fr 1=some (ptr (2*b2) 0)∧ai fr 2=some (ptr (2*h.n) 0)∧ai fr 3=some (ptr (2*(h.n+1)) 0)∧ai fr 7=some (KN m)∧ai fr 8=some (KN i)) m
  ⟨0,by omega,Nat.le_refl _,fun j _ _ _=>rfl,fun h0 e _=>e.trans E0,qs,c3,by simp,by simp,by simp,by simp,by simp,by simp⟩ ?_
 rintro u fr hh ⟨i,hiu,hn,hfr,hEx,gk,gw,f0,f1,f2,f3,f7,f8⟩
 simp -dsimp (disch:=try exact dx) only[wpS,f7,f8]
 refine aA ?_ ?_<;>intro hc<;>simp only[decide_eq_true_eq,decide_eq_false_iff_not] at hc
 ·have hi:i<8:=by omega
  have p2:=(hfr b2 (by omega) d2 (by omega)).trans q2
  simp -dsimp (disch:=try exact dx) only[wpS,wpT,zE,WU,yd,f1,f8,aj p2]
  refine call (Pk gk) ?_
  rintro _ _ ⟨rfl,rfl⟩
  have gw2:(hh.put ks (.cells [K64 (nxS (cf i s).2)] 0 none)).ext.get (h.n+1)=some (.cells (wdC (cf i s).1) 0 none):=by rw[ah _ _ (by omega)];exact gw
  have sp:=RB hi (qD i s) (zh (cf i s).2)
  rw[←MQ] at sp
  simp -dsimp (disch:=try exact dx) only[wpS,wpT,zE,zL,ns,nJ,f3,f8,gw2,ns,aq,sp]
  refine⟨u - 1,by omega,i+1,by omega,hn,fun j h1 h2 h3=>?_,fun h0 e hk=>((hEx h0 e hk).put hk _).put (by have:=e.n;omega) _,?_,aa _ _ rfl,by simp[f0],by simp[f1],by simp[f2],by simp[f3],by simp[f7],by simp⟩
  ·rw[ah _ _ h3,ah _ _ h2];exact hfr j h1 h2 h3
  ·rw[ah _ _ (by omega)];exact aa _ _ rfl
 ·have him:i=m:=by omega
  subst him
  have p8:=(hfr b8 (by omega) d8 (by omega)).trans q8
  have p2:=(hfr h.n (by omega) (by omega) (by omega)).trans c2
  have vl:=qD i s
  obtain⟨v,hv⟩ : ∃v,v=(cf i s).1:=⟨_,rfl⟩
  rw[←hv] at gw vl ⊢
  obtain⟨q,hq⟩ : ∃q,q=k / 64:=⟨_,rfl⟩
  obtain⟨r,hr⟩ : ∃r,r=k % 64:=⟨_,rfl⟩
  have eq:(k:Int) / 64=(q:Int):=by omega
  have er:(k:Int) % 64=(r:Int):=by omega
  have ek:k=64*q+r:=by omega
  have fin : ∀h':IH,h'=hh.put h.n (.cells (wdC v) 0 none)→True:=fun _ _=>trivial
  by_cases r0:r=0
  ·have d0:decide ((0:Int)<(r:Int))=false:=decide_eq_false (by omega)
   have hvk:v % 2 ^ k=v:=Nat.mod_eq_of_lt (by
    rw[qf] at vl
    rw[ek,r0,Nat.add_zero]
    have:i=q:=by omega
    rw[←this];exact vl)
   rw[hvk]
   simp -dsimp (disch:=try exact dx) only[wpS,wpT,zE,zL,ld3,bL,dr,f0,f2,f3,aj p8,er,d0,aj gw,p2,aq,aK,aM,qR]
   exact⟨by omega,fun j h1 h2=>by rw[ah _ _ (by omega),hfr j (by omega) h2 (by omega)];exact E0.get j h1,fun h0 e hk=>(hEx h0 e hk).put (by have:=e.n;omega) _,gk,rfl⟩
  ·have d0:decide ((0:Int)<(r:Int))=true:=decide_eq_true (by omega)
   have hi:i=q+1:=by omega
   have hq8:q<8:=by omega
   rw[hi] at vl
   have sp:=NQ hq8 (show r<64 by omega) vl
   rw[←ek] at sp
   have gq:=cw v q hq8
   have wl:=uZ v q
   have t1:=Nat.two_pow_pos r
   have t2:2 ^ r<18446744073709551616:=Nat.lt_of_lt_of_le (Nat.pow_lt_pow_right (by omega) (show r<64 by omega)) (by decide)
   have hand : ∀ox oy,binop Proofs.Tryz.prog .and 42 ox oy (K64 (wrd v q)) (K64 (2 ^ r - 1))=some (K64 (wrd v q % 2 ^ r)):=fun ox oy=>by
    rw[rZ _ _ ox oy _ _ wl (by omega),Nat.and_two_pow_sub_one_eq_mod]
   obtain⟨e2,he2⟩ : ∃e,e=2 ^ r:=⟨_,rfl⟩
   have Z8:((2 ^ r:Nat):Int) - 1=((2 ^ r - 1:Nat):Int):=by rw[←he2] at t1 ⊢;omega
   have YJ:IntKind.u64.wrap (((2 ^ r:Nat):Int) - 1)=((2 ^ r - 1:Nat):Int):=by
    rw[Z8]
    exact di (Nat.lt_of_le_of_lt (Nat.sub_le _ _) t2)
   clear he2
   simp -dsimp (disch:=try exact dx) only[wpS,wpT,zE,zL,ld3,ns,nJ,kB,bL,dr,f0,f2,f3,aj p8,er,eq,d0,gw,aj gw,p2,ns,gq,YJ,hand,sp,aq,aK,aM,qR]
   exact⟨by omega,fun j h1 h2=>by rw[ah _ _ (by omega),ah _ _ (by omega),hfr j (by omega) h2 (by omega)];exact E0.get j h1,fun h0 e hk=>((hEx h0 e hk).put (by have:=e.n;omega) _).put (by have:=e.n;omega) _,gk,rfl⟩
end Go.Id
