/-
  Contracts: package kernel: Check. Contracts: wardmoteref02: Cmp, Div, Max, Min.
-/
import Derived.Test.YtnanhedgenokpaaGreatTemperFlatAt
import Derived.Test.YtnanhedgenokpaaGreatTemperFlatBo
import Derived.Test.YtnanhedgenokpaaGreatTemperFlatBf
import Derived.Test.YtnanhedgenokpaaGreatTemperFlatBe
import Derived.Test.YtnanhedgenokpaaGreatTemperFlatBd
import Derived.Test.YtnanhedgenokpaaGreatTemperFlatAs
set_option linter.unusedVariables false
set_option linter.unusedSimpArgs false
set_option linter.defProp false
set_option linter.deprecated false
namespace Go.Id
open Go
open Go.Proofs.Tryz (prog)
open Nat renaming reduceAdd→zA,reduceEqDiff→zE,reduceLeDiff→zL
set_option maxHeartbeats 16000000
def badS (p:Nat×Nat):Prop:=¬okS p.1 p.2∨wdI p.1<0
def rowOk (l:List (Nat×Nat)):Prop:=(∀p∈l,¬badS p)∧qsum (l.map rOf)=1
def kerOk (ll:List (List (Nat×Nat))):Prop:=1≤ll.length∧ll.length≤60 ∧ ∀l∈ll,l.length=ll.length∧rowOk l
theorem notBad {p:Nat×Nat} (h : ¬badS p):okS p.1 p.2∧0≤wdI p.1:=by
 unfold badS at h
 refine⟨Classical.byContradiction fun hn=>h (.inl hn),?_⟩
 have : ¬wdI p.1<0:=fun hn=>h (.inr hn)
 omega
open Classical in
theorem even1_ok {h:IH} {p:Nat×Nat} (h1:p.1<W8) (h2:p.2<W8) :
  WV prog (.func (.func 182) #[] #[]) [shV p.1 p.2] h fun r h'=>Ext h h'∧r=.bool (decide (badS p)):=by
 have E1:Ext h (h.new (.cells (shC p.1 p.2) 0 none)):=(Ext.refl h).new _
 have g1:(h.new (.cells (shC p.1 p.2) 0 none)).ext.get h.n=some (.cells (shC p.1 p.2) 0 none):=by simp (disch:=try exact dx) only[get_new_same]
 refine enter (nt:=13) (rs:=[.tmp 2]) Proofs.Tryz.func182 rfl rfl rfl (by simp) ?_
 simp -dsimp (disch:=try exact dx) only[wpS,zE,zL,ld32,shV_cells,shC_len,sh_take]
 refine call (shcheck_ok p.1 p.2 h1 h2) ?_
 rintro _ v1 ⟨X1,rfl⟩
 have m1:=X1.n
 simp only[new_n] at m1
 by_cases ok:okS p.1 p.2
 case neg =>
  rw[if_neg ok,decide_eq_true (show badS p from .inl ok)]
  simp -dsimp (disch:=try exact dx) only[wpS,wpT,zE]
  exact E1.trans X1
 rw[if_pos ok]
 simp -dsimp (disch:=try exact dx) only[wpS,wpT,zE,zL,ld32,row_of (X1.kept (by simp) g1),shC_len,sh_take]
 refine call (shread_ok p.1 p.2 h1 h2) ?_
 rintro _ v2 ⟨X2,a,s,b,t,rfl,q1,q2⟩
 simp -dsimp (disch:=try exact dx) only[wpS,wpT,zE,fp139_0]
 refine call (pside_ok q1) ?_
 rintro _ v3 ⟨X3,rfl⟩
 have XX:=((E1.trans X1).trans X2).trans X3
 by_cases c:wdI p.1<0
 ·rw[if_pos c,decide_eq_true (show badS p from .inr c)]
  simp -dsimp (disch:=try exact dx) only[wpS,wpT,zE]
  exact XX
 ·rw[if_neg c,decide_eq_false (show ¬badS p from fun h=>h.elim (fun h=>h ok) c)]
  obtain⟨z,hz,hz0⟩ : ∃z:Int,(if wdI p.1=0 then (0:Int) else 1)=z∧0≤z:=⟨_,rfl,by split<;>omega⟩
  rw[hz]
  simp -dsimp (disch:=try exact dx) only[wpS,wpT,zE]
  exact XX
open Classical in
theorem shcontains_ok {h:IH} {v F:Value} {l:List (Nat×Nat)} (hv:ShSl h v l) (B:Nat×Nat→Prop) (hF : ∀h1 p,Ext h h1→p∈l→WV prog F [shV p.1 p.2] h1 fun r h2=>Ext h1 h2∧r=.bool (decide (B p))) :
  WV prog (.func (.func 181) #[] #[]) [v,F] h fun r h'=>Ext h h'∧r=.bool (decide (∃p∈l,B p)):=by
 have hlb:=hv.2.1
 have hidx:WV prog (.func (.func 244) #[] #[]) [v,F] h fun r h'=>Ext h h' ∧ ∃c:Int,r=KI c∧(0≤c ↔ ∃p∈l,B p):=by
  refine enter (nt:=19) (rs:=[.tmp 4]) Proofs.Tryz.func244 rfl rfl rfl (by simp) ?_
  simp -dsimp (disch:=try exact dx) only[wpS,zE,zA,hv.1.len sl60]
  refine loop (fun m fr h1 => ∃i:Nat,i+m=l.length∧Ext h h1∧(∀(j:Nat) p,j<i→l[j]?=some p → ¬B p)∧fget fr 0=some v∧fget fr 1=some F∧fget fr 7=some (KN l.length)∧fget fr 8=some (KN i)) l.length
   ⟨0,by omega,Ext.refl _,fun j p hj=>by omega,by simp,by simp,by simp,by simp⟩ ?_
  rintro m fr h1 ⟨i,him,hE,hno,f0,f1,f7,f8⟩
  simp -dsimp (disch:=try exact dx) only[wpS,f7,f8]
  refine bq_intro ?_ ?_<;>intro hc<;>simp only[decide_eq_true_eq,decide_eq_false_iff_not] at hc
  ·have hi:i<l.length:=by omega
   obtain⟨p,hp⟩ : ∃p,l[i]?=some p:=⟨_,List.getElem?_eq_getElem hi⟩
   have hpm:=List.mem_of_getElem? hp
   simp -dsimp (disch:=try exact dx) only[wpS,wpT,zE,f0,f1,f8,hv.1.idx es60 hi,hv.ld hE.keep hp]
   refine call (hF h1 p hE hpm) ?_
   rintro _ h2 ⟨hE2,rfl⟩
   have E2:=hE.trans hE2
   by_cases hk:B p
   ·rw[decide_eq_true hk]
    simp -dsimp (disch:=try exact dx) only[wpS,zE]
    exact⟨E2,(i:Int),rfl,fun _=>⟨p,hpm,hk⟩,fun _=>by omega⟩
   ·rw[decide_eq_false hk]
    simp -dsimp (disch:=try exact dx) only[wpS,zE,f8]
    refine⟨m - 1,by omega,i+1,by omega,E2,?_,by simp[f0],by simp[f1],by simp[f7],by simp⟩
    intro j q hj hq
    by_cases hji:j=i
    ·subst hji;rw[hp] at hq;cases hq;exact hk
    ·exact hno j q (by omega) hq
  ·simp -dsimp (disch:=try exact dx) only[wpS,wpT]
   refine⟨hE,-1,rfl,fun h=>by omega,fun⟨p,hp,hb⟩=>?_⟩
   obtain⟨j,hj⟩:=List.getElem?_of_mem hp
   have:=(List.getElem?_eq_some_iff.1 hj).1
   exact absurd hb (hno j p (by omega) hj)
 refine enter (nt:=9) (rs:=[.tmp 4]) Proofs.Tryz.func181 rfl rfl rfl (by simp) ?_
 simp -dsimp (disch:=try exact dx) only[wpS,zE,zA]
 refine call hidx ?_
 rintro _ h1 ⟨hE,c,rfl,hc⟩
 simp -dsimp (disch:=try exact dx) only[wpS,zE]
 exact⟨hE,by rw[decide_eq_decide.2 hc]⟩
theorem ktotal_ok {h:IH} {v:Value} {l:List (Nat×Nat)} (hv:ShSl h v l) (ho : ∀p∈l,okS p.1 p.2) (hl:l.length≤1000) :
  WV prog (.func (.func 183) #[] #[]) [v,(.func (.func 92) #[] #[])] h fun r h'=>Ext h h'∧PRat h' r (qsum (l.map rOf))∧QB (l.length*(512+1)) (qsum (l.map rOf)):=by
 have hq0 : ∀q∈l.map rOf,QB 512 q:=by
  intro q hq
  obtain⟨p,hp,rfl⟩:=List.mem_map.1 hq
  exact qb512 (hv.2.2 p hp).1 (hv.2.2 p hp).2 (ho p hp)
 have hQ : ∀i,i≤l.length→QB (i*(512+1)) (qsum ((l.take i).map rOf)):=by
  intro i hi
  have:=QB.qsum (k:=512) hq0 i (by simpa using hi)
  rwa [←List.map_take] at this
 refine enter (nt:=22) (rs:=[.cell 4 139]) Proofs.Tryz.func183 rfl rfl rfl (by simp) ?_
 simp -dsimp (disch:=try exact dx) only[wpS,zA,zc139]
 have E1:Ext h (h.new (.cells ZR 0 none)):=(Ext.refl h).new _
 have g1:(h.new (.cells ZR 0 none)).ext.get h.n=some (.cells ZR 0 none):=by simp (disch:=try exact dx) only[get_new_same]
 refine call (rfrom_ok 0 ⟨by omega,by omega⟩) ?_
 rintro z h1 ⟨X1,p1⟩
 have m1:=X1.n
 simp only[new_n] at m1
 obtain⟨a3,s3,b3,t3,rfl,_,_,d1,o1,d2,o2,o3,o4⟩:=p1.parts
 have kg:=X1.kept (by simp) g1
 simp -dsimp (disch:=try exact dx) only[wpS,wpT,zE,zL,zA,zc139,st139,o1,o2,o3,o4,hv.1.len sl60]
 have Ex2:Ext h1 ((h1.new (.cells ZR 0 none)).put h1.n (.cells [a3,s3,b3,t3] 0 none)):=((Ext.refl h1).new _).put (Nat.le_refl _) _
 refine loop (fun m fr hh => ∃(i:Nat) (a s b t:Value),i+m=l.length∧Ext h hh∧h1.n<hh.n∧hh.ext.get h.n=some (.cells ZR 0 none)∧hh.ext.get h1.n=some (.cells [a,s,b,t] 0 none)∧PRat hh (.agg #[a,s,b,t]) (qsum ((l.take i).map rOf)) ∧
   fget fr 1=some (.func (.func 92) #[] #[])∧fget fr 4=some (ptr (2*h.n) 0)∧fget fr 5=some (ptr (2*h1.n) 0)∧fget fr 9=some v∧fget fr 10=some (KN l.length)∧fget fr 11=some (KN i)) l.length
  ⟨0,a3,s3,b3,t3,by omega,(E1.trans X1).trans Ex2,by simp,by simp (disch:=try exact dx) only[get_new_old,get_put_old];exact kg,by simp (disch:=try exact dx) only[get_put_same],p1.keep Ex2.keep,by simp,by simp,by simp,by simp,by simp,by simp⟩ ?_
 clear p1 kg Ex2
 rintro m fr hh ⟨i,a,s,b,t,him,hE,hn,hg,hg5,hp,f1,f4,f5,f9,f10,f11⟩
 simp -dsimp (disch:=try exact dx) only[wpS,zA,f10,f11]
 refine bq_intro ?_ ?_<;>intro hc<;>simp only[decide_eq_true_eq,decide_eq_false_iff_not] at hc
 ·have hi:i<l.length:=by omega
  obtain⟨q,hq⟩ : ∃q,l[i]?=some q:=⟨_,List.getElem?_eq_getElem hi⟩
  have hqm:=List.mem_of_getElem? hq
  obtain⟨w1,w2⟩:=hv.2.2 q hqm
  simp -dsimp (disch:=try exact dx) only[wpS,wpT,zE,zL,zA,zc32,st32,f9,f11,hv.1.idx es60 hi,hv.ld hE.keep hq,shV_cells,shC_len,shC_all,sh_sp3]
  obtain⟨H0,hH0⟩ : ∃H0,H0=(hh.new (.cells Z16 0 none)).put hh.n (.cells (shC q.1 q.2) 0 none):=⟨_,rfl⟩
  have e0:Ext hh H0:=by rw[hH0];exact((Ext.refl hh).new _).put (Nat.le_refl _) _
  have n0:H0.n=hh.n+1:=by rw[hH0];rfl
  have gx:H0.ext.get hh.n=some (.cells (shC q.1 q.2) 0 none):=by rw[hH0];simp (disch:=try exact dx) only[get_put_same]
  have hnn:=hE.n
  have gs:=e0.kept hn hg5
  have gz:=e0.kept (by omega) hg
  rw[←hH0]
  clear hH0
  have X0:=Ext.refl H0
  obtain⟨_,_,L1⟩:=pl4 gs
  refine drawn [(0,[4])] (by kernel_rfl) (by kernel_rfl) rfl ?_
  simp -dsimp (disch:=try exact dx) only[wpS,wpT,zE,zL,zA,ld32,ld139,f1,f5,row_of gs,row_of gx,tk4',shC_len,sh_take]
  refine call (shread_ok q.1 q.2 w1 w2) ?_
  rintro r h2 ⟨X2,p2⟩
  have m2:=X2.n
  have p2:=p2.rat (ho q hqm)
  simp -dsimp (disch:=try exact dx) only[wpS,zE]
  have hkb:i*(512+1)+512+1<16000000:=by omega
  refine call (rplus_ok (hp.keep (e0.trans X2).keep) p2 (hQ i (by omega)) (qb512 w1 w2 (ho q hqm)) hkb) ?_
  rintro r3 h3 ⟨hE3,p3⟩
  have m3:=hE3.n
  have X3:=X2.trans hE3
  have eT:qsum ((l.take i).map rOf)+rOf (q.1,q.2)=qsum ((l.take (i+1)).map rOf):=by rw[take_snoc hq,List.map_append,List.map_cons,List.map_nil,qsum_snoc]
  rw[eT] at p3
  obtain⟨a4,s4,b4,t4,rfl,_,_,_,o1,_,o2,o3,o4⟩:=p3.parts
  have k5:=X3.kept (by omega) gs
  have kz:=X3.kept (by omega) gz
  simp -dsimp (disch:=try exact dx) only[wpS,wpT,zE,zL,zA,st139,f5,k5,o1,o2,o3,o4]
  refine⟨wpSteady_one rfl rfl rfl rfl (steady_ext (H0:=H0) (b:=2*h1.n) (o:=0) f5 (by omega) (by assumption) (by assumption) L1),?_⟩
  simp -dsimp (disch:=try exact dx) only[wpS,wpT,zE,zA,f11]
  refine⟨m - 1,by omega,i+1,a4,s4,b4,t4,by omega,((hE.trans e0).trans X3).put (by omega) _,by simp only[put_n];omega,by simp (disch:=try exact dx) only[get_put_old];exact kz,get_put_same _ _ rfl,p3.keep ((Keep.refl _).put k5 _),by simp[f1],by simp[f4],by simp[f5],by simp[f9],by simp[f10],by simp⟩
 ·obtain rfl:i=l.length:=by omega
  have hQl:=hQ l.length (Nat.le_refl _)
  rw[List.take_length] at hp hQl
  obtain⟨_,_,_,_,hhe,_,_,_,o1,_,o2,o3,o4⟩:=hp.parts
  cases hhe
  simp -dsimp (disch:=try exact dx) only[wpS,wpT,zE,zL,zA,st139,ld139,f4,f5,row_of hg5,hg,tk4',o1,o2,o3,o4]
  exact⟨hE.put (Nat.le_refl _) _,hp.keep ((Keep.refl _).put hg _),hQl⟩
open Classical in
theorem even_ok {h:IH} {v:Value} {l:List (Nat×Nat)} (hv:ShSl h v l) (hl:l.length≤1000) :
  WV prog (.func (.func 103) #[] #[]) [v] h fun r h'=>Ext h h'∧r=.bool (decide (rowOk l)):=by
 refine enter (nt:=10) (rs:=[.tmp 2]) Proofs.Tryz.func103 rfl rfl rfl (by simp) ?_
 simp -dsimp (disch:=try exact dx) only[wpS,zE]
 refine call (shcontains_ok hv badS (fun h1 p _ hp=>even1_ok (hv.2.2 p hp).1 (hv.2.2 p hp).2)) ?_
 rintro _ h1 ⟨X1,rfl⟩
 by_cases c : ∃p∈l,badS p
 ·rw[decide_eq_true c,decide_eq_false (show ¬rowOk l from fun⟨h1,_⟩=>by obtain⟨p,hp,hb⟩:=c;exact h1 p hp hb)]
  simp -dsimp (disch:=try exact dx) only[wpS,wpT,zE]
  exact X1
 rw[decide_eq_false c]
 have hno : ∀p∈l,¬badS p:=fun p hp hb=>c ⟨p,hp,hb⟩
 simp -dsimp (disch:=try exact dx) only[wpS,zE]
 refine call (ktotal_ok (hv.keep X1.keep) (fun p hp=>(notBad (hno p hp)).1) hl) ?_
 rintro r2 h2 ⟨X2,p2,q2⟩
 simp -dsimp (disch:=try exact dx) only[wpS]
 refine call (rfrom_ok 1 ⟨by omega,by omega⟩) ?_
 rintro r3 h3 ⟨X3,p3⟩
 simp -dsimp (disch:=try exact dx) only[wpS,zE]
 refine call (rcmp_ok (p2.keep X3.keep) p3 q2 (QB.int (k:=64) (by decide)) (by omega)) ?_
 rintro _ h4 ⟨X4,rfl⟩
 have XX:=((X1.trans X2).trans X3).trans X4
 have e1:((1:Int):Rat)=1:=rfl
 rw[e1]
 by_cases c1:qsum (l.map rOf)=1
 ·rw[decide_eq_true (show rowOk l from⟨hno,c1⟩),c1,if_neg (by exact Rat.lt_irrefl),if_pos rfl]
  simp -dsimp (disch:=try exact dx) only[wpS,wpT,zE]
  exact XX
 ·rw[decide_eq_false (show ¬rowOk l from fun h=>c1 h.2)]
  obtain⟨z,hz,hz0⟩ : ∃z:Int,(if qsum (l.map rOf)<1 then (-1:Int) else if qsum (l.map rOf)=1 then 0 else 1)=z∧z≠0:=⟨_,rfl,by split<;>simp[]⟩
  rw[hz]
  have d:(z == 0)=false:=by simpa using hz0
  simp -dsimp (disch:=try exact dx) only[wpS,wpT,zE,d]
  exact XX
open Classical in
noncomputable def kerE (ll:List (List (Nat×Nat))):Int:=if kerOk ll then 0 else 330
open Classical in
theorem kcheck_ok {h:IH} {v:Value} {ll:List (List (Nat×Nat))} (hv:ShLs h v ll) :
  WV prog (.func (.func 31) #[] #[]) [v] h fun r h'=>Ext h h'∧r=KI (kerE ll):=by
 obtain⟨_,_,hlen⟩:=hv.co
 have hlb:=hv.choose_spec.2.1
 unfold kerE
 refine enter (nt:=30) (rs:=[.tmp 2]) Proofs.Tryz.func31 rfl rfl rfl (by simp) ?_
 by_cases a1:ll.length<1
 ·rw[if_neg (fun hk=>by have:=hk.1;omega)]
  simp -dsimp (disch:=try exact dx) only[wpS,wpT,zE,hlen]
  exact Ext.refl _
 by_cases a2:60<ll.length
 ·rw[if_neg (fun hk=>by have:=hk.2.1;omega)]
  simp -dsimp (disch:=try exact dx) only[wpS,wpT,zE,hlen]
  exact Ext.refl _
 simp -dsimp (disch:=try exact dx) only[wpS,wpT,zE,hlen]
 refine loop (fun m fr h1 => ∃i:Nat,i+m=ll.length∧Ext h h1∧(∀(j:Nat) x,j<i→ll[j]?=some x→x.length=ll.length∧rowOk x)∧fget fr 0=some v∧fget fr 13=some v∧fget fr 14=some (KN ll.length)∧fget fr 15=some (KN i)) ll.length
  ⟨0,by omega,Ext.refl _,fun j p hj=>by omega,by simp,by simp,by simp,by simp⟩ ?_
 rintro m fr h1 ⟨i,him,hE,hok,f0,f13,f14,f15⟩
 simp -dsimp (disch:=try exact dx) only[wpS,f14,f15]
 refine bq_intro ?_ ?_<;>intro hc<;>simp only[decide_eq_true_eq,decide_eq_false_iff_not] at hc
 ·have hi:i<ll.length:=by omega
  obtain⟨x,hx⟩ : ∃x,ll[i]?=some x:=⟨_,List.getElem?_eq_getElem hi⟩
  have hxm:=List.mem_of_getElem? hx
  obtain⟨w,l1,l2,l3⟩:=hv.at hE.keep hx
  have lx:=l2.2.1
  by_cases cl:x.length=ll.length
  case neg =>
   rw[if_neg (fun hk=>cl (hk.2.2 x hxm).1)]
   have d:(((x.length:Nat):Int) != ((ll.length:Nat):Int))=true:=by simpa using fun h=>cl (by omega)
   simp -dsimp (disch:=try exact dx) only[wpS,wpT,zE,f0,f13,f15,l1,l3,l2.1.len sl60,hlen,d]
   exact hE
  have d:(((x.length:Nat):Int) != ((ll.length:Nat):Int))=false:=by simp[cl]
  simp -dsimp (disch:=try exact dx) only[wpS,wpT,zE,f0,f13,f15,l1,l3,l2.1.len sl60,hlen,d]
  refine call (even_ok l2 (by omega)) ?_
  rintro _ h2 ⟨X2,rfl⟩
  have E2:=hE.trans X2
  by_cases cr:rowOk x
  ·rw[decide_eq_true cr]
   simp -dsimp (disch:=try exact dx) only[wpS,wpT,zE,f15]
   refine⟨m - 1,by omega,i+1,by omega,E2,?_,by simp[f0],by simp[f13],by simp[f14],by simp⟩
   intro j q hj hq
   by_cases hji:j=i
   ·subst hji;rw[hx] at hq;cases hq;exact⟨cl,cr⟩
   ·exact hok j q (by omega) hq
  ·rw[decide_eq_false cr,if_neg (fun hk=>cr (hk.2.2 x hxm).2)]
   simp -dsimp (disch:=try exact dx) only[wpS,wpT,zE]
   exact E2
 ·rw[if_pos (show kerOk ll from⟨by omega,by omega,fun x hx=>by
   obtain⟨j,hj⟩:=List.getElem?_of_mem hx
   exact hok j x (by have:=(List.getElem?_eq_some_iff.1 hj).1;omega) hj⟩)]
  simp -dsimp (disch:=try exact dx) only[wpS,wpT]
  exact hE
end Go.Id

namespace Go.Id
open Go
end Go.Id

namespace Go.Id
open Go
end Go.Id

namespace Go.Id
open Go
theorem Acc.setN {h:IH} {n0 sz:Nat} {v:Value} {n:Nat} {cs:List Value} (a:Acc h n0 sz v n cs) {P:Program} {t:TypeId} (hT:sizeT P t=some sz) {i:Nat} (hi:i<n) {x:Value} {xs:List Value} (hx:x.cells.toList=xs) (hxl:xs.length=sz) (hc:xs.all cellOK=true) {h0':IH} (e0:Ext h0' h) (hn0:h0'.n≤n0) :
  ∃h',store P h t (elemAddr v (i*sz)) x=some h'∧Acc h' n0 sz v n (IH.splice cs (i*sz) xs)∧Ext h0' h'∧h'.n=h.n:=by
 obtain⟨hz,hl,⟨rfl,rfl⟩|⟨k,fam,rfl,hn,h1,h2,h3,h4⟩⟩:=a
 ·omega
 ·have hle:i*sz+sz≤cs.length:=by
   rw[hl,←Nat.succ_mul];exact Nat.mul_le_mul_right _ hi
  have hsl:(IH.splice cs (i*sz) xs).length=n*sz:=by
   simp only[IH.splice,List.length_append,List.length_take,List.length_drop]
   omega
  have k2:2*k / 2=k:=by omega
  have k1:(2*k % 2 == 1)=false:=by simp
  have hsx:x.cells.size=sz:=by rw[←Array.length_toList,hx,hxl]
  have hst:store P h t (elemAddr (.slice (some ⟨2*k,0,none⟩) n (2*n)) (i*sz)) x=h.wr (2*k) (i*sz) xs:=by
   simp only[elemAddr,Nat.zero_add,store,asAddr,ptr,hT,hx,hsx,hc,beq_self_eq_true,Bool.and_self,cond_true]
  have hle:Nat.ble (i*sz+xs.length) cs.length=true:=by rw[Nat.ble_eq,hxl];exact hle
  rw[hst]
  cases fam with
  | none =>
   refine⟨h.put k (.cells (IH.splice cs (i*sz) xs) sz none),?_,⟨hz,hsl,.inr ⟨k,none,rfl,hn,h1,h2,get_put_same _ _ rfl,trivial⟩⟩,e0.put (by omega) _,rfl⟩
   ·simp only[IH.wr,k1,k2,h3,hle,cond_true,cond_false];rfl
  | some f =>
   obtain⟨a1,a2,rest,a3,a4⟩:=h4
   refine⟨{ h with ext:=(IH.killAll h.ext (((k :: rest).filter (· != k)))).set k (.cells (IH.splice cs (i*sz) xs) sz none) },?_,⟨hz,hsl,.inr ⟨k,none,rfl,hn,h1,h2,?_,trivial⟩⟩,⟨e0.n,e0.base,fun j hj=>?_,e0.fams⟩,rfl⟩
   ·simp only[IH.wr,k1,k2,h3,hle,cond_true,cond_false,a3]
   ·simp[Tr.get_set]
   ·have hjk:j≠k:=by omega
    rw[Tr.get_set,if_neg hjk,get_killAll,if_neg]
    ·exact e0.get j hj
    ·intro hm
     simp only[List.mem_filter,List.mem_cons,bne_iff_ne,ne_eq] at hm
     rcases hm with⟨rfl|hm,hne⟩
     ·exact hne rfl
     ·have:=a4 j hm;omega
end Go.Id
