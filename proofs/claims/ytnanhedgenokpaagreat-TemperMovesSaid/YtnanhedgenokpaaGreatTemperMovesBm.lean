/-
  Contracts: package diagnose: what is wrong with several chains. Contracts: package kernel: Check.
-/
import Derived.Test.YtnanhedgenokpaaGreatTemperMovesBe
import Derived.Test.YtnanhedgenokpaaGreatTemperMovesAt
import Derived.Test.YtnanhedgenokpaaGreatTemperMovesBg
import Derived.Test.YtnanhedgenokpaaGreatTemperMovesBf
import Derived.Test.YtnanhedgenokpaaGreatTemperMovesAs
set_option linter.unusedVariables false
set_option linter.unusedSimpArgs false
set_option linter.defProp false
set_option linter.deprecated false
namespace Go.Id
open Go
def je (h:IH) (v:Value) (ll:List (List (Nat×Nat))):Prop:=∃vs:List Value,bI h 1 v ll.length vs∧ll.length<1152921504606846976 ∧ ∀(i:Nat) (x:List (Nat×Nat)),ll[i]?=some x → ∃w,vs[i]?=some w∧iM h w x
theorem je.ab {h h':IH} {v:Value} {ll:List (List (Nat×Nat))} (s:je h v ll) (e:aF h h'):je h' v ll:=by
 obtain⟨vs,a,b,c⟩:=s
 refine⟨vs,a.ab e,b,fun i x hx=>?_⟩
 obtain⟨w,h1,h2⟩:=c i x hx
 exact⟨w,h1,h2.ab e⟩
theorem je.at {h h':IH} {v:Value} {ll:List (List (Nat×Nat))} (s:je h v ll) (e:aF h h') {i:Nat} {x:List (Nat×Nat)} (hx:ll[i]?=some x) :
  ∃w,load Proofs.Tryz.prog h' 60 (aK v i)=some w∧iM h' w x ∧ ∀k:IntKind,indexAddr Proofs.Tryz.prog 38 v (.int k (i:Int))=some (aK v i):=by
 obtain⟨vs,a,b,c⟩:=s
 obtain⟨w,h1,h2⟩:=c i x hx
 have hi:=(List.getElem?_eq_some_iff.1 hx).1
 refine⟨w,?_,h2.ab e,fun k=>by rw[a.idx SO hi,Nat.mul_one]⟩
 rw[a.ld e (by rw[a.2.1];omega) Tq]
 exact h1
theorem je.co {h:IH} {v:Value} {ll:List (List (Nat×Nat))} (s:je h v ll):v.cells = #[v]∧aG v=true ∧ ∀h',nT Proofs.Tryz.prog h' 38 v=some (.int .i64 ll.length):=by
 obtain⟨vs,a,_⟩:=s
 exact⟨a.cells,a.cok,fun h'=>a.len Rw h'⟩
theorem iM.co {h:IH} {v:Value} {l:List (Nat×Nat)} (s:iM h v l):v.cells = #[v]∧aG v=true:=⟨s.1.cells,s.1.cok⟩
end Go.Id

namespace Go.Id
open Go
open Go.Proofs.Tryz (prog)
open Nat renaming reduceAdd→zA,reduceEqDiff→zE,reduceLeDiff→zL
set_option maxHeartbeats 16000000
def ti (p:Nat×Nat):Prop:=¬okS p.1 p.2∨wdI p.1<0
def gJ (l:List (Nat×Nat)):Prop:=(∀p∈l,¬ti p)∧fJ (l.map rOf)=1
def fL (ll:List (List (Nat×Nat))):Prop:=1≤ll.length∧ll.length≤60 ∧ ∀l∈ll,l.length=ll.length∧gJ l
theorem oJ {p:Nat×Nat} (h : ¬ti p):okS p.1 p.2∧0≤wdI p.1:=by
 unfold ti at h
 refine⟨Classical.byContradiction fun hn=>h (.inl hn),?_⟩
 have : ¬wdI p.1<0:=fun hn=>h (.inr hn)
 omega
open Classical in
theorem LD {h:IH} {p:Nat×Nat} (h1:p.1<W8) (h2:p.2<W8) :
  WV prog (.func (.func 182) #[] #[]) [shV p.1 p.2] h fun r h'=>Ext h h'∧r=.bool (decide (ti p)):=by
 have E1:Ext h (h.new (.cells (shC p.1 p.2) 0 none)):=(Ext.refl h).new _
 have g1:(h.new (.cells (shC p.1 p.2) 0 none)).ext.get h.n=some (.cells (shC p.1 p.2) 0 none):=by simp (disch:=try exact dx) only[aa]
 refine enter (nt:=13) (rs:=[.tmp 2]) Proofs.Tryz.func182 rfl rfl rfl (by simp) ?_
 simp -dsimp (disch:=try exact dx) only[wpS,zE,zL,fE,aV,aH,bN]
 refine call (qG p.1 p.2 h1 h2) ?_
 rintro _ v1 ⟨X1,rfl⟩
 have m1:=X1.n
 simp only[al] at m1
 by_cases ok:okS p.1 p.2
 case neg =>
  rw[if_neg ok,decide_eq_true (show ti p from .inl ok)]
  simp -dsimp (disch:=try exact dx) only[wpS,wpT,zE]
  exact E1.trans X1
 rw[if_pos ok]
 simp -dsimp (disch:=try exact dx) only[wpS,wpT,zE,zL,fE,ai (X1.kept (by simp) g1),aH,bN]
 refine call (jt p.1 p.2 h1 h2) ?_
 rintro _ v2 ⟨X2,a,s,b,t,rfl,q1,q2⟩
 simp -dsimp (disch:=try exact dx) only[wpS,wpT,zE,Oe]
 refine call (rV q1) ?_
 rintro _ v3 ⟨X3,rfl⟩
 have XX:=((E1.trans X1).trans X2).trans X3
 by_cases c:wdI p.1<0
 ·rw[if_pos c,decide_eq_true (show ti p from .inr c)]
  simp -dsimp (disch:=try exact dx) only[wpS,wpT,zE]
  exact XX
 ·rw[if_neg c,decide_eq_false (show ¬ti p from fun h=>h.elim (fun h=>h ok) c)]
  obtain⟨z,hz,hz0⟩ : ∃z:Int,(if wdI p.1=0 then (0:Int) else 1)=z∧0≤z:=⟨_,rfl,by split<;>omega⟩
  rw[hz]
  simp -dsimp (disch:=try exact dx) only[wpS,wpT,zE]
  exact XX
open Classical in
theorem yE {h:IH} {v F:Value} {l:List (Nat×Nat)} (hv:iM h v l) (B:Nat×Nat→Prop) (hF : ∀h1 p,Ext h h1→p∈l→WV prog F [shV p.1 p.2] h1 fun r h2=>Ext h1 h2∧r=.bool (decide (B p))) :
  WV prog (.func (.func 181) #[] #[]) [v,F] h fun r h'=>Ext h h'∧r=.bool (decide (∃p∈l,B p)):=by
 have hlb:=hv.2.1
 have Qu:WV prog (.func (.func 244) #[] #[]) [v,F] h fun r h'=>Ext h h' ∧ ∃c:Int,r=KI c∧(0≤c ↔ ∃p∈l,B p):=by
  refine enter (nt:=19) (rs:=[.tmp 4]) Proofs.Tryz.func244 rfl rfl rfl (by simp) ?_
  simp -dsimp (disch:=try exact dx) only[wpS,zE,zA,hv.1.len rJ]
  refine loop (fun m fr h1 => ∃i:Nat,i+m=l.length∧Ext h h1∧(∀(j:Nat) p,j<i→l[j]?=some p → ¬B p)∧ah fr 0=some v∧ah fr 1=some F∧ah fr 7=some (KN l.length)∧ah fr 8=some (KN i)) l.length
   ⟨0,by omega,Ext.refl _,fun j p hj=>by omega,by simp,by simp,by simp,by simp⟩ ?_
  rintro m fr h1 ⟨i,him,hE,hno,f0,f1,f7,f8⟩
  simp -dsimp (disch:=try exact dx) only[wpS,f7,f8]
  refine ax ?_ ?_<;>intro hc<;>simp only[decide_eq_true_eq,decide_eq_false_iff_not] at hc
  ·have hi:i<l.length:=by omega
   obtain⟨p,hp⟩ : ∃p,l[i]?=some p:=⟨_,List.getElem?_eq_getElem hi⟩
   have hpm:=List.mem_of_getElem? hp
   simp -dsimp (disch:=try exact dx) only[wpS,wpT,zE,f0,f1,f8,hv.1.idx sK hi,hv.ld hE.ab hp]
   refine call (hF h1 p hE hpm) ?_
   rintro _ h2 ⟨hE2,rfl⟩
   have E2:=hE.trans hE2
   by_cases hk:B p
   ·rw[decide_eq_true hk]
    simp -dsimp (disch:=try exact dx) only[wpS,zE]
    exact⟨E2,(i:Int),rfl,fun _=>⟨p,hpm,hk⟩,fun _=>by omega⟩
   ·rw[decide_eq_false hk]
    simp -dsimp (disch:=try exact dx) only[wpS,zE,f8]
    refine⟨m - 1,by omega,i+1,by omega,E2,?_,by simp[f0],by simp[f1],by simp[f7],by simp⟩
    intro j q hj hq
    by_cases hji:j=i
    ·subst hji;rw[hp] at hq;cases hq;exact hk
    ·exact hno j q (by omega) hq
  ·simp -dsimp (disch:=try exact dx) only[wpS,wpT]
   refine⟨hE,-1,rfl,fun h=>by omega,fun⟨p,hp,hb⟩=>?_⟩
   obtain⟨j,hj⟩:=List.getElem?_of_mem hp
   have:=(List.getElem?_eq_some_iff.1 hj).1
   exact absurd hb (hno j p (by omega) hj)
 refine enter (nt:=9) (rs:=[.tmp 4]) Proofs.Tryz.func181 rfl rfl rfl (by simp) ?_
 simp -dsimp (disch:=try exact dx) only[wpS,zE,zA]
 refine call Qu ?_
 rintro _ h1 ⟨hE,c,rfl,hc⟩
 simp -dsimp (disch:=try exact dx) only[wpS,zE]
 exact⟨hE,by rw[decide_eq_decide.2 hc]⟩
theorem II {h:IH} {v:Value} {l:List (Nat×Nat)} (hv:iM h v l) (ho : ∀p∈l,okS p.1 p.2) (hl:l.length≤1000) :
  WV prog (.func (.func 183) #[] #[]) [v,(.func (.func 92) #[] #[])] h fun r h'=>Ext h h'∧dU h' r (fJ (l.map rOf))∧QB (l.length*(512+1)) (fJ (l.map rOf)):=by
 have hq0 : ∀q∈l.map rOf,QB 512 q:=by
  intro q hq
  obtain⟨p,hp,rfl⟩:=List.mem_map.1 hq
  exact uv (hv.2.2 p hp).1 (hv.2.2 p hp).2 (ho p hp)
 have hQ : ∀i,i≤l.length→QB (i*(512+1)) (fJ ((l.take i).map rOf)):=by
  intro i hi
  have:=QB.fJ (k:=512) hq0 i (by simpa using hi)
  rwa [←List.map_take] at this
 refine enter (nt:=22) (rs:=[.cell 4 139]) Proofs.Tryz.func183 rfl rfl rfl (by simp) ?_
 simp -dsimp (disch:=try exact dx) only[wpS,zA,jQ]
 have E1:Ext h (h.new (.cells ZR 0 none)):=(Ext.refl h).new _
 have g1:(h.new (.cells ZR 0 none)).ext.get h.n=some (.cells ZR 0 none):=by simp (disch:=try exact dx) only[aa]
 refine call (ow 0 ⟨by omega,by omega⟩) ?_
 rintro z h1 ⟨X1,p1⟩
 have m1:=X1.n
 simp only[al] at m1
 obtain⟨a3,s3,b3,t3,rfl,_,_,d1,o1,d2,o2,o3,o4⟩:=p1.parts
 have kg:=X1.kept (by simp) g1
 simp -dsimp (disch:=try exact dx) only[wpS,wpT,zE,zL,zA,jQ,jh,o1,o2,o3,o4,hv.1.len rJ]
 have Ex2:Ext h1 ((h1.new (.cells ZR 0 none)).put h1.n (.cells [a3,s3,b3,t3] 0 none)):=((Ext.refl h1).new _).put (Nat.le_refl _) _
 refine loop (fun m fr hh => ∃(i:Nat) (a s b t:Value),i+m=l.length∧Ext h hh∧h1.n<hh.n∧hh.ext.get h.n=some (.cells ZR 0 none)∧hh.ext.get h1.n=some (.cells [a,s,b,t] 0 none)∧dU hh (.agg #[a,s,b,t]) (fJ ((l.take i).map rOf)) ∧
   ah fr 1=some (.func (.func 92) #[] #[])∧ah fr 4=some (ptr (2*h.n) 0)∧ah fr 5=some (ptr (2*h1.n) 0)∧ah fr 9=some v∧ah fr 10=some (KN l.length)∧ah fr 11=some (KN i)) l.length
  ⟨0,a3,s3,b3,t3,by omega,(E1.trans X1).trans Ex2,by simp,by simp (disch:=try exact dx) only[ao,ae];exact kg,by simp (disch:=try exact dx) only[ad],p1.ab Ex2.ab,by simp,by simp,by simp,by simp,by simp,by simp⟩ ?_
 clear p1 kg Ex2
 rintro m fr hh ⟨i,a,s,b,t,him,hE,hn,hg,hg5,hp,f1,f4,f5,f9,f10,f11⟩
 simp -dsimp (disch:=try exact dx) only[wpS,zA,f10,f11]
 refine ax ?_ ?_<;>intro hc<;>simp only[decide_eq_true_eq,decide_eq_false_iff_not] at hc
 ·have hi:i<l.length:=by omega
  obtain⟨q,hq⟩ : ∃q,l[i]?=some q:=⟨_,List.getElem?_eq_getElem hi⟩
  have hqm:=List.mem_of_getElem? hq
  obtain⟨w1,w2⟩:=hv.2.2 q hqm
  simp -dsimp (disch:=try exact dx) only[wpS,wpT,zE,zL,zA,mi,jr,f9,f11,hv.1.idx sK hi,hv.ld hE.ab hq,aV,aH,cU,dX]
  obtain⟨H0,hH0⟩ : ∃H0,H0=(hh.new (.cells Z16 0 none)).put hh.n (.cells (shC q.1 q.2) 0 none):=⟨_,rfl⟩
  have e0:Ext hh H0:=by rw[hH0];exact((Ext.refl hh).new _).put (Nat.le_refl _) _
  have n0:H0.n=hh.n+1:=by rw[hH0];rfl
  have gx:H0.ext.get hh.n=some (.cells (shC q.1 q.2) 0 none):=by rw[hH0];simp (disch:=try exact dx) only[ad]
  have hnn:=hE.n
  have gs:=e0.kept hn hg5
  have gz:=e0.kept (by omega) hg
  rw[←hH0]
  clear hH0
  have X0:=Ext.refl H0
  obtain⟨_,_,L1⟩:=pl4 gs
  refine drawn [(0,[4])] (by kernel_rfl) (by kernel_rfl) rfl ?_
  simp -dsimp (disch:=try exact dx) only[wpS,wpT,zE,zL,zA,fE,iJ,f1,f5,ai gs,ai gx,kA,aH,bN]
  refine call (jt q.1 q.2 w1 w2) ?_
  rintro r h2 ⟨X2,p2⟩
  have m2:=X2.n
  have p2:=p2.rat (ho q hqm)
  simp -dsimp (disch:=try exact dx) only[wpS,zE]
  have hkb:i*(512+1)+512+1<16000000:=by omega
  refine call (CF (hp.ab (e0.trans X2).ab) p2 (hQ i (by omega)) (uv w1 w2 (ho q hqm)) hkb) ?_
  rintro r3 h3 ⟨hE3,p3⟩
  have m3:=hE3.n
  have X3:=X2.trans hE3
  have eT:fJ ((l.take i).map rOf)+rOf (q.1,q.2)=fJ ((l.take (i+1)).map rOf):=by rw[gF hq,List.map_append,List.map_cons,List.map_nil,kV]
  rw[eT] at p3
  obtain⟨a4,s4,b4,t4,rfl,_,_,_,o1,_,o2,o3,o4⟩:=p3.parts
  have k5:=X3.kept (by omega) gs
  have kz:=X3.kept (by omega) gz
  simp -dsimp (disch:=try exact dx) only[wpS,wpT,zE,zL,zA,jh,f5,k5,o1,o2,o3,o4]
  refine⟨ak rfl rfl rfl rfl (aJ (H0:=H0) (b:=2*h1.n) (o:=0) f5 (by omega) (by assumption) (by assumption) L1),?_⟩
  simp -dsimp (disch:=try exact dx) only[wpS,wpT,zE,zA,f11]
  refine⟨m - 1,by omega,i+1,a4,s4,b4,t4,by omega,((hE.trans e0).trans X3).put (by omega) _,by simp only[aq];omega,by simp (disch:=try exact dx) only[ae];exact kz,ad _ _ rfl,p3.ab ((aF.refl _).put k5 _),by simp[f1],by simp[f4],by simp[f5],by simp[f9],by simp[f10],by simp⟩
 ·obtain rfl:i=l.length:=by omega
  have hQl:=hQ l.length (Nat.le_refl _)
  rw[List.take_length] at hp hQl
  obtain⟨_,_,_,_,hhe,_,_,_,o1,_,o2,o3,o4⟩:=hp.parts
  cases hhe
  simp -dsimp (disch:=try exact dx) only[wpS,wpT,zE,zL,zA,jh,iJ,f4,f5,ai hg5,hg,kA,o1,o2,o3,o4]
  exact⟨hE.put (Nat.le_refl _) _,hp.ab ((aF.refl _).put hg _),hQl⟩
open Classical in
theorem Oi {h:IH} {v:Value} {l:List (Nat×Nat)} (hv:iM h v l) (hl:l.length≤1000) :
  WV prog (.func (.func 103) #[] #[]) [v] h fun r h'=>Ext h h'∧r=.bool (decide (gJ l)):=by
 refine enter (nt:=10) (rs:=[.tmp 2]) Proofs.Tryz.func103 rfl rfl rfl (by simp) ?_
 simp -dsimp (disch:=try exact dx) only[wpS,zE]
 refine call (yE hv ti (fun h1 p _ hp=>LD (hv.2.2 p hp).1 (hv.2.2 p hp).2)) ?_
 rintro _ h1 ⟨X1,rfl⟩
 by_cases c : ∃p∈l,ti p
 ·rw[decide_eq_true c,decide_eq_false (show ¬gJ l from fun⟨h1,_⟩=>by obtain⟨p,hp,hb⟩:=c;exact h1 p hp hb)]
  simp -dsimp (disch:=try exact dx) only[wpS,wpT,zE]
  exact X1
 rw[decide_eq_false c]
 have hno : ∀p∈l,¬ti p:=fun p hp hb=>c ⟨p,hp,hb⟩
 simp -dsimp (disch:=try exact dx) only[wpS,zE]
 refine call (II (hv.ab X1.ab) (fun p hp=>(oJ (hno p hp)).1) hl) ?_
 rintro r2 h2 ⟨X2,p2,q2⟩
 simp -dsimp (disch:=try exact dx) only[wpS]
 refine call (ow 1 ⟨by omega,by omega⟩) ?_
 rintro r3 h3 ⟨X3,p3⟩
 simp -dsimp (disch:=try exact dx) only[wpS,zE]
 refine call (Gn (p2.ab X3.ab) p3 q2 (QB.int (k:=64) (by decide)) (by omega)) ?_
 rintro _ h4 ⟨X4,rfl⟩
 have XX:=((X1.trans X2).trans X3).trans X4
 have e1:((1:Int):Rat)=1:=rfl
 rw[e1]
 by_cases c1:fJ (l.map rOf)=1
 ·rw[decide_eq_true (show gJ l from⟨hno,c1⟩),c1,if_neg (by exact Rat.lt_irrefl),if_pos rfl]
  simp -dsimp (disch:=try exact dx) only[wpS,wpT,zE]
  exact XX
 ·rw[decide_eq_false (show ¬gJ l from fun h=>c1 h.2)]
  obtain⟨z,hz,hz0⟩ : ∃z:Int,(if fJ (l.map rOf)<1 then (-1:Int) else if fJ (l.map rOf)=1 then 0 else 1)=z∧z≠0:=⟨_,rfl,by split<;>simp[]⟩
  rw[hz]
  have d:(z == 0)=false:=by simpa using hz0
  simp -dsimp (disch:=try exact dx) only[wpS,wpT,zE,d]
  exact XX
open Classical in
noncomputable def Fh (ll:List (List (Nat×Nat))):Int:=if fL ll then 0 else 330
open Classical in
theorem tO {h:IH} {v:Value} {ll:List (List (Nat×Nat))} (hv:je h v ll) :
  WV prog (.func (.func 31) #[] #[]) [v] h fun r h'=>Ext h h'∧r=KI (Fh ll):=by
 obtain⟨_,_,hlen⟩:=hv.co
 have hlb:=hv.choose_spec.2.1
 unfold Fh
 refine enter (nt:=30) (rs:=[.tmp 2]) Proofs.Tryz.func31 rfl rfl rfl (by simp) ?_
 by_cases a1:ll.length<1
 ·rw[if_neg (fun hk=>by have:=hk.1;omega)]
  simp -dsimp (disch:=try exact dx) only[wpS,wpT,zE,hlen]
  exact Ext.refl _
 by_cases a2:60<ll.length
 ·rw[if_neg (fun hk=>by have:=hk.2.1;omega)]
  simp -dsimp (disch:=try exact dx) only[wpS,wpT,zE,hlen]
  exact Ext.refl _
 simp -dsimp (disch:=try exact dx) only[wpS,wpT,zE,hlen]
 refine loop (fun m fr h1 => ∃i:Nat,i+m=ll.length∧Ext h h1∧(∀(j:Nat) x,j<i→ll[j]?=some x→x.length=ll.length∧gJ x)∧ah fr 0=some v∧ah fr 13=some v∧ah fr 14=some (KN ll.length)∧ah fr 15=some (KN i)) ll.length
  ⟨0,by omega,Ext.refl _,fun j p hj=>by omega,by simp,by simp,by simp,by simp⟩ ?_
 rintro m fr h1 ⟨i,him,hE,hok,f0,f13,f14,f15⟩
 simp -dsimp (disch:=try exact dx) only[wpS,f14,f15]
 refine ax ?_ ?_<;>intro hc<;>simp only[decide_eq_true_eq,decide_eq_false_iff_not] at hc
 ·have hi:i<ll.length:=by omega
  obtain⟨x,hx⟩ : ∃x,ll[i]?=some x:=⟨_,List.getElem?_eq_getElem hi⟩
  have hxm:=List.mem_of_getElem? hx
  obtain⟨w,l1,l2,l3⟩:=hv.at hE.ab hx
  have lx:=l2.2.1
  by_cases cl:x.length=ll.length
  case neg =>
   rw[if_neg (fun hk=>cl (hk.2.2 x hxm).1)]
   have d:(((x.length:Nat):Int) != ((ll.length:Nat):Int))=true:=by simpa using fun h=>cl (by omega)
   simp -dsimp (disch:=try exact dx) only[wpS,wpT,zE,f0,f13,f15,l1,l3,l2.1.len rJ,hlen,d]
   exact hE
  have d:(((x.length:Nat):Int) != ((ll.length:Nat):Int))=false:=by simp[cl]
  simp -dsimp (disch:=try exact dx) only[wpS,wpT,zE,f0,f13,f15,l1,l3,l2.1.len rJ,hlen,d]
  refine call (Oi l2 (by omega)) ?_
  rintro _ h2 ⟨X2,rfl⟩
  have E2:=hE.trans X2
  by_cases cr:gJ x
  ·rw[decide_eq_true cr]
   simp -dsimp (disch:=try exact dx) only[wpS,wpT,zE,f15]
   refine⟨m - 1,by omega,i+1,by omega,E2,?_,by simp[f0],by simp[f13],by simp[f14],by simp⟩
   intro j q hj hq
   by_cases hji:j=i
   ·subst hji;rw[hx] at hq;cases hq;exact⟨cl,cr⟩
   ·exact hok j q (by omega) hq
  ·rw[decide_eq_false cr,if_neg (fun hk=>cr (hk.2.2 x hxm).2)]
   simp -dsimp (disch:=try exact dx) only[wpS,wpT,zE]
   exact E2
 ·rw[if_pos (show fL ll from⟨by omega,by omega,fun x hx=>by
   obtain⟨j,hj⟩:=List.getElem?_of_mem hx
   exact hok j x (by have:=(List.getElem?_eq_some_iff.1 hj).1;omega) hj⟩)]
  simp -dsimp (disch:=try exact dx) only[wpS,wpT]
  exact hE
end Go.Id

namespace Go.Id
open Go
theorem uS.rat {h:IH} {v:Value} {n d:Nat} (p:uS h v (wdI n) (wdI d)) (ok:okS n d):nC h v (rOf (n,d)):=by
 obtain⟨e1,e2⟩:=iH (p:=(n,d)) ok
 unfold nC
 rw[e1,e2];exact p
end Go.Id

namespace Go.Id
open Go
open Go.Proofs.Tryz (prog)
open Nat renaming reduceAdd→zA,reduceEqDiff→zE,reduceLeDiff→zL
set_option maxHeartbeats 16000000
theorem KS {h:IH}:WV prog (.func (.func 166) #[] #[]) [] h fun r h'=>Ext h h'∧nC h' r 0:=by
 have E1:Ext h (h.new (.cells ZR 0 none)):=(Ext.refl h).new _
 have g1:(h.new (.cells ZR 0 none)).ext.get h.n=some (.cells ZR 0 none):=by simp (disch:=try exact dx) only[aa]
 refine enter (nt:=2) (rs:=[.cell 0 196]) Proofs.Tryz.func166 rfl rfl rfl (by simp) ?_
 simp -dsimp (disch:=try exact dx) only[wpS,rf]
 refine call (wS 0 1 ⟨by omega,by omega⟩ ⟨by omega,by omega⟩ (by omega)) ?_
 rintro r h1 ⟨X1,p1⟩
 rw[Rat.zero_divInt] at p1
 obtain⟨a3,s3,b3,t3,rfl,_,_,d1,o1,d2,o2,o3,o4⟩:=p1.parts
 have k1:=X1.kept (by simp) g1
 have m1:=X1.n
 simp only[al] at m1
 simp -dsimp (disch:=try exact dx) only[wpS,wpT,zE,zL,zA,rI,xi,k1,o1,o2,o3,o4,kA]
 exact⟨(E1.trans X1).put (by omega) _,p1.ab ((aF.refl _).put k1 _)⟩
open Classical in
theorem IG {h:IH} {v:Value} {l:List (Nat×Nat)} (hv:iM h v l) :
  WV prog (.func (.func 73) #[] #[]) [v] h fun r h'=>Ext h h'∧r=.bool (decide (∀p∈l,okS p.1 p.2)):=by
 have hlb:=hv.2.1
 refine enter (nt:=16) (rs:=[.tmp 2]) Proofs.Tryz.func73 rfl rfl rfl (by simp) ?_
 simp -dsimp (disch:=try exact dx) only[wpS]
 refine loop (fun m fr h1 => ∃i:Nat,i+m=l.length∧Ext h h1∧(∀(j:Nat) p,j<i→l[j]?=some p→okS p.1 p.2)∧ah fr 0=some v∧ah fr 3=some (KN i)) l.length
  ⟨0,by omega,Ext.refl _,fun j p hj=>by omega,by simp,by simp⟩ ?_
 rintro m fr h1 ⟨i,him,hE,hok,f0,f3⟩
 simp -dsimp (disch:=try exact dx) only[wpS,zE,f0,f3,hv.1.len rJ]
 refine ax ?_ ?_<;>intro hc<;>simp only[decide_eq_true_eq,decide_eq_false_iff_not] at hc
 ·have hi:i<l.length:=by omega
  obtain⟨p,hp⟩ : ∃p,l[i]?=some p:=⟨_,List.getElem?_eq_getElem hi⟩
  have hpm:=List.mem_of_getElem? hp
  obtain⟨w1,w2⟩:=hv.2.2 p hpm
  simp -dsimp (disch:=try exact dx) only[wpS,wpT,zE,f0,f3,hv.1.idx sK hi,hv.ld hE.ab hp]
  refine call (CN p.1 p.2 w1 w2) ?_
  rintro _ h3 ⟨hE2,rfl⟩
  have E2:=hE.trans hE2
  by_cases hk:okS p.1 p.2
  ·rw[decide_eq_true hk]
   simp -dsimp (disch:=try exact dx) only[wpS,wpT,zE,f3]
   refine⟨m - 1,by omega,i+1,by omega,E2,?_,by simp[f0],by simp⟩
   intro j q hj hq
   by_cases hji:j=i
   ·subst hji;rw[hp] at hq;cases hq;exact hk
   ·exact hok j q (by omega) hq
  ·rw[decide_eq_false hk,decide_eq_false (show ¬∀p∈l,okS p.1 p.2 from fun dC=>hk (dC p hpm))]
   simp -dsimp (disch:=try exact dx) only[wpS,wpT,zE]
   exact E2
 ·rw[decide_eq_true (show ∀p∈l,okS p.1 p.2 from fun p hp=>by
   obtain⟨j,hj⟩:=List.getElem?_of_mem hp
   exact hok j p (by have:=(List.getElem?_eq_some_iff.1 hj).1;omega) hj)]
  simp -dsimp (disch:=try exact dx) only[wpS,wpT]
  exact hE
open Classical in
theorem IL {h:IH} {v:Value} {l:List (Nat×Nat)} (hv:iM h v l) (ho : ∀p∈l,okS p.1 p.2) (hl:l.length≤1000) :
  WV prog (.func (.func 74) #[] #[]) [v] h fun r h'=>Ext h h'∧r=.bool (decide (gJ l)):=by
 have hq0 : ∀q∈l.map rOf,QB 512 q:=by
  intro q hq
  obtain⟨p,hp,rfl⟩:=List.mem_map.1 hq
  exact uv (hv.2.2 p hp).1 (hv.2.2 p hp).2 (ho p hp)
 have hQ : ∀i,i≤l.length→QB (i*(512+1)) (fJ ((l.take i).map rOf)):=by
  intro i hi
  have:=QB.fJ (k:=512) hq0 i (by simpa using hi)
  rwa [←List.map_take] at this
 refine enter (nt:=28) (rs:=[.tmp 2]) Proofs.Tryz.func74 rfl rfl rfl (by simp) ?_
 simp -dsimp (disch:=try exact dx) only[wpS]
 refine call KS ?_
 rintro z h1 ⟨X1,p1⟩
 have m1:=X1.n
 obtain⟨a3,s3,b3,t3,rfl,_,_,d1,o1,d2,o2,o3,o4⟩:=p1.parts
 simp -dsimp (disch:=try exact dx) only[wpS,wpT,zE,zL,zA,rf,rI,o1,o2,o3,o4]
 have Ex2:Ext h1 ((h1.new (.cells ZR 0 none)).put h1.n (.cells [a3,s3,b3,t3] 0 none)):=((Ext.refl h1).new _).put (Nat.le_refl _) _
 refine loop (fun m fr hh => ∃(i:Nat) (a s b t:Value),i+m=l.length∧Ext h hh∧h1.n<hh.n∧hh.ext.get h1.n=some (.cells [a,s,b,t] 0 none)∧nC hh (.agg #[a,s,b,t]) (fJ ((l.take i).map rOf))∧(∀(j:Nat) p,j<i→l[j]?=some p → ¬ti p) ∧
   ah fr 0=some v∧ah fr 3=some (ptr (2*h1.n) 0)∧ah fr 4=some (KN i)) l.length
  ⟨0,a3,s3,b3,t3,by omega,X1.trans Ex2,by simp,by simp (disch:=try exact dx) only[ad],p1.ab Ex2.ab,fun j p hj=>by omega,by simp,by simp,by simp⟩ ?_
 clear p1 Ex2
 rintro m fr hh ⟨i,a,s,b,t,him,hE,hn,hg5,hp,hno,f0,f3,f4⟩
 simp -dsimp (disch:=try exact dx) only[wpS,zE,f0,f4,hv.1.len rJ]
 refine ax ?_ ?_<;>intro hc<;>simp only[decide_eq_true_eq,decide_eq_false_iff_not] at hc
 ·have hi:i<l.length:=by omega
  obtain⟨q,hq⟩ : ∃q,l[i]?=some q:=⟨_,List.getElem?_eq_getElem hi⟩
  have hqm:=List.mem_of_getElem? hq
  obtain⟨w1,w2⟩:=hv.2.2 q hqm
  have hoq:=ho q hqm
  simp -dsimp (disch:=try exact dx) only[wpS,wpT,zE,f0,f4,hv.1.idx sK hi,hv.ld hE.ab hq]
  refine call (Kf q.1 q.2 w1 w2) ?_
  rintro _ h2 ⟨X2,pp⟩
  have m2:=X2.n
  have p2:=pp.rat hoq
  obtain⟨a2,s2,b2,t2,rfl,l1,_,d1,o1,d2,o2,o3,o4⟩:=p2.parts
  have ea2:=l1.co.1
  rw[show(rOf (q.1,q.2)).num=wdI q.1 from(iH hoq).1] at ea2
  have gs:=X2.kept hn hg5
  obtain⟨H3,hH3⟩ : ∃H,H=(h2.new (.cells ZR 0 none)).put h2.n (.cells [a2,s2,b2,t2] 0 none):=⟨_,rfl⟩
  have e3:Ext h2 H3:=by rw[hH3];exact((Ext.refl h2).new _).put (Nat.le_refl _) _
  have n3:H3.n=h2.n+1:=by rw[hH3];rfl
  have g3:H3.ext.get h2.n=some (.cells [a2,s2,b2,t2] 0 none):=by rw[hH3];simp (disch:=try exact dx) only[ad]
  have gs3:=e3.kept (by omega) gs
  have hX:=hE.trans (X2.trans e3)
  by_cases cn:wdI q.1<0
  ·have hr : ¬gJ l:=fun hr=>hr.1 q hqm (.inr cn)
   rw[decide_eq_true cn] at ea2
   subst ea2
   rw[decide_eq_false hr]
   have row3 : ∀X,((h2.new (.cells ZR 0 none)).put h2.n (.cells [.bool true,s2,b2,t2] 0 none)).row X=H3.row X:=fun X=>by rw[hH3]
   simp -dsimp (disch:=try exact dx) only[wpS,wpT,zE,zL,zA,rf,rI,nv,dF,ld4,o1,o2,o3,o4]
   rw[←hH3]
   exact hX
  ·rw[decide_eq_false cn] at ea2
   subst ea2
   simp -dsimp (disch:=try exact dx) only[wpS,wpT,zE,zL,zA,rf,rI,nv,dF,ld4,o1,o2,o3,o4]
   rw[←hH3]
   clear hH3
   simp -dsimp (disch:=try exact dx) only[wpS,wpT,zE,zL,zA,xi,f3,ai gs3,ai g3,kA]
   have hkb:i*(512+1)+512+1<16000000:=by omega
   refine call (Ki (hp.ab (X2.trans e3).ab) (p2.ab e3.ab) (hQ i (by omega)) (uv w1 w2 hoq) hkb) ?_
   rintro r3 h5 ⟨X5,p5⟩
   have m5:=X5.n
   have eT:fJ ((l.take i).map rOf)+rOf (q.1,q.2)=fJ ((l.take (i+1)).map rOf):=by rw[gF hq,List.map_append,List.map_cons,List.map_nil,kV]
   rw[eT] at p5
   obtain⟨a4,s4,b4,t4,rfl,_,_,_,o1,_,o2,o3,o4⟩:=p5.parts
   have k5:=X5.kept (by omega) gs3
   simp -dsimp (disch:=try exact dx) only[wpS,wpT,zE,zL,zA,rI,f3,f4,k5,o1,o2,o3,o4]
   refine⟨m - 1,by omega,i+1,a4,s4,b4,t4,by omega,(hX.trans X5).put (by omega) _,by simp only[aq];omega,ad _ _ rfl,p5.ab ((aF.refl _).put k5 _),?_,by simp[f0],by simp[f3],by simp⟩
   intro j x hj hx
   by_cases hji:j=i
   ·subst hji;rw[hq] at hx;cases hx;exact fun h=>h.elim (fun h=>h hoq) cn
   ·exact hno j x (by omega) hx
 ·obtain rfl:i=l.length:=by omega
  have hQl:=hQ l.length (Nat.le_refl _)
  rw[List.take_length] at hp hQl
  have Uy : ∀p∈l,¬ti p:=fun p hp=>by
   obtain⟨j,hj⟩:=List.getElem?_of_mem hp
   exact hno j p (by have:=(List.getElem?_eq_some_iff.1 hj).1;omega) hj
  obtain⟨_,_,L1⟩:=ql4 hg5
  have X0:=Ext.refl hh
  simp -dsimp (disch:=try exact dx) only[wpS,wpT]
  refine drawn [(0,[2])] (by kernel_rfl) (by kernel_rfl) rfl ?_
  simp -dsimp (disch:=try exact dx) only[wpS,wpT,zE,zL,zA,xi,f3,ai hg5,kA]
  refine call (wS 1 1 ⟨by omega,by omega⟩ ⟨by omega,by omega⟩ (by omega)) ?_
  rintro r6 h6 ⟨X6,p6⟩
  rw[show Rat.divInt 1 1=(1:Rat) from rfl] at p6
  simp -dsimp (disch:=try exact dx) only[wpS,zE]
  refine call (Iq (hp.ab X6.ab) p6 hQl (QB.int (k:=64) (n:=1) (by decide)) (by omega)) ?_
  rintro _ h7 ⟨X7,rfl⟩
  have XX:=(hE.trans X6).trans X7
  by_cases c1:fJ (l.map rOf)=1
  ·rw[decide_eq_true (show gJ l from⟨Uy,c1⟩),c1,if_neg (by exact Rat.lt_irrefl),if_pos rfl]
   simp -dsimp (disch:=try exact dx) only[wpS,wpT,zE]
   refine⟨ak rfl rfl rfl rfl (aJ (H0:=hh) f3 (by omega) X0 X6 L1),?_⟩
   simp -dsimp (disch:=try exact dx) only[wpS,wpT,zE,zA]
   exact XX
  ·rw[decide_eq_false (show ¬gJ l from fun h=>c1 h.2)]
   obtain⟨z,hz,hz0⟩ : ∃z:Int,(if fJ (l.map rOf)<1 then (-1:Int) else if fJ (l.map rOf)=1 then 0 else 1)=z∧z≠0:=⟨_,rfl,by split<;>simp[]⟩
   rw[hz]
   have d:(z == 0)=false:=by simpa using hz0
   simp -dsimp (disch:=try exact dx) only[wpS,zE,d]
   refine⟨ak rfl rfl rfl rfl (aJ (H0:=hh) f3 (by omega) X0 X6 L1),?_⟩
   simp -dsimp (disch:=try exact dx) only[wpS,wpT,zE,zA]
   exact XX
open Classical in
theorem IK {h:IH} {v:Value} {ll:List (List (Nat×Nat))} (hv:je h v ll) :
  WV prog (.func (.func 21) #[] #[]) [v] h fun r h'=>Ext h h'∧r=.bool (decide (fL ll)):=by
 obtain⟨_,_,hlen⟩:=hv.co
 have hlb:=hv.choose_spec.2.1
 refine enter (nt:=42) (rs:=[.tmp 2]) Proofs.Tryz.func21 rfl rfl rfl (by simp) ?_
 by_cases a1:ll.length<1
 ·rw[decide_eq_false (show ¬fL ll from fun hk=>by have:=hk.1;omega)]
  simp -dsimp (disch:=try exact dx) only[wpS,wpT,zE,hlen]
  exact Ext.refl _
 by_cases a2:60<ll.length
 ·rw[decide_eq_false (show ¬fL ll from fun hk=>by have:=hk.2.1;omega)]
  simp -dsimp (disch:=try exact dx) only[wpS,wpT,zE,hlen]
  exact Ext.refl _
 simp -dsimp (disch:=try exact dx) only[wpS,wpT,zE,hlen]
 refine loop (fun m fr h1 => ∃i:Nat,i+m=ll.length∧Ext h h1∧(∀(j:Nat) x,j<i→ll[j]?=some x→x.length=ll.length∧gJ x)∧ah fr 0=some v∧ah fr 3=some (KN i)) ll.length
  ⟨0,by omega,Ext.refl _,fun j p hj=>by omega,by simp,by simp⟩ ?_
 rintro m fr h1 ⟨i,him,hE,hok,f0,f3⟩
 simp -dsimp (disch:=try exact dx) only[wpS,zE,f0,f3,hlen]
 refine ax ?_ ?_<;>intro hc<;>simp only[decide_eq_true_eq,decide_eq_false_iff_not] at hc
 ·have hi:i<ll.length:=by omega
  obtain⟨x,hx⟩ : ∃x,ll[i]?=some x:=⟨_,List.getElem?_eq_getElem hi⟩
  have hxm:=List.mem_of_getElem? hx
  obtain⟨w,l1,l2,l3⟩:=hv.at hE.ab hx
  have lx:=l2.2.1
  by_cases cl:x.length=ll.length
  case neg =>
   rw[decide_eq_false (show ¬fL ll from fun hk=>cl (hk.2.2 x hxm).1)]
   have d:(((x.length:Nat):Int) != ((ll.length:Nat):Int))=true:=by simpa using fun h=>cl (by omega)
   simp -dsimp (disch:=try exact dx) only[wpS,wpT,zE,f0,f3,l1,l3,l2.1.len rJ,hlen,d]
   exact hE
  have d:(((x.length:Nat):Int) != ((ll.length:Nat):Int))=false:=by simp[cl]
  simp -dsimp (disch:=try exact dx) only[wpS,wpT,zE,f0,f3,l1,l3,l2.1.len rJ,hlen,d]
  refine call (IG l2) ?_
  rintro _ h2 ⟨X2,rfl⟩
  have E2:=hE.trans X2
  by_cases ca : ∀p∈x,okS p.1 p.2
  case neg =>
   rw[decide_eq_false ca,decide_eq_false (show ¬fL ll from fun hk=>ca fun p hp=>(oJ ((hk.2.2 x hxm).2.1 p hp)).1)]
   simp -dsimp (disch:=try exact dx) only[wpS,wpT,zE]
   exact E2
  rw[decide_eq_true ca]
  obtain⟨w',l1',l2',l3'⟩:=hv.at E2.ab hx
  simp -dsimp (disch:=try exact dx) only[wpS,wpT,zE,f0,f3,l1',l3']
  refine call (IL l2' ca (by omega)) ?_
  rintro _ h4 ⟨X4,rfl⟩
  have E4:=E2.trans X4
  by_cases cr:gJ x
  ·rw[decide_eq_true cr]
   simp -dsimp (disch:=try exact dx) only[wpS,wpT,zE,f3]
   refine⟨m - 1,by omega,i+1,by omega,E4,?_,by simp[f0],by simp⟩
   intro j q hj hq
   by_cases hji:j=i
   ·subst hji;rw[hx] at hq;cases hq;exact⟨cl,cr⟩
   ·exact hok j q (by omega) hq
  ·rw[decide_eq_false cr,decide_eq_false (show ¬fL ll from fun hk=>cr (hk.2.2 x hxm).2)]
   simp -dsimp (disch:=try exact dx) only[wpS,wpT,zE]
   exact E4
 ·rw[decide_eq_true (show fL ll from⟨by omega,by omega,fun x hx=>by
   obtain⟨j,hj⟩:=List.getElem?_of_mem hx
   exact hok j x (by have:=(List.getElem?_eq_some_iff.1 hj).1;omega) hj⟩)]
  simp -dsimp (disch:=try exact dx) only[wpS,wpT]
  exact hE
end Go.Id

namespace Go.Id
open Go
theorem Acc.TZ {h:IH} {n0 sz:Nat} {v:Value} {n:Nat} {cs:List Value} (a:Acc h n0 sz v n cs) {P:Program} {t:TypeId} (hT:aP P t=some sz) {i:Nat} (hi:i<n) {x:Value} {xs:List Value} (hx:x.cells.toList=xs) (hxl:xs.length=sz) (hc:xs.all aG=true) {h0':IH} (e0:Ext h0' h) (hn0:h0'.n≤n0) :
  ∃h',store P h t (aK v (i*sz)) x=some h'∧Acc h' n0 sz v n (IH.aD cs (i*sz) xs)∧Ext h0' h'∧h'.n=h.n:=by
 obtain⟨hz,hl,⟨rfl,rfl⟩|⟨k,fam,rfl,hn,h1,h2,h3,h4⟩⟩:=a
 ·omega
 ·have hle:i*sz+sz≤cs.length:=by
   rw[hl,←Nat.succ_mul];exact Nat.mul_le_mul_right _ hi
  have hsl:(IH.aD cs (i*sz) xs).length=n*sz:=by
   simp only[IH.aD,List.length_append,List.length_take,List.length_drop]
   omega
  have k2:2*k / 2=k:=by omega
  have k1:(2*k % 2 == 1)=false:=by simp
  have hsx:x.cells.size=sz:=by rw[←Array.length_toList,hx,hxl]
  have hst:store P h t (aK (.slice (some ⟨2*k,0,none⟩) n (2*n)) (i*sz)) x=h.wr (2*k) (i*sz) xs:=by
   simp only[aK,Nat.zero_add,store,asAddr,ptr,hT,hx,hsx,hc,beq_self_eq_true,Bool.and_self,cond_true]
  have hle:Nat.ble (i*sz+xs.length) cs.length=true:=by rw[Nat.ble_eq,hxl];exact hle
  rw[hst]
  cases fam with
  | none =>
   refine⟨h.put k (.cells (IH.aD cs (i*sz) xs) sz none),?_,⟨hz,hsl,.inr ⟨k,none,rfl,hn,h1,h2,ad _ _ rfl,trivial⟩⟩,e0.put (by omega) _,rfl⟩
   ·simp only[IH.wr,k1,k2,h3,hle,cond_true,cond_false];rfl
  | some f =>
   obtain⟨a1,a2,rest,a3,a4⟩:=h4
   refine⟨{ h with ext:=(IH.fh h.ext (((k :: rest).filter (· != k)))).set k (.cells (IH.aD cs (i*sz) xs) sz none) },?_,⟨hz,hsl,.inr ⟨k,none,rfl,hn,h1,h2,?_,trivial⟩⟩,⟨e0.n,e0.base,fun j hj=>?_,e0.cM⟩,rfl⟩
   ·simp only[IH.wr,k1,k2,h3,hle,cond_true,cond_false,a3]
   ·simp[Tr.bY]
   ·have hjk:j≠k:=by omega
    rw[Tr.bY,if_neg hjk,ke,if_neg]
    ·exact e0.get j hj
    ·intro hm
     simp only[List.mem_filter,List.mem_cons,bne_iff_ne,ne_eq] at hm
     rcases hm with⟨rfl|hm,hne⟩
     ·exact hne rfl
     ·have:=a4 j hm;omega
end Go.Id
