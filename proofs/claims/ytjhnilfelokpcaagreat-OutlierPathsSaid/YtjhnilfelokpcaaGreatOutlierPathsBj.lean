/-
  Contracts: reference 33: Right. A store of a whole element into a list that grows; lists of shares with one turned.
-/
import Derived.Test.YtjhnilfelokpcaaGreatOutlierPathsAq
import Derived.Test.YtjhnilfelokpcaaGreatOutlierPathsBh
import Derived.Test.YtjhnilfelokpcaaGreatOutlierPathsBi
import Derived.Test.YtjhnilfelokpcaaGreatOutlierPathsBa
import Derived.Test.YtjhnilfelokpcaaGreatOutlierPathsBf
set_option linter.unusedVariables false
set_option linter.unusedSimpArgs false
set_option linter.defProp false
set_option linter.deprecated false
namespace Go.Id
open Go
open Go.Proofs.Tryz (prog)
open Nat renaming reduceAdd→zA,reduceEqDiff→zE,reduceLeDiff→zL
set_option maxHeartbeats 16000000
theorem PC {h:IH}:WV prog (.func (.func 166) #[] #[]) [] h fun r h'=>Ext h h'∧po h' r 0:=by
 have E1:Ext h (h.new (.cells ZR 0 none)):=(Ext.refl h).new _
 have g1:(h.new (.cells ZR 0 none)).ext.get h.n=some (.cells ZR 0 none):=by simp (disch:=try exact dx) only[ab]
 refine enter (nt:=2) (rs:=[.cell 0 186]) Proofs.Tryz.func166 rfl rfl rfl (by simp) ?_
 simp -dsimp (disch:=try exact dx) only[wpS,tA]
 refine call (yX 0 1 ⟨by omega,by omega⟩ ⟨by omega,by omega⟩ (by omega)) ?_
 rintro r h1 ⟨X1,p1⟩
 rw[Rat.zero_divInt] at p1
 obtain⟨a3,s3,b3,t3,rfl,_,_,d1,o1,d2,o2,o3,o4⟩:=p1.parts
 have k1:=X1.kept (by simp) g1
 have m1:=X1.n
 simp only[ax] at m1
 simp -dsimp (disch:=try exact dx) only[wpS,wpT,zE,zL,zA,tN,zB,k1,o1,o2,o3,o4,pJ]
 exact⟨(E1.trans X1).put (by omega) _,p1.ae ((aN.refl _).put k1 _)⟩
open Classical in
theorem Mx {h:IH} {v:Value} {l:List (Nat×Nat)} (hv:jt h v l) :
  WV prog (.func (.func 162) #[] #[]) [v] h fun r h'=>Ext h h'∧r=.bool (decide (∀p∈l,okS p.1 p.2)):=by
 have hlb:=hv.2.1
 refine enter (nt:=16) (rs:=[.tmp 2]) Proofs.Tryz.func162 rfl rfl rfl (by simp) ?_
 simp -dsimp (disch:=try exact dx) only[wpS]
 refine loop (fun m fr h1 => ∃i:Nat,i+m=l.length∧Ext h h1∧(∀(j:Nat) p,j<i→l[j]?=some p→okS p.1 p.2)∧ai fr 0=some v∧ai fr 3=some (KN i)) l.length
  ⟨0,by omega,Ext.refl _,fun j p hj=>by omega,by simp,by simp⟩ ?_
 rintro m fr h1 ⟨i,him,hE,hok,f0,f3⟩
 simp -dsimp (disch:=try exact dx) only[wpS,zE,f0,f3,hv.1.len tP]
 refine aA ?_ ?_<;>intro hc<;>simp only[decide_eq_true_eq,decide_eq_false_iff_not] at hc
 ·have hi:i<l.length:=by omega
  obtain⟨p,hp⟩ : ∃p,l[i]?=some p:=⟨_,List.getElem?_eq_getElem hi⟩
  have hpm:=List.mem_of_getElem? hp
  obtain⟨w1,w2⟩:=hv.2.2 p hpm
  simp -dsimp (disch:=try exact dx) only[wpS,wpT,zE,f0,f3,hv.1.idx xJ hi,hv.ld hE.ae hp]
  refine call (Fh p.1 p.2 w1 w2) ?_
  rintro _ h3 ⟨hE2,rfl⟩
  have E2:=hE.trans hE2
  by_cases hk:okS p.1 p.2
  ·rw[decide_eq_true hk]
   simp -dsimp (disch:=try exact dx) only[wpS,wpT,zE,f3]
   refine⟨m - 1,by omega,i+1,by omega,E2,?_,by simp[f0],by simp⟩
   intro j q hj hq
   by_cases hji:j=i
   ·subst hji;rw[hp] at hq;cases hq;exact hk
   ·exact hok j q (by omega) hq
  ·rw[decide_eq_false hk,decide_eq_false (show ¬∀p∈l,okS p.1 p.2 from fun fK=>hk (fK p hpm))]
   simp -dsimp (disch:=try exact dx) only[wpS,wpT,zE]
   exact E2
 ·rw[decide_eq_true (show ∀p∈l,okS p.1 p.2 from fun p hp=>by
   obtain⟨j,hj⟩:=List.getElem?_of_mem hp
   exact hok j p (by have:=(List.getElem?_eq_some_iff.1 hj).1;omega) hj)]
  simp -dsimp (disch:=try exact dx) only[wpS,wpT]
  exact hE
open Classical in
theorem MC {h:IH} {v:Value} {l:List (Nat×Nat)} (hv:jt h v l) (ho : ∀p∈l,okS p.1 p.2) (hl:l.length≤1000) :
  WV prog (.func (.func 163) #[] #[]) [v] h fun r h'=>Ext h h'∧r=.bool (decide (kj l)):=by
 have hq0 : ∀q∈l.map rOf,QB 512 q:=by
  intro q hq
  obtain⟨p,hp,rfl⟩:=List.mem_map.1 hq
  exact Bx (hv.2.2 p hp).1 (hv.2.2 p hp).2 (ho p hp)
 have hQ : ∀i,i≤l.length→QB (i*(512+1)) (gF ((l.take i).map rOf)):=by
  intro i hi
  have:=QB.gF (k:=512) hq0 i (by simpa using hi)
  rwa [←List.map_take] at this
 refine enter (nt:=28) (rs:=[.tmp 2]) Proofs.Tryz.func163 rfl rfl rfl (by simp) ?_
 simp -dsimp (disch:=try exact dx) only[wpS]
 refine call PC ?_
 rintro z h1 ⟨X1,p1⟩
 have m1:=X1.n
 obtain⟨a3,s3,b3,t3,rfl,_,_,d1,o1,d2,o2,o3,o4⟩:=p1.parts
 simp -dsimp (disch:=try exact dx) only[wpS,wpT,zE,zL,zA,tA,tN,o1,o2,o3,o4]
 have Ex2:Ext h1 ((h1.new (.cells ZR 0 none)).put h1.n (.cells [a3,s3,b3,t3] 0 none)):=((Ext.refl h1).new _).put (Nat.le_refl _) _
 refine loop (fun m fr hh => ∃(i:Nat) (a s b t:Value),i+m=l.length∧Ext h hh∧h1.n<hh.n∧hh.ext.get h1.n=some (.cells [a,s,b,t] 0 none)∧po hh (.agg #[a,s,b,t]) (gF ((l.take i).map rOf))∧(∀(j:Nat) p,j<i→l[j]?=some p → ¬xK p) ∧
   ai fr 0=some v∧ai fr 3=some (ptr (2*h1.n) 0)∧ai fr 4=some (KN i)) l.length
  ⟨0,a3,s3,b3,t3,by omega,X1.trans Ex2,by simp,by simp (disch:=try exact dx) only[aa],p1.ae Ex2.ae,fun j p hj=>by omega,by simp,by simp,by simp⟩ ?_
 clear p1 Ex2
 rintro m fr hh ⟨i,a,s,b,t,him,hE,hn,hg5,hp,hno,f0,f3,f4⟩
 simp -dsimp (disch:=try exact dx) only[wpS,zE,f0,f4,hv.1.len tP]
 refine aA ?_ ?_<;>intro hc<;>simp only[decide_eq_true_eq,decide_eq_false_iff_not] at hc
 ·have hi:i<l.length:=by omega
  obtain⟨q,hq⟩ : ∃q,l[i]?=some q:=⟨_,List.getElem?_eq_getElem hi⟩
  have hqm:=List.mem_of_getElem? hq
  obtain⟨w1,w2⟩:=hv.2.2 q hqm
  have hoq:=ho q hqm
  simp -dsimp (disch:=try exact dx) only[wpS,wpT,zE,f0,f4,hv.1.idx xJ hi,hv.ld hE.ae hq]
  refine call (OL q.1 q.2 w1 w2) ?_
  rintro _ h2 ⟨X2,pp⟩
  have m2:=X2.n
  have p2:=pp.rat hoq
  obtain⟨a2,s2,b2,t2,rfl,l1,_,d1,o1,d2,o2,o3,o4⟩:=p2.parts
  have ea2:=l1.co.1
  rw[show(rOf (q.1,q.2)).num=wdI q.1 from(dZ hoq).1] at ea2
  have gs:=X2.kept hn hg5
  obtain⟨H3,hH3⟩ : ∃H,H=(h2.new (.cells ZR 0 none)).put h2.n (.cells [a2,s2,b2,t2] 0 none):=⟨_,rfl⟩
  have e3:Ext h2 H3:=by rw[hH3];exact((Ext.refl h2).new _).put (Nat.le_refl _) _
  have n3:H3.n=h2.n+1:=by rw[hH3];rfl
  have g3:H3.ext.get h2.n=some (.cells [a2,s2,b2,t2] 0 none):=by rw[hH3];simp (disch:=try exact dx) only[aa]
  have gs3:=e3.kept (by omega) gs
  have hX:=hE.trans (X2.trans e3)
  by_cases cn:wdI q.1<0
  ·have hr : ¬kj l:=fun hr=>hr.1 q hqm (.inr cn)
   rw[decide_eq_true cn] at ea2
   subst ea2
   rw[decide_eq_false hr]
   have row3 : ∀X,((h2.new (.cells ZR 0 none)).put h2.n (.cells [.bool true,s2,b2,t2] 0 none)).row X=H3.row X:=fun X=>by rw[hH3]
   simp -dsimp (disch:=try exact dx) only[wpS,wpT,zE,zL,zA,tA,tN,oY,dJ,ld4,o1,o2,o3,o4]
   rw[←hH3]
   exact hX
  ·rw[decide_eq_false cn] at ea2
   subst ea2
   simp -dsimp (disch:=try exact dx) only[wpS,wpT,zE,zL,zA,tA,tN,oY,dJ,ld4,o1,o2,o3,o4]
   rw[←hH3]
   clear hH3
   simp -dsimp (disch:=try exact dx) only[wpS,wpT,zE,zL,zA,zB,f3,aj gs3,aj g3,pJ]
   have hkb:i*(512+1)+512+1<16000000:=by omega
   refine call (OT (hp.ae (X2.trans e3).ae) (p2.ae e3.ae) (hQ i (by omega)) (Bx w1 w2 hoq) hkb) ?_
   rintro r3 h5 ⟨X5,p5⟩
   have m5:=X5.n
   have eT:gF ((l.take i).map rOf)+rOf (q.1,q.2)=gF ((l.take (i+1)).map rOf):=by rw[nG hq,List.map_append,List.map_cons,List.map_nil,vj]
   rw[eT] at p5
   obtain⟨a4,s4,b4,t4,rfl,_,_,_,o1,_,o2,o3,o4⟩:=p5.parts
   have k5:=X5.kept (by omega) gs3
   simp -dsimp (disch:=try exact dx) only[wpS,wpT,zE,zL,zA,tN,f3,f4,k5,o1,o2,o3,o4]
   refine⟨m - 1,by omega,i+1,a4,s4,b4,t4,by omega,(hX.trans X5).put (by omega) _,by simp only[ay];omega,aa _ _ rfl,p5.ae ((aN.refl _).put k5 _),?_,by simp[f0],by simp[f3],by simp⟩
   intro j x hj hx
   by_cases hji:j=i
   ·subst hji;rw[hq] at hx;cases hx;exact fun h=>h.elim (fun h=>h hoq) cn
   ·exact hno j x (by omega) hx
 ·obtain rfl:i=l.length:=by omega
  have hQl:=hQ l.length (Nat.le_refl _)
  rw[List.take_length] at hp hQl
  have ZE : ∀p∈l,¬xK p:=fun p hp=>by
   obtain⟨j,hj⟩:=List.getElem?_of_mem hp
   exact hno j p (by have:=(List.getElem?_eq_some_iff.1 hj).1;omega) hj
  obtain⟨_,_,L1⟩:=ql4 hg5
  have X0:=Ext.refl hh
  simp -dsimp (disch:=try exact dx) only[wpS,wpT]
  refine drawn [(0,[2])] (by kernel_rfl) (by kernel_rfl) rfl ?_
  simp -dsimp (disch:=try exact dx) only[wpS,wpT,zE,zL,zA,zB,f3,aj hg5,pJ]
  refine call (yX 1 1 ⟨by omega,by omega⟩ ⟨by omega,by omega⟩ (by omega)) ?_
  rintro r6 h6 ⟨X6,p6⟩
  rw[show Rat.divInt 1 1=(1:Rat) from rfl] at p6
  simp -dsimp (disch:=try exact dx) only[wpS,zE]
  refine call (LM (hp.ae X6.ae) p6 hQl (QB.int (k:=64) (n:=1) (by decide)) (by omega)) ?_
  rintro _ h7 ⟨X7,rfl⟩
  have XX:=(hE.trans X6).trans X7
  by_cases c1:gF (l.map rOf)=1
  ·rw[decide_eq_true (show kj l from⟨ZE,c1⟩),c1,if_neg (by exact Rat.lt_irrefl),if_pos rfl]
   simp -dsimp (disch:=try exact dx) only[wpS,wpT,zE]
   refine⟨ao rfl rfl rfl rfl (aD (H0:=hh) f3 (by omega) X0 X6 L1),?_⟩
   simp -dsimp (disch:=try exact dx) only[wpS,wpT,zE,zA]
   exact XX
  ·rw[decide_eq_false (show ¬kj l from fun h=>c1 h.2)]
   obtain⟨z,hz,hz0⟩ : ∃z:Int,(if gF (l.map rOf)<1 then (-1:Int) else if gF (l.map rOf)=1 then 0 else 1)=z∧z≠0:=⟨_,rfl,by split<;>simp[]⟩
   rw[hz]
   have d:(z == 0)=false:=by simpa using hz0
   simp -dsimp (disch:=try exact dx) only[wpS,zE,d]
   refine⟨ao rfl rfl rfl rfl (aD (H0:=hh) f3 (by omega) X0 X6 L1),?_⟩
   simp -dsimp (disch:=try exact dx) only[wpS,wpT,zE,zA]
   exact XX
open Classical in
theorem MA {h:IH} {v:Value} {ll:List (List (Nat×Nat))} (hv:hP h v ll) :
  WV prog (.func (.func 80) #[] #[]) [v] h fun r h'=>Ext h h'∧r=.bool (decide (fk ll)):=by
 obtain⟨_,_,hlen⟩:=hv.co
 have hlb:=hv.choose_spec.2.1
 refine enter (nt:=42) (rs:=[.tmp 2]) Proofs.Tryz.func80 rfl rfl rfl (by simp) ?_
 by_cases a1:ll.length<1
 ·rw[decide_eq_false (show ¬fk ll from fun hk=>by have:=hk.1;omega)]
  simp -dsimp (disch:=try exact dx) only[wpS,wpT,zE,hlen]
  exact Ext.refl _
 by_cases a2:60<ll.length
 ·rw[decide_eq_false (show ¬fk ll from fun hk=>by have:=hk.2.1;omega)]
  simp -dsimp (disch:=try exact dx) only[wpS,wpT,zE,hlen]
  exact Ext.refl _
 simp -dsimp (disch:=try exact dx) only[wpS,wpT,zE,hlen]
 refine loop (fun m fr h1 => ∃i:Nat,i+m=ll.length∧Ext h h1∧(∀(j:Nat) x,j<i→ll[j]?=some x→x.length=ll.length∧kj x)∧ai fr 0=some v∧ai fr 3=some (KN i)) ll.length
  ⟨0,by omega,Ext.refl _,fun j p hj=>by omega,by simp,by simp⟩ ?_
 rintro m fr h1 ⟨i,him,hE,hok,f0,f3⟩
 simp -dsimp (disch:=try exact dx) only[wpS,zE,f0,f3,hlen]
 refine aA ?_ ?_<;>intro hc<;>simp only[decide_eq_true_eq,decide_eq_false_iff_not] at hc
 ·have hi:i<ll.length:=by omega
  obtain⟨x,hx⟩ : ∃x,ll[i]?=some x:=⟨_,List.getElem?_eq_getElem hi⟩
  have hxm:=List.mem_of_getElem? hx
  obtain⟨w,l1,l2,l3⟩:=hv.at hE.ae hx
  have lx:=l2.2.1
  by_cases cl:x.length=ll.length
  case neg =>
   rw[decide_eq_false (show ¬fk ll from fun hk=>cl (hk.2.2 x hxm).1)]
   have d:(((x.length:Nat):Int) != ((ll.length:Nat):Int))=true:=by simpa using fun h=>cl (by omega)
   simp -dsimp (disch:=try exact dx) only[wpS,wpT,zE,f0,f3,l1,l3,l2.1.len tP,hlen,d]
   exact hE
  have d:(((x.length:Nat):Int) != ((ll.length:Nat):Int))=false:=by simp[cl]
  simp -dsimp (disch:=try exact dx) only[wpS,wpT,zE,f0,f3,l1,l3,l2.1.len tP,hlen,d]
  refine call (Mx l2) ?_
  rintro _ h2 ⟨X2,rfl⟩
  have E2:=hE.trans X2
  by_cases ca : ∀p∈x,okS p.1 p.2
  case neg =>
   rw[decide_eq_false ca,decide_eq_false (show ¬fk ll from fun hk=>ca fun p hp=>(Dc ((hk.2.2 x hxm).2.1 p hp)).1)]
   simp -dsimp (disch:=try exact dx) only[wpS,wpT,zE]
   exact E2
  rw[decide_eq_true ca]
  obtain⟨w',l1',l2',l3'⟩:=hv.at E2.ae hx
  simp -dsimp (disch:=try exact dx) only[wpS,wpT,zE,f0,f3,l1',l3']
  refine call (MC l2' ca (by omega)) ?_
  rintro _ h4 ⟨X4,rfl⟩
  have E4:=E2.trans X4
  by_cases cr:kj x
  ·rw[decide_eq_true cr]
   simp -dsimp (disch:=try exact dx) only[wpS,wpT,zE,f3]
   refine⟨m - 1,by omega,i+1,by omega,E4,?_,by simp[f0],by simp⟩
   intro j q hj hq
   by_cases hji:j=i
   ·subst hji;rw[hx] at hq;cases hq;exact⟨cl,cr⟩
   ·exact hok j q (by omega) hq
  ·rw[decide_eq_false cr,decide_eq_false (show ¬fk ll from fun hk=>cr (hk.2.2 x hxm).2)]
   simp -dsimp (disch:=try exact dx) only[wpS,wpT,zE]
   exact E4
 ·rw[decide_eq_true (show fk ll from⟨by omega,by omega,fun x hx=>by
   obtain⟨j,hj⟩:=List.getElem?_of_mem hx
   exact hok j x (by have:=(List.getElem?_eq_some_iff.1 hj).1;omega) hj⟩)]
  simp -dsimp (disch:=try exact dx) only[wpS,wpT]
  exact hE
end Go.Id

namespace Go.Id
open Go
theorem Acc.UT {h:IH} {n0 sz:Nat} {v:Value} {n:Nat} {cs:List Value} (a:Acc h n0 sz v n cs) {P:Program} {t:TypeId} (hT:aJ P t=some sz) {i:Nat} (hi:i<n) {x:Value} {xs:List Value} (hx:x.cells.toList=xs) (hxl:xs.length=sz) (hc:xs.all aH=true) {h0':IH} (e0:Ext h0' h) (hn0:h0'.n≤n0) :
  ∃h',store P h t (aO v (i*sz)) x=some h'∧Acc h' n0 sz v n (IH.aG cs (i*sz) xs)∧Ext h0' h'∧h'.n=h.n:=by
 obtain⟨hz,hl,⟨rfl,rfl⟩|⟨k,fam,rfl,hn,h1,h2,h3,h4⟩⟩:=a
 ·omega
 ·have hle:i*sz+sz≤cs.length:=by
   rw[hl,←Nat.succ_mul];exact Nat.mul_le_mul_right _ hi
  have hsl:(IH.aG cs (i*sz) xs).length=n*sz:=by
   simp only[IH.aG,List.length_append,List.length_take,List.length_drop]
   omega
  have k2:2*k / 2=k:=by omega
  have k1:(2*k % 2 == 1)=false:=by simp
  have hsx:x.cells.size=sz:=by rw[←Array.length_toList,hx,hxl]
  have hst:store P h t (aO (.slice (some ⟨2*k,0,none⟩) n (2*n)) (i*sz)) x=h.wr (2*k) (i*sz) xs:=by
   simp only[aO,Nat.zero_add,store,asAddr,ptr,hT,hx,hsx,hc,beq_self_eq_true,Bool.and_self,cond_true]
  have hle:Nat.ble (i*sz+xs.length) cs.length=true:=by rw[Nat.ble_eq,hxl];exact hle
  rw[hst]
  cases fam with
  | none =>
   refine⟨h.put k (.cells (IH.aG cs (i*sz) xs) sz none),?_,⟨hz,hsl,.inr ⟨k,none,rfl,hn,h1,h2,aa _ _ rfl,trivial⟩⟩,e0.put (by omega) _,rfl⟩
   ·simp only[IH.wr,k1,k2,h3,hle,cond_true,cond_false];rfl
  | some f =>
   obtain⟨a1,a2,rest,a3,a4⟩:=h4
   refine⟨{ h with ext:=(IH.cU h.ext (((k :: rest).filter (· != k)))).set k (.cells (IH.aG cs (i*sz) xs) sz none) },?_,⟨hz,hsl,.inr ⟨k,none,rfl,hn,h1,h2,?_,trivial⟩⟩,⟨e0.n,e0.base,fun j hj=>?_,e0.bQ⟩,rfl⟩
   ·simp only[IH.wr,k1,k2,h3,hle,cond_true,cond_false,a3]
   ·simp[Tr.bA]
   ·have hjk:j≠k:=by omega
    rw[Tr.bA,if_neg hjk,gJ,if_neg]
    ·exact e0.get j hj
    ·intro hm
     simp only[List.mem_filter,List.mem_cons,bne_iff_ne,ne_eq] at hm
     rcases hm with⟨rfl|hm,hne⟩
     ·exact hne rfl
     ·have:=a4 j hm;omega
theorem xO : ∀(l:List (Nat×Nat)) (i:Nat) (p:Nat×Nat),i<l.length→IH.aG (shL l) (i*16) (shC p.1 p.2)=shL (l.set i p)
 | [],i,p,h=>by simp at h
 | a :: l,0,p,_=>by
  show IH.aG (shC a.1 a.2 ++ shL l) (0*16) (shC p.1 p.2)=shC p.1 p.2 ++ shL l
  simp only[IH.aG,Nat.zero_mul,List.take_zero,List.nil_append,Nat.zero_add]
  rw[List.drop_append_of_le_length (by rw[aP,aP];omega),List.drop_of_length_le (by rw[aP,aP];omega),List.nil_append]
 | a :: l,i+1,p,h=>by
  have ih:=xO l i p (by simpa using h)
  show IH.aG (shC a.1 a.2 ++ shL l) ((i+1)*16) (shC p.1 p.2)=shC a.1 a.2 ++ shL (l.set i p)
  rw[←ih]
  have e1:(i+1)*16=(shC a.1 a.2).length+i*16:=by rw[aP];omega
  simp only[IH.aG]
  rw[e1,List.take_length_add_append,Nat.add_assoc,List.drop_length_add_append,List.append_assoc]
end Go.Id

namespace Go.Id
open Go
open Go.Proofs.Tryz (prog)
open Nat renaming reduceAdd→zA,reduceEqDiff→zE,reduceLeDiff→zL
set_option maxHeartbeats 16000000
theorem BS (l:List (Nat×Nat)) (p:Nat×Nat):shL (l ++ [p])=shL l ++ shC p.1 p.2:=by simp[shL]
theorem z9 (s:Nat) : ∀(l:List Nat) (a:Rat),(l.map fun y=>Rat.divInt (y:Nat) (s:Nat)).foldl (· + ·) a=a+Rat.divInt (l.sum:Nat) (s:Nat)
 | [],a=>by
  rw[List.map_nil,List.foldl_nil,List.sum_nil,show(((0:Nat):Int))=0 from rfl,Rat.zero_divInt,Rat.add_zero]
 | x :: l,a=>by
  rw[List.map_cons,List.foldl_cons,z9 s l,List.sum_cons,Rat.divInt_eq_div,Rat.divInt_eq_div,Rat.divInt_eq_div]
  have e:(((x+l.sum:Nat):Int):Rat)=((x:Int):Rat)+((l.sum:Int):Rat):=by
   rw[←Rat.intCast_add];rfl
  rw[e]
  grind
theorem Su {ys:List Nat} (h0:0<ys.sum) (hb:ys.sum≤1000) (hy : ∀y∈ys,y≤1000):kj (ys.map fun y=>shq (Rat.divInt (y:Nat) (ys.sum:Nat))):=by
 have hq : ∀y∈ys,QW (Rat.divInt (y:Nat) (ys.sum:Nat)):=fun y h=>by
  have:=hy y h
  exact vi ⟨by omega,by omega⟩ ⟨by omega,by omega⟩ (by omega)
 refine⟨fun p hp=>?_,?_⟩
 ·obtain⟨y,hm,rfl⟩:=List.mem_map.1 hp
  obtain⟨e1,e2⟩:=Jm (hq y hm)
  rintro(hb|hb)
  ·exact hb e2
  ·have e3:wdI (shq (Rat.divInt (y:Nat) (ys.sum:Nat))).1=(Rat.divInt (y:Nat) (ys.sum:Nat)).num:=jA (hq y hm).1
   rw[e3] at hb
   have:0≤Rat.divInt (y:Nat) (ys.sum:Nat):=Rat.divInt_nonneg (by omega) (by omega)
   have:=Rat.num_nonneg.2 this
   omega
 ·have e:(ys.map fun y=>shq (Rat.divInt (y:Nat) (ys.sum:Nat))).map rOf=ys.map fun y=>Rat.divInt (y:Nat) (ys.sum:Nat):=by
   rw[List.map_map]
   exact List.map_congr_left fun y hm=>(Jm (hq y hm)).1
  rw[e]
  unfold gF
  rw[z9,Rat.divInt_eq_div,Rat.zero_add]
  have hne:(((ys.sum:Nat):Int):Rat)≠0:=fun h=>by
   have:((ys.sum:Nat):Int)=0:=Rat.intCast_inj.1 h
   omega
  grind
def smR (S:Nat) (l:List (Nat×Nat)):Prop:=0<S∧S≤1000 ∧ ∀p∈l,p.1≤1000∧0<p.2∧p.2∣S
def Lx (l:List (Nat×Nat)):Prop:=kj l∧(∃S,smR S l) ∧ ∃q∈l,0<q.1
theorem DJ {y S:Nat} (hS:0<S) : ∃m:Nat,0<m∧(y:Int)=(Rat.divInt (y:Nat) (S:Nat)).num*m∧S=(Rat.divInt (y:Nat) (S:Nat)).den*m:=by
 obtain⟨q,hq⟩ : ∃q,q=Rat.divInt (y:Nat) (S:Nat):=⟨_,rfl⟩
 obtain⟨m,_,e1,e2⟩:=Rat.divInt_num_den (n:=(y:Int)) (d:=(S:Int)) (n':=q.num) (d':=q.den) (z':=q.den_nz) (c:=q.reduced) (by omega) (by rw[←hq])
 rw[←hq]
 have dp:0<q.den:=q.den_pos
 have m0:0<m:=by
  apply Classical.byContradiction
  intro hn
  have:(q.den:Int)*m≤0:=Int.mul_nonpos_of_nonneg_of_nonpos (by omega) (by omega)
  omega
 obtain⟨k,rfl⟩:=Int.eq_ofNat_of_zero_le (Int.le_of_lt m0)
 exact⟨k,by omega,e1,by exact_mod_cast e2⟩
theorem Mz {ys:List Nat} (h : ∀y∈ys,y=0):ys.sum=0:=by
 induction ys with
 | nil=>rfl
 | cons a l ih=>rw[List.sum_cons,h a (by simp),ih fun y hy=>h y (by simp[hy])]
theorem FT {ys:List Nat} (h0:0<ys.sum) (hb:ys.sum≤1000) (hy : ∀y∈ys,y≤1000):Lx (ys.map fun y=>shq (Rat.divInt (y:Nat) (ys.sum:Nat))):=by
 have key : ∀y,y≤1000 → ∃m:Nat,0<m∧y=(shq (Rat.divInt (y:Nat) (ys.sum:Nat))).1*m∧ys.sum=(shq (Rat.divInt (y:Nat) (ys.sum:Nat))).2*m:=fun y hy1=>by
  obtain⟨m,m0,e1,e2⟩:=DJ (y:=y) h0
  have n0:0≤(Rat.divInt (y:Nat) (ys.sum:Nat)).num:=Rat.num_nonneg.2 (Rat.divInt_nonneg (by omega) (by omega))
  obtain⟨k,hk⟩:=Int.eq_ofNat_of_zero_le n0
  refine⟨m,m0,?_,?_⟩
  ·show y=bW _*m
   rw[nA n0,hk,Int.toNat_natCast]
   rw[hk] at e1
   exact_mod_cast e1
  ·show ys.sum=bW ((Rat.divInt (y:Nat) (ys.sum:Nat)).den:Int)*m
   rw[nA (by omega),Int.toNat_natCast]
   exact e2
 refine⟨Su h0 hb hy,⟨ys.sum,h0,hb,fun p hp=>?_⟩,?_⟩
 ·obtain⟨y,hm,rfl⟩:=List.mem_map.1 hp
  have y1:=hy y hm
  obtain⟨m,m0,e1,e2⟩:=key y y1
  refine⟨?_,?_,⟨m,e2⟩⟩
  ·have:=Nat.le_mul_of_pos_right (shq (Rat.divInt (y:Nat) (ys.sum:Nat))).1 m0
   omega
  ·apply Nat.pos_of_ne_zero
   intro hz
   rw[hz,Nat.zero_mul] at e2
   omega
 ·have : ∃y∈ys,0<y:=by
   apply Classical.byContradiction
   intro hn
   have hz : ∀y∈ys,y=0:=fun y hy=>Nat.eq_zero_of_not_pos fun h=>hn ⟨y,hy,h⟩
   have:ys.sum=0:=Mz hz
   omega
  obtain⟨y,hm,y0⟩:=this
  refine⟨_,List.mem_map.2 ⟨y,hm,rfl⟩,?_⟩
  obtain⟨m,m0,e1,e2⟩:=key y (hy y hm)
  apply Nat.pos_of_ne_zero
  intro hz
  rw[hz,Nat.zero_mul] at e1
  omega
theorem Jh (ys:List Nat) (i:Nat) (hi:i<ys.length) (h0:ys.sum=0):(ys.set i 1).sum=1:=by
 induction ys generalizing i with
 | nil=>simp at hi
 | cons a l ih =>
  rw[List.sum_cons] at h0
  cases i with
  | zero=>rw[List.set_cons_zero,List.sum_cons];omega
  | succ i =>
   rw[List.set_cons_succ,List.sum_cons,ih i (by simpa using hi) (by omega)];omega
theorem FY (l:List Int) (i:Nat) (x:Int) (hi:i<l.length):IH.aG (l.map KI) (i*1) [KI x]=(l.set i x).map KI:=by
 rw[Nat.mul_one]
 simp only[IH.aG,List.map_set,List.length_singleton]
 rw[List.set_eq_take_append_cons_drop,if_pos (by simpa using hi)]
 rfl
theorem Im {h:IH} {sz:Nat} {v:Value} {lN:List Nat} (hv:AT h v lN) (hsz:sz<256) :
  WV prog (.func (.func 20) #[] #[]) [.agg #[B8 sz,v]] h fun r h'=>Ext h h' ∧ ∃ll,hP h' r ll∧ll.length=1+sz % 4 ∧ ∀x∈ll,x.length=1+sz % 4∧Lx x:=by
 have cv:=hv.1.cells
 have co:=hv.1.cok
 have lv:=hv.2.1
 obtain⟨n,hn⟩ : ∃n,n=1+sz % 4:=⟨_,rfl⟩
 have nb4:1≤n∧n≤4:=by omega
 rw[←hn]
 have g0:(h.new (.cells [B8 sz,v] 0 none)).ext.get h.n=some (.cells [B8 sz,v] 0 none):=by simp (disch:=try exact dx) only[ab]
 have E0:Ext h (h.new (.cells [B8 sz,v] 0 none)):=(Ext.refl h).new _
 obtain⟨Hb,hHb⟩ : ∃H,H=h.new (.cells [B8 sz,v] 0 none):=⟨_,rfl⟩
 have nb:Hb.n=h.n+1:=by rw[hHb];rfl
 have hr : ∀ox oy,binop prog .rem 5 ox oy (B8 sz) (.int .u8 4)=some (.int .u8 ((sz % 4:Nat):Int)):=fun ox oy=>lW _ _ .u8 ox oy sz 4 (by omega)
 have en:(1:Int)+((sz % 4:Nat):Int)=(n:Int):=by omega
 refine enter (nt:=84) (rs:=[.tmp 2]) Proofs.Tryz.func20 rfl rfl rfl (by simp) ?_
 rw[←hHb] at g0 E0
 simp -dsimp (disch:=try exact dx) only[wpS,zE,VJ,ld5,Gr,hr,en]
 rw[←hHb]
 clear hHb
 refine loop (fun m fr hh => ∃(i:Nat) (out:Value) (vs:List Value) (ll:List (List (Nat×Nat))),i+m=n∧ll.length=i∧vs.length=i∧Ext Hb hh∧Acc hh Hb.n 1 out i vs∧(∀(k:Nat) x,ll[k]?=some x → ∃w,vs[k]?=some w∧jt hh w x)∧(∀x∈ll,x.length=n∧Lx x)∧ai fr 1=some (ptr (2*h.n) 0)∧ai fr 3=some (KN n)∧ai fr 4=some out∧ai fr 5=some (KN i)) n
  ⟨0,.slice none 0 0,[],[],by omega,rfl,rfl,Ext.refl _,Acc.nil _ _ (by omega),fun k x hx=>by simp at hx,fun x hx=>by simp at hx,by simp,by simp,by simp,by simp⟩ ?_
 rintro m fr hh ⟨i,out,vs,ll,him,hil,hvl,hE,hA,hll,hro,f1,f3,f4,f5⟩
 have hg:=hE.kept (by omega) g0
 have hnn:=hE.n
 have hEh:=E0.trans hE
 simp -dsimp (disch:=try exact dx) only[wpS,zE,f3,f5]
 refine aA ?_ ?_<;>intro hc<;>simp only[decide_eq_true_eq,decide_eq_false_iff_not] at hc
 ·have hin:i<n:=by omega
  simp -dsimp (disch:=try exact dx) only[wpS,wpT]
  refine loop (fun m2 fr h2 => ∃(j:Nat) (o2:Value) (xs:List Nat),j+m2=n∧xs.length=j∧(∀x∈xs,x<6)∧Ext hh h2∧Acc h2 hh.n 1 o2 xs.length (xs.map KN)∧ai fr 1=some (ptr (2*h.n) 0)∧ai fr 3=some (KN n)∧ai fr 4=some out∧ai fr 5=some (KN i)∧ai fr 6=some o2∧ai fr 7=some (KN xs.sum)∧ai fr 8=some (KN j)) n
   ⟨0,.slice none 0 0,[],by omega,rfl,(fun x hx=>by cases hx),Ext.refl _,Acc.nil _ _ (by omega),by simp[f1],by simp[f3],by simp[f4],by simp[f5],by simp,by simp,by simp⟩ ?_
  clear f1 f3 f4 f5
  rintro m2 fr h2 ⟨j,o2,xs,hjm,hjl,hx6,hE2,hA2,f1,f3,f4,f5,f6,f7,f8⟩
  have hg2:=hE2.kept (by omega) hg
  have hn2:=hE2.n
  have ZY:=hEh.trans hE2
  have F4:xs.sum≤6*xs.length:=by
   clear hA2 f7 hjl hjm
   induction xs with
   | nil=>simp
   | cons a l ih =>
    rw[List.sum_cons,List.length_cons]
    have:=hx6 a (by simp)
    have:=ih fun x hx=>hx6 x (by simp[hx])
    omega
  simp -dsimp (disch:=try exact dx) only[wpS,zE,f3,f8]
  refine aA ?_ ?_<;>intro hc2<;>simp only[decide_eq_true_eq,decide_eq_false_iff_not] at hc2
  ·have hjn:j<n:=by omega
   have enm:(n:Int)*(i:Int)=((n*i:Nat):Int):=(Int.natCast_mul _ _).symm
   have hni:n*i≤4*4:=Nat.mul_le_mul nb4.2 (by omega)
   obtain⟨t,ht⟩ : ∃t,t=n*i+j:=⟨_,rfl⟩
   have et:((n*i:Nat):Int)+(j:Int)=(t:Int):=by omega
   have fin : ∀y:Nat,y<6 → ∀fr':Fr,ai fr' 1=some (ptr (2*h.n) 0)→True:=fun _ _ _ _=>trivial
   by_cases c:t<lN.length
   ·obtain⟨x,hx⟩ : ∃x,lN[t]?=some x:=⟨_,List.getElem?_eq_getElem c⟩
    have xb:=hv.2.2 x (List.mem_of_getElem? hx)
    have hr6 : ∀ox oy,binop prog .rem 5 ox oy (B8 x) (.int .u8 6)=some (.int .u8 ((x % 6:Nat):Int)):=fun ox oy=>lW _ _ .u8 ox oy x 6 (by omega)
    obtain⟨y,hy⟩ : ∃y,y=x % 6:=⟨_,rfl⟩
    have yb:y<6:=by omega
    rw[←hy] at hr6
    obtain⟨dI,h8,hap,hA8,hG8,hE8⟩:=hA2.DX (P:=prog) (t:=25) uR (x:=KN y) rfl (by omega) (by omega) hE2 (by omega)
    simp -dsimp (disch:=try exact dx) only[wpS,wpT,zE,zL,zA,Gr,P9,WW,tw,fY,f1,f3,f5,f6,f7,f8,enm,et,aj hg2,hv.1.len Wz,hv.1.idx Z9 c,hv.ld ZY.ae hx,hr6,hap]
    refine⟨m2 - 1,by omega,j+1,dI,xs ++ [y],by omega,by simp[hjl],?_,hE8,?_,by simp[f1],by simp[f3],by simp[f4],by simp[f5],by simp,?_,by simp⟩
    ·intro q hq
     rcases List.mem_append.1 hq with hq|hq
     ·exact hx6 q hq
     ·rw[List.mem_singleton.1 hq];exact yb
    ·rw[List.map_append,List.length_append];exact hA8
    ·simp[List.sum_append]
   ·obtain⟨dI,h8,hap,hA8,hG8,hE8⟩:=hA2.DX (P:=prog) (t:=25) uR (x:=KI 0) rfl (by omega) (by omega) hE2 (by omega)
    simp -dsimp (disch:=try exact dx) only[wpS,wpT,zE,zL,zA,P9,WW,tw,fY,f1,f3,f5,f6,f7,f8,enm,et,aj hg2,hv.1.len Wz,hap]
    refine⟨m2 - 1,by omega,j+1,dI,xs ++ [0],by omega,by simp[hjl],?_,hE8,?_,by simp[f1],by simp[f3],by simp[f4],by simp[f5],by simp,?_,by simp⟩
    ·intro q hq
     rcases List.mem_append.1 hq with hq|hq
     ·exact hx6 q hq
     ·rw[List.mem_singleton.1 hq];decide
    ·rw[List.map_append,List.length_append];exact hA8
    ·simp[List.sum_append]
  ·have hxn:xs.length=n:=by omega
   clear hc2
   by_cases c0:xs.sum=0
   ·have dz:(((xs.sum:Nat):Int) == 0)=true:=by simp[c0]
    have hix:i<xs.length:=by omega
    obtain⟨h3,st0,A3,e3,n3⟩:=hA2.UT (P:=prog) (t:=3) sz3 hix (x:=KI 1) (xs:=[KI 1]) rfl rfl rfl hE2 (Nat.le_refl _)
    have st:store prog h2 3 (aO o2 i) (.int .i64 1)=some h3:=by rw[Nat.mul_one] at st0;exact st0
    have ix:=hA2.sl.idx (P:=prog) (k:=.i64) gU hix
    have A3':Acc h3 hh.n 1 o2 n ((xs.set i 1).map KN):=by
     have e:IH.aG (xs.map KN) (i*1) [KI 1]=(xs.set i 1).map KN:=by
      have:=FY (xs.map fun y:Nat=>(y:Int)) i 1 (by simpa using hix)
      rw[List.map_map] at this
      rw[show(xs.map KN)=xs.map (KI ∘ fun y:Nat=>(y:Int)) from rfl,this,List.map_set,List.map_map,List.map_set]
      rfl
     rw[←e,←hxn];exact A3
    have hsv:(xs.set i 1).sum=1:=Jh xs i hix c0
    have hy6 : ∀y∈xs.set i 1,y≤1000:=fun y hy=>(List.mem_or_eq_of_mem_set hy).elim (fun h=>by have:=hx6 y h;omega) (fun h=>by omega)
    have hyl:(xs.set i 1).length=n:=by rw[List.length_set];exact hxn
    obtain⟨s,hs⟩ : ∃s,s=(xs.set i 1).sum:=⟨_,rfl⟩
    have hs1:(s:Int)=1:=by rw[hs,hsv];rfl
    have hsb:0<s∧s≤100:=by rw[hs,Jh xs i (by omega) c0];exact⟨by omega,by omega⟩
    have A3:Acc h3 hh.n 1 o2 n ((xs.set i 1).map KN):=A3'
    have E3:Ext hh h3:=e3
    have hn3:=E3.n
    have sO:Wj h3 o2 ((xs.set i 1).map fun y:Nat=>(y:Int)):=⟨by rw[List.length_map,hyl,List.map_map];exact A3.sl,by rw[List.length_map];omega,fun x hx=>by
     obtain⟨y,hy,rfl⟩:=List.mem_map.1 hx
     have:=hy6 y hy
     constructor<;>omega⟩
    obtain⟨ys,hys⟩ : ∃ys,ys=xs.set i 1:=⟨_,rfl⟩
    rw[←hys] at hy6 hyl hs sO
    simp -dsimp (disch:=try exact dx) only[wpS,wpT,zE,f5,f6,f7,ix,st,dz]
    refine loop (fun m4 fr h4 => ∃(j:Nat) (o3:Value),j+m4=n∧Ext h3 h4∧Acc h4 h3.n 16 o3 j (shL ((ys.take j).map fun y=>shq (Rat.divInt (y:Nat) (s:Nat))))∧ai fr 1=some (ptr (2*h.n) 0)∧ai fr 3=some (KN n)∧ai fr 4=some out∧ai fr 5=some (KN i)∧ai fr 6=some o2∧ai fr 7=some (KN s)∧ai fr 10=some o3∧ai fr 11=some (KN j)) n
     ⟨0,.slice none 0 0,by omega,Ext.refl _,Acc.nil _ _ (by omega),by simp[f1],by simp[f3],by simp[f4],by simp[f5],by simp[f6],by simp[hs1],by simp,by simp⟩ ?_
    clear f1 f3 f4 f5 f6 f7 f8
    rintro m4 fr h4 ⟨j,o3,ZJ,hE4,hA4,f1,f3,f4,f5,f6,f7,f10,f11⟩
    have hn4:=hE4.n
    have qwy : ∀y∈ys,QW (Rat.divInt (y:Nat) (s:Nat)):=fun y hy=>by
     have:=hy6 y hy
     exact vi ⟨by omega,by omega⟩ ⟨by omega,by omega⟩ (by omega)
    simp -dsimp (disch:=try exact dx) only[wpS,zE,f3,f11]
    refine aA ?_ ?_<;>intro hc4<;>simp only[decide_eq_true_eq,decide_eq_false_iff_not] at hc4
    ·have hj:j<ys.length:=by omega
     obtain⟨y,hy⟩ : ∃y,ys[j]?=some y:=⟨_,List.getElem?_eq_getElem hj⟩
     have hym:=List.mem_of_getElem? hy
     have yb:=hy6 y hym
     have hyi:(ys.map fun y:Nat=>(y:Int))[j]?=some (y:Int):=by rw[List.getElem?_map,hy];rfl
     have ixo:=sO.1.idx (P:=prog) (k:=.i64) gU (j:=j) (by rw[List.length_map];exact hj)
     simp -dsimp (disch:=try exact dx) only[wpS,wpT,zE,f6,f7,f11,ixo,J8 sO hE4.ae hyi]
     refine call (sH (y:Int) (s:Int) ⟨by omega,by omega⟩ ⟨by omega,by omega⟩ (by omega)) ?_
     rintro _ h5 ⟨X5,rfl⟩
     rw[yL]
     have pw:=CQ (qwy y hym)
     obtain⟨p,hp⟩ : ∃p,p=shq (Rat.divInt (y:Nat) (s:Nat)):=⟨_,rfl⟩
     have etk:shL ((ys.take (j+1)).map fun y=>shq (Rat.divInt (y:Nat) (s:Nat)))=shL ((ys.take j).map fun y=>shq (Rat.divInt (y:Nat) (s:Nat))) ++ shC p.1 p.2:=by
      rw[nG hy,List.map_append,List.map_cons,List.map_nil,BS,hp]
     rw[←hp] at pw ⊢
     obtain⟨H6,hH6⟩ : ∃H,H=(h5.new (.cells Z16 0 none)).put h5.n (.cells (shC p.1 p.2) 0 none):=⟨_,rfl⟩
     have E6:Ext h5 H6:=by rw[hH6];exact((Ext.refl h5).new _).put (Nat.le_refl _) _
     have n6:H6.n=h5.n+1:=by rw[hH6];rfl
     have k6:H6.ext.get h5.n=some (.cells (shC p.1 p.2) 0 none):=by rw[hH6];simp (disch:=try exact dx) only[aa]
     have m5:=X5.n
     simp -dsimp (disch:=try exact dx) only[wpS,wpT,zE,zL,zA,xr,rz,bV,aP,dH,iI]
     rw[←hH6]
     clear hH6
     have E56:=X5.trans E6
     obtain⟨dI,h8,hap,hA8,hG8,hE8⟩:=(hA4.ext E56).Aq (P:=prog) (t:=82) Th (m:=1) (new:=shC p.1 p.2) (by omega) (by rw[aP]) (dH _ _) (by omega) (by omega) (hE4.trans E56) (Nat.le_refl _)
     have tj:append prog (H6.new (.cells (shC p.1 p.2) 16 none)) 82 o3 (.slice (some ⟨2*H6.n,0,none⟩) 1 3)=some (dI,h8):=hap
     simp -dsimp (disch:=try exact dx) only[wpS,wpT,zE,zL,zA,kA,QZ,yh,f10,f11,aj k6,aP,dG,bV,iI,show(.agg (shC p.1 p.2).toArray:Value)=shV p.1 p.2 from rfl,tj]
     exact⟨m4 - 1,by omega,j+1,dI,by omega,hE8,by rw[etk];exact hA8,by simp[f1],by simp[f3],by simp[f4],by simp[f5],by simp[f6],by simp[f7],by simp,by simp⟩
    ·have hjn:j=n:=by omega
     subst hjn
     rw[List.take_of_length_le (by omega)] at hA4
     obtain⟨l,hl⟩ : ∃l,l=ys.map fun y=>shq (Rat.divInt (y:Nat) (s:Nat)):=⟨_,rfl⟩
     have PO:l.length=j:=by rw[hl,List.length_map,hyl]
     rw[←hl] at hA4
     have rok:Lx l:=by rw[hl,hs];exact FT (by omega) (by omega) hy6
     have S4:jt h4 o3 l:=⟨by rw[PO];exact hA4.sl,by omega,fun p hp=>by
      rw[hl] at hp
      obtain⟨y,hy,rfl⟩:=List.mem_map.1 hp
      exact CQ (qwy y hy)⟩
     have E34:=E3.trans hE4
     obtain⟨dI,h8,hap,hA8,hG8,hE8⟩:=(hA.ext E34).DX (P:=prog) (t:=54) Ti (x:=o3) S4.1.cok (by omega) (by omega) (hE.trans E34) (Nat.le_refl _)
     have tj:append prog (h4.new (.cells [o3] 1 none)) 54 out (.slice (some ⟨2*h4.n,0,none⟩) 1 3)=some (dI,h8):=hap
     simp -dsimp (disch:=try exact dx) only[wpS,wpT,zE,zL,zA,S7,yi,f4,f5,f10,S4.1.cells,tj]
     refine⟨m - 1,by omega,i+1,dI,vs ++ [o3],ll ++ [l],by omega,by simp[hil],by simp[hvl],hE8,hA8,?_,?_,by simp[f1],by simp[f3],by simp,by simp⟩
     ·intro k x hx
      by_cases hk:k<i
      ·rw[List.getElem?_append_left (by omega)] at hx
       obtain⟨w,c3,c4⟩:=hll k x hx
       exact⟨w,by rw[List.getElem?_append_left (by omega)];exact c3,c4.ae (E34.ae.trans hG8.ae)⟩
      ·have hki:k=i:=by
        have:=(List.getElem?_eq_some_iff.1 hx).1
        simp at this
        omega
       subst hki
       rw[List.getElem?_append_right (by omega),hil,Nat.sub_self] at hx
       simp at hx
       subst hx
       exact⟨o3,by rw[List.getElem?_append_right (by omega),hvl,Nat.sub_self];rfl,S4.ae hG8.ae⟩
     ·intro x hx
      rcases List.mem_append.1 hx with hx|hx
      ·exact hro x hx
      ·rw[List.mem_singleton.1 hx];exact⟨PO,rok⟩

   ·have dz:(((xs.sum:Nat):Int) == 0)=false:=by simp;omega
    have hy6 : ∀y∈xs,y≤1000:=fun y hy=>by have:=hx6 y hy;omega
    have hyl:(xs).length=n:=hxn
    obtain⟨s,hs⟩ : ∃s,s=(xs).sum:=⟨_,rfl⟩
    have hsb:0<s∧s≤100:=⟨by omega,by omega⟩
    have A3:Acc h2 hh.n 1 o2 n ((xs).map KN):=by rw[←hxn];exact hA2
    have E3:Ext hh h2:=hE2
    have hn3:=E3.n
    have sO:Wj h2 o2 ((xs).map fun y:Nat=>(y:Int)):=⟨by rw[List.length_map,hyl,List.map_map];exact A3.sl,by rw[List.length_map];omega,fun x hx=>by
     obtain⟨y,hy,rfl⟩:=List.mem_map.1 hx
     have:=hy6 y hy
     constructor<;>omega⟩
    obtain⟨ys,hys⟩ : ∃ys,ys=xs:=⟨_,rfl⟩
    rw[←hys] at hy6 hyl hs sO
    simp -dsimp (disch:=try exact dx) only[wpS,wpT,zE,f7,dz]
    refine loop (fun m4 fr h4 => ∃(j:Nat) (o3:Value),j+m4=n∧Ext h2 h4∧Acc h4 h2.n 16 o3 j (shL ((ys.take j).map fun y=>shq (Rat.divInt (y:Nat) (s:Nat))))∧ai fr 1=some (ptr (2*h.n) 0)∧ai fr 3=some (KN n)∧ai fr 4=some out∧ai fr 5=some (KN i)∧ai fr 6=some o2∧ai fr 7=some (KN s)∧ai fr 10=some o3∧ai fr 11=some (KN j)) n
     ⟨0,.slice none 0 0,by omega,Ext.refl _,Acc.nil _ _ (by omega),by simp[f1],by simp[f3],by simp[f4],by simp[f5],by simp[f6],by simp[f7,hs,hys],by simp,by simp⟩ ?_
    clear f1 f3 f4 f5 f6 f7 f8
    rintro m4 fr h4 ⟨j,o3,ZJ,hE4,hA4,f1,f3,f4,f5,f6,f7,f10,f11⟩
    have hn4:=hE4.n
    have qwy : ∀y∈ys,QW (Rat.divInt (y:Nat) (s:Nat)):=fun y hy=>by
     have:=hy6 y hy
     exact vi ⟨by omega,by omega⟩ ⟨by omega,by omega⟩ (by omega)
    simp -dsimp (disch:=try exact dx) only[wpS,zE,f3,f11]
    refine aA ?_ ?_<;>intro hc4<;>simp only[decide_eq_true_eq,decide_eq_false_iff_not] at hc4
    ·have hj:j<ys.length:=by omega
     obtain⟨y,hy⟩ : ∃y,ys[j]?=some y:=⟨_,List.getElem?_eq_getElem hj⟩
     have hym:=List.mem_of_getElem? hy
     have yb:=hy6 y hym
     have hyi:(ys.map fun y:Nat=>(y:Int))[j]?=some (y:Int):=by rw[List.getElem?_map,hy];rfl
     have ixo:=sO.1.idx (P:=prog) (k:=.i64) gU (j:=j) (by rw[List.length_map];exact hj)
     simp -dsimp (disch:=try exact dx) only[wpS,wpT,zE,f6,f7,f11,ixo,J8 sO hE4.ae hyi]
     refine call (sH (y:Int) (s:Int) ⟨by omega,by omega⟩ ⟨by omega,by omega⟩ (by omega)) ?_
     rintro _ h5 ⟨X5,rfl⟩
     rw[yL]
     have pw:=CQ (qwy y hym)
     obtain⟨p,hp⟩ : ∃p,p=shq (Rat.divInt (y:Nat) (s:Nat)):=⟨_,rfl⟩
     have etk:shL ((ys.take (j+1)).map fun y=>shq (Rat.divInt (y:Nat) (s:Nat)))=shL ((ys.take j).map fun y=>shq (Rat.divInt (y:Nat) (s:Nat))) ++ shC p.1 p.2:=by
      rw[nG hy,List.map_append,List.map_cons,List.map_nil,BS,hp]
     rw[←hp] at pw ⊢
     obtain⟨H6,hH6⟩ : ∃H,H=(h5.new (.cells Z16 0 none)).put h5.n (.cells (shC p.1 p.2) 0 none):=⟨_,rfl⟩
     have E6:Ext h5 H6:=by rw[hH6];exact((Ext.refl h5).new _).put (Nat.le_refl _) _
     have n6:H6.n=h5.n+1:=by rw[hH6];rfl
     have k6:H6.ext.get h5.n=some (.cells (shC p.1 p.2) 0 none):=by rw[hH6];simp (disch:=try exact dx) only[aa]
     have m5:=X5.n
     simp -dsimp (disch:=try exact dx) only[wpS,wpT,zE,zL,zA,xr,rz,bV,aP,dH,iI]
     rw[←hH6]
     clear hH6
     have E56:=X5.trans E6
     obtain⟨dI,h8,hap,hA8,hG8,hE8⟩:=(hA4.ext E56).Aq (P:=prog) (t:=82) Th (m:=1) (new:=shC p.1 p.2) (by omega) (by rw[aP]) (dH _ _) (by omega) (by omega) (hE4.trans E56) (Nat.le_refl _)
     have tj:append prog (H6.new (.cells (shC p.1 p.2) 16 none)) 82 o3 (.slice (some ⟨2*H6.n,0,none⟩) 1 3)=some (dI,h8):=hap
     simp -dsimp (disch:=try exact dx) only[wpS,wpT,zE,zL,zA,kA,QZ,yh,f10,f11,aj k6,aP,dG,bV,iI,show(.agg (shC p.1 p.2).toArray:Value)=shV p.1 p.2 from rfl,tj]
     exact⟨m4 - 1,by omega,j+1,dI,by omega,hE8,by rw[etk];exact hA8,by simp[f1],by simp[f3],by simp[f4],by simp[f5],by simp[f6],by simp[f7],by simp,by simp⟩
    ·have hjn:j=n:=by omega
     subst hjn
     rw[List.take_of_length_le (by omega)] at hA4
     obtain⟨l,hl⟩ : ∃l,l=ys.map fun y=>shq (Rat.divInt (y:Nat) (s:Nat)):=⟨_,rfl⟩
     have PO:l.length=j:=by rw[hl,List.length_map,hyl]
     rw[←hl] at hA4
     have rok:Lx l:=by rw[hl,hs];exact FT (by omega) (by omega) hy6
     have S4:jt h4 o3 l:=⟨by rw[PO];exact hA4.sl,by omega,fun p hp=>by
      rw[hl] at hp
      obtain⟨y,hy,rfl⟩:=List.mem_map.1 hp
      exact CQ (qwy y hy)⟩
     have E34:=E3.trans hE4
     obtain⟨dI,h8,hap,hA8,hG8,hE8⟩:=(hA.ext E34).DX (P:=prog) (t:=54) Ti (x:=o3) S4.1.cok (by omega) (by omega) (hE.trans E34) (Nat.le_refl _)
     have tj:append prog (h4.new (.cells [o3] 1 none)) 54 out (.slice (some ⟨2*h4.n,0,none⟩) 1 3)=some (dI,h8):=hap
     simp -dsimp (disch:=try exact dx) only[wpS,wpT,zE,zL,zA,S7,yi,f4,f5,f10,S4.1.cells,tj]
     refine⟨m - 1,by omega,i+1,dI,vs ++ [o3],ll ++ [l],by omega,by simp[hil],by simp[hvl],hE8,hA8,?_,?_,by simp[f1],by simp[f3],by simp,by simp⟩
     ·intro k x hx
      by_cases hk:k<i
      ·rw[List.getElem?_append_left (by omega)] at hx
       obtain⟨w,c3,c4⟩:=hll k x hx
       exact⟨w,by rw[List.getElem?_append_left (by omega)];exact c3,c4.ae (E34.ae.trans hG8.ae)⟩
      ·have hki:k=i:=by
        have:=(List.getElem?_eq_some_iff.1 hx).1
        simp at this
        omega
       subst hki
       rw[List.getElem?_append_right (by omega),hil,Nat.sub_self] at hx
       simp at hx
       subst hx
       exact⟨o3,by rw[List.getElem?_append_right (by omega),hvl,Nat.sub_self];rfl,S4.ae hG8.ae⟩
     ·intro x hx
      rcases List.mem_append.1 hx with hx|hx
      ·exact hro x hx
      ·rw[List.mem_singleton.1 hx];exact⟨PO,rok⟩

 ·have hin:i=n:=by omega
  subst hin
  simp -dsimp (disch:=try exact dx) only[wpS,wpT,zE,f4]
  exact⟨hEh,ll,⟨vs,by rw[hil];exact hA.sl,by omega,hll⟩,hil,hro⟩
end Go.Id
