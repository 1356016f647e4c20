/-
  Contracts: package outlier: zeros.
-/
import Derived.Test.YtnnmjocmapilaaaGreatOutlierValidBf
set_option linter.unusedVariables false
set_option linter.unusedSimpArgs false
set_option linter.defProp false
set_option linter.deprecated false
namespace Go.Id
open Go
open Go.Proofs.Tryz (prog)
open Nat renaming reduceAdd→zA,reduceEqDiff→zE
set_option maxHeartbeats 16000000
def pR (N M i:Nat) (r:Nat→Nat):List Value:=(List.range N).map fun j=>if j<i then mkV (r j) M else .slice none 0 0
theorem MD (N M:Nat) (r:Nat→Nat):pR N M 0 r=bq N [.slice none 0 0]:=by
 rw[zq]
 unfold pR
 refine List.ext_getElem (by simp) fun i h1 h2=>?_
 simp
theorem Pj {N M i k:Nat} {r:Nat→Nat} (hi:i<N):IH.aG (pR N M i r) (i*1) [mkV k M]=pR N M (i+1) (fun j=>if j=i then k else r j):=by
 rw[Nat.mul_one,gG (by simp[pR];omega)]
 unfold pR
 refine List.ext_getElem (by simp) fun j h1 h2=>?_
 simp only[List.getElem_set,List.getElem_map,List.getElem_range]
 by_cases e:i=j
 ·subst e
  simp
 ·rw[if_neg e,if_neg (c:=j=i) (Ne.symm e)]
  by_cases c:j<i
  ·rw[if_pos c,if_pos (by omega)]
  ·rw[if_neg c,if_neg (by omega)]
theorem SI (N M i:Nat) (r:Nat→Nat):SS (pR N M i r):=fun x hx=>by
 unfold pR at hx
 obtain⟨j,_,rfl⟩:=List.mem_map.1 hx
 split
 ·exact⟨_,_,_,rfl⟩
 ·exact⟨_,_,_,rfl⟩
theorem yY (N M i:Nat) (r:Nat→Nat):(pR N M i r).length=N:=by simp[pR]
structure JP (H:IH) (b N M i:Nat) (r:Nat→Nat):Prop where
 ob:rh H 1 b (mkV b N) N (pR N M i r)
 lr : ∀j,j<i→b<r j∧r j<H.n
 inj : ∀j k,j<i→k<i→r j=r k→j=k
 row : ∀j,j<i→kQ H (r j) M fun _=>0
theorem JP.ext {H H':IH} {b N M i:Nat} {r:Nat→Nat} (t:JP H b N M i r) (e:Ext H H'):JP H' b N M i r :=
 ⟨t.ob.ext e,fun j hj=>⟨(t.lr j hj).1,Nat.lt_of_lt_of_le (t.lr j hj).2 e.n⟩,t.inj,fun j hj=>(t.row j hj).ext e⟩
theorem JP.full {H:IH} {b N M:Nat} {r:Nat→Nat} (t:JP H b N M N r):Tab H b H.n b N M r fun _ _=>0:=by
 refine⟨⟨Nat.le_refl _,t.ob.old⟩,?_,fun j hj=>⟨Nat.le_of_lt (t.lr j hj).1,(t.lr j hj).2,Nat.ne_of_gt (t.lr j hj).1⟩,t.inj,t.row⟩
 have:pR N M N r=(List.range N).map fun j=>mkV (r j) M:=by
  unfold pR
  refine List.map_congr_left fun j hj=>?_
  rw[if_pos (List.mem_range.1 hj)]
 rw[←this]
 exact t.ob
theorem Dd {H:IH} {b N M i:Nat} {r:Nat→Nat} (o:rh H 1 b (mkV b N) N (pR N M (i+1) r)) (hi:i<N):load prog H 139 (aM (mkV b N) i)=some (mkV (r i) M):=by
 have l2:=o.len
 rw[o.sl.ld (aJ.refl H) (by omega) xQ]
 unfold pR
 rw[List.getElem?_map,List.getElem?_range hi]
 simp
theorem EC {h:IH} {N M:Nat} (hN:0<N) (hN1:N≤1000) (hM:0<M) (hM1:M≤1000) :
  WV prog (.func (.func 178) #[] #[]) [KN N,KN M] h fun v h'=>Ext h h' ∧ ∃b r,h.n≤b∧v=mkV b N∧Tab h' b h'.n b N M r fun _ _=>0:=by
 refine enter (nt:=38) (rs:=[.tmp 4]) Proofs.Tryz.func178 rfl rfl rfl (by simp) ?_
 simp -dsimp (disch:=omega) only[wpS,zE,zA,YK,YR]
 obtain⟨v5,hv5⟩:=aP (mkV h.n N)
 obtain⟨H1,hH1⟩:=aP (h.new (.cells (bq N [.slice none 0 0]) 1 none))
 have E1:Ext h H1:=by rw[hH1];exact(Ext.refl h).new _
 have n1:H1.n=h.n+1:=by rw[hH1];rfl
 have r1:rh H1 1 h.n v5 N (pR N M 0 fun _=>0):=⟨hv5,by rw[yY,Nat.mul_one],by omega,hN,by omega,by rw[hH1,MD];simp (disch:=omega) only[ah]⟩
 rw[←hH1]
 have t1:JP H1 h.n N M 0 fun _=>0:=⟨hv5▸r1,fun j hj=>by omega,fun j k hj=>by omega,fun j hj=>by omega⟩
 clear hH1 r1
 refine loop (fun m fr hh => ∃(i:Nat) (r:Nat→Nat),i+m=N∧Ext h hh∧JP hh h.n N M i r∧ab fr 1=some (KN M)∧ab fr 5=some (mkV h.n N)∧ab fr 11=some (KN N)∧ab fr 12=some (KN i)) N
  ⟨0,fun _=>0,by omega,E1,t1,by simp[mkV]⟩ ?_
 clear t1 E1 n1
 rintro m fr hh ⟨i,r,him,hE,t,f1,f5,f11,f12⟩
 simp -dsimp (disch:=omega) only[wpS,f11,f12]
 refine aq ?_ ?_<;>intro hc<;>simp only[decide_eq_true_eq,decide_eq_false_iff_not] at hc
 ·have hi:i<N:=by omega
  have nn:=hE.n
  have ob:=t.ob.old
  have E1:Ext hh (hh.new (.cells (bq M ZR) 4 none)):=(Ext.refl hh).new _
  have t2:=t.ext E1
  have ol:=t2.ob.len
  have ix:indexAddr prog 147 (mkV h.n N) (KN i)=some (aM (mkV h.n N) i):=by
   have:=t.ob.sl.idx LG (P:=prog) (k:=.i64) hi
   rwa [Nat.mul_one] at this
  obtain⟨s1,s2⟩:=t2.ob.set (P:=prog) (t:=139) UR hi (x:=mkV hh.n M) (xs:=[mkV hh.n M]) rfl rfl (by simp[mkV,aA])
  rw[Pj hi] at s1 s2
  rw[Nat.mul_one] at s1
  have s1':store prog (hh.new (.cells (bq M ZR) 4 none)) 139 (aM (mkV h.n N) i) (.slice (some ⟨2*hh.n,0,none⟩) M (2*M+1))=_:=s1
  obtain⟨H2,hH2⟩:=aP ((hh.new (.cells (bq M ZR) 4 none)).put h.n (.cells (pR N M (i+1) fun j=>if j=i then hh.n else r j) 1 none))
  rw[←hH2] at s1' s2
  have E2:Ext h H2:=by rw[hH2];exact(hE.trans E1).put (Nat.le_refl _) _
  have n2:H2.n=hh.n+1:=by rw[hH2];rfl
  have g2:H2.ext.get hh.n=some (.cells (bq M ZR) 4 none):=by rw[hH2,ak _ _ (by omega)];simp (disch:=omega) only[ah]
  have rw2 : ∀j,j<i→kQ H2 (r j) M fun _=>0:=fun j hj=>by
   have lj:=t2.lr j hj
   obtain⟨cs,c1,c2⟩:=t2.row j hj
   rw[hH2]
   exact⟨cs,⟨c1.form,c1.len,c1.size,c1.some_,c1.old,(ak _ _ (by omega)).trans c1.got⟩,fun m hm=>(c2 m hm).mono fun _ p=>p.Tc t2.ob.got (SI _ _ _ _) (by rw[yY,yY])⟩
  have lr2 : ∀j,j<i→h.n<r j∧r j<hh.n:=fun j hj=>t.lr j hj
  obtain⟨r',hr'⟩ : ∃f,f=(fun j=>if j=i then hh.n else r j):=⟨_,rfl⟩
  rw[←hr'] at s2 hH2
  have ri:r' i=hh.n:=by rw[hr'];simp
  have rj : ∀j,j<i→r' j=r j:=fun j hj=>by rw[hr'];simp only[if_neg (show ¬j=i by omega)]
  have ld2:=Dd s2 hi
  rw[ri] at ld2
  have r2:rh H2 4 hh.n (mkV hh.n M) M (bq M ZR):=⟨rfl,by rw[FL];rfl,by omega,hM,by omega,g2⟩
  have TK:nB prog H2 139 (mkV hh.n M)=some (KN M):=r2.sl.len Bz H2
  clear hH2 g2 t2 s1
  simp -dsimp (disch:=omega) only[wpS,wpT,zE,YL,f1,f5,f12,ix,s1',ld2,TK]
  refine loop (fun m2 fr H => ∃(j:Nat) (cs:List Value),j+m2=M∧Ext h H∧hh.n<H.n∧rh H 1 h.n (mkV h.n N) N (pR N M (i+1) r')∧(∀j,j<i→kQ H (r j) M fun _=>0)∧rh H 4 hh.n (mkV hh.n M) M cs∧(∀m,m<j→kU bg H cs m 0) ∧
    ab fr 1=some (KN M)∧ab fr 5=some (mkV h.n N)∧ab fr 6=some (KN i)∧ab fr 11=some (KN N)∧ab fr 12=some (KN i)∧ab fr 24=some (KN M)∧ab fr 25=some (KN j)) M
   ⟨0,_,by omega,E2,by omega,s2,rw2,r2,fun m hm=>by omega,by simp[f1,f5,f11,f12]⟩ ?_
  clear E2 n2 s2 rw2 r2 s1' ld2 TK f1 f5 f11 f12 E1 hr'
  rintro m2 fr H ⟨j,cs,hjm,E,nH,o,rows,rb,el,f1,f5,f6,f11,f12,f24,f25⟩
  simp -dsimp (disch:=omega) only[wpS,f24,f25]
  refine aq ?_ ?_<;>intro hc2<;>simp only[decide_eq_true_eq,decide_eq_false_iff_not] at hc2
  ·have hj:j<M:=by omega
   have ld3:=Dd o hi
   rw[ri] at ld3
   simp -dsimp (disch:=omega) only[wpS,wpT,zE,f25]
   refine drawn [(3,[7])] (by kernel_rfl) (by kernel_rfl) rfl ?_
   simp -dsimp (disch:=omega) only[wpS,zE,f5,f6,ix,ld3]
   refine call (eH 0 ⟨by omega,by omega⟩) ?_
   rintro z h4 ⟨X4,p4⟩
   have m4:=X4.n
   have o4:=o.ext X4
   have ld4:=Dd o4 hi
   rw[ri] at ld4
   obtain⟨x1,x2,x3,x4,rfl,_,_,d1,o1,d2,o2,o3,o5⟩:=p4.parts
   have rb4:=rb.ext X4
   have rl:=rb4.len
   have ixr:indexAddr prog 139 (mkV hh.n M) (KN j)=some (aM (mkV hh.n M) (j*4)):=rb4.sl.idx An (k:=.i64) hj
   obtain⟨u1,u2⟩:=rb4.set (P:=prog) (t:=137) sD hj (x:=.agg #[x1,x2,x3,x4]) (xs:=[x1,x2,x3,x4]) rfl rfl (by simp[o1,o2,o3,o5])
   simp -dsimp (disch:=omega) only[wpS,zE,ixr,u1]
   refine⟨ad rfl rfl rfl rfl (ai rfl ld3 ld4),?_⟩
   simp -dsimp (disch:=omega) only[wpS,wpT,zE,zA,f25]
   refine⟨m2 - 1,by omega,j+1,_,by omega,(E.trans X4).put (by have:=hE.n;omega) _,by simp only[aH];omega,⟨o4.form,o4.len,o4.size,o4.some_,o4.old,(ak _ _ (by omega)).trans o4.got⟩,fun k hk=>((rows k hk).ext X4).A5 rb4.got (by decide) (by have:=t.lr k hk;omega) _,u2,fun m hm=>?_,by simp[f1,f5,f6,f11,f12,f24]⟩
   by_cases e:m=j
   ·subst e
    exact kU.set (by omega) (p4.A5 rb4.got (by decide) _)
   ·exact((el m (by omega)).mono fun _ p=>(p.aa X4.aa).A5 rb4.got (by decide) _).other (by omega) e
  ·obtain rfl:j=M:=by omega
   simp -dsimp (disch:=omega) only[wpS,wpT,zE,f12]
   refine⟨m - 1,by omega,i+1,r',by omega,E,⟨o,fun k hk=>?_,fun k l hk hl h=>?_,fun k hk=>?_⟩,by simp[f1,f5,f11]⟩
   ·by_cases e:k=i
    ·subst e;rw[ri];exact⟨by omega,by omega⟩
    ·rw[rj k (by omega)]
     have:=lr2 k (by omega)
     exact⟨this.1,by omega⟩
   ·by_cases e:k=i
    ·by_cases e2:l=i
     ·omega
     ·rw[e,ri,rj l (by omega)] at h
      have:=lr2 l (by omega)
      omega
    ·by_cases e2:l=i
     ·rw[e2,ri,rj k (by omega)] at h
      have:=lr2 k (by omega)
      omega
     ·rw[rj k (by omega),rj l (by omega)] at h
      exact t.inj k l (by omega) (by omega) h
   ·by_cases e:k=i
    ·subst e;rw[ri];exact⟨cs,rb,el⟩
    ·rw[rj k (by omega)];exact rows k (by omega)
 ·obtain rfl:i=N:=by omega
  simp -dsimp (disch:=omega) only[wpS,wpT,zE,f5]
  exact⟨hE,h.n,r,Nat.le_refl _,rfl,t.full⟩
end Go.Id
namespace Go.Id

open Go

theorem XU:H8=2 ^ 511:=by unfold H8;decide +kernel


theorem Sz {n:Nat} (hn:n<H8):wdI n=(n:Int):=by unfold wdI;rw[if_pos hn]
theorem xS.rat {h:IH} {v:Value} {n d:Nat} (p:xS h v (wdI n) (wdI d)) (ok:okS n d):fm h v (rOf (n,d)):=by
 obtain⟨e1,e2⟩:=dC (p:=(n,d)) ok
 unfold fm
 rw[e1,e2];exact p
open Go.Proofs.Tryz (prog)
open Nat renaming reduceAdd→zA,reduceEqDiff→zE,reduceLeDiff→zL
set_option maxHeartbeats 16000000
theorem zY {h:IH}:WV prog (.func (.func 163) #[] #[]) [] h fun r h'=>Ext h h'∧fm h' r 0:=by
 have E1:Ext h (h.new (.cells ZR 0 none)):=(Ext.refl h).new _
 have g1:(h.new (.cells ZR 0 none)).ext.get h.n=some (.cells ZR 0 none):=by simp (disch:=omega) only[ah]
 refine enter (nt:=2) (rs:=[.cell 0 177]) Proofs.Tryz.func163 rfl rfl rfl (by simp) ?_
 simp -dsimp (disch:=omega) only[wpS,ku]
 refine call (uJ 0 1 ⟨by omega,by omega⟩ ⟨by omega,by omega⟩ (by omega)) ?_
 rintro r h1 ⟨X1,p1⟩
 rw[Rat.zero_divInt] at p1
 obtain⟨a3,s3,b3,t3,rfl,_,_,d1,o1,d2,o2,o3,o4⟩:=p1.parts
 have k1:=X1.kept (by simp) g1
 have m1:=X1.n
 simp only[aI] at m1
 simp -dsimp (disch:=omega) only[wpS,wpT,zE,zL,zA,iW,jx,k1,o1,o2,o3,o4,fg]
 exact⟨(E1.trans X1).put (by omega) _,p1.aa ((aJ.refl _).put k1 _)⟩
open Classical in
theorem NG {h:IH} {v:Value} {l:List (Nat×Nat)} (hv:iT h v l) :
  WV prog (.func (.func 133) #[] #[]) [v] h fun r h'=>Ext h h'∧r=.bool (decide (∀p∈l,okS p.1 p.2)):=by
 have hlb:=hv.2.1
 refine enter (nt:=16) (rs:=[.tmp 2]) Proofs.Tryz.func133 rfl rfl rfl (by simp) ?_
 simp -dsimp (disch:=omega) only[wpS]
 refine loop (fun m fr h1 => ∃i:Nat,i+m=l.length∧Ext h h1∧(∀(j:Nat) p,j<i→l[j]?=some p→okS p.1 p.2)∧ab fr 0=some v∧ab fr 3=some (KN i)) l.length
  ⟨0,by omega,Ext.refl _,fun j p hj=>by omega,by simp⟩ ?_
 rintro m fr h1 ⟨i,him,hE,hok,f0,f3⟩
 simp -dsimp (disch:=omega) only[wpS,zE,f0,f3,hv.1.len uu]
 refine aq ?_ ?_<;>intro hc<;>simp only[decide_eq_true_eq,decide_eq_false_iff_not] at hc
 ·have hi:i<l.length:=by omega
  obtain⟨p,hp⟩:=il (l:=l) (i:=i) hi
  have hpm:=List.mem_of_getElem? hp
  obtain⟨w1,w2⟩:=hv.2.2 p hpm
  simp -dsimp (disch:=omega) only[wpS,wpT,zE,f0,f3,hv.1.idx x8 hi,hv.ld hE.aa hp]
  refine call (FN p.1 p.2 w1 w2) ?_
  rintro _ h3 ⟨hE2,rfl⟩
  have E2:=hE.trans hE2
  by_cases hk:okS p.1 p.2
  ·rw[decide_eq_true hk]
   simp -dsimp (disch:=omega) only[wpS,wpT,zE,f3]
   refine⟨m - 1,by omega,i+1,by omega,E2,?_,by simp[f0]⟩
   intro j q hj hq
   by_cases hji:j=i
   ·subst hji;rw[hp] at hq;cases hq;exact hk
   ·exact hok j q (by omega) hq
  ·rw[decide_eq_false hk,decide_eq_false (show ¬∀p∈l,okS p.1 p.2 from fun ef=>hk (ef p hpm))]
   simp -dsimp (disch:=omega) only[wpS,wpT,zE]
   exact E2
 ·rw[decide_eq_true (show ∀p∈l,okS p.1 p.2 from fun p hp=>by
   obtain⟨j,hj⟩:=List.getElem?_of_mem hp
   exact hok j p (by have:=(List.getElem?_eq_some_iff.1 hj).1;omega) hj)]
  simp -dsimp (disch:=omega) only[wpS,wpT]
  exact hE
open Classical in
theorem NN {h:IH} {v:Value} {l:List (Nat×Nat)} (hv:iT h v l) (ho : ∀p∈l,okS p.1 p.2) (hl:l.length≤1000) :
  WV prog (.func (.func 134) #[] #[]) [v] h fun r h'=>Ext h h'∧r=.bool (decide (lZ l)):=by
 have hq0 : ∀q∈l.map rOf,QB 512 q:=by
  intro q hq
  obtain⟨p,hp,rfl⟩:=List.mem_map.1 hq
  exact jm (hv.2.2 p hp).1 (hv.2.2 p hp).2 (ho p hp)
 have hQ : ∀i,i≤l.length→QB (i*(512+1)) (fU ((l.take i).map rOf)):=by
  intro i hi
  have:=QB.fU (k:=512) hq0 i (by simpa using hi)
  rwa [←List.map_take] at this
 refine enter (nt:=28) (rs:=[.tmp 2]) Proofs.Tryz.func134 rfl rfl rfl (by simp) ?_
 simp -dsimp (disch:=omega) only[wpS]
 refine call zY ?_
 rintro z h1 ⟨X1,p1⟩
 have m1:=X1.n
 obtain⟨a3,s3,b3,t3,rfl,_,_,d1,o1,d2,o2,o3,o4⟩:=p1.parts
 simp -dsimp (disch:=omega) only[wpS,wpT,zE,zL,zA,ku,iW,o1,o2,o3,o4]
 have Ex2:Ext h1 ((h1.new (.cells ZR 0 none)).put h1.n (.cells [a3,s3,b3,t3] 0 none)):=((Ext.refl h1).new _).put (Nat.le_refl _) _
 refine loop (fun m fr hh => ∃(i:Nat) (a s b t:Value),i+m=l.length∧Ext h hh∧h1.n<hh.n∧hh.ext.get h1.n=some (.cells [a,s,b,t] 0 none)∧fm hh (.agg #[a,s,b,t]) (fU ((l.take i).map rOf))∧(∀(j:Nat) p,j<i→l[j]?=some p → ¬x9 p) ∧
   ab fr 0=some v∧ab fr 3=some (ptr (2*h1.n) 0)∧ab fr 4=some (KN i)) l.length
  ⟨0,a3,s3,b3,t3,by omega,X1.trans Ex2,by simp,by simp (disch:=omega) only[ae],p1.aa Ex2.aa,fun j p hj=>by omega,by simp⟩ ?_
 clear p1 Ex2
 rintro m fr hh ⟨i,a,s,b,t,him,hE,hn,hg5,hp,hno,f0,f3,f4⟩
 simp -dsimp (disch:=omega) only[wpS,zE,f0,f4,hv.1.len uu]
 refine aq ?_ ?_<;>intro hc<;>simp only[decide_eq_true_eq,decide_eq_false_iff_not] at hc
 ·have hi:i<l.length:=by omega
  obtain⟨q,hq⟩:=il (l:=l) (i:=i) hi
  have hqm:=List.mem_of_getElem? hq
  obtain⟨w1,w2⟩:=hv.2.2 q hqm
  have hoq:=ho q hqm
  simp -dsimp (disch:=omega) only[wpS,wpT,zE,f0,f4,hv.1.idx x8 hi,hv.ld hE.aa hq]
  refine call (zw q.1 q.2 w1 w2) ?_
  rintro _ h2 ⟨X2,pp⟩
  have m2:=X2.n
  have p2:=pp.rat hoq
  obtain⟨a2,s2,b2,t2,rfl,l1,_,d1,o1,d2,o2,o3,o4⟩:=p2.parts
  have ea2:=l1.co.1
  rw[show(rOf (q.1,q.2)).num=wdI q.1 from(dC hoq).1] at ea2
  have gs:=X2.kept hn hg5
  obtain⟨H3,hH3⟩:=aP ((h2.new (.cells ZR 0 none)).put h2.n (.cells [a2,s2,b2,t2] 0 none))
  have e3:Ext h2 H3:=by rw[hH3];exact((Ext.refl h2).new _).put (Nat.le_refl _) _
  have n3:H3.n=h2.n+1:=by rw[hH3];rfl
  have g3:H3.ext.get h2.n=some (.cells [a2,s2,b2,t2] 0 none):=by rw[hH3];simp (disch:=omega) only[ae]
  have gs3:=e3.kept (by omega) gs
  have hX:=hE.trans (X2.trans e3)
  by_cases cn:wdI q.1<0
  ·have hr : ¬lZ l:=fun hr=>hr.1 q hqm (.inr cn)
   rw[decide_eq_true cn] at ea2
   subst ea2
   rw[decide_eq_false hr]
   have row3 : ∀X,((h2.new (.cells ZR 0 none)).put h2.n (.cells [.bool true,s2,b2,t2] 0 none)).row X=H3.row X:=fun X=>by rw[hH3]
   simp -dsimp (disch:=omega) only[wpS,wpT,zE,zL,zA,ku,iW,jq,dL,ld4,o1,o2,o3,o4]
   rw[←hH3]
   exact hX
  ·rw[decide_eq_false cn] at ea2
   subst ea2
   simp -dsimp (disch:=omega) only[wpS,wpT,zE,zL,zA,ku,iW,jq,dL,ld4,o1,o2,o3,o4]
   rw[←hH3]
   clear hH3
   simp -dsimp (disch:=omega) only[wpS,wpT,zE,zL,zA,jx,f3,aj gs3,aj g3,fg]
   have hkb:i*(512+1)+512+1<16000000:=by omega
   refine call (zy (hp.aa (X2.trans e3).aa) (p2.aa e3.aa) (hQ i (by omega)) (jm w1 w2 hoq) hkb) ?_
   rintro r3 h5 ⟨X5,p5⟩
   have m5:=X5.n
   have eT:fU ((l.take i).map rOf)+rOf (q.1,q.2)=fU ((l.take (i+1)).map rOf):=by rw[fy hq,List.map_append,List.map_cons,List.map_nil,jF]
   rw[eT] at p5
   obtain⟨a4,s4,b4,t4,rfl,_,_,_,o1,_,o2,o3,o4⟩:=p5.parts
   have k5:=X5.kept (by omega) gs3
   simp -dsimp (disch:=omega) only[wpS,wpT,zE,zL,zA,iW,f3,f4,k5,o1,o2,o3,o4]
   refine⟨m - 1,by omega,i+1,a4,s4,b4,t4,by omega,(hX.trans X5).put (by omega) _,by simp only[aH];omega,ae _ _ rfl,p5.aa ((aJ.refl _).put k5 _),?_,by simp[f0,f3]⟩
   intro j x hj hx
   by_cases hji:j=i
   ·subst hji;rw[hq] at hx;cases hx;exact fun h=>h.elim (fun h=>h hoq) cn
   ·exact hno j x (by omega) hx
 ·obtain rfl:i=l.length:=by omega
  have hQl:=hQ l.length (Nat.le_refl _)
  rw[List.take_length] at hp hQl
  have hno' : ∀p∈l,¬x9 p:=fun p hp=>by
   obtain⟨j,hj⟩:=List.getElem?_of_mem hp
   exact hno j p (by have:=(List.getElem?_eq_some_iff.1 hj).1;omega) hj
  obtain⟨_,_,L1⟩:=ql4 hg5
  have X0:=Ext.refl hh
  simp -dsimp (disch:=omega) only[wpS,wpT]
  refine drawn [(0,[2])] (by kernel_rfl) (by kernel_rfl) rfl ?_
  simp -dsimp (disch:=omega) only[wpS,wpT,zE,zL,zA,jx,f3,aj hg5,fg]
  refine call (uJ 1 1 ⟨by omega,by omega⟩ ⟨by omega,by omega⟩ (by omega)) ?_
  rintro r6 h6 ⟨X6,p6⟩
  rw[show Rat.divInt 1 1=(1:Rat) from rfl] at p6
  simp -dsimp (disch:=omega) only[wpS,zE]
  refine call (BJ (hp.aa X6.aa) p6 hQl (QB.int (k:=64) (n:=1) (by decide)) (by omega)) ?_
  rintro _ h7 ⟨X7,rfl⟩
  have XX:=(hE.trans X6).trans X7
  by_cases c1:fU (l.map rOf)=1
  ·rw[decide_eq_true (show lZ l from⟨hno',c1⟩),c1,if_neg (by exact Rat.lt_irrefl),if_pos rfl]
   simp -dsimp (disch:=omega) only[wpS,wpT,zE]
   refine⟨ad rfl rfl rfl rfl (aT (H0:=hh) f3 (by omega) X0 X6 L1),?_⟩
   simp -dsimp (disch:=omega) only[wpS,wpT,zE,zA]
   exact XX
  ·rw[decide_eq_false (show ¬lZ l from fun h=>c1 h.2)]
   obtain⟨z,hz,hz0⟩ : ∃z:Int,(if fU (l.map rOf)<1 then (-1:Int) else if fU (l.map rOf)=1 then 0 else 1)=z∧z≠0:=⟨_,rfl,by split<;>simp[]⟩
   rw[hz]
   have d:(z == 0)=false:=by simpa using hz0
   simp -dsimp (disch:=omega) only[wpS,zE,d]
   refine⟨ad rfl rfl rfl rfl (aT (H0:=hh) f3 (by omega) X0 X6 L1),?_⟩
   simp -dsimp (disch:=omega) only[wpS,wpT,zE,zA]
   exact XX
open Classical in
theorem NL {h:IH} {v:Value} {ll:List (List (Nat×Nat))} (hv:jt h v ll) :
  WV prog (.func (.func 52) #[] #[]) [v] h fun r h'=>Ext h h'∧r=.bool (decide (df ll)):=by
 obtain⟨_,_,hlen⟩:=hv.co
 have hlb:=hv.choose_spec.2.1
 refine enter (nt:=42) (rs:=[.tmp 2]) Proofs.Tryz.func52 rfl rfl rfl (by simp) ?_
 by_cases a1:ll.length<1
 ·rw[decide_eq_false (show ¬df ll from fun hk=>by have:=hk.1;omega)]
  simp -dsimp (disch:=omega) only[wpS,wpT,zE,hlen]
  exact Ext.refl _
 by_cases a2:60<ll.length
 ·rw[decide_eq_false (show ¬df ll from fun hk=>by have:=hk.2.1;omega)]
  simp -dsimp (disch:=omega) only[wpS,wpT,zE,hlen]
  exact Ext.refl _
 simp -dsimp (disch:=omega) only[wpS,wpT,zE,hlen]
 refine loop (fun m fr h1 => ∃i:Nat,i+m=ll.length∧Ext h h1∧(∀(j:Nat) x,j<i→ll[j]?=some x→x.length=ll.length∧lZ x)∧ab fr 0=some v∧ab fr 3=some (KN i)) ll.length
  ⟨0,by omega,Ext.refl _,fun j p hj=>by omega,by simp⟩ ?_
 rintro m fr h1 ⟨i,him,hE,hok,f0,f3⟩
 simp -dsimp (disch:=omega) only[wpS,zE,f0,f3,hlen]
 refine aq ?_ ?_<;>intro hc<;>simp only[decide_eq_true_eq,decide_eq_false_iff_not] at hc
 ·have hi:i<ll.length:=by omega
  obtain⟨x,hx⟩:=il (l:=ll) (i:=i) hi
  have hxm:=List.mem_of_getElem? hx
  obtain⟨w,l1,l2,l3⟩:=hv.at hE.aa hx
  have lx:=l2.2.1
  by_cases cl:x.length=ll.length
  case neg =>
   rw[decide_eq_false (show ¬df ll from fun hk=>cl (hk.2.2 x hxm).1)]
   have d:(((x.length:Nat):Int) != ((ll.length:Nat):Int))=true:=by simpa using fun h=>cl (by omega)
   simp -dsimp (disch:=omega) only[wpS,wpT,zE,f0,f3,l1,l3,l2.1.len uu,hlen,d]
   exact hE
  have d:(((x.length:Nat):Int) != ((ll.length:Nat):Int))=false:=by simp[cl]
  simp -dsimp (disch:=omega) only[wpS,wpT,zE,f0,f3,l1,l3,l2.1.len uu,hlen,d]
  refine call (NG l2) ?_
  rintro _ h2 ⟨X2,rfl⟩
  have E2:=hE.trans X2
  by_cases ca : ∀p∈x,okS p.1 p.2
  case neg =>
   rw[decide_eq_false ca,decide_eq_false (show ¬df ll from fun hk=>ca fun p hp=>(DD ((hk.2.2 x hxm).2.1 p hp)).1)]
   simp -dsimp (disch:=omega) only[wpS,wpT,zE]
   exact E2
  rw[decide_eq_true ca]
  obtain⟨w',l1',l2',l3'⟩:=hv.at E2.aa hx
  simp -dsimp (disch:=omega) only[wpS,wpT,zE,f0,f3,l1',l3']
  refine call (NN l2' ca (by omega)) ?_
  rintro _ h4 ⟨X4,rfl⟩
  have E4:=E2.trans X4
  by_cases cr:lZ x
  ·rw[decide_eq_true cr]
   simp -dsimp (disch:=omega) only[wpS,wpT,zE,f3]
   refine⟨m - 1,by omega,i+1,by omega,E4,?_,by simp[f0]⟩
   intro j q hj hq
   by_cases hji:j=i
   ·subst hji;rw[hx] at hq;cases hq;exact⟨cl,cr⟩
   ·exact hok j q (by omega) hq
  ·rw[decide_eq_false cr,decide_eq_false (show ¬df ll from fun hk=>cr (hk.2.2 x hxm).2)]
   simp -dsimp (disch:=omega) only[wpS,wpT,zE]
   exact E4
 ·rw[decide_eq_true (show df ll from⟨by omega,by omega,fun x hx=>by
   obtain⟨j,hj⟩:=List.getElem?_of_mem hx
   exact hok j x (by have:=(List.getElem?_eq_some_iff.1 hj).1;omega) hj⟩)]
  simp -dsimp (disch:=omega) only[wpS,wpT]
  exact hE
end Go.Id
namespace Go.Id
open Go
theorem Acc.Wi {h:IH} {n0 sz:Nat} {v:Value} {n:Nat} {cs:List Value} (a:Acc h n0 sz v n cs) {P:Program} {t:TypeId} (hT:aK P t=some sz) {i:Nat} (hi:i<n) {x:Value} {xs:List Value} (hx:x.cells.toList=xs) (hxl:xs.length=sz) (hc:xs.all aA=true) {h0':IH} (e0:Ext h0' h) (hn0:h0'.n≤n0) :
  ∃h',store P h t (aM v (i*sz)) x=some h'∧Acc h' n0 sz v n (IH.aG cs (i*sz) xs)∧Ext h0' h'∧h'.n=h.n:=by
 obtain⟨hz,hl,⟨rfl,rfl⟩|⟨k,fam,rfl,hn,h1,h2,h3,h4⟩⟩:=a
 ·omega
 ·have hle:i*sz+sz≤cs.length:=by
   rw[hl,←Nat.succ_mul];exact Nat.mul_le_mul_right _ hi
  have hsl:(IH.aG cs (i*sz) xs).length=n*sz:=by
   simp only[IH.aG,List.length_append,List.length_take,List.length_drop]
   omega
  have k2:2*k / 2=k:=by omega
  have k1:(2*k % 2 == 1)=false:=by simp
  have hsx:x.cells.size=sz:=by rw[←Array.length_toList,hx,hxl]
  have hst:store P h t (aM (.slice (some ⟨2*k,0,none⟩) n (2*n)) (i*sz)) x=h.wr (2*k) (i*sz) xs:=by
   simp only[aM,Nat.zero_add,store,asAddr,ptr,hT,hx,hsx,hc,beq_self_eq_true,Bool.and_self,cond_true]
  have hle:Nat.ble (i*sz+xs.length) cs.length=true:=by rw[Nat.ble_eq,hxl];exact hle
  rw[hst]
  cases fam with
  | none =>
   refine⟨h.put k (.cells (IH.aG cs (i*sz) xs) sz none),?_,⟨hz,hsl,.inr ⟨k,none,rfl,hn,h1,h2,ae _ _ rfl,trivial⟩⟩,e0.put (by omega) _,rfl⟩
   ·simp only[IH.wr,k1,k2,h3,hle,cond_true,cond_false];rfl
  | some f =>
   obtain⟨a1,a2,rest,a3,a4⟩:=h4
   refine⟨{ h with ext:=(IH.dJ h.ext (((k :: rest).filter (· != k)))).set k (.cells (IH.aG cs (i*sz) xs) sz none) },?_,⟨hz,hsl,.inr ⟨k,none,rfl,hn,h1,h2,?_,trivial⟩⟩,⟨e0.n,e0.base,fun j hj=>?_,e0.bT⟩,rfl⟩
   ·simp only[IH.wr,k1,k2,h3,hle,cond_true,cond_false,a3]
   ·simp[Tr.bK]
   ·have hjk:j≠k:=by omega
    rw[Tr.bK,if_neg hjk,jc,if_neg]
    ·exact e0.get j hj
    ·intro hm
     simp only[List.mem_filter,List.mem_cons,bne_iff_ne,ne_eq] at hm
     rcases hm with⟨rfl|hm,hne⟩
     ·exact hne rfl
     ·have:=a4 j hm;omega
end Go.Id
