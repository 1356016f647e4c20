/-
  Contracts: package outlier: a step of the counts.
-/
import Derived.Test.YtnnmjocmapilaaaGreatOutlierValidBh
set_option linter.unusedVariables false
set_option linter.unusedSimpArgs false
set_option linter.defProp false
set_option linter.deprecated false
namespace Go.Id
open Go
open Go.Proofs.Tryz (prog)
open Nat renaming reduceAdd→zA,reduceEqDiff→zE,reduceLeDiff→zL
set_option maxHeartbeats 16000000
def u6 (N:Nat) (hit:Nat→Bool):List Value:=(List.range N).map fun j=>.bool (hit j)
theorem W4 {h h':IH} {hv:Value} {N:Nat} {hit:Nat→Bool} (s:bJ h 1 hv N (u6 N hit)) (K:aJ h h') {j:Nat} (hj:j<N) {t:TypeId} (hT:bj prog t=some false):load prog h' t (aM hv j)=some (.bool (hit j)):=by
 rw[s.ld K (by simp[u6];exact hj) hT]
 unfold u6
 rw[List.getElem?_map,List.getElem?_range hj]
 rfl
theorem Kg (q:Rat) : ∃z:Int,(if q.num<0 then (-1:Int) else if q.num=0 then 0 else 1)=z∧(z=0↔q=0):=by
 refine⟨_,rfl,?_⟩
 rw[←Rat.num_eq_zero]
 by_cases h:q.num<0
 ·rw[if_pos h];omega
 ·rw[if_neg h]
  by_cases h2:q.num=0
  ·rw[if_pos h2];omega
  ·rw[if_neg h2];omega
theorem RK {h:IH} {b3 b5 b7 S N L y D d:Nat} {kv hv v:Value} {ll:List (List (Nat×Nat))} {hit:Nat→Bool} {rv:Nat→Value} {x:Nat→Nat→Rat}
  (hk:jt h kv ll) (ko:df ll) (hN:N=ll.length) (hh:bJ h 1 hv N (u6 N hit)) (hS:S≤20)
  (g3:h.ext.get b3=some (.cells [kv,hv] 0 none)) (g5:h.ext.get b5=some (.cells [KN S] 0 none)) (g7:h.ext.get b7=some (.cells [v] 0 none)) (l3:b3<h.n) (l5:b5<h.n) (l7:b7<h.n)
  (t:sj h v N (S+1) rv x) (hx : ∀i m,i<N→OvL L y (x i m)) (hp : ∀i j,i<N→j<N→OvL D d (kAt ll i j)) (hz : ∀i,i<N→x i S=0) (hb:2*(y+d)+1000<16000000) :
  WV prog (.func (.func 180) #[] #[ptr (2*b3) 0,ptr (2*b5) 0,ptr (2*b7) 0]) [] h fun _ h'=>Mem b7 h h' ∧ ∃b' r' n0',h.n≤n0'∧h'.ext.get b7=some (.cells [mkV b' N] 0 none)∧Tab h' n0' h'.n b' N (S+1) r' (nxQ (kAt ll) hit x N 0 0):=by
 obtain⟨c1,c2,hlen⟩:=hk.co
 rw[←hN] at hlen
 have k1:=ko.1
 have k2:=ko.2.1
 have tk0:List.take 1 (List.drop 0 [kv,hv]) = [kv]:=rfl
 refine enter (nt:=86) (rs:=[]) Proofs.Tryz.func180 rfl rfl rfl (by simp) ?_
 simp -dsimp (disch:=omega) only[wpS,zE,zA,D6,D7,TM,ld3,aj g3,aj g5,hlen]
 refine call (EC (M:=S+1) (by omega) (by omega) (by omega) (by omega)) ?_
 rintro _ h1 ⟨X1,b',r',lb',rfl,T⟩
 have m1:=X1.n
 simp -dsimp (disch:=omega) only[wpS,zE,D6,D7,TM,aj (X1.kept l3 g3),hlen]
 have T:Tab h1 b' h1.n b' N (S+1) r' (nxQ (kAt ll) hit x 0 0 0):=T.congr fun j m _ _=>(Tv (kAt ll) hit x j m).symm
 obtain⟨n1',hn1'⟩ : ∃n,n=h1.n:=⟨_,rfl⟩
 rw[←hn1'] at T
 have lr':=fun j hj=>(T.lr j hj)
 refine loop (fun m fr H => ∃i:Nat,i+m=N∧Ext h H∧n1'≤H.n∧Tab H b' n1' b' N (S+1) r' (nxQ (kAt ll) hit x i 0 0) ∧
   ab fr 0=some (ptr (2*b3) 0)∧ab fr 1=some (ptr (2*b5) 0)∧ab fr 2=some (ptr (2*b7) 0)∧ab fr 3=some (mkV b' N)∧ab fr 21=some kv∧ab fr 22=some (KN N)∧ab fr 23=some (KN i)) N
  ⟨0,by omega,X1,by omega,T,by simp⟩ ?_
 clear T
 rintro m fr H ⟨i,him,E,nH,T,f0,f1,f2,f3,f21,f22,f23⟩
 simp -dsimp (disch:=omega) only[wpS,f22,f23]
 refine aq ?_ ?_<;>intro hc<;>simp only[decide_eq_true_eq,decide_eq_false_iff_not] at hc
 ·have hi:i<N:=by omega
  obtain⟨ri,p,e1,l1,e2,ok1,nn1,kk1⟩:=eX ko (i:=i) (j:=0) (by omega) (by omega)
  obtain⟨wi,A1,A2,A3⟩:=hk.nc e1
  have YT:=A2.1.len (P:=prog) uu
  rw[l1,←hN] at YT
  simp -dsimp (disch:=omega) only[wpS,wpT,zE,f21,f23,A3,A1 H E.aa,YT]
  refine loop (fun m2 fr H => ∃j:Nat,j+m2=N∧Ext h H∧n1'≤H.n∧Tab H b' n1' b' N (S+1) r' (nxQ (kAt ll) hit x i j 0) ∧
    ab fr 0=some (ptr (2*b3) 0)∧ab fr 1=some (ptr (2*b5) 0)∧ab fr 2=some (ptr (2*b7) 0)∧ab fr 3=some (mkV b' N)∧ab fr 4=some (KN i)∧ab fr 21=some kv∧ab fr 22=some (KN N)∧ab fr 23=some (KN i)∧ab fr 28=some wi∧ab fr 29=some (KN N)∧ab fr 30=some (KN j)) N
   ⟨0,by omega,E,nH,T,by simp[f0,f1,f2,f3,f21,f22,f23]⟩ ?_
  clear E nH T f0 f1 f2 f3 f21 f22 f23
  clear e2 ok1 nn1 kk1
  clear p
  rintro m2 fr H ⟨j,hjm,E,nH,T,f0,f1,f2,f3,f4,f21,f22,f23,f28,f29,f30⟩
  simp -dsimp (disch:=omega) only[wpS,f29,f30]
  refine aq ?_ ?_<;>intro hc2<;>simp only[decide_eq_true_eq,decide_eq_false_iff_not] at hc2
  ·have hj:j<N:=by omega
   obtain⟨ri',p,e1',l1',e2,ok1,nn1,kk1⟩:=eX ko (i:=i) (j:=j) (by omega) (by omega)
   rw[e1] at e1'
   cases e1'
   have wp:=A2.2.2 p (List.mem_of_getElem? e2)
   have ip:=A2.1.idx x8 (P:=prog) (k:=.i64) (j:=j) (by omega)
   simp -dsimp (disch:=omega) only[wpS,wpT,zE,zL,zA,bY,gC,ed,f28,f30,ip,A2.ld E.aa e2,aB,au,aY,bC]
   obtain⟨H1,hH1⟩:=aP ((H.new (.cells Z16 0 none)).put H.n (.cells (shC p.1 p.2) 0 none))
   have F1:Ext H H1:=by rw[hH1];exact((Ext.refl H).new _).put (Nat.le_refl _) _
   have q1:H1.n=H.n+1:=by rw[hH1];rfl
   have gp:H1.ext.get H.n=some (.cells (shC p.1 p.2) 0 none):=by rw[hH1];simp (disch:=omega) only[ae]
   rw[←hH1]
   clear hH1
   rw[aO]
   refine call (cW p.1 p.2 wp.1 wp.2) ?_
   rintro r5 h5 ⟨X5,p5⟩
   have p5:=p5.rat ok1
   rw[←kk1] at p5
   have m5:=X5.n
   obtain⟨a1,a2,a3,a4,rfl,_,_,d1,o1,d2,o2,o3,o4⟩:=p5.parts
   have E5:=(E.trans F1).trans X5
   have T5:=(T.ext F1).ext X5
   obtain⟨u1,u2,g7u⟩:True∧True∧h5.ext.get b7=some (.cells [v] 0 none):=⟨trivial,trivial,E5.kept l7 g7⟩
   have ti:=t.idx hi
   have tl:=t.ldR (h':=(h5.new (.cells ZR 0 none)).put h5.n (.cells [a1,a2,a3,a4] 0 none)) ((E5.trans ((Ext.refl h5).new _)).put (by have:=E5.n;omega) _) hi
   have tn:=t.lenR hi
   obtain⟨H6,hH6⟩:=aP ((h5.new (.cells ZR 0 none)).put h5.n (.cells [a1,a2,a3,a4] 0 none))
   have F6:Ext h5 H6:=by rw[hH6];exact((Ext.refl h5).new _).put (Nat.le_refl _) _
   have q6:H6.n=h5.n+1:=by rw[hH6];rfl
   have g8:H6.ext.get h5.n=some (.cells [a1,a2,a3,a4] 0 none):=by rw[hH6];simp (disch:=omega) only[ae]
   have g76:=F6.kept (by omega) g7u
   simp -dsimp (disch:=omega) only[wpS,wpT,zE,zL,zA,dr,cQ,o1,o2,o3,o4]
   rw[←hH6] at tl ⊢
   clear hH6
   simp -dsimp (disch:=omega) only[wpS,zE,K4,f2,f4,aj g76,ti,tl,tn]
   have m6:=E5.n
   refine loop (fun m3 fr H => ∃n:Nat,n+m3=S+1∧Ext h H∧h5.n<H.n∧Tab H b' n1' b' N (S+1) r' (nxQ (kAt ll) hit x i j n)∧H.ext.get h5.n=some (.cells [a1,a2,a3,a4] 0 none)∧bg H (.agg #[a1,a2,a3,a4]) (kAt ll i j) ∧
     ab fr 0=some (ptr (2*b3) 0)∧ab fr 1=some (ptr (2*b5) 0)∧ab fr 2=some (ptr (2*b7) 0)∧ab fr 3=some (mkV b' N)∧ab fr 4=some (KN i)∧ab fr 6=some (KN j)∧ab fr 8=some (ptr (2*h5.n) 0)∧ab fr 21=some kv∧ab fr 22=some (KN N)∧ab fr 23=some (KN i)∧ab fr 28=some wi∧ab fr 29=some (KN N)∧ab fr 30=some (KN j)∧ab fr 40=some (rv i)∧ab fr 41=some (KN (S+1))∧ab fr 42=some (KN n)) (S+1)
    ⟨0,by omega,E5.trans F6,by omega,T5.ext F6,g8,p5.aa F6.aa,by simp[f0,f1,f2,f3,f4,f21,f22,f23,f28,f29,f30]⟩ ?_
   clear T T5 f0 f1 f2 f3 f4 f21 f22 f23 f28 f29 f30 g8 g76 F6 q6 tl tn g7u p5 E
   rintro m3 fr H ⟨n,hnm,E,nH,T,g8,p8,f0,f1,f2,f3,f4,f6,f8,f21,f22,f23,f28,f29,f30,f40,f41,f42⟩
   simp -dsimp (disch:=omega) only[wpS,f41,f42]
   refine aq ?_ ?_<;>intro hc3<;>simp only[decide_eq_true_eq,decide_eq_false_iff_not] at hc3
   ·have hn:n<S+1:=by omega
    obtain⟨c1,c2,c3,c4,lx,px⟩:=t.ldK hi hn
    obtain⟨_,_,_,_,hhe,_,_,_,q1,_,q2,q3,q4⟩:=px.parts
    cases hhe
    simp -dsimp (disch:=omega) only[wpS,wpT,zE,zL,zA,dr,cQ,fM,bE,f40,f42,t.idxR hi hn,lx H E,q1,q2,q3,q4]
    obtain⟨H1,hH1⟩:=aP ((H.new (.cells ZR 0 none)).put H.n (.cells [c1,c2,c3,c4] 0 none))
    have F1:Ext H H1:=by rw[hH1];exact((Ext.refl H).new _).put (Nat.le_refl _) _
    have n1:H1.n=H.n+1:=by rw[hH1];rfl
    have g10:H1.ext.get H.n=some (.cells [c1,c2,c3,c4] 0 none):=by rw[hH1];simp (disch:=omega) only[ae]
    rw[←hH1]
    clear hH1
    have E1:=E.trans F1
    have px1:=px.aa E1.aa
    obtain⟨_,_,_,_,he,hn1,hd1,_⟩:=px1.parts
    cases he
    simp -dsimp (disch:=omega) only[tkA]
    refine call (kD hn1) ?_
    rintro _ h2 ⟨X2,rfl⟩
    obtain⟨z,hz1,hz2⟩:=Kg (x i n)
    rw[hz1]
    have E2:=E1.trans X2
    have n2:=X2.n
    have T2:=(T.ext F1).ext X2
    have g82:=X2.kept (by omega) (F1.kept nH g8)
    have p82:=(p8.aa F1.aa).aa X2.aa
    by_cases zc:z=0
    ·subst zc
     have x0:x i n=0:=hz2.1 rfl
     have T3:Tab h2 b' n1' b' N (S+1) r' (nxQ (kAt ll) hit x i j (n+1)):=T2.congr fun a m _ _=>(KQ (kAt ll) hit x (.inl x0) a m).symm
     simp -dsimp (disch:=omega) only[wpS,wpT,zE,f42]
     exact⟨m3 - 1,by omega,n+1,by omega,E2,by omega,T3,g82,p82,by simp[f0,f1,f2,f3,f4,f6,f8,f21,f22,f23,f28,f29,f30,f40,f41]⟩
    have dz:(z == 0)=false:=by simpa using zc
    have x0:x i n≠0:=fun h=>zc (hz2.2 h)
    clear hz1 hz2
    obtain⟨_,_,_,_,he,hn8,_,_⟩:=p82.parts
    cases he
    simp -dsimp (disch:=omega) only[wpS,wpT,zE,zL,zA,fM,bE,dz,f8,aj g82,tkA]
    refine call (kD hn8) ?_
    rintro _ h3 ⟨X3,rfl⟩
    obtain⟨w,hw1,hw2⟩:=Kg (kAt ll i j)
    rw[hw1]
    have E3:=E2.trans X3
    have n3:=X3.n
    have T3:=T2.ext X3
    have g83:=X3.kept (by omega) g82
    have p83:=p82.aa X3.aa
    obtain⟨hb,hhb⟩:=aP (H.n)
    have Z2:=X3.kept (by omega) (X2.kept (by omega) g10)
    by_cases wc:w=0
    ·subst wc
     have k0:kAt ll i j=0:=hw2.1 rfl
     have T4:Tab h3 b' n1' b' N (S+1) r' (nxQ (kAt ll) hit x i j (n+1)):=T3.congr fun a m _ _=>(KQ (kAt ll) hit x (.inr k0) a m).symm
     simp -dsimp (disch:=omega) only[wpS,wpT,zE,f42]
     exact⟨m3 - 1,by omega,n+1,by omega,E3,by omega,T4,g83,p83,by simp[f0,f1,f2,f3,f4,f6,f8,f21,f22,f23,f28,f29,f30,f40,f41]⟩
    have dw:(w == 0)=false:=by simpa using wc
    clear hw1 hw2
    have nS:n<S:=by
     rcases Nat.lt_or_ge n S with h|h
     ·exact h
     ·obtain rfl:n=S:=by omega
      exact absurd (hz i hi) x0
    have tk1:List.take 1 (List.drop 1 [kv,hv]) = [hv]:=rfl
    have ih:=hh.idx Z9 (P:=prog) (k:=.i64) hj
    rw[Nat.mul_one] at ih
    simp -dsimp (disch:=omega) only[wpS,wpT,zE,Uj,Y6,dw,f0,f6,aj (E3.kept l3 g3),ih,W4 hh E3.aa hj ag4]
    obtain⟨tt,htt⟩:=aP (n+kN hit j)
    have tS:tt<S+1:=by rw[htt];unfold kN;split<;>omega
    refine fC (fun fr H=>h3=H∧ab fr 0=some (ptr (2*b3) 0)∧ab fr 1=some (ptr (2*b5) 0)∧ab fr 2=some (ptr (2*b7) 0)∧ab fr 3=some (mkV b' N)∧ab fr 4=some (KN i)∧ab fr 6=some (KN j)∧ab fr 8=some (ptr (2*h5.n) 0)∧ab fr 10=some (ptr (2*hb) 0)∧ab fr 11=some (KN tt)∧ab fr 21=some kv∧ab fr 22=some (KN N)∧ab fr 23=some (KN i)∧ab fr 28=some wi∧ab fr 29=some (KN N)∧ab fr 30=some (KN j)∧ab fr 40=some (rv i)∧ab fr 41=some (KN (S+1))∧ab fr 42=some (KN n)) (fun hc=>?_) (fun hc=>?_) ?_
    ·have te:n+1=tt:=by rw[htt];unfold kN;rw[if_pos hc]
     simp -dsimp (disch:=omega) only[wpS,zE]
     refine⟨rfl,by simp[f0],by simp[f1],by simp[f2],by simp[f3],by simp[f4],by simp[f6],by simp[f8],by simp[hhb],by simp[←te],by simp[f21,f22,f23,f28,f29,f30,f40,f41,f42]⟩
    ·have te:n=tt:=by rw[htt];unfold kN;rw[if_neg (by rw[hc];exact Bool.false_ne_true)];rfl
     simp -dsimp (disch:=omega) only[wpS]
     refine⟨rfl,by simp[f0],by simp[f1],by simp[f2],by simp[f3],by simp[f4],by simp[f6],by simp[f8],by simp[hhb],by simp[←te],by simp[f21,f22,f23,f28,f29,f30,f40,f41,f42]⟩
    clear f0 f1 f2 f3 f4 f6 f8 f21 f22 f23 f28 f29 f30 f40 f41 f42
    rintro fr _ ⟨rfl,f0,f1,f2,f3,f4,f6,f8,f10,f11,f21,f22,f23,f28,f29,f30,f40,f41,f42⟩
    rw[←hhb] at Z2
    have X0:=Ext.refl h3
    have rl:=T3.ldR X0 hj
    obtain⟨y1,y2,y3,y4,ly,py⟩:=(T3.row j hj).ldK tS
    have ix:=T3.idx hj
    have iy:=(T3.row j hj).idx tS
    have iy':indexAddr prog 139 (mkV (r' j) (S+1)) (KN tt)=some (aM (mkV (r' j) (S+1)) (tt*4)):=iy
    refine drawn [(3,[15,17]),(8,[15]),(11,[15])] (by kernel_rfl) (by kernel_rfl) rfl ?_
    simp -dsimp (disch:=omega) only[wpS,wpT,zE,zL,zA,fA,f3,f6,f8,f10,f11,ix,rl,iy,ly h3 X0,aj Z2,aj g83,fg]
    have qn:=Wz (hit:=hit) hx hp hi hj j n tt
    refine call (iZ (px.aa E3.aa) p83 (hx i n hi).qb (hp i j hi hj).qb (by omega)) ?_
    rintro r6 h6 ⟨X6,p6⟩
    simp -dsimp (disch:=omega) only[wpS,zE]
    refine call (jj (py.aa X6.aa) p6 qn.qb ((hx i n hi).mul (hp i j hi hj)).qb (by omega)) ?_
    rintro r7 h7 ⟨X7,p7⟩
    have eT:nxQ (kAt ll) hit x i j n j tt+x i n*kAt ll i j=nxQ (kAt ll) hit x i j (n+1) j tt:=by rw[htt];exact U7 (kAt ll) hit x i j n
    rw[eT] at p7
    have X67:=X6.trans X7
    have T7:=T3.ext X67
    obtain⟨z1,z2,z3,z4,rfl,_,_,_,o1,_,o2,o3,o4⟩:=p7.parts
    obtain⟨cs',c,gr,st,T8⟩:=T7.set hj tS p7 (by simp[o1,o2,o3,o4])
    have lj:=T3.lr j hj
    simp -dsimp (disch:=omega) only[wpS,zE,iy,st]
    refine⟨ay (az (ad rfl rfl rfl rfl (ai rfl rl (T3.ldR X6 hj))) (ad rfl rfl rfl rfl (ai rfl rl (T3.ldR X67 hj)))) (ay (ad rfl rfl rfl rfl (ai rfl rl (T3.ldR X6 hj))) (ad rfl rfl rfl rfl (ai rfl (ly h3 X0) (ly h6 X6)))),?_⟩
    simp -dsimp (disch:=omega) only[wpS,wpT,zE,zA,f42]
    have n7:=X67.n
    have g87:=X67.kept (by omega) g83
    have T9:Tab (h7.put (r' j) (.cells cs' 4 none)) b' n1' b' N (S+1) r' (nxQ (kAt ll) hit x i j (n+1)):=T8.congr fun a m _ _=>by
     by_cases e:a=j∧m=tt
     ·rw[if_pos e,e.1,e.2]
     ·rw[if_neg e]
      exact(KR (kAt ll) hit x i j n (by rw[←htt];exact e)).symm
    exact⟨m3 - 1,by omega,n+1,by omega,(E3.trans X67).put (by omega) _,by simp only[aH];omega,T9,by rw[ak _ _ (by omega)];exact g87,(p83.aa X67.aa).A5 gr (by decide) _,by simp[f0,f1,f2,f3,f4,f6,f8,f21,f22,f23,f28,f29,f30,f40,f41]⟩
   ·obtain rfl:n=S+1:=by omega
    have T2:Tab H b' n1' b' N (S+1) r' (nxQ (kAt ll) hit x i (j+1) 0):=T.congr fun a m _ hm=>(Wy (kAt ll) hit x i j hm).symm
    simp -dsimp (disch:=omega) only[wpS,wpT,zE,f30]
    exact⟨m2 - 1,by omega,j+1,by omega,E,by omega,T2,by simp[f0,f1,f2,f3,f4,f21,f22,f23,f28,f29]⟩
  ·obtain rfl:j=N:=by omega
   have T2:Tab H b' n1' b' j (S+1) r' (nxQ (kAt ll) hit x (i+1) 0 0):=T.congr fun a m ha _=>(Ww (kAt ll) hit x m ha).symm
   simp -dsimp (disch:=omega) only[wpS,wpT,zE,f23]
   exact⟨m - 1,by omega,i+1,by omega,E,nH,T2,by simp[f0,f1,f2,f3,f21,f22]⟩
 ·obtain rfl:i=N:=by omega
  have g7':=E.kept l7 g7
  obtain⟨o1,o2⟩:=Qr b' i
  simp -dsimp (disch:=omega) only[wpS,wpT,zE,zL,UU,f2,f3,g7',o1,o2]
  have hb7:b7<b':=by omega
  exact⟨(E.mem b7).put (.inr rfl) _,b',r',b',lb',rfl,(T.put g7' (by decide) (.inl hb7) _).up nH⟩
end Go.Id
namespace Go.Id
open Go

theorem JA (x y:Rat) : ∃z:Int,(if x<y then (-1:Int) else if x=y then 0 else 1)=z∧(z≤0↔x≤y):=by
 refine⟨_,rfl,?_⟩
 by_cases h1:x<y
 ·rw[if_pos h1];exact⟨fun _=>Rat.le_of_lt h1,fun _=>by decide⟩
 ·rw[if_neg h1]
  by_cases h2:x=y
  ·rw[if_pos h2];exact⟨fun _=>h2▸Rat.le_refl,fun _=>by decide⟩
  ·rw[if_neg h2];exact⟨fun h=>absurd h (by decide),fun h=>absurd (Rat.le_antisymm h (Rat.not_lt.1 h1)) h2⟩
theorem FX {h:IH} {v:Value} {p:Nat×Nat} (ok:okS p.1 p.2) (q:rp h v (wdI p.1) (wdI p.2)):bg h v (rOf p):=by
 show rp h v (rOf p).num ((rOf p).den:Int)
 rw[(dC ok).1,(dC ok).2]
 exact q
open Go.Proofs.Tryz (prog)
open Nat renaming reduceAdd→zA,reduceEqDiff→zE,reduceLeDiff→zL
set_option maxHeartbeats 16000000
def ni (l:List (Nat×Nat)) (s:Nat):Rat:=rOf (l.getD s (0,0))
theorem Ha {h:IH} {kv fv:Value} (e1:kv.cells = #[kv]) (e2:fv.cells = #[fv]) :
  WV prog (.func (.func 177) #[] #[]) [kv,fv] h fun r h'=>r=.func (.func 229) #[] #[ptr (2*(h.n+1)) 0,ptr (2*h.n) 0]∧h'=(h.new (.cells [kv] 0 none)).new (.cells [fv] 0 none):=by
 refine enter (nt:=6) (rs:=[.tmp 4]) Proofs.Tryz.func177 rfl rfl rfl (by simp) ?_
 simp -dsimp (disch:=omega) only[wpS,wpT,zE,zA,e1,e2]
theorem NS {N i:Nat} (hit:Nat→Bool) (h:i<N):(u6 N hit).take (i+1)=(u6 N hit).take i ++ [.bool (hit i)]:=by
 refine fy ?_
 unfold u6
 rw[List.getElem?_map,List.getElem?_range h]
 rfl
theorem Ee {h:IH} {b:Nat} {y kv fv:Value} {l:List (Nat×Nat)} (J:Nat→IH→Prop) (ek:kv.cells = #[kv]∧aA kv=true)
  (hJ : ∀i hh,J i hh→hh.ext.get b=some (.cells [kv] 0 none)∧hh.ext.get (b+1)=some (.cells [fv] 0 none)∧b+1<hh.n∧iT hh fv l)
  (ok:Sh l) (hl:l.length≤60) (h0:J 0 h)
  (hy : ∀i hh hh2 hv,i<l.length→J i hh→Ext hh hh2→bJ hh2 1 hv l.length (u6 l.length (leF (ni l) i))→WV prog y [KN i,.agg #[kv,hv]] hh2 fun r h'=>r=.bool true∧J (i+1) h') :
  WV prog (.func (.func 229) #[] #[ptr (2*(b+1)) 0,ptr (2*b) 0]) [y] h fun _ h'=>J l.length h':=by
 obtain⟨b0,b1,bn,sf⟩:=hJ 0 h h0
 refine enter (nt:=41) (rs:=[]) Proofs.Tryz.func229 rfl rfl rfl (by simp) ?_
 simp -dsimp (disch:=omega) only[wpS,zE,zA,YY,aj b1,sf.1.len uu]
 refine loop (fun m fr hh => ∃i:Nat,i+m=l.length∧J i hh∧ab fr 0=some y∧ab fr 1=some (ptr (2*(b+1)) 0)∧ab fr 2=some (ptr (2*b) 0)∧ab fr 9=some fv∧ab fr 10=some (KN l.length)∧ab fr 11=some (KN i)) l.length
  ⟨0,by omega,h0,by simp⟩ ?_
 clear b0 b1 bn sf
 rintro m fr hh ⟨i,him,hji,f0,f1,f2,f9,f10,f11⟩
 obtain⟨b0,b1,bn,sf⟩:=hJ i hh hji
 simp -dsimp (disch:=omega) only[wpS,f10,f11]
 refine aq ?_ ?_<;>intro hc<;>simp only[decide_eq_true_eq,decide_eq_false_iff_not] at hc
 ·have hi:i<l.length:=by omega
  obtain⟨q,hq⟩:=il (l:=l) (i:=i) hi
  have qm:=List.mem_of_getElem? hq
  obtain⟨w3,w4⟩:=sf.2.2 q qm
  have okq:=ok q qm
  have gq:ni l i=rOf q:=by unfold ni;rw[List.getD_eq_getElem?_getD,hq];rfl
  have TI:=sf.1.len (P:=prog) uu
  simp -dsimp (disch:=omega) only[wpS,wpT,zE,zL,zA,YY,gC,ed,f1,f9,f11,aj b1,TI,sf.1.idx x8 hi,sf.ld (aJ.refl hh) hq,aB,au,aY,bC]
  obtain⟨H0,hH0⟩:=aP ((hh.new (.cells Z16 0 none)).put hh.n (.cells (shC q.1 q.2) 0 none))
  have e0:Ext hh H0:=by rw[hH0];exact((Ext.refl hh).new _).put (Nat.le_refl _) _
  have n0:H0.n=hh.n+1:=by rw[hH0];rfl
  have g5:H0.ext.get hh.n=some (.cells (shC q.1 q.2) 0 none):=by rw[hH0];simp (disch:=omega) only[ae]
  have nbn:b+1<H0.n:=by omega
  have b00:=e0.kept (by omega) b0
  have b10:=e0.kept bn b1
  refine loop (fun m2 fr H => ∃(j:Nat) (out:Value),j+m2=l.length∧Ext H0 H∧Acc H H0.n 1 out j ((u6 l.length (leF (ni l) i)).take j)∧ab fr 0=some y∧ab fr 1=some (ptr (2*(b+1)) 0)∧ab fr 2=some (ptr (2*b) 0)∧ab fr 4=some (KN i)∧ab fr 5=some (ptr (2*hh.n) 0)∧ab fr 6=some out∧ab fr 9=some fv∧ab fr 10=some (KN l.length)∧ab fr 11=some (KN i)∧ab fr 16=some fv∧ab fr 17=some (KN l.length)∧ab fr 18=some (KN j)) l.length
   ⟨0,.slice none 0 0,by omega,by rw[hH0];exact Ext.refl _,Acc.nil _ _ (by omega),by simp[f0,f1,f2,f9,f10,f11]⟩ ?_
  clear hH0 f0 f1 f2 f9 f10 f11
  rintro m2 fr H ⟨j,out,hjm,E,A,f0,f1,f2,f4,f5,f6,f9,f10,f11,f16,f17,f18⟩
  have nE:=E.n
  simp -dsimp (disch:=omega) only[wpS,f17,f18]
  refine aq ?_ ?_<;>intro hc2<;>simp only[decide_eq_true_eq,decide_eq_false_iff_not] at hc2
  ·have hj:j<l.length:=by omega
   obtain⟨p,hp⟩:=il (l:=l) (i:=j) hj
   have pm:=List.mem_of_getElem? hp
   obtain⟨w1,w2⟩:=sf.2.2 p pm
   have okp:=ok p pm
   have gp:ni l j=rOf p:=by unfold ni;rw[List.getD_eq_getElem?_getD,hp];rfl
   simp -dsimp (disch:=omega) only[wpS,wpT,zE,zL,zA,gC,ed,f16,f18,sf.1.idx x8 hj,sf.ld (e0.trans E).aa hp,aB,au,aY,bC]
   obtain⟨H1,hH1⟩:=aP ((H.new (.cells Z16 0 none)).put H.n (.cells (shC p.1 p.2) 0 none))
   have e1:Ext H H1:=by rw[hH1];exact((Ext.refl H).new _).put (Nat.le_refl _) _
   have n1:H1.n=H.n+1:=by rw[hH1];rfl
   have g8:H1.ext.get H.n=some (.cells (shC p.1 p.2) 0 none):=by rw[hH1];simp (disch:=omega) only[ae]
   rw[←hH1]
   clear hH1
   have g51:=(E.trans e1).kept (by omega) g5
   have X0:=Ext.refl H1
   obtain⟨_,_,L8⟩:=psh g8
   obtain⟨_,_,L5⟩:=psh g51
   refine drawn [(3,[2])] (by kernel_rfl) (by kernel_rfl) rfl ?_
   simp -dsimp (disch:=omega) only[wpS,zE,f6,L8]
   refine call (cW p.1 p.2 w1 w2) ?_
   rintro a1 h1 ⟨X1,p1⟩
   have g52:=X1.kept (by have:=E.n;omega) g51
   obtain⟨_,_,L52⟩:=psh g52
   simp -dsimp (disch:=omega) only[wpS,zE,f5,L52]
   refine call (cW q.1 q.2 w3 w4) ?_
   rintro a2 h2 ⟨X2,p2⟩
   simp -dsimp (disch:=omega) only[wpS,zE]
   refine call (rH ((FX okp p1).aa X2.aa) (FX okq p2) (jm w1 w2 okp) (jm w3 w4 okq) (by omega)) ?_
   rintro _ h3 ⟨X3,rfl⟩
   obtain⟨z,hz,hzl⟩:=JA (rOf p) (rOf q)
   rw[hz]
   have dz:decide (z≤0)=leF (ni l) i j:=by
    unfold leF
    rw[gp,gq]
    exact decide_eq_decide.2 hzl
   have X13:=(e1.trans X1).trans (X2.trans X3)
   have nX:=X13.n
   obtain⟨dU,h4,hap,A4,G4,E4⟩:=(A.ext X13).se (P:=prog) (t:=143) ZaB (m:=1) (new:=[.bool (leF (ni l) i j)]) (by omega) rfl (by simp[aA]) (by omega) (by omega) (E.trans X13) (Nat.le_refl _)
   rw[←NS _ hj] at A4
   simp -dsimp (disch:=omega) only[wpS,wpT,zE,zL,zA,Zal,OD,dz,hap]
   refine⟨ad rfl rfl rfl rfl (ai f5 L52 L5),?_⟩
   simp -dsimp (disch:=omega) only[wpS,wpT,zE,zA,f18]
   exact⟨m2 - 1,by omega,j+1,dU,by omega,E4,A4,by simp[f0,f1,f2,f4,f5,f9,f10,f11,f16,f17]⟩
  ·obtain rfl:j=l.length:=by omega
   rw[List.take_of_length_le (by simp[u6])] at A
   have o1:=A.sl.cells
   have o2:=A.sl.cok
   have E2:=e0.trans E
   simp -dsimp (disch:=omega) only[wpS,wpT,zE,zL,zA,TM,Zaj,Tk,Zai,Tj,Ti,f0,f2,f4,f6,aj (E2.kept (by omega) b0),ek.1,o1]
   refine call (hy i hh H out hi hji E2 A.sl) ?_
   rintro _ h3 ⟨rfl,j3⟩
   simp -dsimp (disch:=omega) only[wpS,wpT,zE,f11]
   exact⟨m - 1,by omega,i+1,by omega,j3,by simp[f0,f1,f2,f9,f10]⟩
 ·obtain rfl:i=l.length:=by omega
  simp -dsimp (disch:=omega) only[wpS,wpT]
  exact hji
end Go.Id
namespace Go.Id
open Go
open Go.Proofs.Tryz (prog)
open Nat renaming reduceAdd→zA,reduceEqDiff→zE
set_option maxHeartbeats 16000000
noncomputable def oS (ll:List (List (Nat×Nat))) (t:List Nat):Int:=open Classical in if ¬df ll then 330 else if t.length≠ll.length ∨ ∃p∈t,wdI p<0 then 2 else 0
def Dq (ll:List (List (Nat×Nat))) (t:List Nat):Prop:=∀i j,i<ll.length→j<i→cA (t.getD i 0)*kAt ll i j=cA (t.getD j 0)*kAt ll j i
open Classical in
theorem TP {h:IH} {v w:Value} {ll:List (List (Nat×Nat))} {t:List Nat} (hv:jt h v ll) (hw:pE h w t) :
  WV prog (.func (.func 171) #[] #[]) [v,w] h fun r h'=>Ext h h'∧r=.tuple #[.bool (decide (oS ll t=0∧Dq ll t)),KI (oS ll t)]:=by
 obtain⟨_,_,hlen⟩:=hv.co
 have hlw:=hw.1.len (P:=prog) Dh
 have htb:=hw.2.1
 refine enter (nt:=67) (rs:=[.tmp 4,.tmp 5]) Proofs.Tryz.func171 rfl rfl rfl (by simp) ?_
 simp -dsimp (disch:=omega) only[wpS,zE,zA]
 refine call (NO hv) ?_
 rintro _ h1 ⟨X1,rfl⟩
 by_cases hk:df ll
 case neg =>
  have e:oS ll t=330:=by rw[oS,if_pos hk]
  rw[e,TR,if_neg hk,decide_eq_false (fun h=>by have:=h.1;omega)]
  simp -dsimp (disch:=omega) only[wpS,wpT,zE]
  exact X1
 rw[TR,if_pos hk]
 have l60:=hk.2.1
 by_cases ht:t.length=ll.length
 case neg =>
  have e:oS ll t=2:=by rw[oS,if_neg (fun h=>h hk),if_pos (.inl ht)]
  have d:(((t.length:Nat):Int) != ((ll.length:Nat):Int))=true:=by simpa using fun h=>ht (by omega)
  rw[e,decide_eq_false (fun h=>by have:=h.1;omega)]
  simp -dsimp (disch:=omega) only[wpS,wpT,zE,hlen,hlw,d]
  exact X1
 have d:(((t.length:Nat):Int) != ((ll.length:Nat):Int))=false:=by simp[ht]
 simp -dsimp (disch:=omega) only[wpS,wpT,zE,hlen,hlw,d]
 refine call (DL (least:=0) (hw.aa X1.aa) ⟨by omega,by omega⟩) ?_
 rintro _ h2 ⟨X2,rfl⟩
 by_cases tL : ∃p∈t,wdI p<0
 case pos =>
  have e:oS ll t=2:=by rw[oS,if_neg (fun h=>h hk),if_pos (.inr tL)]
  rw[decide_eq_true tL,e,decide_eq_false (fun h=>by have:=h.1;omega)]
  simp -dsimp (disch:=omega) only[wpS,wpT,zE]
  exact X1.trans X2
 rw[decide_eq_false tL]
 have re:oS ll t=0:=by rw[oS,if_neg (fun h=>h hk),if_neg (fun h=>h.elim (fun h=>h ht) tL)]
 simp -dsimp (disch:=omega) only[wpS,zE]
 refine call (QH (hw.aa (X1.trans X2).aa) (by omega)) ?_
 rintro v7 h3 ⟨X3,sv7⟩
 have X03:=(X1.trans X2).trans X3
 have pt : ∀j,j<ll.length→t.getD j 0<W8∧(t.map cA)[j]?=some (cA (t.getD j 0)):=fun j hj=>by
  have hjt:j<t.length:=by omega
  have hm:t.getD j 0∈t:=by rw[List.getD_eq_getElem?_getD,List.getElem?_eq_getElem hjt];exact List.getElem_mem hjt
  refine⟨hw.2.2 _ hm,?_⟩
  rw[List.getElem?_map,List.getD_eq_getElem?_getD,List.getElem?_eq_getElem hjt];rfl
 have hv3:=hv.aa X03.aa
 obtain⟨cst,svt⟩ : ∃cs,bJ h3 4 v7 (t.map cA).length cs:=⟨_,sv7.choose_spec.1⟩
 rw[List.length_map,ht] at svt
 simp -dsimp (disch:=omega) only[wpS,zE,hlen]
 refine zS (fun fr H=>Ext h3 H∧ab fr 8=some (.bool (decide (oS ll t=0∧Dq ll t)))) ?_ ?_
 ·refine loop (fun m fr H => ∃i:Nat,i+m=ll.length∧(∀a b,a<i→b<a→cA (t.getD a 0)*kAt ll a b=cA (t.getD b 0)*kAt ll b a)∧Ext h3 H∧ab fr 0=some v∧ab fr 7=some v7∧ab fr 8=some (.bool true)∧ab fr 28=some (KN ll.length)∧ab fr 29=some (KN i)) ll.length
   ⟨0,by omega,fun a b ha=>by omega,Ext.refl _,by simp⟩ ?_
  rintro m fr H ⟨i,him,R,E,f0,f7,f8,f28,f29⟩
  simp -dsimp (disch:=omega) only[wpS,f28,f29]
  refine aq ?_ ?_<;>intro hc<;>simp only[decide_eq_true_eq,decide_eq_false_iff_not] at hc
  ·have hi:i<ll.length:=by omega
   simp -dsimp (disch:=omega) only[wpS,wpT,zE,f29]
   refine loop (fun m2 fr H => ∃j:Nat,j+m2=i∧(∀b,b<j→cA (t.getD i 0)*kAt ll i b=cA (t.getD b 0)*kAt ll b i)∧Ext h3 H∧ab fr 0=some v∧ab fr 7=some v7∧ab fr 8=some (.bool true)∧ab fr 9=some (KN i)∧ab fr 28=some (KN ll.length)∧ab fr 29=some (KN i)∧ab fr 32=some (KN i)∧ab fr 33=some (KN j)) i
    ⟨0,by omega,fun b hb=>by omega,E,by simp[f0,f7,f8,f28,f29]⟩ ?_
   clear E f0 f7 f8 f28 f29
   rintro m2 fr H ⟨j,hjm,R2,E,f0,f7,f8,f9,f28,f29,f32,f33⟩
   simp -dsimp (disch:=omega) only[wpS,f32,f33]
   refine aq ?_ ?_<;>intro hc2<;>simp only[decide_eq_true_eq,decide_eq_false_iff_not] at hc2
   ·have hj:j<i:=by omega
    obtain⟨ri,p,e1,l1,e2,ok1,nn1,k1⟩:=eX hk (i:=i) (j:=j) (by omega) (by omega)
    obtain⟨rj,q,e3,l3,e4,ok2,nn2,k2⟩:=eX hk (i:=j) (j:=i) (by omega) (by omega)
    obtain⟨wi,A1,A2,A3⟩:=hv3.nc e1
    obtain⟨wj,B1,B2,B3⟩:=hv3.nc e3
    have Lp:=fun h' (K:aJ h3 h')=>A2.ld K e2
    have Lq:=fun h' (K:aJ h3 h')=>B2.ld K e4
    have ip:=A2.1.idx x8 (P:=prog) (k:=.i64) (j:=j) (by omega)
    have iq:=B2.1.idx x8 (P:=prog) (k:=.i64) (j:=i) (by omega)
    have wp:=A2.2.2 p (List.mem_of_getElem? e2)
    have wq:=B2.2.2 q (List.mem_of_getElem? e4)
    obtain⟨u1,u2,u3,u4,Lu,pu⟩:=sv7.nc gL (pt j (by omega)).2 AS sD (P:=prog)
    obtain⟨w1,w2,w3,w4,Lw,pw⟩:=sv7.nc gL (pt i (by omega)).2 AS sD (P:=prog)
    have iu:=svt.idx An (P:=prog) (k:=.i64) (j:=j) (by omega)
    have iw:=svt.idx An (P:=prog) (k:=.i64) (j:=i) (by omega)
    have K0:=E.aa
    have qb1:QB 512 (kAt ll i j):=by rw[k1];exact jm wp.1 wp.2 ok1
    have qb2:QB 512 (kAt ll j i):=by rw[k2];exact jm wq.1 wq.2 ok2
    have qb3:=kV (pt j (by omega)).1
    have qb4:=kV (pt i (by omega)).1
    simp -dsimp (disch:=omega) only[wpS,wpT,zE,f33]
    refine drawn [(3,[12]),(16,[11,12,25]),(20,[11,12]),(23,[11,12])] (by kernel_rfl) (by kernel_rfl) rfl ?_
    simp -dsimp (disch:=omega) only[wpS,zE,f0,f7,f9,iw,Lw H K0,A3,A1 H K0,ip,Lp H K0]
    refine call (cW p.1 p.2 wp.1 wp.2) ?_
    rintro r5 h5 ⟨X5,p5⟩
    have p5:=p5.rat ok1
    rw[←k1] at p5
    have K5:=(E.trans X5).aa
    simp -dsimp (disch:=omega) only[wpS,zE]
    refine call (iZ (pw.aa K5) p5 qb4 qb1 (by omega)) ?_
    rintro r6 h6 ⟨X6,p6⟩
    have E6:=(E.trans X5).trans X6
    have K6:=E6.aa
    simp -dsimp (disch:=omega) only[wpS,zE,f0,f7,f9,iu,Lu h6 K6,B3,B1 h6 K6,iq,Lq h6 K6]
    refine call (cW q.1 q.2 wq.1 wq.2) ?_
    rintro r7 h7 ⟨X7,p7⟩
    have p7:=p7.rat ok2
    rw[←k2] at p7
    have E7:=E6.trans X7
    have K7:=E7.aa
    simp -dsimp (disch:=omega) only[wpS,zE]
    refine call (iZ (pu.aa K7) p7 qb3 qb2 (by omega)) ?_
    rintro r8 h8 ⟨X8,p8⟩
    simp -dsimp (disch:=omega) only[wpS,zE]
    refine call (rH (p6.aa (X7.trans X8).aa) p8 (qb4.mul qb1) (qb3.mul qb2) (by omega)) ?_
    rintro _ h9 ⟨X9,rfl⟩
    by_cases c:cA (t.getD i 0)*kAt ll i j=cA (t.getD j 0)*kAt ll j i
    case neg =>
     obtain⟨z,hz,hz0⟩ : ∃z:Int,(if cA (t.getD i 0)*kAt ll i j<cA (t.getD j 0)*kAt ll j i then (-1:Int) else if cA (t.getD i 0)*kAt ll i j=cA (t.getD j 0)*kAt ll j i then 0 else 1)=z∧(z != 0)=true:=⟨_,rfl,by rw[if_neg c];split<;>rfl⟩
     rw[hz]
     simp -dsimp (disch:=omega) only[wpS,zE,hz0]
     refine⟨ay (ad rfl rfl rfl rfl (ai rfl (Lw H K0) (Lw h5 K5))) (ay (az (ad rfl rfl rfl rfl (ai rfl (Lu h6 K6) (Lu H K0))) (az (ad rfl rfl rfl rfl (ai rfl (Lu h6 K6) (Lu h5 K5))) (ad rfl rfl rfl rfl (ai rfl (Lu h6 K6) (Lu h7 K7))))) (ay (az (ad rfl rfl rfl rfl (ai rfl (B1 h6 K6) (B1 H K0))) (ad rfl rfl rfl rfl (ai rfl (B1 h6 K6) (B1 h5 K5)))) (az (ad rfl rfl rfl rfl (ai rfl (Lq h6 K6) (Lq H K0))) (ad rfl rfl rfl rfl (ai rfl (Lq h6 K6) (Lq h5 K5)))))),?_⟩
     simp -dsimp (disch:=omega) only[wpS,wpT,zE,zA]
     refine⟨(E7.trans X8).trans X9,?_⟩
     rw[decide_eq_false fun h=>c (h.2 i j hi hj)]
     simp
    rw[c,if_neg Rat.lt_irrefl,if_pos rfl]
    simp -dsimp (disch:=omega) only[wpS,wpT,zE]
    refine⟨ay (ad rfl rfl rfl rfl (ai rfl (Lw H K0) (Lw h5 K5))) (ay (az (ad rfl rfl rfl rfl (ai rfl (Lu h6 K6) (Lu H K0))) (az (ad rfl rfl rfl rfl (ai rfl (Lu h6 K6) (Lu h5 K5))) (ad rfl rfl rfl rfl (ai rfl (Lu h6 K6) (Lu h7 K7))))) (ay (az (ad rfl rfl rfl rfl (ai rfl (B1 h6 K6) (B1 H K0))) (ad rfl rfl rfl rfl (ai rfl (B1 h6 K6) (B1 h5 K5)))) (az (ad rfl rfl rfl rfl (ai rfl (Lq h6 K6) (Lq H K0))) (ad rfl rfl rfl rfl (ai rfl (Lq h6 K6) (Lq h5 K5)))))),?_⟩
    simp -dsimp (disch:=omega) only[wpS,wpT,zE,zA,f33]
    refine⟨m2 - 1,by omega,j+1,by omega,fun b hb=>?_,(E7.trans X8).trans X9,by simp[f0,f7,f8,f9,f28,f29,f32]⟩
    by_cases e:b=j
    ·rw[e];exact c
    ·exact R2 b (by omega)
   ·simp -dsimp (disch:=omega) only[wpS,wpT,zE,f29]
    refine⟨m - 1,by omega,i+1,by omega,fun a b ha hb=>?_,E,by simp[f0,f7,f8,f28]⟩
    by_cases e:a=i
    ·rw[e];exact R2 b (by omega)
    ·exact R a b (by omega) hb
  ·simp -dsimp (disch:=omega) only[wpS,wpT]
   refine⟨E,?_⟩
   rw[decide_eq_true ⟨re,fun a b ha hb=>R a b (by omega) hb⟩]
   simp[f8]
 rintro fr H ⟨E,f8⟩
 rw[re] at f8 ⊢
 simp -dsimp (disch:=omega) only[wpS,wpT,zE,f8]
 exact X03.trans E
end Go.Id
namespace Go.Id
open Go
open Nat renaming reduceAdd→zA,reduceEqDiff→zE,reduceLeDiff→zL
def ig (q:Rat):Int:=q.num / (q.den:Int)
theorem Cl (q:Rat):((ig q:Int):Rat)≤q:=by
 rw[Rat.le_iff]
 show q.num / (q.den:Int)*(q.den:Int)≤q.num*1
 rw[Int.mul_one]
 exact Int.ediv_mul_le _ (by have:=q.den_pos;omega)
theorem N4 (q:Rat):q<((ig q+1:Int):Rat):=by
 rw[Rat.lt_iff]
 show q.num*1<(q.num / (q.den:Int)+1)*(q.den:Int)
 rw[Int.mul_one]
 exact Int.lt_ediv_add_one_mul_self _ (by have:=q.den_pos;omega)
theorem sM {q:Rat} (h:0≤q):0≤ig q:=Int.ediv_nonneg (Rat.num_nonneg.2 h) (by omega)
theorem N3 {q:Rat} {z:Int} (h:(z:Rat)≤q):z≤ig q:=by
 have h1:=N4 q
 have h2:(z:Rat)<((ig q+1:Int):Rat):=by grind
 have:=Rat.intCast_lt_intCast.1 h2
 omega
theorem GU {p q:Rat} (h:p≤q):ig p≤ig q:=N3 (Rat.le_trans (Cl p) h)
theorem Jh (z:Int):ig (z:Rat)=z:=by
 show z / ((1:Nat):Int)=z
 simp
theorem PT {h:IH} {v:Value} {x:Rat} {a:Nat} (hv:bg h v x) (qx:QB a x) (hk:a<16000000) :
  WV Proofs.Tryz.prog (.func (.func 181) #[] #[]) [v] h fun r h'=>Ext h h'∧a9 h' r (ig x):=by
 obtain⟨a1,s1,b1,t1,rfl,hn1,hd1,c1,o1,c2,o2,o3,o4⟩:=hv.parts
 refine enter (nt:=14) (rs:=[.cell 2 135]) Proofs.Tryz.func181 rfl rfl rfl (by simp) ?_
 simp -dsimp (disch:=try exact dx) only[wpS,wpT,zE,zL,zA,ju,fM,bE,gX]
 obtain⟨H0,hH0,n0,E0,g0,g1⟩:=dY h [a1,s1,b1,t1] [.bool false,.slice none 0 0]
 rw[←hH0]
 clear hH0
 simp -dsimp (disch:=try exact dx) only[tkA,tkB]
 refine call (rI (hn1.aa E0.aa) (hd1.aa E0.aa) (bt qx.1 hk) (bt qx.dM hk) (by have:=x.den_pos;omega)) ?_
 rintro _ h1 ⟨X1,q,t,rfl,pq,pt⟩
 have m1:=X1.n
 obtain⟨s2,rfl,c5,o5⟩:=pq.cg
 obtain⟨s3,rfl,c6,o6⟩:=pt.cg
 have k2:=X1.kept (by omega) g1
 simp -dsimp (disch:=try exact dx) only[wpS,wpT,zE,zL,zA,ju,bE,gu,o5,o6,qh,k2]
 obtain⟨H2,hH2⟩ : ∃H,H=(((h1.new (.cells [.bool false,.slice none 0 0] 0 none)).new (.cells [.bool false,.slice none 0 0] 0 none)).put h1.n (.cells [.bool (decide (x.num / (x.den:Int)<0)),s2] 0 none)).put (h1.n+1) (.cells [.bool (decide (x.num % (x.den:Int)<0)),s3] 0 none):=⟨_,rfl⟩
 have E2:Ext h1 H2:=by rw[hH2];exact((((Ext.refl h1).new _).new _).put (by omega) _).put (by omega) _
 rw[←hH2]
 have k3:=E2.kept (by omega) k2
 exact⟨((E0.trans X1).trans E2).put (by omega) _,(pq.aa E2.aa).aa ((aJ.refl _).put k3 _)⟩
def qL (e:Rat) (n:Nat):Int:=ig (e*(((n+1:Nat):Int):Rat)) - 1
theorem mR {e:Rat} {n:Nat} (h0:0≤e) (h1:e≤1):0≤ig (e*(((n+1:Nat):Int):Rat))∧ig (e*(((n+1:Nat):Int):Rat))≤n+1:=by
 have hn:(0:Rat)≤(((n+1:Nat):Int):Rat):=Rat.intCast_nonneg.2 (by omega)
 refine⟨sM (Rat.mul_nonneg h0 hn),?_⟩
 have h2:=Rat.mul_le_mul_of_nonneg_right h1 hn
 rw[Rat.one_mul] at h2
 have h3:=GU h2
 rw[Jh] at h3
 omega
theorem GF {h:IH} {p:Nat×Nat} {n:Nat} (hp:p.1<W8∧p.2<W8) (ok:okS p.1 p.2) (h0:0≤rOf p) (h1:rOf p≤1) (hn:n≤20) :
  WV Proofs.Tryz.prog (.func (.func 80) #[] #[]) [KN n,shV p.1 p.2] h fun r h'=>Ext h h'∧r=KI (qL (rOf p) n):=by
 obtain⟨z0,z1⟩:=mR (n:=n) h0 h1
 refine enter (nt:=27) (rs:=[.tmp 4]) Proofs.Tryz.func80 rfl rfl rfl (by simp) ?_
 have E1:Ext h (h.new (.cells (shC p.1 p.2) 0 none)):=(Ext.refl h).new _
 simp -dsimp (disch:=omega) only[wpS,zE,zL,zA,bY,aB,au,aO]
 refine call (cW p.1 p.2 hp.1 hp.2) ?_
 rintro r1 h1 ⟨X1,p1⟩
 simp -dsimp (disch:=omega) only[wpS,zE]
 refine call (eH ((n+1:Nat):Int) ⟨by omega,by omega⟩) ?_
 rintro r2 h2 ⟨X2,p2⟩
 have q1:=jm hp.1 hp.2 ok
 have q2:QB 64 ((((n+1:Nat):Int):Rat)):=QB.int (by omega)
 simp -dsimp (disch:=omega) only[wpS,zE]
 refine call (iZ ((p1.rat ok).aa X2.aa) p2 q1 q2 (by omega)) ?_
 rintro r3 h3 ⟨X3,p3⟩
 simp -dsimp (disch:=omega) only[wpS,zE]
 refine call (PT p3 (q1.mul q2) (by omega)) ?_
 rintro r4 h4 ⟨X4,p4⟩
 obtain⟨z,hz⟩:=aP (ig (rOf (p.1,p.2)*(((n+1:Nat):Int):Rat)))
 rw[←hz] at p4
 have hz':z=ig (rOf p*(((n+1:Nat):Int):Rat)):=hz
 rw[←hz'] at z0 z1
 unfold qL
 rw[←hz']
 clear hz hz'
 simp -dsimp (disch:=omega) only[wpS,zE]
 refine call (qA p4) ?_
 rintro _ h5 ⟨X5,rfl⟩
 have z64:fR z:=⟨by omega,by omega⟩
 rw[if_pos (jy z64)]
 simp -dsimp (disch:=omega) only[wpS,wpT,zE,zL,zA,nh,kK,eV,cD,ar,cb,ev]
 obtain⟨H6,hH6⟩:=aP ((h5.new (.cells [ZW,ZW,ZW,ZW,ZW,ZW,ZW,ZW] 0 none)).put h5.n (.cells (wdC (aV z)) 0 none))
 have E6:Ext h5 H6:=by rw[hH6];exact((Ext.refl h5).new _).put (Nat.le_refl _) _
 have g6:H6.ext.get h5.n=some (.cells (wdC (aV z)) 0 none):=by rw[hH6];simp (disch:=omega) only[ae]
 rw[←hH6]
 clear hH6
 simp -dsimp (disch:=omega) only[bS]
 refine call (HK (aV z) (dR (jy z64))) ?_
 rintro _ h7 ⟨X7,rfl⟩
 rw[cm (jy z64),if_pos z64]
 simp -dsimp (disch:=omega) only[wpS,wpT,zE]
 exact((((((E1.trans X1).trans X2).trans X3).trans X4).trans X5).trans E6).trans X7
end Go.Id
