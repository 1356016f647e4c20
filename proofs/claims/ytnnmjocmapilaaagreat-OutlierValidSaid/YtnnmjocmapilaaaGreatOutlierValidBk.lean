/-
  Contracts: package outlier: what First and Middle add up for a state.
-/
import Derived.Test.YtnnmjocmapilaaaGreatOutlierValidBj
set_option linter.unusedVariables false
set_option linter.unusedSimpArgs false
set_option linter.defProp false
set_option linter.deprecated false
namespace Go.Id
open Go
open Go.Proofs.Tryz (prog)
open Nat renaming reduceAdd→zA,reduceEqDiff→zE,reduceLeDiff→zL
set_option maxHeartbeats 16000000
theorem J2 {l:List Rat} {R M:Nat} (a:Nat→Rat) (h:atQ l 0=1):rs M (upV a (atQ l) ((R:Int) - 1) 1)=rs M fun i=>if i+1≤R then a i else 0:=by
 refine aX fun i _=>?_
 unfold upV
 rw[rs,rs,Rat.zero_add]
 by_cases c:i+1≤R
 ·rw[if_pos c,if_pos (by omega),h,Rat.mul_one]
 ·rw[if_neg c,if_neg (by omega)]
theorem HP {N S:Nat} {q:Nat→Nat→Rat} {m:Nat} (hm:m<S+1):atQ (pP N (S+1) q) m=rs N fun j=>q j m:=by
 unfold atQ
 rw[List.getD_eq_getElem?_getD,C9 _ hm];rfl
theorem Cm {N S:Nat} {p:Nat→Nat→Rat} {f:Nat→Rat} {s R:Nat} {l:List Rat} (hs:s<N) (h:atQ l 0=1) :
  rs (S+1) (upV (atQ (pP N (S+1) (iR N p (leF f s) s S))) (atQ l) ((R:Int) - 1) 1)=ch N p f R S s:=by
 rw[J2 _ h,←upQ1 f s (Nat.lt_succ_self S) R]
 refine aX fun i hi=>?_
 rw[HP hi,V4 (leF f s) hs S i]
def qK (N:Nat) (p:Nat→Nat→Rat) (f:Nat→Rat) (R S n s:Nat):Rat:=bN N p n s fun b=>bN N p (S - n) s fun o=>if b.countP (leF f s)+o.countP (leF f s)+1≤R then 1 else 0
theorem KW {N S:Nat} {p:Nat→Nat→Rat} {f:Nat→Rat} {s R n:Nat} (hs:s<N) (hn:n<S+1) :
  rs (S+1) (upV (atQ (pP N (S+1) (iR N p (leF f s) s n))) (atQ (pP N (S+1) (iR N p (leF f s) s (S - n)))) ((R:Int) - 1) (S+1))=qK N p f R S n s:=by
 unfold qK
 rw[←upQ (leF f s) s hn (show S - n<S+1 by omega) R]
 refine aX fun i hi=>?_
 unfold upV
 refine aX fun j hj=>?_
 rw[HP hi,HP hj,V4 (leF f s) hs n i,V4 (leF f s) hs (S - n) j]
 by_cases c:i+j+1≤R
 ·rw[if_pos c,if_pos (by omega)]
 ·rw[if_neg c,if_neg (by omega)]
theorem AB {H:IH} {v:Value} {N S:Nat} {p:Nat→Nat→Rat} {hit:Nat→Bool} {s:Nat} (c:VN H v N S p hit s) {i:Nat} (hi:i<S+1) : ∃w,indexAddr prog 147 v (KN i)=some (aM v i)∧(∀h',aJ H h'→load prog h' 139 (aM v i)=some w)∧nF bg H w (pP N (S+1) (iR N p hit s i)):=by
 obtain⟨vs,sl,cv⟩:=c
 obtain⟨w,h1,h2⟩:=cv i hi
 refine⟨w,?_,fun h' K=>?_,h2⟩
 ·have:=sl.idx LG (P:=prog) (k:=.i64) hi
  rwa [Nat.mul_one] at this
 ·rw[sl.ld K (by have:=sl.2.1;omega) xQ];exact h1
theorem IE {h:IH} {b8 b13 b9 S N s D d R:Nat} {kv hv nv:Value} {ll:List (List (Nat×Nat))} {f:Nat→Rat} {e:Nat×Nat}
  (hk:jt h kv ll) (ko:df ll) (hN:N=ll.length) (hh:bJ h 1 hv N (u6 N (leF f s))) (hS:S≤20) (hs:s<N) (hp : ∀i j,i<N→j<N→OvL D d (kAt ll i j)) (hd:d≤300000)
  (g8:h.ext.get b8=some (.cells [KN S] 0 none)) (g13:h.ext.get b13=some (.cells [nv] 0 none)) (g9:h.ext.get b9=some (.cells (shC e.1 e.2) 0 none)) (l8:b8<h.n) (l13:b13<h.n) (l9:b9<h.n) (sn:nF bg h nv [1])
  (he:e.1<W8∧e.2<W8) (ok:okS e.1 e.2) (e0:0≤rOf e) (e1:rOf e≤1) (hR:qL (rOf e) S=(R:Int) - 1) :
  WV prog (.func (.func 77) #[] #[ptr (2*b8) 0,ptr (2*b13) 0,ptr (2*b9) 0]) [KN s,.agg #[kv,hv]] h fun r h'=>Ext h h'∧bg h' r (ch N (kAt ll) f R S s):=by
 obtain⟨c1,c2,hlen⟩:=hk.co
 have o3:=hh.cells
 have o4:=hh.cok
 obtain⟨H0,hH0,n0,E0,g6,g7⟩:=dY h [kv,hv] ZR
 have qh:List.take 2 (List.drop 0 [kv,hv]) = [kv,hv]:=rfl
 refine enter (nt:=20) (rs:=[.cell 7 137]) Proofs.Tryz.func77 rfl rfl rfl (by simp) ?_
 simp -dsimp (disch:=omega) only[wpS,zE,zA,dr]
 rw[←hH0]
 clear hH0
 have X0:=Ext.refl H0
 have g80:=E0.kept l8 g8
 have Z0:=E0.kept l13 g13
 have g90:=E0.kept l9 g9
 obtain⟨_,_,L9⟩:=psh g90
 refine drawn [(4,[3,11]),(6,[11]),(7,[3,11]),(8,[3]),(9,[3])] (by kernel_rfl) (by kernel_rfl) rfl ?_
 simp -dsimp (disch:=omega) only[wpS,wpT,zE,zL,zA,K8,ld3,aj g6,aj g80,qh]
 refine call (CE (hk.aa E0.aa) ko hN (hh.aa E0.aa) hS hs hp hd) ?_
 rintro cv h1 ⟨X1,cs⟩
 have E1:=E0.trans X1
 obtain⟨w,ix,lw,sw⟩:=AB cs (Nat.lt_succ_self S)
 have g81:=X1.kept (by omega) g80
 have Xe:=X1.kept (by omega) Z0
 have g91:=X1.kept (by omega) g90
 obtain⟨_,_,L91⟩:=psh g91
 simp -dsimp (disch:=omega) only[wpS,zE,ld3,Y7,aj g81,aj Xe,ix,lw h1 (aJ.refl h1),L91]
 refine call (GF he ok e0 e1 hS) ?_
 rintro _ h2 ⟨X2,rfl⟩
 rw[hR]
 obtain⟨z0,z1⟩:=mR (n:=S) e0 e1
 have hRb:R≤S+1:=by unfold qL at hR;omega
 simp -dsimp (disch:=omega) only[wpS,zE]
 have kb:S*(d+N)≤20*(d+N):=Nat.mul_le_mul_right _ hS
 have k2:=ko.2.1
 have zt:=kY (S:=S) (hit:=leF f s) (s:=s) (by omega) hp S (m:=0) (by omega)
 refine call (J3 (most:=(R:Int) - 1) (sw.aa gL X2.aa) (sn.aa gL ((E1.trans X2).aa)) zt.1 zt.2.1 (K:=1) (y:=0) (by omega) (by omega) (fun i hi=>kY (by omega) hp S (by rw[fS] at hi;exact hi)) (fun j hj=>by
  obtain rfl:j=0:=by simpa using hj
  exact OvL.one) ⟨by omega,by omega⟩ (by rw[fS];omega) (by simp) (by omega)) ?_
 rintro r h3 ⟨X3,p3⟩
 rw[fS,List.length_singleton,Cm hs rfl] at p3
 obtain⟨a3,s3,b3,t3,rfl,_,_,d1,o5,d2,o6,o7,o8⟩:=p3.parts
 have X12:=X2.trans X3
 have n1:=X1.n
 have n2:=X12.n
 have g73:=X12.kept (by omega) (X1.kept (by omega) g7)
 simp -dsimp (disch:=omega) only[wpS,wpT,zE,zL,zA,cQ,g73,o5,o6,o7,o8]
 have l80:=mS ag3 g80
 have l81:=mS ag3 g81
 have l82:=mS ag3 (X2.kept (by omega) g81)
 have l130:=mS xQ Z0
 have Y8:=mS xQ Xe
 have l132:=mS xQ (X2.kept (by omega) Xe)
 refine⟨ay (az (ad rfl rfl rfl rfl (ai rfl l81 l80)) (ad rfl rfl rfl rfl (ai rfl l81 l82))) (ay (ad rfl rfl rfl rfl (ai rfl (lw h1 (aJ.refl h1)) (lw h2 X2.aa))) (ay (az (ad rfl rfl rfl rfl (ai rfl Y8 l130)) (ad rfl rfl rfl rfl (ai rfl Y8 l132))) (ay (ad rfl rfl rfl rfl (ai rfl l81 l80)) (ad rfl rfl rfl rfl (ai rfl L91 L9))))),?_⟩
 simp -dsimp (disch:=omega) only[wpS,wpT,zE,zL,zA,fA,fg]
 exact⟨(E1.trans X12).put (by omega) _,p3.aa ((aJ.refl _).put g73 _)⟩
theorem KX {N D d:Nat} {p:Nat→Nat→Rat} {f:Nat→Rat} {s:Nat} (hp : ∀i j,i<N→j<N→OvL D d (p i j)) {S n R:Nat} (hs:s<N) (hn:n<S+1) :
  OvL (D ^ S) (S*(d+N)+2*N+2*S+2) (qK N p f R S n s):=by
 have a:=fun m (hm:m<S+1)=>kY (S:=S) (hit:=leF f s) (s:=s) (by omega) hp n hm
 have b:=fun m (hm:m<S+1)=>kY (S:=S) (hit:=leF f s) (s:=s) (by omega) hp (S - n) hm
 have e1:D ^ n*D ^ (S - n)=D ^ S:=by rw[←Nat.pow_add];congr 1;omega
 have e2:n*(d+N)+(S - n)*(d+N)=S*(d+N):=by rw[←Nat.add_mul];congr 1;omega
 rw[←KW hs hn]
 have t : ∀i j,i<S+1→j<S+1→OvL (D ^ S) (S*(d+N)+2*N) (if (i:Int)+(j:Int)≤(R:Int) - 1 then atQ (pP N (S+1) (iR N p (leF f s) s n)) i*atQ (pP N (S+1) (iR N p (leF f s) s (S - n))) j else 0):=fun i j hi hj=>by
  have z:=((a i hi).mul (b j hj)).ite (c:=(i:Int)+(j:Int)≤(R:Int) - 1)
  rw[e1] at z
  exact z.mono (by omega)
 have z:=t 0 0 (by omega) (by omega)
 have z2:=z.mono (y:=S*(d+N)+2*N+(S+1)) (by omega)
 exact(OvL.rs z2.1 z2.2.1 fun i hi=>OvL.rs z.1 z.2.1 fun j hj=>t i j hi hj).mono (by omega)
set_option maxRecDepth 100000 in
theorem Ge {h:IH} {b8 b9 S N s D d R:Nat} {kv hv:Value} {ll:List (List (Nat×Nat))} {f:Nat→Rat} {e:Nat×Nat}
  (hk:jt h kv ll) (ko:df ll) (hN:N=ll.length) (hh:bJ h 1 hv N (u6 N (leF f s))) (hS:S≤20) (hs:s<N) (hp : ∀i j,i<N→j<N→OvL D d (kAt ll i j)) (hd:d≤300000)
  (g8:h.ext.get b8=some (.cells [KN S] 0 none)) (g9:h.ext.get b9=some (.cells (shC e.1 e.2) 0 none)) (l8:b8<h.n) (l9:b9<h.n)
  (he:e.1<W8∧e.2<W8) (ok:okS e.1 e.2) (e0:0≤rOf e) (e1:rOf e≤1) (hR:qL (rOf e) S=(R:Int) - 1) :
  WV prog (.func (.func 82) #[] #[ptr (2*b8) 0,ptr (2*b9) 0]) [KN s,.agg #[kv,hv]] h fun r h'=>Ext h h'∧bg h' r (rs (S+1) (fun n=>qK N (kAt ll) f R S n s) / (((S+1:Nat):Int):Rat)):=by
 obtain⟨c1,c2,hlen⟩:=hk.co
 have o3:=hh.cells
 have o4:=hh.cok
 have k2:=ko.2.1
 have kb:S*(d+N)≤20*(d+N):=Nat.mul_le_mul_right _ hS
 have k3 : ∀n,n<S+1→n*(d+N)≤20*(d+N):=fun n hn=>Nat.mul_le_mul_right _ (by omega)
 obtain⟨g,hg⟩:=aP (fun n=>qK N (kAt ll) f R S n s)
 have gO : ∀n,n<S+1→OvL (D ^ S) (S*(d+N)+2*N+2*S+2) (g n):=fun n hn=>by rw[hg];exact KX hp hs hn
 have z0:=gO 0 (by omega)
 have gQ : ∀n,n≤S+1→QB (S*(d+N)+2*N+2*S+2+n) (rs n g):=fun n hn=>(OvL.rs z0.1 z0.2.1 fun i hi=>gO i (by omega)).qb
 obtain⟨z1,z2⟩:=mR (n:=S) e0 e1
 have hRb:R≤S+1:=by unfold qL at hR;omega
 rw[←hg]
 obtain⟨H0,hH0,n0,E0,g5,g6⟩:=dY h [kv,hv] ZR
 have qh:List.take 2 (List.drop 0 [kv,hv]) = [kv,hv]:=rfl
 refine enter (nt:=42) (rs:=[.cell 6 137]) Proofs.Tryz.func82 rfl rfl rfl (by simp) ?_
 simp -dsimp (disch:=try exact dx) only[wpS,wpT,zE,zL,zA,dr,K8,ld3,aj g8,qh]
 rw[←hH0]
 clear hH0
 have g80:=E0.kept l8 g8
 have g90:=E0.kept l9 g9
 refine call (CE (hk.aa E0.aa) ko hN (hh.aa E0.aa) hS hs hp hd) ?_
 rintro cv h1 ⟨X1,cs⟩
 have E1:=E0.trans X1
 have m1:=X1.n
 simp -dsimp (disch:=omega) only[wpS,zE]
 refine call (eH 0 ⟨by omega,by omega⟩) ?_
 rintro z h2 ⟨X2,p2⟩
 have m2:=X2.n
 obtain⟨a3,s3,b3,t3,rfl,_,_,d1,o5,d2,o6,o7,o8⟩:=p2.parts
 have g82:=(X1.trans X2).kept (by omega) g80
 simp -dsimp (disch:=omega) only[wpS,wpT,zE,zL,zA,dr,ld3,cQ,o5,o6,o7,o8,aj g82]
 obtain⟨H3,hH3⟩:=aP ((h2.new (.cells ZR 0 none)).put h2.n (.cells [a3,s3,b3,t3] 0 none))
 have F3:Ext h2 H3:=by rw[hH3];exact((Ext.refl h2).new _).put (Nat.le_refl _) _
 have n3:H3.n=h2.n+1:=by rw[hH3];rfl
 have gb:H3.ext.get h2.n=some (.cells [a3,s3,b3,t3] 0 none):=by rw[hH3];simp (disch:=omega) only[ae]
 rw[←hH3]
 clear hH3
 have X13:=X2.trans F3
 refine loop (fun m fr H => ∃(n:Nat) (y1 y2 y3 y4:Value),n+m=S+1∧Ext H0 H∧Ext h1 H∧h2.n<H.n∧H.ext.get h2.n=some (.cells [y1,y2,y3,y4] 0 none)∧bg H (.agg #[y1,y2,y3,y4]) (rs n g)∧ab fr 2=some (ptr (2*b8) 0)∧ab fr 3=some (ptr (2*b9) 0)∧ab fr 6=some (ptr (2*(h.n+1)) 0)∧ab fr 7=some cv∧ab fr 8=some (ptr (2*h2.n) 0)∧ab fr 16=some (KN (S+1))∧ab fr 17=some (KN n)) (S+1)
  ⟨0,a3,s3,b3,t3,by omega,X1.trans X13,X13,by omega,gb,p2.aa F3.aa,by simp⟩ ?_
 clear p2 gb F3 n3 X13
 rintro m fr H ⟨n,y1,y2,y3,y4,hnm,E,EH,nH,gb,pb,f2,f3,f6,f7,f8,f16,f17⟩
 simp -dsimp (disch:=omega) only[wpS,f16,f17]
 refine aq ?_ ?_<;>intro hc<;>simp only[decide_eq_true_eq,decide_eq_false_iff_not] at hc
 ·have hn:n<S+1:=by omega
  obtain⟨wa,ixa,lwa,swa⟩:=AB cs hn
  obtain⟨wb,ixb,lwb,swb⟩:=AB cs (show S - n<S+1 by omega)
  have eS:((S:Nat):Int) - ((n:Nat):Int)=((S - n:Nat):Int):=by omega
  have g8H:=E.kept (by omega) g80
  have g9H:=E.kept (by omega) g90
  have l8H:=mS ag3 g8H
  obtain⟨_,_,L9⟩:=psh g9H
  obtain⟨_,_,LB⟩:=pl4 gb
  simp -dsimp (disch:=omega) only[wpS,wpT,zE,f17]
  refine drawn [(0,[14,15]),(4,[14]),(6,[14]),(10,[14])] (by kernel_rfl) (by kernel_rfl) rfl ?_
  simp -dsimp (disch:=omega) only[wpS,zE,f2,f3,f7,f8,LB,ixa,ixb,lwa H EH.aa,lwb H EH.aa,l8H,L9,eS]
  refine call (GF he ok e0 e1 hS) ?_
  rintro _ h4 ⟨X4,rfl⟩
  rw[hR]
  have n4:=X4.n
  have gb4:=X4.kept (by omega) gb
  obtain⟨_,_,LB4⟩:=pl4 gb4
  have E4:=EH.trans X4
  have l84:=mS ag3 (X4.kept (by have:=E.n;omega) g8H)
  have za:=kY (S:=S) (hit:=leF f s) (s:=s) (by omega) hp n (m:=0) (by omega)
  have zb:=kY (S:=S) (hit:=leF f s) (s:=s) (by omega) hp (S - n) (m:=0) (by omega)
  have e2:n*(d+N)+(S - n)*(d+N)=S*(d+N):=by rw[←Nat.add_mul];congr 1;omega
  simp -dsimp (disch:=omega) only[wpS,zE]
  refine call (J3 (most:=(R:Int) - 1) (swa.aa gL E4.aa) (swb.aa gL E4.aa) za.1 za.2.1 zb.1 zb.2.1 (fun i hi=>kY (by omega) hp n (by rw[fS] at hi;exact hi)) (fun i hi=>kY (by omega) hp (S - n) (by rw[fS] at hi;exact hi)) ⟨by omega,by omega⟩ (by rw[fS];omega) (by rw[fS];omega) (by omega)) ?_
  rintro r5 h5 ⟨X5,p5⟩
  rw[fS,fS,KW hs hn] at p5
  have e5:qK N (kAt ll) f R S n s=g n:=by rw[hg]
  rw[e5] at p5
  have n5:=X5.n
  obtain⟨_,_,LB5⟩:=pl4 (X5.kept (by omega) gb4)
  have X45:=X4.trans X5
  simp -dsimp (disch:=omega) only[wpS,zE]
  refine call (jj (pb.aa X45.aa) p5 (gQ n (by omega)) (gO n hn).qb (by omega)) ?_
  rintro r6 h6 ⟨X6,p6⟩
  have eT:rs n g+g n=rs (n+1) g:=rfl
  rw[eT] at p6
  obtain⟨x1,x2,x3,x4,rfl,_,_,d1',q1,d2',q2,q3,q4⟩:=p6.parts
  have X46:=X45.trans X6
  have gb6:=X46.kept nH gb
  simp -dsimp (disch:=omega) only[wpS,wpT,zE,zL,zA,cQ,f8,gb6,q1,q2,q3,q4]
  refine⟨ay (az (ad rfl rfl rfl rfl (ai f8 LB LB4)) (ad rfl rfl rfl rfl (ai f8 LB LB5))) (ay (ad rfl rfl rfl rfl (ai rfl (lwa H EH.aa) (lwa h4 E4.aa))) (ay (ad rfl rfl rfl rfl (ai f2 l8H l84)) (ad rfl rfl rfl rfl (ai rfl (lwb H EH.aa) (lwb h4 E4.aa))))),?_⟩
  simp -dsimp (disch:=omega) only[wpS,wpT,zE,zA,f17]
  have n6:=X46.n
  exact⟨m - 1,by omega,n+1,x1,x2,x3,x4,by omega,(E.trans X46).put (by have:=X1.n;omega) _,(EH.trans X46).put (by omega) _,by simp only[aH];omega,ae _ _ rfl,p6.aa ((aJ.refl _).put gb6 _),by simp[f2,f3,f6,f7,f8,f16]⟩
 ·obtain rfl:n=S+1:=by omega
  have g8H:=E.kept (by omega) g80
  obtain⟨_,_,LB⟩:=pl4 gb
  have l8H:=mS ag3 g8H
  simp -dsimp (disch:=omega) only[wpS,wpT]
  refine drawn [(0,[4])] (by kernel_rfl) (by kernel_rfl) rfl ?_
  simp -dsimp (disch:=omega) only[wpS,zE,f2,f8,LB,l8H]
  refine call (eH ((S+1:Nat):Int) ⟨by omega,by omega⟩) ?_
  rintro r4 h4 ⟨X4,p4⟩
  have n4:=X4.n
  obtain⟨_,_,LB4⟩:=pl4 (X4.kept nH gb)
  simp -dsimp (disch:=omega) only[wpS,zE]
  refine call (zm (pb.aa X4.aa) p4 (gQ (S+1) (Nat.le_refl _)) (QB.int (k:=64) (by omega)) (by omega) (oZ (by omega))) ?_
  rintro r5 h5 ⟨X5,p5⟩
  obtain⟨x1,x2,x3,x4,rfl,_,_,d1',q1,d2',q2,q3,q4⟩:=p5.parts
  have X45:=X4.trans X5
  have g6':=(E.trans X45).kept (by omega) g6
  simp -dsimp (disch:=omega) only[wpS,wpT,zE,zL,zA,cQ,f6,g6',q1,q2,q3,q4]
  refine⟨ad rfl rfl rfl rfl (ai f8 LB LB4),?_⟩
  simp -dsimp (disch:=omega) only[wpS,wpT,zE,zL,zA,fA,f6,fg]
  exact⟨((E0.trans E).trans X45).put (by omega) _,p5.aa ((aJ.refl _).put g6' _)⟩
end Go.Id
namespace Go.Id
open Go
theorem Hz {P:Program} {k:Nat} {r:gT} {p q:Tmp} (hst:r.state=.ready) (hpe:r.pending=none) (hps:r.params = [p,q]) (hp:p<r.nt) (hq:q<r.nt) (v w0:Value) (h:IH) (K:Value→IH→Prop) (hg:h.ext.get k=some (.loop r))
  (w:wpC P r.fn r.nt (some k) r.assign ((q,w0) :: (p,v) :: r.fr) h (asgK P k r K)):WV P (.func (.yield (2*k)) #[] #[]) [v,w0] h K:=by
 obtain⟨⟨e0,fr0,h0⟩,⟨N0,hN0⟩,he0,hg0,w⟩:=fw w
 simp only at he0 hg0 w hN0
 subst he0
 obtain⟨⟨e,fr,h1⟩,⟨N,hN⟩,hb,hk⟩:=fw w
 simp only at hb hk hN
 have hp':Nat.blt p r.nt=true:=by simp only[Nat.blt,Nat.ble_eq];exact hp
 have hq':Nat.blt q r.nt=true:=by simp only[Nat.blt,Nat.ble_eq];exact hq
 have e1:(2*k % 2 == 0)=true:=by simp
 have e2:2*k / 2=k:=by omega
 have e3:dQ r.nt r.params [v,w0] r.fr=some ((q,w0) :: (p,v) :: r.fr):=by
  rw[hps];simp[dQ,mC,hp',hq']
 have e5:(r.state == LoopState.ready)=true:=by rw[hst];rfl
 have e6:({ h0 with ext:=h0.ext.set k (.loop { r with state:=.busy }) }:IH)=h0.put k (.loop (AJ r)):=rfl
 have e7:({ AJ r with state:=.ready,pending:=none }:gT)=r:=by
  cases r;simp only at hst hpe;subst hst;subst hpe;rfl
 cases e with
 | normal =>
  refine⟨(.bool true,h1.put k (.loop r)),⟨N0+N+1,fun n hn=>?_⟩,hk⟩
  obtain⟨n,rfl⟩ : ∃m,n=m+1:=⟨n - 1,by omega⟩
  have h2:=hN n (by omega)
  have h3:=hN0 n (by omega)
  show(bif 2*k % 2 == 0 then dE (E0 P) (bU (E0 P) n) n (2*k / 2) ((#[]:Array Value).toList ++ [v,w0]) h else none)=_
  rw[e1,cond_true,e2]
  simp only[dE,fW hg,e3,h3,fW hg0,e5,cond_true,e6,h2,fW hb,List.nil_append]
  rw[e7];rfl
 | exit i =>
  refine⟨(.bool false,h1.put k (.loop (Cu r (.exit i)))),⟨N0+N+1,fun n hn=>?_⟩,hk⟩
  obtain⟨n,rfl⟩ : ∃m,n=m+1:=⟨n - 1,by omega⟩
  have h2:=hN n (by omega)
  have h3:=hN0 n (by omega)
  show(bif 2*k % 2 == 0 then dE (E0 P) (bU (E0 P) n) n (2*k / 2) ((#[]:Array Value).toList ++ [v,w0]) h else none)=_
  rw[e1,cond_true,e2]
  simp only[dE,fW hg,e3,h3,fW hg0,e5,cond_true,e6,h2,fW hb,List.nil_append]
  rfl
 | ret =>
  refine⟨(.bool false,h1.put k (.loop (Cu r .ret))),⟨N0+N+1,fun n hn=>?_⟩,hk⟩
  obtain⟨n,rfl⟩ : ∃m,n=m+1:=⟨n - 1,by omega⟩
  have h2:=hN n (by omega)
  have h3:=hN0 n (by omega)
  show(bif 2*k % 2 == 0 then dE (E0 P) (bU (E0 P) n) n (2*k / 2) ((#[]:Array Value).toList ++ [v,w0]) h else none)=_
  rw[e1,cond_true,e2]
  simp only[dE,fW hg,e3,h3,fW hg0,e5,cond_true,e6,h2,fW hb,List.nil_append]
  rfl
theorem Ta {P:Program} {fn:FuncId} {nt:Nat} {rd:Option Nat} {f:Operand} {p q:Tmp} {assign body:Code} {fr:Fr} {h:IH} {Q:bf→Fr→IH→Prop} {fv:Value} (hf:opd fr f=some fv) (hrd:oR h rd=true) (hp:p<nt) (hq:q<nt)
  (w : ∀(r:gT) (y:Value),r.fn=fn→r.nt=nt→r.body=body→(∀v w0 h1 K,h1.ext.get h.n=some (.loop r)→Do (wpC P fn nt (some h.n) assign ((q,w0) :: (p,v) :: fr) h1) (asgK P h.n r K) nx→WV P y [v,w0] h1 K) →
   WV P fv [y] (h.new (.loop r)) fun _ h1=>So h.n r fr Q h1) :
  Do (tW P fn nt rd f #[p,q] assign body fr h) Q nx:=by
 have w1:=w { state:=.ready,pending:=none,fn,nt,fr,params:=[p,q],assign:=assign,body } (.func (.yield (2*h.n)) #[] #[]) rfl rfl rfl
  fun v w0 h1 K hg w=>Hz (r:={ state:=.ready,pending:=none,fn,nt,fr,params:=[p,q],assign:=assign,body }) rfl rfl rfl hp hq v w0 h1 K hg w
 obtain⟨⟨v,h1⟩,⟨N,hN⟩,hq⟩:=w1
 have st : ∀(r:gT) (e:bf),fj h1 h.n=some r→(r.state == LoopState.busy)=false→tQ r.pending=some e → ∀n,N≤n→jX (E0 P) (bU (E0 P) n) fn nt rd f [p,q] assign body fr h=some (e,fr,h1.put h.n .dead):=by
  intro r e h3 h4 h5 n hn
  have h2:=hN n hn
  simp only at h2
  simp only[jX,hrd,cond_true,hf]
  show(match bU (E0 P) n fv [_] _ with|none=>none|some (_,h1)=>_)=_
  rw[h2]
  simp only[h3,h4,cond_false,h5]
  rfl
 rcases hq with⟨hg,hq⟩|⟨i,hg,hq⟩|⟨hg,hq⟩
 ·exact⟨(.normal,fr,h1.put h.n .dead),⟨N,fun n hn=>st _ _ (fW hg) rfl rfl n hn⟩,hq⟩
 ·exact⟨(.exit i,fr,h1.put h.n .dead),⟨N,fun n hn=>st _ _ (fW hg) rfl rfl n hn⟩,hq⟩
 ·exact⟨(.ret,fr,h1.put h.n .dead),⟨N,fun n hn=>st _ _ (fW hg) rfl rfl n hn⟩,hq⟩
theorem MY {P:Program} {fn:FuncId} {nt:Nat} {rd:Option Nat} {f:Operand} {ps:Array Tmp} {a b:Code} {id:Nat} {fr:Fr} {h:IH} {K:Fr→IH→Prop} {Q:bf→Fr→IH→Prop} (R:Fr→IH→Prop)
  (w:Do (tW P fn nt rd f ps a b fr h) (my id (qq (fun fr h=>Pst (R fr h) nx) Q)) nx) (k : ∀fr h,R fr h→K fr h):Do (tW P fn nt rd f ps a b fr h) (my id (qq K Q)) nx :=
 cut (a:=.block id (.rangeFunc f ps a b)) R w k
open Go.Proofs.Tryz (prog)
open Nat renaming reduceAdd→zA,reduceEqDiff→zE,reduceLeDiff→zL
set_option maxHeartbeats 16000000
theorem BY {h:IH} {p:Nat} (hp:p<W8):WV prog (.func (.func 175) #[] #[]) [wdV p] h fun r h'=>Ext h h'∧bg h' r (cA p):=by
 obtain⟨H0,hH0,n0,E0,g1,g2⟩:=dY h (wdC p) ZR
 refine enter (nt:=6) (rs:=[.cell 2 137]) Proofs.Tryz.func175 rfl rfl rfl (by simp) ?_
 simp -dsimp (disch:=try exact dx) only[wpS,zE,zL,dr,eV,cD,ar,bS]
 rw[←hH0]
 clear hH0
 refine call (jb p hp) ?_
 rintro r1 h1 ⟨X1,p1⟩
 simp -dsimp (disch:=omega) only[wpS,zE]
 refine call (uc p1) ?_
 rintro r2 h2 ⟨X2,p2⟩
 have X12:=X1.trans X2
 obtain⟨a3,s3,b3,t3,rfl,_,_,d1,o1,d2,o2,o3,o4⟩:=p2.parts
 have g22:=X12.kept (by omega) g2
 simp -dsimp (disch:=omega) only[wpS,wpT,zE,zL,zA,cQ,fA,g22,o1,o2,o3,o4,fg]
 exact⟨(E0.trans X12).put (by omega) _,p2.aa ((aJ.refl _).put g22 _)⟩
def wQ (t:List Nat) (i:Nat):Rat:=cA (t.getD i 0)
def pS (t:List Nat) (g:Nat→Rat) (i:Nat):Rat:=rs i fun s=>wQ t s / rs t.length (wQ t)*g s
theorem QF {H:IH} {k:Nat} {a s:Value} (g:H.ext.get k=some (.cells [a,s] 0 none)):load prog H 145 (ptr (2*k) 0)=some (.agg #[a,s]):=by
 have r:=aj g
 have tk2c:List.take 2 (List.drop 0 [a,s]) = [a,s]:=rfl
 simp -dsimp (disch:=omega) only[wpS,wpT,zL,zA,K8,r,tk2c]
set_option maxRecDepth 100000 in
theorem Gu {h:IH} {kv wv fv F:Value} {ll:List (List (Nat×Nat))} {t:List Nat} {f:List (Nat×Nat)} {N k:Nat} {g:Nat→Rat}
  (hk:jt h kv ll) (hw:pE h wv t) (hf:iT h fv f) (ok:Sh f) (hN:N≤60) (lt:t.length=N) (lf:f.length=N) (cF:F.cells = #[F]∧aA F=true)
  (hF : ∀H s hv,Ext h H→s<N→bJ H 1 hv N (u6 N (leF (ni f) s))→WV prog F [KN s,.agg #[kv,hv]] H fun r H'=>Ext H H'∧bg H' r (g s))
  (hg : ∀s,s<N→QB k (g s)) (hm : ∀s,s≤N→QB k (pS t g s)) (hk4:2*k+5000<16000000) (h0:rs N (wQ t)≠0) (hwq:QB 600 (rs N (wQ t))) :
  WV prog (.func (.func 76) #[] #[]) [kv,wv,fv,F] h fun r h'=>Ext h h'∧r=gY (pS t g N):=by
 have hlw:=hw.1.len (P:=prog) Dh
 obtain⟨o1,o2⟩:=cF
 obtain⟨o3,o4⟩:wv.cells = #[wv]∧aA wv=true:=⟨hw.1.cells,hw.1.cok⟩
 obtain⟨ok1,ok2,_⟩:=hk.co
 obtain⟨H0,hH0⟩:=aP (((((h.new (.cells [wv] 0 none)).new (.cells [F] 0 none)).new (.cells Z16 0 none)).new (.cells [.nilFunc] 0 none)).put (h.n+1+1+1) (.cells [(.func (.func 175) #[] #[])] 0 none))
 have n0:H0.n=h.n+4:=by rw[hH0];rfl
 have E0:Ext h H0:=by rw[hH0];exact(((((Ext.refl h).new _).new _).new _).new _).put (by omega) _
 have g5:H0.ext.get h.n=some (.cells [wv] 0 none):=by rw[hH0];simp (disch:=try exact dx) only[ah,ax,ak]
 have g7:H0.ext.get (h.n+1)=some (.cells [F] 0 none):=by rw[hH0];simp (disch:=try exact dx) only[ah,ax,ak]
 have g8:H0.ext.get (h.n+1+1)=some (.cells Z16 0 none):=by rw[hH0];simp (disch:=try exact dx) only[ah,ax,ak]
 have g10:H0.ext.get (h.n+1+1+1)=some (.cells [(.func (.func 175) #[] #[])] 0 none):=by rw[hH0];simp (disch:=omega) only[ae]
 refine enter (nt:=43) (rs:=[.cell 8 32,.tmp 9]) Proofs.Tryz.func76 rfl rfl rfl (by simp) ?_
 simp -dsimp (disch:=try exact dx) only[wpS,wpT,zE,zL,zA,gC,Ya,Yp,Y0,Vk,o1,o3]
 rw[←hH0]
 clear hH0
 have lt60:t.length≤60:=by omega
 refine call (SJ (hw.aa E0.aa) lt60 fun H p X hp=>BY (hw.2.2 p hp)) ?_
 rintro ra h1 ⟨X1,pa⟩
 have pa:bg h1 ra (rs N (wQ t)):=by rw[←lt];exact pa
 have m1:=X1.n
 obtain⟨a1,a2,a3,a4,rfl,_,_,d1,q1,d2,q2,q3,q4⟩:=pa.parts
 simp -dsimp (disch:=omega) only[wpS,wpT,zE,zL,zA,dr,cQ,q1,q2,q3,q4]
 obtain⟨H2,hH2⟩:=aP ((h1.new (.cells ZR 0 none)).put h1.n (.cells [a1,a2,a3,a4] 0 none))
 have F2:Ext h1 H2:=by rw[hH2];exact((Ext.refl h1).new _).put (Nat.le_refl _) _
 have n2:H2.n=h1.n+1:=by rw[hH2];rfl
 have g11:H2.ext.get h1.n=some (.cells [a1,a2,a3,a4] 0 none):=by rw[hH2];simp (disch:=omega) only[ae]
 rw[←hH2]
 clear hH2
 refine call (eH 0 ⟨by omega,by omega⟩) ?_
 rintro rz h2 ⟨X2,pz⟩
 have m2:=X2.n
 obtain⟨z1,z2,z3,z4,rfl,_,_,d3,q5,d4,q6,q7,q8⟩:=pz.parts
 simp -dsimp (disch:=omega) only[wpS,wpT,zE,zL,zA,dr,cQ,q5,q6,q7,q8]
 obtain⟨H3,hH3⟩:=aP ((h2.new (.cells ZR 0 none)).put h2.n (.cells [z1,z2,z3,z4] 0 none))
 have F3:Ext h2 H3:=by rw[hH3];exact((Ext.refl h2).new _).put (Nat.le_refl _) _
 have n3:H3.n=h2.n+1:=by rw[hH3];rfl
 have g12:H3.ext.get h2.n=some (.cells [z1,z2,z3,z4] 0 none):=by rw[hH3];simp (disch:=try exact dx) only[ae]
 rw[←hH3]
 clear hH3
 have cf:=hf.co
 refine call (Ha ok1 cf.1) ?_
 rintro _ _ ⟨rfl,rfl⟩
 obtain⟨H4,hH4⟩ : ∃H,H=(H3.new (.cells [kv] 0 none)).new (.cells [fv] 0 none):=⟨_,rfl⟩
 have F4:Ext H3 H4:=by rw[hH4];exact((Ext.refl H3).new _).new _
 have n4:H4.n=H3.n+2:=by rw[hH4];rfl
 have gc0:H4.ext.get H3.n=some (.cells [kv] 0 none):=by rw[hH4];simp (disch:=try exact dx) only[ah,ax]
 have gc1:H4.ext.get (H3.n+1)=some (.cells [fv] 0 none):=by rw[hH4];simp (disch:=try exact dx) only[ah]
 rw[←hH4]
 clear hH4
 have X24:=(X2.trans F3).trans F4
 have X14:=F2.trans X24
 have X04:=X1.trans X14
 have E4:=E0.trans X04
 have g54:=X04.kept (by omega) g5
 have g74:=X04.kept (by omega) g7
 have g84:=X04.kept (by omega) g8
 have Q5:=X04.kept (by omega) g10
 have g114:=X24.kept (by omega) g11
 have g124:=F4.kept (by omega) g12
 have pa4:=pa.aa X14.aa
 have pz4:=pz.aa (F3.trans F4).aa
 clear pa pz g5 g7 g8 g10 g11 g12
 simp -dsimp (disch:=omega) only[wpS]
 refine MY (fun fr H=>Ext h H∧h2.n<H.n∧H.ext.get (h.n+1+1)=some (.cells Z16 0 none)∧(∃x1 x2 x3 x4,H.ext.get h2.n=some (.cells [x1,x2,x3,x4] 0 none)∧bg H (.agg #[x1,x2,x3,x4]) (pS t g N))∧ab fr 8=some (ptr (2*(h.n+1+1)) 0)∧ab fr 12=some (ptr (2*h2.n) 0)) ?_ ?_
 ·refine Ta (p:=22) (q:=23) (nt:=43) rfl rfl (by decide) (by decide) (fun r y hfn hnt hbd hy=>?_)
  let C:IH→Prop:=fun hh=>Ext h hh∧aJ H4 hh∧H4.n<hh.n ∧ ∀k,k<H4.n→k≠h2.n→hh.ext.get k=H4.ext.get k
  let J:Nat→IH→Prop:=fun i hh=>C hh∧hh.ext.get H4.n=some (.loop r) ∧ ∃x1 x2 x3 x4,hh.ext.get h2.n=some (.cells [x1,x2,x3,x4] 0 none)∧bg hh (.agg #[x1,x2,x3,x4]) (pS t g i)
  refine(WV.mono (Ee (b:=H3.n) (kv:=kv) (fv:=fv) (l:=f) J ⟨ok1,ok2⟩ ?_ ok (by omega) ?_ ?_) ?_)
  ·rintro i hh ⟨⟨c1,c2,c3,c4⟩,_⟩
   exact⟨(c4 _ (by omega) (by omega)).trans gc0,(c4 _ (by omega) (by omega)).trans gc1,by omega,hf.aa c1.aa⟩
  ·refine⟨⟨E4.new _,(Ext.refl H4).aa.new _,by simp,fun k hk _=>ax _ _ (by omega)⟩,ah _ _ rfl,z1,z2,z3,z4,(ax _ _ (by omega)).trans g124,?_⟩
   have:pS t g 0=((0:Int):Rat):=rfl
   rw[this]
   exact pz4.aa ((aJ.refl H4).new _)
  ·rintro i hh h3 hv hi ⟨⟨c1,c2,c3,c4⟩,hr,x1,x2,x3,x4,gx,px⟩ X shv
   have nX:=X.n
   have hr3:=X.kept c3 hr
   refine hy _ _ h3 _ hr3 ?_
   have co5:=shv.cells
   have co6:=shv.cok
   have hw3:=hw.aa (c1.trans X).aa
   have cl:i<N:=by omega
   obtain⟨p,hp⟩:=il (l:=t) (i:=i) (by omega)
   have wp:=hw.2.2 p (List.mem_of_getElem? hp)
   have ep:cA p=wQ t i:=by unfold wQ;rw[List.getD_eq_getElem?_getD,hp];rfl
   simp -dsimp (disch:=omega) only[wpS,wpT,zE,zL,zA,UG,Yq,ok2,co6]
   obtain⟨H5,hH5⟩:=aP ((h3.new (.cells [.slice none 0 0,.slice none 0 0] 0 none)).put h3.n (.cells [kv,hv] 0 none))
   have n5:H5.n=h3.n+1:=by rw[hH5];rfl
   have F5:Ext h3 H5:=by rw[hH5];exact((Ext.refl h3).new _).put (Nat.le_refl _) _
   have g14:H5.ext.get h3.n=some (.cells [kv,hv] 0 none):=by rw[hH5];simp (disch:=omega) only[ae]
   rw[←hH5]
   clear hH5
   have hr5:=F5.kept (by omega) hr3
   refine⟨rfl,hr5,?_⟩
   rw[hfn,hnt,hbd]
   obtain⟨H6,hH6⟩:=aP (H5.put H4.n (.loop (AJ r)))
   have n6:H6.n=h3.n+1:=by rw[hH6];exact n5
   have e6 : ∀k,k≠H4.n→H6.ext.get k=H5.ext.get k:=fun k hk=>by rw[hH6];exact ak _ _ hk
   have hr6:H6.ext.get H4.n=some (.loop (AJ r)):=by rw[hH6];exact ae _ _ rfl
   have K56:aJ H5 H6:=by rw[hH6];exact(aJ.refl H5).Ir (by rintro c e f hc;rw[hr5] at hc;cases hc) _
   have E6:Ext h H6:=by rw[hH6];exact((c1.trans X).trans F5).put (by omega) _
   rw[←hH6]
   clear hH6
   have b6 : ∀{k:Nat} {o:bz},k<H4.n→k≠h2.n→H4.ext.get k=some o→H6.ext.get k=some o:=fun hk hne hg=>by
    rw[e6 _ (by omega),F5.get _ (by omega),X.get _ (by omega),c4 _ hk hne];exact hg
   have g56:=b6 (by omega) (by omega) g54
   have g76:=b6 (by omega) (by omega) g74
   have g106:=b6 (by omega) (by omega) Q5
   have Z1:=b6 (by omega) (by omega) g114
   have NZ:H6.ext.get h2.n=some (.cells [x1,x2,x3,x4] 0 none):=by rw[e6 _ (by omega)];exact(X.trans F5).kept (by omega) gx
   have NY:H6.ext.get h3.n=some (.cells [kv,hv] 0 none):=by rw[e6 _ (by omega)];exact g14
   have K46:aJ H4 H6:=((c2.trans X.aa).trans F5.aa).trans K56
   have px6:=px.aa ((X.trans F5).aa.trans K56)
   have shv6:=shv.aa (F5.aa.trans K56)
   have X0:=Ext.refl H6
   obtain⟨_,_,L12⟩:=pl4 NZ
   obtain⟨_,_,L11⟩:=pl4 Z1
   have L7:=mS Mi g76
   have qh:List.take 2 (List.drop 0 [kv,hv]) = [kv,hv]:=rfl
   simp -dsimp (disch:=omega) only[wpS]
   refine drawn [(0,[8,12,13,14]),(7,[6]),(9,[6,8]),(11,[6,8])] (by kernel_rfl) (by kernel_rfl) rfl ?_
   simp -dsimp (disch:=omega) only[wpS,zE,Y0,Vk,L12,aj g106,aj g56,hw.1.idx N9 (show i<t.length by omega),hw.ld E6.aa hp]
   refine call (BY wp) ?_
   rintro r7 h7 ⟨X7,p7⟩
   have n7:=X7.n
   rw[ep] at p7
   have wq:QB 512 (wQ t i):=by rw[←ep];exact kV wp
   obtain⟨_,_,L127⟩:=pl4 (X7.kept (by omega) NZ)
   obtain⟨_,_,L117⟩:=pl4 (X7.kept (by omega) Z1)
   have L77:=mS Mi (X7.kept (by omega) g76)
   simp -dsimp (disch:=omega) only[wpS,zE,L117]
   refine call (zm p7 (pa4.aa (K46.trans X7.aa)) wq hwq (by omega) h0) ?_
   rintro r8 h8 ⟨X8,p8⟩
   have n8:=X8.n
   have X78:=X7.trans X8
   obtain⟨_,_,L128⟩:=pl4 (X78.kept (by omega) NZ)
   have g78:=X78.kept (by omega) g76
   have L78:=mS Mi g78
   have Uh:=X78.kept (by omega) NY
   simp -dsimp (disch:=omega) only[wpS,wpT,zE,zL,zA,Y5,K8,aj g78,aj Uh,qh]
   refine call (hF h8 i hv (E6.trans X78) cl ?_) ?_
   ·have:=shv6.aa X78.aa
    rw[←lf];exact this
   rintro r9 h9 ⟨X9,p9⟩
   have n9:=X9.n
   have X79:=X78.trans X9
   obtain⟨_,_,L129⟩:=pl4 (X79.kept (by omega) NZ)
   simp -dsimp (disch:=omega) only[wpS,zE]
   have qd:=wq.div hwq h0
   have qg:=hg i cl
   refine call (iZ (p8.aa X9.aa) p9 qd qg (by omega)) ?_
   rintro r10 h10 ⟨X10,p10⟩
   have n10:=X10.n
   have X70:=X79.trans X10
   obtain⟨_,_,ZaY⟩:=pl4 (X70.kept (by omega) NZ)
   simp -dsimp (disch:=omega) only[wpS,zE]
   refine call (jj (px6.aa X70.aa) p10 (hm i (by omega)) (qd.mul qg) (by omega)) ?_
   rintro r11 h11 ⟨X11,p11⟩
   have n11:=X11.n
   have eT:pS t g i+wQ t i / rs N (wQ t)*g i=pS t g (i+1):=by unfold pS;rw[rs,lt]
   rw[eT] at p11
   obtain⟨y1,y2,y3,y4,rfl,_,_,d5,q9,d6,q10,q11,q12⟩:=p11.parts
   have X71:=X70.trans X11
   have Vu:=X71.kept (by omega) NZ
   simp -dsimp (disch:=omega) only[wpS,wpT,zE,zL,zA,cQ,Vu,q9,q10,q11,q12]
   have L14:=QF NY
   have L147:=QF (X7.kept (by omega) NY)
   have L148:=QF Uh
   refine⟨ay (az (ad rfl rfl rfl rfl (ai rfl L12 L127)) (az (ad rfl rfl rfl rfl (ai rfl L12 L128)) (az (ad rfl rfl rfl rfl (ai rfl L12 L129)) (ad rfl rfl rfl rfl (ai rfl L12 ZaY))))) (ay (ad rfl rfl rfl rfl (ai rfl L117 L11)) (ay (az (ad rfl rfl rfl rfl (ai rfl L78 L7)) (ad rfl rfl rfl rfl (ai rfl L78 L77))) (az (ad rfl rfl rfl rfl (ai rfl L148 L14)) (ad rfl rfl rfl rfl (ai rfl L148 L147))))),?_⟩
   simp -dsimp (disch:=omega) only[wpS,wpT,zA]
   have hr11:=X71.kept (by omega) hr6
   have hrp:(h11.put h2.n (.cells [y1,y2,y3,y4] 0 none)).ext.get H4.n=some (.loop (AJ r)):=(ak _ _ (by omega)).trans hr11
   have Kp:=(aJ.refl h11).put Vu (.cells [y1,y2,y3,y4] 0 none)
   have Kl:=(aJ.refl (h11.put h2.n (.cells [y1,y2,y3,y4] 0 none))).Ir (k:=H4.n) (by rintro c e f hc;rw[hrp] at hc;cases hc) (.loop r)
   refine⟨hrp,rfl,⟨((E6.trans X71).put (by omega) _).put (by omega) _,((K46.trans X71.aa).trans Kp).trans Kl,by simp only[aH];omega,fun k hk hne=>?_⟩,ae _ _ rfl,y1,y2,y3,y4,(ak _ _ (by omega)).trans (ae _ _ rfl),(p11.aa Kp).aa Kl⟩
   rw[ak _ _ (by omega),ak _ _ hne,X71.get _ (by omega),e6 _ (by omega),F5.get _ (by omega),X.get _ (by omega),c4 _ hk hne]
  ·rintro _ hh ⟨⟨c1,c2,c3,c4⟩,hr,x1,x2,x3,x4,gx,px⟩
   refine .inl ⟨hr,?_⟩
   simp -dsimp (disch:=omega) only[wpS]
   rw[lf] at px
   refine⟨c1.put (by omega) _,by simp only[aH];omega,?_,⟨x1,x2,x3,x4,(ak _ _ (by omega)).trans gx,px.aa ((aJ.refl hh).Ir (by rintro c e f hc;rw[hr] at hc;cases hc) _)⟩,rfl,rfl⟩
   rw[ak _ _ (by omega)]
   exact(c4 _ (by omega) (by omega)).trans g84
 ·rintro fr H ⟨E,lH,g8,⟨x1,x2,x3,x4,gx,px⟩,f8,f12⟩
  simp -dsimp (disch:=omega) only[wpS,wpT,zL,zA,fA,f12,aj gx,fg]
  refine call (uD px) ?_
  rintro _ h5 ⟨X5,rfl⟩
  have g85:=X5.kept (by omega) g8
  unfold gY
  by_cases c:QW (pS t g N)
  ·rw[if_pos c,fh]
   simp -dsimp (disch:=omega) only[wpS,wpT,zE,zL,zA,ed,bY,f8,g85,aB,au,aY,bC,aO]
   exact⟨(E.trans X5).put (by omega) _,rfl⟩
  ·rw[if_neg c]
   simp -dsimp (disch:=omega) only[wpS,wpT,zE,zL,zA,ed,bY,f8,g85,aB,au,aY,bC,aO]
   exact⟨(E.trans X5).put (by omega) _,rfl⟩
end Go.Id
namespace Go.Id
open Go
theorem Iq {p:Nat×Nat} (h:okS p.1 p.2) (h0:0≤wdI p.1):0≤rOf p:=Rat.num_nonneg.1 (by rw[(dC h).1];exact h0)
theorem qI (g:Nat→Rat) (i:Nat) : ∀m,nw g i m+fU ((List.range m).map g)=1+if i<m then g i else 0
 | 0=>by
  rw[nw,if_neg (by omega)]
  show(1:Rat)+0=1+0
  rfl
 | m+1=>by
  have ih:=qI g i m
  rw[List.range_succ,List.map_append,List.map_cons,List.map_nil,jF,nw]
  by_cases c:m=i
  ·subst c
   rw[if_pos rfl,if_pos (by omega)]
   rw[if_neg (by omega)] at ih
   grind
  ·rw[if_neg c]
   by_cases c2:i<m
   ·rw[if_pos (show i<m+1 by omega)]
    rw[if_pos c2] at ih
    grind
   ·rw[if_neg (show ¬i<m+1 by omega)]
    rw[if_neg c2] at ih
    grind
theorem Dl (g:Nat→Rat) (A:Rat) (i:Nat) : ∀m,fU ((List.range m).map fun j=>if j=i then A else g j)=fU ((List.range m).map g)+if i<m then A - g i else 0
 | 0=>by
  rw[if_neg (by omega)]
  exact(Rat.add_zero _).symm
 | m+1=>by
  have ih:=Dl g A i m
  rw[List.range_succ,List.map_append,List.map_append,List.map_cons,List.map_nil,List.map_cons,List.map_nil,jF,jF,ih]
  by_cases c:m=i
  ·subst c
   rw[if_pos rfl,if_pos (show m<m+1 by omega),if_neg (show ¬m<m by omega)]
   grind
  ·rw[if_neg c]
   by_cases c2:i<m
   ·rw[if_pos (show i<m+1 by omega),if_pos c2]
    grind
   ·rw[if_neg (show ¬i<m+1 by omega),if_neg c2]
    grind
theorem wg {g k:Nat→Rat} {i:Nat} : ∀{m:Nat},(∀j,j<m→g j≤k j)→nw k i m≤nw g i m
 | 0,_=>Rat.le_refl
 | m+1,h=>by
  have ih:=wg (i:=i) (m:=m) fun j hj=>h j (by omega)
  have h1:=h m (by omega)
  rw[nw,nw]
  split
  ·exact ih
  ·grind
theorem Kr {ll:List (List (Nat×Nat))} (k:df ll) {i:Nat} (hi:i<ll.length):fU ((List.range ll.length).map (kAt ll i))=1:=by
 obtain⟨h1,h2⟩:=k.2.2 _ (List.getElem_mem hi)
 rw[←h2.2]
 congr 1
 refine List.ext_getElem? fun j=>?_
 rw[List.getElem?_map,List.getElem?_map]
 by_cases hj:j<ll.length
 ·obtain⟨row,p,e1,e2,e3,_,_,e6⟩:=eX k hi hj
  rw[List.getElem?_eq_getElem hi] at e1
  cases e1
  rw[List.getElem?_range hj,e3]
  exact congrArg some e6
 ·rw[List.getElem?_eq_none (by simp;omega),List.getElem?_eq_none (by omega)];rfl
theorem Jj {ll:List (List (Nat×Nat))} {t:List Nat} (k:df ll) (ht:t.length=ll.length) (hp : ∀p∈t,1≤wdI p) (ho:tO ll t):df (ij ll t):=by
 have hw : ∀i,i<ll.length→0<cA (t.getD i 0):=fun i hi=>by
  have:=hp _ (List.getElem_mem (show i<t.length by omega))
  rw[List.getD_eq_getElem?_getD,List.getElem?_eq_getElem (by omega),Option.getD_some]
  unfold cA
  exact Rat.intCast_pos.2 (by omega)
 have hk : ∀i j,i<ll.length→j<ll.length→0≤kAt ll i j:=fun i j hi hj=>by
  obtain⟨_,p,_,_,_,e4,e5,e6⟩:=eX k hi hj
  rw[e6]
  exact Iq e4 e5
 have hg : ∀i j,i<ll.length→j<ll.length→0≤goQ ll t i j∧goQ ll t i j≤kAt ll i j:=fun i j hi hj=>by
  have h1:=hk i j hi hj
  have h2:=hk j i hj hi
  have w1:=hw i hi
  have w2:=hw j hj
  unfold goQ
  split
  ·rename_i c
   refine⟨?_,Rat.le_of_lt c⟩
   rw[Rat.div_def]
   exact Rat.mul_nonneg (Rat.mul_nonneg h2 (Rat.le_of_lt w2)) (Rat.le_of_lt (Rat.inv_pos.2 w1))
  ·exact⟨h1,Rat.le_refl⟩
 have hq : ∀i j,i<ll.length→j<ll.length→0≤mW ll t i j:=fun i j hi hj=>by
  unfold mW
  split
  ·have h1:=wg (i:=i) (m:=ll.length) (g:=goQ ll t i) (k:=kAt ll i) fun j hj=>(hg i j hi hj).2
   have h2:=qI (kAt ll i) i ll.length
   rw[Kr k hi,if_pos hi] at h2
   have h3:=hk i i hi hi
   grind
  ·exact(hg i j hi hj).1
 have hs : ∀i,i<ll.length→fU (dK ll t i)=1:=fun i hi=>by
  have h1:=Dl (goQ ll t i) (nw (goQ ll t i) i ll.length) i ll.length
  have h2:=qI (goQ ll t i) i ll.length
  rw[if_pos hi] at h1 h2
  have e:dK ll t i=(List.range ll.length).map fun j=>if j=i then nw (goQ ll t i) i ll.length else goQ ll t i j:=rfl
  rw[e,h1]
  grind
 refine⟨by rw[iQ];exact k.1,by rw[iQ];exact k.2.1,fun l hl=>?_⟩
 obtain⟨i,hi,rfl⟩:=List.mem_map.1 hl
 have hi:=List.mem_range.1 hi
 have qw:=ho i hi
 refine⟨by rw[List.length_map,fb,iQ],fun p hp=>?_,?_⟩
 ·obtain⟨q,hq',rfl⟩:=List.mem_map.1 hp
  have h1:=(cK (qw q hq')).2
  obtain⟨j,hj⟩:=List.getElem?_of_mem hq'
  have hjl:=(List.getElem?_eq_some_iff.1 hj).1
  rw[fb] at hjl
  rw[jL hjl] at hj
  cases hj
  have h2:=hq i j hi hjl
  rintro(c|c)
  ·exact c h1
  ·rw[show wdI (shq (mW ll t i j)).1=(mW ll t i j).num from cm (qw _ hq').1] at c
   have:=Rat.num_nonneg.2 h2
   omega
 ·rw[List.map_map,show((dK ll t i).map (rOf ∘ shq))=dK ll t i from ?_]
  ·exact hs i hi
  ·refine(List.map_congr_left fun q hq'=>(cK (qw q hq')).1).trans (List.map_id _)
end Go.Id
