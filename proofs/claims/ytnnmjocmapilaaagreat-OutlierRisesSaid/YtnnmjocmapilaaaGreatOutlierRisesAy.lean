/-
  Contracts: package outlier: what First and Middle add up for a state.
-/
import Derived.Test.YtnnmjocmapilaaaGreatOutlierRisesAx
set_option linter.unusedVariables false
set_option linter.unusedSimpArgs false
set_option linter.defProp false
set_option linter.deprecated false
namespace Go.Id
open Go
open Go.Proofs.Tryz (prog)
open Nat renaming reduceAdd→zA,reduceEqDiff→zE,reduceLeDiff→zL
set_option maxHeartbeats 16000000
variable {l:List Rat}{R:Nat}
theorem Lo {M:Nat} (a:Nat→Rat) (h:atQ l 0=1):rs M (upV a (atQ l) ((R:Int) - 1) 1)=rs M fun i=>if i+1≤R then a i else 0:=by
 refine bm fun i _=>?_
 unfold upV
 rw[rs,rs,Rat.zero_add]
 by_cases c:i+1≤R
 ·rw[if_pos c,if_pos (by omega),h,Rat.mul_one]
 ·rw[if_neg c,if_neg (by omega)]
variable {N S:Nat}
theorem Je {q:Nat→Nat→Rat} {m:Nat} (hm:m<S+1):atQ (qo N (S+1) q) m=rs N fun j=>q j m:=by
 unfold atQ
 rw[List.getD_eq_getElem?_getD,D7 _ hm];rfl
variable {f:Nat→Rat}{p:Nat→Nat→Rat}{s:Nat}
theorem Dh (hs:s<N) (h:atQ l 0=1) :
  rs (S+1) (upV (atQ (qo N (S+1) (jg N p (leF f s) s S))) (atQ l) ((R:Int) - 1) 1)=fC N p f R S s:=by
 rw[Lo _ h,←upQ1 f s (Nat.lt_succ_self S) R]
 refine bm fun i hi=>?_
 rw[Je hi,XI (leF f s) hs S i]
def mI (N:Nat) (p:Nat→Nat→Rat) (f:Nat→Rat) (R S n s:Nat):Rat:=dO N p n s fun b=>dO N p (S - n) s fun o=>if b.countP (leF f s)+o.countP (leF f s)+1≤R then 1 else 0
variable {n:Nat}
theorem MB (hs:s<N) (hn:n<S+1) :
  rs (S+1) (upV (atQ (qo N (S+1) (jg N p (leF f s) s n))) (atQ (qo N (S+1) (jg N p (leF f s) s (S - n)))) ((R:Int) - 1) (S+1))=mI N p f R S n s:=by
 unfold mI
 rw[←upQ (leF f s) s hn (show S - n<S+1 by omega) R]
 refine bm fun i hi=>?_
 unfold upV
 refine bm fun j hj=>?_
 rw[Je hi,Je hj,XI (leF f s) hs n i,XI (leF f s) hs (S - n) j]
 by_cases c:i+j+1≤R
 ·rw[if_pos c,if_pos (by omega)]
 ·rw[if_neg c,if_neg (by omega)]
theorem Bw {H:IH} {v:Value} {hit:Nat→Bool} (c:Xt H v N S p hit s) {i:Nat} (hi:i<S+1) : ∃w,indexAddr prog 147 v (KN i)=some (aP v i)∧(∀h',aK H h'→load prog h' 139 (aP v i)=some w)∧oz bt H w (qo N (S+1) (jg N p hit s i)):=by
 obtain⟨vs,sl,cv⟩:=c
 obtain⟨w,h1,h2⟩:=cv i hi
 refine⟨w,?_,fun h' K=>?_,h2⟩
 ·have:=sl.idx Na (P:=prog) (k:=.i64) hi
  rwa [Nat.mul_one] at this
 ·rw[sl.ld K (by have:=sl.2.1;omega) yC];exact h1
variable {D d:Nat}{h:IH}{b9:Nat}{hv kv:Value}{b8:Nat}{e:Nat×Nat}{ll:List (List (Nat×Nat))}
theorem JR {b13:Nat} {nv:Value} 
  (hk:ji h kv ll) (ko:dK ll) (hN:N=ll.length) (hh:bH h 1 hv N (vT N (leF f s))) (hS:S≤20) (hs:s<N) (hp : ∀i j,i<N→j<N→OvL D d (kAt ll i j)) (hd:d≤300000)
  (g8:h.ext.get b8=some (.cells [KN S] 0 none)) (g13:h.ext.get b13=some (.cells [nv] 0 none)) (g9:h.ext.get b9=some (.cells (shC e.1 e.2) 0 none)) (l8:b8<h.n) (l13:b13<h.n) (l9:b9<h.n) (sn:oz bt h nv [1])
  (he:e.1<W8∧e.2<W8) (ok:okS e.1 e.2) (e0:0≤rOf e) (e1:rOf e≤1) (hR:rB (rOf e) S=(R:Int) - 1) :
  WV prog (.func (.func 77) #[] #[ptr (2*b8) 0,ptr (2*b13) 0,ptr (2*b9) 0]) [KN s,.agg #[kv,hv]] h fun r h'=>Ext h h'∧bt h' r (fC N (kAt ll) f R S s):=by
 obtain⟨c1,c2,hlen⟩:=hk.co
 have o3:=hh.cells
 have o4:=hh.cok
 obtain⟨H0,hH0,n0,E0,g6,g7⟩:=ev h [kv,hv] ZR
 have qL:List.take 2 (List.drop 0 [kv,hv]) = [kv,hv]:=rfl
 refine enter (nt:=20) (rs:=[.cell 7 137]) Proofs.Tryz.func77 rfl rfl rfl (by simp) ?_
 simp -dsimp (disch:=omega) only[wpS,zE,zA,dW]
 rw[←hH0]
 clear hH0
 have X0:=Ext.refl H0
 have g80:=E0.kept l8 g8
 have g130:=E0.kept l13 g13
 have g90:=E0.kept l9 g9
 obtain⟨_,_,L9⟩:=psh g90
 refine drawn [(4,[3,11]),(6,[11]),(7,[3,11]),(8,[3]),(9,[3])] (by kernel_rfl) (by kernel_rfl) rfl ?_
 simp -dsimp (disch:=omega) only[wpS,wpT,zE,zL,zA,MJ,ld3,aj g6,aj g80,qL]
 refine call (DD (hk.aa E0.aa) ko hN (hh.aa E0.aa) hS hs hp hd) ?_
 rintro cv h1 ⟨X1,cs⟩
 have E1:=E0.trans X1
 obtain⟨w,ix,lw,sw⟩:=Bw cs (Nat.lt_succ_self S)
 have g81:=X1.kept (by omega) g80
 have YZ:=X1.kept (by omega) g130
 have g91:=X1.kept (by omega) g90
 obtain⟨_,_,L91⟩:=psh g91
 simp -dsimp (disch:=omega) only[wpS,zE,ld3,Zbe,aj g81,aj YZ,ix,lw h1 (aK.refl h1),L91]
 refine call (HU he ok e0 e1 hS) ?_
 rintro _ h2 ⟨X2,rfl⟩
 rw[hR]
 obtain⟨z0,z1⟩:=nG (n:=S) e0 e1
 have hRb:R≤S+1:=by unfold rB at hR;omega
 simp -dsimp (disch:=omega) only[wpS,zE]
 have kb:S*(d+N)≤20*(d+N):=Nat.mul_le_mul_right _ hS
 have k2:=ko.2.1
 have zt:=lO (S:=S) (hit:=leF f s) (s:=s) (by omega) hp S (m:=0) (by omega)
 refine call (Lr (most:=(R:Int) - 1) (sw.aa hI X2.aa) (sn.aa hI ((E1.trans X2).aa)) zt.1 zt.2.1 (K:=1) (y:=0) (by omega) (by omega) (fun i hi=>lO (by omega) hp S (by rw[gf] at hi;exact hi)) (fun j hj=>by
  obtain rfl:j=0:=by simpa using hj
  exact OvL.one) ⟨by omega,by omega⟩ (by rw[gf];omega) (by simp) (by omega)) ?_
 rintro r h3 ⟨X3,p3⟩
 rw[gf,List.length_singleton,Dh hs rfl] at p3
 obtain⟨a3,s3,b3,t3,rfl,_,_,d1,o5,d2,o6,o7,o8⟩:=p3.parts
 have X12:=X2.trans X3
 have n1:=X1.n
 have n2:=X12.n
 have g73:=X12.kept (by omega) (X1.kept (by omega) g7)
 simp -dsimp (disch:=omega) only[wpS,wpT,zE,zL,zA,df,g73,o5,o6,o7,o8]
 have l80:=nI ag3 g80
 have l81:=nI ag3 g81
 have l82:=nI ag3 (X2.kept (by omega) g81)
 have l130:=nI yC g130
 have l131:=nI yC YZ
 have l132:=nI yC (X2.kept (by omega) YZ)
 refine⟨aw (aC (ad rfl rfl rfl rfl (ai rfl l81 l80)) (ad rfl rfl rfl rfl (ai rfl l81 l82))) (aw (ad rfl rfl rfl rfl (ai rfl (lw h1 (aK.refl h1)) (lw h2 X2.aa))) (aw (aC (ad rfl rfl rfl rfl (ai rfl l131 l130)) (ad rfl rfl rfl rfl (ai rfl l131 l132))) (aw (ad rfl rfl rfl rfl (ai rfl l81 l80)) (ad rfl rfl rfl rfl (ai rfl L91 L9))))),?_⟩
 simp -dsimp (disch:=omega) only[wpS,wpT,zE,zL,zA,fO,fF]
 exact⟨(E1.trans X12).put (by omega) _,p3.aa ((aK.refl _).put g73 _)⟩
theorem MC (hp : ∀i j,i<N→j<N→OvL D d (p i j)) (hs:s<N) (hn:n<S+1) :
  OvL (D ^ S) (S*(d+N)+2*N+2*S+2) (mI N p f R S n s):=by
 have a:=fun m (hm:m<S+1)=>lO (S:=S) (hit:=leF f s) (s:=s) (by omega) hp n hm
 have b:=fun m (hm:m<S+1)=>lO (S:=S) (hit:=leF f s) (s:=s) (by omega) hp (S - n) hm
 have e1:D ^ n*D ^ (S - n)=D ^ S:=by rw[←Nat.pow_add];congr 1;omega
 have e2:n*(d+N)+(S - n)*(d+N)=S*(d+N):=by rw[←Nat.add_mul];congr 1;omega
 rw[←MB hs hn]
 have t : ∀i j,i<S+1→j<S+1→OvL (D ^ S) (S*(d+N)+2*N) (if (i:Int)+(j:Int)≤(R:Int) - 1 then atQ (qo N (S+1) (jg N p (leF f s) s n)) i*atQ (qo N (S+1) (jg N p (leF f s) s (S - n))) j else 0):=fun i j hi hj=>by
  have z:=((a i hi).mul (b j hj)).ite (c:=(i:Int)+(j:Int)≤(R:Int) - 1)
  rw[e1] at z
  exact z.mono (by omega)
 have z:=t 0 0 (by omega) (by omega)
 have z2:=z.mono (y:=S*(d+N)+2*N+(S+1)) (by omega)
 exact(OvL.rs z2.1 z2.2.1 fun i hi=>OvL.rs z.1 z.2.1 fun j hj=>t i j hi hj).mono (by omega)
set_option maxRecDepth 100000 in
theorem Hu 
  (hk:ji h kv ll) (ko:dK ll) (hN:N=ll.length) (hh:bH h 1 hv N (vT N (leF f s))) (hS:S≤20) (hs:s<N) (hp : ∀i j,i<N→j<N→OvL D d (kAt ll i j)) (hd:d≤300000)
  (g8:h.ext.get b8=some (.cells [KN S] 0 none)) (g9:h.ext.get b9=some (.cells (shC e.1 e.2) 0 none)) (l8:b8<h.n) (l9:b9<h.n)
  (he:e.1<W8∧e.2<W8) (ok:okS e.1 e.2) (e0:0≤rOf e) (e1:rOf e≤1) (hR:rB (rOf e) S=(R:Int) - 1) :
  WV prog (.func (.func 82) #[] #[ptr (2*b8) 0,ptr (2*b9) 0]) [KN s,.agg #[kv,hv]] h fun r h'=>Ext h h'∧bt h' r (rs (S+1) (fun n=>mI N (kAt ll) f R S n s) / (((S+1:Nat):Int):Rat)):=by
 obtain⟨c1,c2,hlen⟩:=hk.co
 have o3:=hh.cells
 have o4:=hh.cok
 have k2:=ko.2.1
 have kb:S*(d+N)≤20*(d+N):=Nat.mul_le_mul_right _ hS
 have k3 : ∀n,n<S+1→n*(d+N)≤20*(d+N):=fun n hn=>Nat.mul_le_mul_right _ (by omega)
 obtain⟨g,hg⟩:=aT (fun n=>mI N (kAt ll) f R S n s)
 have gO : ∀n,n<S+1→OvL (D ^ S) (S*(d+N)+2*N+2*S+2) (g n):=fun n hn=>by rw[hg];exact MC hp hs hn
 have z0:=gO 0 (by omega)
 have gQ : ∀n,n≤S+1→QB (S*(d+N)+2*N+2*S+2+n) (rs n g):=fun n hn=>(OvL.rs z0.1 z0.2.1 fun i hi=>gO i (by omega)).qb
 obtain⟨z1,z2⟩:=nG (n:=S) e0 e1
 have hRb:R≤S+1:=by unfold rB at hR;omega
 rw[←hg]
 obtain⟨H0,hH0,n0,E0,g5,g6⟩:=ev h [kv,hv] ZR
 have qL:List.take 2 (List.drop 0 [kv,hv]) = [kv,hv]:=rfl
 refine enter (nt:=42) (rs:=[.cell 6 137]) Proofs.Tryz.func82 rfl rfl rfl (by simp) ?_
 simp -dsimp (disch:=try exact dx) only[wpS,wpT,zE,zL,zA,dW,MJ,ld3,aj g8,qL]
 rw[←hH0]
 clear hH0
 have g80:=E0.kept l8 g8
 have g90:=E0.kept l9 g9
 refine call (DD (hk.aa E0.aa) ko hN (hh.aa E0.aa) hS hs hp hd) ?_
 rintro cv h1 ⟨X1,cs⟩
 have E1:=E0.trans X1
 have m1:=X1.n
 simp -dsimp (disch:=omega) only[wpS,zE]
 refine call (fe 0 ⟨by omega,by omega⟩) ?_
 rintro z h2 ⟨X2,p2⟩
 have m2:=X2.n
 obtain⟨a3,s3,b3,t3,rfl,_,_,d1,o5,d2,o6,o7,o8⟩:=p2.parts
 have g82:=(X1.trans X2).kept (by omega) g80
 simp -dsimp (disch:=omega) only[wpS,wpT,zE,zL,zA,dW,ld3,df,o5,o6,o7,o8,aj g82]
 obtain⟨H3,hH3⟩:=aT ((h2.new (.cells ZR 0 none)).put h2.n (.cells [a3,s3,b3,t3] 0 none))
 have F3:Ext h2 H3:=by rw[hH3];exact((Ext.refl h2).new _).put (Nat.le_refl _) _
 have n3:H3.n=h2.n+1:=by rw[hH3];rfl
 have gb:H3.ext.get h2.n=some (.cells [a3,s3,b3,t3] 0 none):=by rw[hH3];simp (disch:=omega) only[ae]
 rw[←hH3]
 clear hH3
 have X13:=X2.trans F3
 refine loop (fun m fr H => ∃(n:Nat) (y1 y2 y3 y4:Value),n+m=S+1∧Ext H0 H∧Ext h1 H∧h2.n<H.n∧H.ext.get h2.n=some (.cells [y1,y2,y3,y4] 0 none)∧bt H (.agg #[y1,y2,y3,y4]) (rs n g)∧ab fr 2=some (ptr (2*b8) 0)∧ab fr 3=some (ptr (2*b9) 0)∧ab fr 6=some (ptr (2*(h.n+1)) 0)∧ab fr 7=some cv∧ab fr 8=some (ptr (2*h2.n) 0)∧ab fr 16=some (KN (S+1))∧ab fr 17=some (KN n)) (S+1)
  ⟨0,a3,s3,b3,t3,by omega,X1.trans X13,X13,by omega,gb,p2.aa F3.aa,by simp⟩ ?_
 clear p2 gb F3 n3 X13
 rintro m fr H ⟨n,y1,y2,y3,y4,hnm,E,EH,nH,gb,pb,f2,f3,f6,f7,f8,f16,f17⟩
 simp -dsimp (disch:=omega) only[wpS,f16,f17]
 refine au ?_ ?_<;>intro hc<;>simp only[decide_eq_true_eq,decide_eq_false_iff_not] at hc
 ·have hn:n<S+1:=by omega
  obtain⟨wa,ixa,lwa,swa⟩:=Bw cs hn
  obtain⟨wb,ixb,lwb,swb⟩:=Bw cs (show S - n<S+1 by omega)
  have eS:((S:Nat):Int) - ((n:Nat):Int)=((S - n:Nat):Int):=by omega
  have g8H:=E.kept (by omega) g80
  have g9H:=E.kept (by omega) g90
  have l8H:=nI ag3 g8H
  obtain⟨_,_,L9⟩:=psh g9H
  obtain⟨_,_,LB⟩:=pl4 gb
  simp -dsimp (disch:=omega) only[wpS,wpT,zE,f17]
  refine drawn [(0,[14,15]),(4,[14]),(6,[14]),(10,[14])] (by kernel_rfl) (by kernel_rfl) rfl ?_
  simp -dsimp (disch:=omega) only[wpS,zE,f2,f3,f7,f8,LB,ixa,ixb,lwa H EH.aa,lwb H EH.aa,l8H,L9,eS]
  refine call (HU he ok e0 e1 hS) ?_
  rintro _ h4 ⟨X4,rfl⟩
  rw[hR]
  have n4:=X4.n
  have gb4:=X4.kept (by omega) gb
  obtain⟨_,_,LB4⟩:=pl4 gb4
  have E4:=EH.trans X4
  have l84:=nI ag3 (X4.kept (by have:=E.n;omega) g8H)
  have za:=lO (S:=S) (hit:=leF f s) (s:=s) (by omega) hp n (m:=0) (by omega)
  have zb:=lO (S:=S) (hit:=leF f s) (s:=s) (by omega) hp (S - n) (m:=0) (by omega)
  have e2:n*(d+N)+(S - n)*(d+N)=S*(d+N):=by rw[←Nat.add_mul];congr 1;omega
  simp -dsimp (disch:=omega) only[wpS,zE]
  refine call (Lr (most:=(R:Int) - 1) (swa.aa hI E4.aa) (swb.aa hI E4.aa) za.1 za.2.1 zb.1 zb.2.1 (fun i hi=>lO (by omega) hp n (by rw[gf] at hi;exact hi)) (fun i hi=>lO (by omega) hp (S - n) (by rw[gf] at hi;exact hi)) ⟨by omega,by omega⟩ (by rw[gf];omega) (by rw[gf];omega) (by omega)) ?_
  rintro r5 h5 ⟨X5,p5⟩
  rw[gf,gf,MB hs hn] at p5
  have e5:mI N (kAt ll) f R S n s=g n:=by rw[hg]
  rw[e5] at p5
  have n5:=X5.n
  obtain⟨_,_,LB5⟩:=pl4 (X5.kept (by omega) gb4)
  have X45:=X4.trans X5
  simp -dsimp (disch:=omega) only[wpS,zE]
  refine call (iM (pb.aa X45.aa) p5 (gQ n (by omega)) (gO n hn).qb (by omega)) ?_
  rintro r6 h6 ⟨X6,p6⟩
  have eT:rs n g+g n=rs (n+1) g:=rfl
  rw[eT] at p6
  obtain⟨x1,x2,x3,x4,rfl,_,_,d1',q1,d2',q2,q3,q4⟩:=p6.parts
  have X46:=X45.trans X6
  have gb6:=X46.kept nH gb
  simp -dsimp (disch:=omega) only[wpS,wpT,zE,zL,zA,df,f8,gb6,q1,q2,q3,q4]
  refine⟨aw (aC (ad rfl rfl rfl rfl (ai f8 LB LB4)) (ad rfl rfl rfl rfl (ai f8 LB LB5))) (aw (ad rfl rfl rfl rfl (ai rfl (lwa H EH.aa) (lwa h4 E4.aa))) (aw (ad rfl rfl rfl rfl (ai f2 l8H l84)) (ad rfl rfl rfl rfl (ai rfl (lwb H EH.aa) (lwb h4 E4.aa))))),?_⟩
  simp -dsimp (disch:=omega) only[wpS,wpT,zE,zA,f17]
  have n6:=X46.n
  exact⟨m - 1,by omega,n+1,x1,x2,x3,x4,by omega,(E.trans X46).put (by have:=X1.n;omega) _,(EH.trans X46).put (by omega) _,by simp only[aM];omega,ae _ _ rfl,p6.aa ((aK.refl _).put gb6 _),by simp[f2,f3,f6,f7,f8,f16]⟩
 ·obtain rfl:n=S+1:=by omega
  have g8H:=E.kept (by omega) g80
  obtain⟨_,_,LB⟩:=pl4 gb
  have l8H:=nI ag3 g8H
  simp -dsimp (disch:=omega) only[wpS,wpT]
  refine drawn [(0,[4])] (by kernel_rfl) (by kernel_rfl) rfl ?_
  simp -dsimp (disch:=omega) only[wpS,zE,f2,f8,LB,l8H]
  refine call (fe ((S+1:Nat):Int) ⟨by omega,by omega⟩) ?_
  rintro r4 h4 ⟨X4,p4⟩
  have n4:=X4.n
  obtain⟨_,_,LB4⟩:=pl4 (X4.kept nH gb)
  simp -dsimp (disch:=omega) only[wpS,zE]
  refine call (Ah (pb.aa X4.aa) p4 (gQ (S+1) (Nat.le_refl _)) (QB.int (k:=64) (by omega)) (by omega) (oh (by omega))) ?_
  rintro r5 h5 ⟨X5,p5⟩
  obtain⟨x1,x2,x3,x4,rfl,_,_,d1',q1,d2',q2,q3,q4⟩:=p5.parts
  have X45:=X4.trans X5
  have g6':=(E.trans X45).kept (by omega) g6
  simp -dsimp (disch:=omega) only[wpS,wpT,zE,zL,zA,df,f6,g6',q1,q2,q3,q4]
  refine⟨ad rfl rfl rfl rfl (ai f8 LB LB4),?_⟩
  simp -dsimp (disch:=omega) only[wpS,wpT,zE,zL,zA,fO,f6,fF]
  exact⟨((E0.trans E).trans X45).put (by omega) _,p5.aa ((aK.refl _).put g6' _)⟩
end Go.Id
namespace Go.Id
open Go
variable {q p:Tmp}{P:Program}
theorem IY {k:Nat} {r:ir} (hst:r.state=.ready) (hpe:r.pending=none) (hps:r.params = [p,q]) (hp:p<r.nt) (hq:q<r.nt) (v w0:Value) (h:IH) (K:Value→IH→Prop) (hg:h.ext.get k=some (.loop r))
  (w:wpC P r.fn r.nt (some k) r.assign ((q,w0) :: (p,v) :: r.fr) h (asgK P k r K)):WV P (.func (.yield (2*k)) #[] #[]) [v,w0] h K:=by
 obtain⟨⟨e0,fr0,h0⟩,⟨N0,hN0⟩,he0,hg0,w⟩:=fH w
 simp only at he0 hg0 w hN0
 subst he0
 obtain⟨⟨e,fr,h1⟩,⟨N,hN⟩,hb,hk⟩:=fH w
 simp only at hb hk hN
 have hp':Nat.blt p r.nt=true:=by simp only[Nat.blt,Nat.ble_eq];exact hp
 have hq':Nat.blt q r.nt=true:=by simp only[Nat.blt,Nat.ble_eq];exact hq
 have e1:(2*k % 2 == 0)=true:=by simp
 have e2:2*k / 2=k:=by omega
 have e3:dZ r.nt r.params [v,w0] r.fr=some ((q,w0) :: (p,v) :: r.fr):=by
  rw[hps];simp[dZ,nh,hp',hq']
 have e5:(r.state == LoopState.ready)=true:=by rw[hst];rfl
 have e6:({ h0 with ext:=h0.ext.set k (.loop { r with state:=.busy }) }:IH)=h0.put k (.loop (BD r)):=rfl
 have e7:({ BD r with state:=.ready,pending:=none }:ir)=r:=by
  cases r;simp only at hst hpe;subst hst;subst hpe;rfl
 cases e with
 | normal =>
  refine⟨(.bool true,h1.put k (.loop r)),⟨N0+N+1,fun n hn=>?_⟩,hk⟩
  obtain⟨n,rfl⟩ : ∃m,n=m+1:=⟨n - 1,by omega⟩
  have h2:=hN n (by omega)
  have h3:=hN0 n (by omega)
  show(bif 2*k % 2 == 0 then dM (E0 P) (cc (E0 P) n) n (2*k / 2) ((#[]:Array Value).toList ++ [v,w0]) h else none)=_
  rw[e1,cond_true,e2]
  simp only[dM,gu hg,e3,h3,gu hg0,e5,cond_true,e6,h2,gu hb,List.nil_append]
  rw[e7];rfl
 | exit i =>
  refine⟨(.bool false,h1.put k (.loop (Ds r (.exit i)))),⟨N0+N+1,fun n hn=>?_⟩,hk⟩
  obtain⟨n,rfl⟩ : ∃m,n=m+1:=⟨n - 1,by omega⟩
  have h2:=hN n (by omega)
  have h3:=hN0 n (by omega)
  show(bif 2*k % 2 == 0 then dM (E0 P) (cc (E0 P) n) n (2*k / 2) ((#[]:Array Value).toList ++ [v,w0]) h else none)=_
  rw[e1,cond_true,e2]
  simp only[dM,gu hg,e3,h3,gu hg0,e5,cond_true,e6,h2,gu hb,List.nil_append]
  rfl
 | ret =>
  refine⟨(.bool false,h1.put k (.loop (Ds r .ret))),⟨N0+N+1,fun n hn=>?_⟩,hk⟩
  obtain⟨n,rfl⟩ : ∃m,n=m+1:=⟨n - 1,by omega⟩
  have h2:=hN n (by omega)
  have h3:=hN0 n (by omega)
  show(bif 2*k % 2 == 0 then dM (E0 P) (cc (E0 P) n) n (2*k / 2) ((#[]:Array Value).toList ++ [v,w0]) h else none)=_
  rw[e1,cond_true,e2]
  simp only[dM,gu hg,e3,h3,gu hg0,e5,cond_true,e6,h2,gu hb,List.nil_append]
  rfl
variable {f:Operand}{h:IH}{Q:bN→Fr→IH→Prop}{rd:Option Nat}{fn:FuncId}{nt:Nat}{fr:Fr}
theorem UD {assign body:Code} {fv:Value} (hf:opd fr f=some fv) (hrd:pF h rd=true) (hp:p<nt) (hq:q<nt)
  (w : ∀(r:ir) (y:Value),r.fn=fn→r.nt=nt→r.body=body→(∀v w0 h1 K,h1.ext.get h.n=some (.loop r)→Do (wpC P fn nt (some h.n) assign ((q,w0) :: (p,v) :: fr) h1) (asgK P h.n r K) nx→WV P y [v,w0] h1 K) →
   WV P fv [y] (h.new (.loop r)) fun _ h1=>TM h.n r fr Q h1) :
  Do (uH P fn nt rd f #[p,q] assign body fr h) Q nx:=by
 have w1:=w { state:=.ready,pending:=none,fn,nt,fr,params:=[p,q],assign:=assign,body } (.func (.yield (2*h.n)) #[] #[]) rfl rfl rfl
  fun v w0 h1 K hg w=>IY (r:={ state:=.ready,pending:=none,fn,nt,fr,params:=[p,q],assign:=assign,body }) rfl rfl rfl hp hq v w0 h1 K hg w
 obtain⟨⟨v,h1⟩,⟨N,hN⟩,hq⟩:=w1
 have st : ∀(r:ir) (e:bN),fx h1 h.n=some r→(r.state == LoopState.busy)=false→uC r.pending=some e → ∀n,N≤n→kG (E0 P) (cc (E0 P) n) fn nt rd f [p,q] assign body fr h=some (e,fr,h1.put h.n .dead):=by
  intro r e h3 h4 h5 n hn
  have h2:=hN n hn
  simp only at h2
  simp only[kG,hrd,cond_true,hf]
  show(match cc (E0 P) n fv [_] _ with|none=>none|some (_,h1)=>_)=_
  rw[h2]
  simp only[h3,h4,cond_false,h5]
  rfl
 rcases hq with⟨hg,hq⟩|⟨i,hg,hq⟩|⟨hg,hq⟩
 ·exact⟨(.normal,fr,h1.put h.n .dead),⟨N,fun n hn=>st _ _ (gu hg) rfl rfl n hn⟩,hq⟩
 ·exact⟨(.exit i,fr,h1.put h.n .dead),⟨N,fun n hn=>st _ _ (gu hg) rfl rfl n hn⟩,hq⟩
 ·exact⟨(.ret,fr,h1.put h.n .dead),⟨N,fun n hn=>st _ _ (gu hg) rfl rfl n hn⟩,hq⟩
theorem Ot {ps:Array Tmp} {a b:Code} {id:Nat} {K:Fr→IH→Prop} (R:Fr→IH→Prop)
  (w:Do (uH P fn nt rd f ps a b fr h) (mX id (qS (fun fr h=>Pst (R fr h) nx) Q)) nx) (k : ∀fr h,R fr h→K fr h):Do (uH P fn nt rd f ps a b fr h) (mX id (qS K Q)) nx :=
 cut (a:=.block id (.rangeFunc f ps a b)) R w k
open Go.Proofs.Tryz (prog)
open Nat renaming reduceAdd→zA,reduceEqDiff→zE,reduceLeDiff→zL
set_option maxHeartbeats 16000000
variable {h:IH}
theorem CU {p:Nat} (hp:p<W8):WV prog (.func (.func 175) #[] #[]) [wdV p] h fun r h'=>Ext h h'∧bt h' r (cK p):=by
 obtain⟨H0,hH0,n0,E0,g1,g2⟩:=ev h (wdC p) ZR
 refine enter (nt:=6) (rs:=[.cell 2 137]) Proofs.Tryz.func175 rfl rfl rfl (by simp) ?_
 simp -dsimp (disch:=try exact dx) only[wpS,zE,zL,dW,fh,cM,aA,bZ]
 rw[←hH0]
 clear hH0
 refine call (jt p hp) ?_
 rintro r1 h1 ⟨X1,p1⟩
 simp -dsimp (disch:=omega) only[wpS,zE]
 refine call (uM p1) ?_
 rintro r2 h2 ⟨X2,p2⟩
 have X12:=X1.trans X2
 obtain⟨a3,s3,b3,t3,rfl,_,_,d1,o1,d2,o2,o3,o4⟩:=p2.parts
 have g22:=X12.kept (by omega) g2
 simp -dsimp (disch:=omega) only[wpS,wpT,zE,zL,zA,df,fO,g22,o1,o2,o3,o4,fF]
 exact⟨(E0.trans X12).put (by omega) _,p2.aa ((aK.refl _).put g22 _)⟩
def wQ (t:List Nat) (i:Nat):Rat:=cK (t.getD i 0)
def lW (t:List Nat) (g:Nat→Rat) (i:Nat):Rat:=rs i fun s=>wQ t s / rs t.length (wQ t)*g s
variable {k:Nat}
theorem RY {H:IH} {a s:Value} (g:H.ext.get k=some (.cells [a,s] 0 none)):load prog H 145 (ptr (2*k) 0)=some (.agg #[a,s]):=by
 have r:=aj g
 have tk2c:List.take 2 (List.drop 0 [a,s]) = [a,s]:=rfl
 simp -dsimp (disch:=omega) only[wpS,wpT,zL,zA,MJ,r,tk2c]
set_option maxRecDepth 100000 in
theorem HL {kv wv fv F:Value} {ll:List (List (Nat×Nat))} {t:List Nat} {f:List (Nat×Nat)} {N:Nat} {g:Nat→Rat}
  (hk:ji h kv ll) (hw:ni h wv t) (hf:gw h fv f) (ok:TH f) (hN:N≤60) (lt:t.length=N) (lf:f.length=N) (cF:F.cells = #[F]∧aB F=true)
  (hF : ∀H s hv,Ext h H→s<N→bH H 1 hv N (vT N (leF (ft f) s))→WV prog F [KN s,.agg #[kv,hv]] H fun r H'=>Ext H H'∧bt H' r (g s))
  (hg : ∀s,s<N→QB k (g s)) (hm : ∀s,s≤N→QB k (lW t g s)) (hk4:2*k+5000<16000000) (h0:rs N (wQ t)≠0) (hwq:QB 600 (rs N (wQ t))) :
  WV prog (.func (.func 76) #[] #[]) [kv,wv,fv,F] h fun r h'=>Ext h h'∧r=gN (lW t g N):=by
 have hlw:=hw.1.len (P:=prog) Em
 obtain⟨o1,o2⟩:=cF
 obtain⟨o3,o4⟩:wv.cells = #[wv]∧aB wv=true:=⟨hw.1.cells,hw.1.cok⟩
 obtain⟨ok1,ok2,_⟩:=hk.co
 obtain⟨H0,hH0⟩:=aT (((((h.new (.cells [wv] 0 none)).new (.cells [F] 0 none)).new (.cells Z16 0 none)).new (.cells [.nilFunc] 0 none)).put (h.n+1+1+1) (.cells [(.func (.func 175) #[] #[])] 0 none))
 have n0:H0.n=h.n+4:=by rw[hH0];rfl
 have E0:Ext h H0:=by rw[hH0];exact(((((Ext.refl h).new _).new _).new _).new _).put (by omega) _
 have g5:H0.ext.get h.n=some (.cells [wv] 0 none):=by rw[hH0];simp (disch:=try exact dx) only[ah,aq,ak]
 have g7:H0.ext.get (h.n+1)=some (.cells [F] 0 none):=by rw[hH0];simp (disch:=try exact dx) only[ah,aq,ak]
 have g8:H0.ext.get (h.n+1+1)=some (.cells Z16 0 none):=by rw[hH0];simp (disch:=try exact dx) only[ah,aq,ak]
 have g10:H0.ext.get (h.n+1+1+1)=some (.cells [(.func (.func 175) #[] #[])] 0 none):=by rw[hH0];simp (disch:=omega) only[ae]
 refine enter (nt:=43) (rs:=[.cell 8 32,.tmp 9]) Proofs.Tryz.func76 rfl rfl rfl (by simp) ?_
 simp -dsimp (disch:=try exact dx) only[wpS,wpT,zE,zL,zA,fR,ZV,Zae,ld42,WN,o1,o3]
 rw[←hH0]
 clear hH0
 have lt60:t.length≤60:=by omega
 refine call (Ui (hw.aa E0.aa) lt60 fun H p X hp=>CU (hw.2.2 p hp)) ?_
 rintro ra h1 ⟨X1,pa⟩
 have pa:bt h1 ra (rs N (wQ t)):=by rw[←lt];exact pa
 have m1:=X1.n
 obtain⟨a1,a2,a3,a4,rfl,_,_,d1,q1,d2,q2,q3,q4⟩:=pa.parts
 simp -dsimp (disch:=omega) only[wpS,wpT,zE,zL,zA,dW,df,q1,q2,q3,q4]
 obtain⟨H2,hH2⟩:=aT ((h1.new (.cells ZR 0 none)).put h1.n (.cells [a1,a2,a3,a4] 0 none))
 have F2:Ext h1 H2:=by rw[hH2];exact((Ext.refl h1).new _).put (Nat.le_refl _) _
 have n2:H2.n=h1.n+1:=by rw[hH2];rfl
 have g11:H2.ext.get h1.n=some (.cells [a1,a2,a3,a4] 0 none):=by rw[hH2];simp (disch:=omega) only[ae]
 rw[←hH2]
 clear hH2
 refine call (fe 0 ⟨by omega,by omega⟩) ?_
 rintro rz h2 ⟨X2,pz⟩
 have m2:=X2.n
 obtain⟨z1,z2,z3,z4,rfl,_,_,d3,q5,d4,q6,q7,q8⟩:=pz.parts
 simp -dsimp (disch:=omega) only[wpS,wpT,zE,zL,zA,dW,df,q5,q6,q7,q8]
 obtain⟨H3,hH3⟩:=aT ((h2.new (.cells ZR 0 none)).put h2.n (.cells [z1,z2,z3,z4] 0 none))
 have F3:Ext h2 H3:=by rw[hH3];exact((Ext.refl h2).new _).put (Nat.le_refl _) _
 have n3:H3.n=h2.n+1:=by rw[hH3];rfl
 have g12:H3.ext.get h2.n=some (.cells [z1,z2,z3,z4] 0 none):=by rw[hH3];simp (disch:=try exact dx) only[ae]
 rw[←hH3]
 clear hH3
 have cf:=hf.co
 refine call (Iv ok1 cf.1) ?_
 rintro _ _ ⟨rfl,rfl⟩
 obtain⟨H4,hH4⟩ : ∃H,H=(H3.new (.cells [kv] 0 none)).new (.cells [fv] 0 none):=⟨_,rfl⟩
 have F4:Ext H3 H4:=by rw[hH4];exact((Ext.refl H3).new _).new _
 have n4:H4.n=H3.n+2:=by rw[hH4];rfl
 have gc0:H4.ext.get H3.n=some (.cells [kv] 0 none):=by rw[hH4];simp (disch:=try exact dx) only[ah,aq]
 have gc1:H4.ext.get (H3.n+1)=some (.cells [fv] 0 none):=by rw[hH4];simp (disch:=try exact dx) only[ah]
 rw[←hH4]
 clear hH4
 have X24:=(X2.trans F3).trans F4
 have X14:=F2.trans X24
 have X04:=X1.trans X14
 have E4:=E0.trans X04
 have g54:=X04.kept (by omega) g5
 have g74:=X04.kept (by omega) g7
 have g84:=X04.kept (by omega) g8
 have Ss:=X04.kept (by omega) g10
 have g114:=X24.kept (by omega) g11
 have g124:=F4.kept (by omega) g12
 have pa4:=pa.aa X14.aa
 have pz4:=pz.aa (F3.trans F4).aa
 clear pa pz g5 g7 g8 g10 g11 g12
 simp -dsimp (disch:=omega) only[wpS]
 refine Ot (fun fr H=>Ext h H∧h2.n<H.n∧H.ext.get (h.n+1+1)=some (.cells Z16 0 none)∧(∃x1 x2 x3 x4,H.ext.get h2.n=some (.cells [x1,x2,x3,x4] 0 none)∧bt H (.agg #[x1,x2,x3,x4]) (lW t g N))∧ab fr 8=some (ptr (2*(h.n+1+1)) 0)∧ab fr 12=some (ptr (2*h2.n) 0)) ?_ ?_
 ·refine UD (p:=22) (q:=23) (nt:=43) rfl rfl (by decide) (by decide) (fun r y hfn hnt hbd hy=>?_)
  let C:IH→Prop:=fun hh=>Ext h hh∧aK H4 hh∧H4.n<hh.n ∧ ∀k,k<H4.n→k≠h2.n→hh.ext.get k=H4.ext.get k
  let J:Nat→IH→Prop:=fun i hh=>C hh∧hh.ext.get H4.n=some (.loop r) ∧ ∃x1 x2 x3 x4,hh.ext.get h2.n=some (.cells [x1,x2,x3,x4] 0 none)∧bt hh (.agg #[x1,x2,x3,x4]) (lW t g i)
  refine(WV.mono (FF (b:=H3.n) (kv:=kv) (fv:=fv) (l:=f) J ⟨ok1,ok2⟩ ?_ ok (by omega) ?_ ?_) ?_)
  ·rintro i hh ⟨⟨c1,c2,c3,c4⟩,_⟩
   exact⟨(c4 _ (by omega) (by omega)).trans gc0,(c4 _ (by omega) (by omega)).trans gc1,by omega,hf.aa c1.aa⟩
  ·refine⟨⟨E4.new _,(Ext.refl H4).aa.new _,by simp,fun k hk _=>aq _ _ (by omega)⟩,ah _ _ rfl,z1,z2,z3,z4,(aq _ _ (by omega)).trans g124,?_⟩
   have:lW t g 0=((0:Int):Rat):=rfl
   rw[this]
   exact pz4.aa ((aK.refl H4).new _)
  ·rintro i hh h3 hv hi ⟨⟨c1,c2,c3,c4⟩,hr,x1,x2,x3,x4,gx,px⟩ X shv
   have nX:=X.n
   have hr3:=X.kept c3 hr
   refine hy _ _ h3 _ hr3 ?_
   have co5:=shv.cells
   have co6:=shv.cok
   have hw3:=hw.aa (c1.trans X).aa
   have cl:i<N:=by omega
   obtain⟨p,hp⟩:=iC (l:=t) (i:=i) (by omega)
   have wp:=hw.2.2 p (List.mem_of_getElem? hp)
   have ep:cK p=wQ t i:=by unfold wQ;rw[List.getD_eq_getElem?_getD,hp];rfl
   simp -dsimp (disch:=omega) only[wpS,wpT,zE,zL,zA,V1,Zaf,ok2,co6]
   obtain⟨H5,hH5⟩:=aT ((h3.new (.cells [.slice none 0 0,.slice none 0 0] 0 none)).put h3.n (.cells [kv,hv] 0 none))
   have n5:H5.n=h3.n+1:=by rw[hH5];rfl
   have F5:Ext h3 H5:=by rw[hH5];exact((Ext.refl h3).new _).put (Nat.le_refl _) _
   have g14:H5.ext.get h3.n=some (.cells [kv,hv] 0 none):=by rw[hH5];simp (disch:=omega) only[ae]
   rw[←hH5]
   clear hH5
   have hr5:=F5.kept (by omega) hr3
   refine⟨rfl,hr5,?_⟩
   rw[hfn,hnt,hbd]
   obtain⟨H6,hH6⟩:=aT (H5.put H4.n (.loop (BD r)))
   have n6:H6.n=h3.n+1:=by rw[hH6];exact n5
   have e6 : ∀k,k≠H4.n→H6.ext.get k=H5.ext.get k:=fun k hk=>by rw[hH6];exact ak _ _ hk
   have hr6:H6.ext.get H4.n=some (.loop (BD r)):=by rw[hH6];exact ae _ _ rfl
   have K56:aK H5 H6:=by rw[hH6];exact(aK.refl H5).JB (by rintro c e f hc;rw[hr5] at hc;cases hc) _
   have E6:Ext h H6:=by rw[hH6];exact((c1.trans X).trans F5).put (by omega) _
   rw[←hH6]
   clear hH6
   have b6 : ∀{k:Nat} {o:bI},k<H4.n→k≠h2.n→H4.ext.get k=some o→H6.ext.get k=some o:=fun hk hne hg=>by
    rw[e6 _ (by omega),F5.get _ (by omega),X.get _ (by omega),c4 _ hk hne];exact hg
   have g56:=b6 (by omega) (by omega) g54
   have g76:=b6 (by omega) (by omega) g74
   have g106:=b6 (by omega) (by omega) Ss
   have g116:=b6 (by omega) (by omega) g114
   have Pj:H6.ext.get h2.n=some (.cells [x1,x2,x3,x4] 0 none):=by rw[e6 _ (by omega)];exact(X.trans F5).kept (by omega) gx
   have YY:H6.ext.get h3.n=some (.cells [kv,hv] 0 none):=by rw[e6 _ (by omega)];exact g14
   have K46:aK H4 H6:=((c2.trans X.aa).trans F5.aa).trans K56
   have px6:=px.aa ((X.trans F5).aa.trans K56)
   have shv6:=shv.aa (F5.aa.trans K56)
   have X0:=Ext.refl H6
   obtain⟨_,_,L12⟩:=pl4 Pj
   obtain⟨_,_,L11⟩:=pl4 g116
   have L7:=nI NG g76
   have qL:List.take 2 (List.drop 0 [kv,hv]) = [kv,hv]:=rfl
   simp -dsimp (disch:=omega) only[wpS]
   refine drawn [(0,[8,12,13,14]),(7,[6]),(9,[6,8]),(11,[6,8])] (by kernel_rfl) (by kernel_rfl) rfl ?_
   simp -dsimp (disch:=omega) only[wpS,zE,ld42,WN,L12,aj g106,aj g56,hw.1.idx Ps (show i<t.length by omega),hw.ld E6.aa hp]
   refine call (CU wp) ?_
   rintro r7 h7 ⟨X7,p7⟩
   have n7:=X7.n
   rw[ep] at p7
   have wq:QB 512 (wQ t i):=by rw[←ep];exact lI wp
   obtain⟨_,_,L127⟩:=pl4 (X7.kept (by omega) Pj)
   obtain⟨_,_,L117⟩:=pl4 (X7.kept (by omega) g116)
   have L77:=nI NG (X7.kept (by omega) g76)
   simp -dsimp (disch:=omega) only[wpS,zE,L117]
   refine call (Ah p7 (pa4.aa (K46.trans X7.aa)) wq hwq (by omega) h0) ?_
   rintro r8 h8 ⟨X8,p8⟩
   have n8:=X8.n
   have X78:=X7.trans X8
   obtain⟨_,_,L128⟩:=pl4 (X78.kept (by omega) Pj)
   have g78:=X78.kept (by omega) g76
   have L78:=nI NG g78
   have g148:=X78.kept (by omega) YY
   simp -dsimp (disch:=omega) only[wpS,wpT,zE,zL,zA,Zbc,MJ,aj g78,aj g148,qL]
   refine call (hF h8 i hv (E6.trans X78) cl ?_) ?_
   ·have:=shv6.aa X78.aa
    rw[←lf];exact this
   rintro r9 h9 ⟨X9,p9⟩
   have n9:=X9.n
   have X79:=X78.trans X9
   obtain⟨_,_,L129⟩:=pl4 (X79.kept (by omega) Pj)
   simp -dsimp (disch:=omega) only[wpS,zE]
   have qd:=wq.div hwq h0
   have qg:=hg i cl
   refine call (jq (p8.aa X9.aa) p9 qd qg (by omega)) ?_
   rintro r10 h10 ⟨X10,p10⟩
   have n10:=X10.n
   have X70:=X79.trans X10
   obtain⟨_,_,Zc9⟩:=pl4 (X70.kept (by omega) Pj)
   simp -dsimp (disch:=omega) only[wpS,zE]
   refine call (iM (px6.aa X70.aa) p10 (hm i (by omega)) (qd.mul qg) (by omega)) ?_
   rintro r11 h11 ⟨X11,p11⟩
   have n11:=X11.n
   have eT:lW t g i+wQ t i / rs N (wQ t)*g i=lW t g (i+1):=by unfold lW;rw[rs,lt]
   rw[eT] at p11
   obtain⟨y1,y2,y3,y4,rfl,_,_,d5,q9,d6,q10,q11,q12⟩:=p11.parts
   have X71:=X70.trans X11
   have W0:=X71.kept (by omega) Pj
   simp -dsimp (disch:=omega) only[wpS,wpT,zE,zL,zA,df,W0,q9,q10,q11,q12]
   have L14:=RY YY
   have L147:=RY (X7.kept (by omega) YY)
   have L148:=RY g148
   refine⟨aw (aC (ad rfl rfl rfl rfl (ai rfl L12 L127)) (aC (ad rfl rfl rfl rfl (ai rfl L12 L128)) (aC (ad rfl rfl rfl rfl (ai rfl L12 L129)) (ad rfl rfl rfl rfl (ai rfl L12 Zc9))))) (aw (ad rfl rfl rfl rfl (ai rfl L117 L11)) (aw (aC (ad rfl rfl rfl rfl (ai rfl L78 L7)) (ad rfl rfl rfl rfl (ai rfl L78 L77))) (aC (ad rfl rfl rfl rfl (ai rfl L148 L14)) (ad rfl rfl rfl rfl (ai rfl L148 L147))))),?_⟩
   simp -dsimp (disch:=omega) only[wpS,wpT,zA]
   have hr11:=X71.kept (by omega) hr6
   have hrp:(h11.put h2.n (.cells [y1,y2,y3,y4] 0 none)).ext.get H4.n=some (.loop (BD r)):=(ak _ _ (by omega)).trans hr11
   have Kp:=(aK.refl h11).put W0 (.cells [y1,y2,y3,y4] 0 none)
   have Kl:=(aK.refl (h11.put h2.n (.cells [y1,y2,y3,y4] 0 none))).JB (k:=H4.n) (by rintro c e f hc;rw[hrp] at hc;cases hc) (.loop r)
   refine⟨hrp,rfl,⟨((E6.trans X71).put (by omega) _).put (by omega) _,((K46.trans X71.aa).trans Kp).trans Kl,by simp only[aM];omega,fun k hk hne=>?_⟩,ae _ _ rfl,y1,y2,y3,y4,(ak _ _ (by omega)).trans (ae _ _ rfl),(p11.aa Kp).aa Kl⟩
   rw[ak _ _ (by omega),ak _ _ hne,X71.get _ (by omega),e6 _ (by omega),F5.get _ (by omega),X.get _ (by omega),c4 _ hk hne]
  ·rintro _ hh ⟨⟨c1,c2,c3,c4⟩,hr,x1,x2,x3,x4,gx,px⟩
   refine .inl ⟨hr,?_⟩
   simp -dsimp (disch:=omega) only[wpS]
   rw[lf] at px
   refine⟨c1.put (by omega) _,by simp only[aM];omega,?_,⟨x1,x2,x3,x4,(ak _ _ (by omega)).trans gx,px.aa ((aK.refl hh).JB (by rintro c e f hc;rw[hr] at hc;cases hc) _)⟩,rfl,rfl⟩
   rw[ak _ _ (by omega)]
   exact(c4 _ (by omega) (by omega)).trans g84
 ·rintro fr H ⟨E,lH,g8,⟨x1,x2,x3,x4,gx,px⟩,f8,f12⟩
  simp -dsimp (disch:=omega) only[wpS,wpT,zL,zA,fO,f12,aj gx,fF]
  refine call (vh px) ?_
  rintro _ h5 ⟨X5,rfl⟩
  have g85:=X5.kept (by omega) g8
  unfold gN
  by_cases c:QW (lW t g N)
  ·rw[if_pos c,bK]
   simp -dsimp (disch:=omega) only[wpS,wpT,zE,zL,zA,dF,cq,f8,g85,aD,ax,aV,bg,aS]
   exact⟨(E.trans X5).put (by omega) _,rfl⟩
  ·rw[if_neg c]
   simp -dsimp (disch:=omega) only[wpS,wpT,zE,zL,zA,dF,cq,f8,g85,aD,ax,aV,bg,aS]
   exact⟨(E.trans X5).put (by omega) _,rfl⟩
end Go.Id
namespace Go.Id
open Go
theorem JA {p:Nat×Nat} (h:okS p.1 p.2) (h0:0≤wdI p.1):0≤rOf p:=Rat.num_nonneg.1 (by rw[(cZ h).1];exact h0)
theorem ry (g:Nat→Rat) (i:Nat) : ∀m,oi g i m+gi ((List.range m).map g)=1+if i<m then g i else 0
 | 0=>by
  rw[oi,if_neg (by omega)]
  show(1:Rat)+0=1+0
  rfl
 | m+1=>by
  have ih:=ry g i m
  rw[List.range_succ,List.map_append,List.map_cons,List.map_nil,jU,oi]
  by_cases c:m=i
  ·subst c
   rw[if_pos rfl,if_pos (by omega)]
   rw[if_neg (by omega)] at ih
   grind
  ·rw[if_neg c]
   by_cases c2:i<m
   ·rw[if_pos (show i<m+1 by omega)]
    rw[if_pos c2] at ih
    grind
   ·rw[if_neg (show ¬i<m+1 by omega)]
    rw[if_neg c2] at ih
    grind
theorem Es (g:Nat→Rat) (A:Rat) (i:Nat) : ∀m,gi ((List.range m).map fun j=>if j=i then A else g j)=gi ((List.range m).map g)+if i<m then A - g i else 0
 | 0=>by
  rw[if_neg (by omega)]
  exact(Rat.add_zero _).symm
 | m+1=>by
  have ih:=Es g A i m
  rw[List.range_succ,List.map_append,List.map_append,List.map_cons,List.map_nil,List.map_cons,List.map_nil,jU,jU,ih]
  by_cases c:m=i
  ·subst c
   rw[if_pos rfl,if_pos (show m<m+1 by omega),if_neg (show ¬m<m by omega)]
   grind
  ·rw[if_neg c]
   by_cases c2:i<m
   ·rw[if_pos (show i<m+1 by omega),if_pos c2]
    grind
   ·rw[if_neg (show ¬i<m+1 by omega),if_neg c2]
    grind
theorem wY {g k:Nat→Rat} {i:Nat} : ∀{m:Nat},(∀j,j<m→g j≤k j)→oi k i m≤oi g i m
 | 0,_=>Rat.le_refl
 | m+1,h=>by
  have ih:=wY (i:=i) (m:=m) fun j hj=>h j (by omega)
  have h1:=h m (by omega)
  rw[oi,oi]
  split
  ·exact ih
  ·grind
variable {ll:List (List (Nat×Nat))}
theorem LY (k:dK ll) {i:Nat} (hi:i<ll.length):gi ((List.range ll.length).map (kAt ll i))=1:=by
 obtain⟨h1,h2⟩:=k.2.2 _ (List.getElem_mem hi)
 rw[←h2.2]
 congr 1
 refine List.ext_getElem? fun j=>?_
 rw[List.getElem?_map,List.getElem?_map]
 by_cases hj:j<ll.length
 ·obtain⟨row,p,e1,e2,e3,_,_,e6⟩:=fi k hi hj
  rw[List.getElem?_eq_getElem hi] at e1
  cases e1
  rw[List.getElem?_range hj,e3]
  exact congrArg some e6
 ·rw[List.getElem?_eq_none (by simp;omega),List.getElem?_eq_none (by omega)];rfl
theorem Ks {t:List Nat} (k:dK ll) (ht:t.length=ll.length) (hp : ∀p∈t,1≤wdI p) (ho:uA ll t):dK (iH ll t):=by
 have hw : ∀i,i<ll.length→0<cK (t.getD i 0):=fun i hi=>by
  have:=hp _ (List.getElem_mem (show i<t.length by omega))
  rw[List.getD_eq_getElem?_getD,List.getElem?_eq_getElem (by omega),Option.getD_some]
  unfold cK
  exact Rat.intCast_pos.2 (by omega)
 have hk : ∀i j,i<ll.length→j<ll.length→0≤kAt ll i j:=fun i j hi hj=>by
  obtain⟨_,p,_,_,_,e4,e5,e6⟩:=fi k hi hj
  rw[e6]
  exact JA e4 e5
 have hg : ∀i j,i<ll.length→j<ll.length→0≤goQ ll t i j∧goQ ll t i j≤kAt ll i j:=fun i j hi hj=>by
  have h1:=hk i j hi hj
  have h2:=hk j i hj hi
  have w1:=hw i hi
  have w2:=hw j hj
  unfold goQ
  split
  ·rename_i c
   refine⟨?_,Rat.le_of_lt c⟩
   rw[Rat.div_def]
   exact Rat.mul_nonneg (Rat.mul_nonneg h2 (Rat.le_of_lt w2)) (Rat.le_of_lt (Rat.inv_pos.2 w1))
  ·exact⟨h1,Rat.le_refl⟩
 have hq : ∀i j,i<ll.length→j<ll.length→0≤nM ll t i j:=fun i j hi hj=>by
  unfold nM
  split
  ·have h1:=wY (i:=i) (m:=ll.length) (g:=goQ ll t i) (k:=kAt ll i) fun j hj=>(hg i j hi hj).2
   have h2:=ry (kAt ll i) i ll.length
   rw[LY k hi,if_pos hi] at h2
   have h3:=hk i i hi hi
   grind
  ·exact(hg i j hi hj).1
 have hs : ∀i,i<ll.length→gi (dS ll t i)=1:=fun i hi=>by
  have h1:=Es (goQ ll t i) (oi (goQ ll t i) i ll.length) i ll.length
  have h2:=ry (goQ ll t i) i ll.length
  rw[if_pos hi] at h1 h2
  have e:dS ll t i=(List.range ll.length).map fun j=>if j=i then oi (goQ ll t i) i ll.length else goQ ll t i j:=rfl
  rw[e,h1]
  grind
 refine⟨by rw[jf];exact k.1,by rw[jf];exact k.2.1,fun l hl=>?_⟩
 obtain⟨i,hi,rfl⟩:=List.mem_map.1 hl
 have hi:=List.mem_range.1 hi
 have qw:=ho i hi
 refine⟨by rw[List.length_map,fj,jf],fun p hp=>?_,?_⟩
 ·obtain⟨q,hq',rfl⟩:=List.mem_map.1 hp
  have h1:=(bX (qw q hq')).2
  obtain⟨j,hj⟩:=List.getElem?_of_mem hq'
  have hjl:=(List.getElem?_eq_some_iff.1 hj).1
  rw[fj] at hjl
  rw[j0 hjl] at hj
  cases hj
  have h2:=hq i j hi hjl
  rintro(c|c)
  ·exact c h1
  ·rw[show wdI (shq (nM ll t i j)).1=(nM ll t i j).num from cB (qw _ hq').1] at c
   have:=Rat.num_nonneg.2 h2
   omega
 ·rw[List.map_map,show((dS ll t i).map (rOf ∘ shq))=dS ll t i from ?_]
  ·exact hs i hi
  ·refine(List.map_congr_left fun q hq'=>(bX (qw q hq')).1).trans (List.map_id _)
open Nat renaming reduceAdd→zA,reduceEqDiff→zE,reduceLeDiff→zL
set_option maxHeartbeats 16000000
def qH (t:List Nat):Nat→Nat
 | 0=>0
 | i+1=>qH t i+(wdI (t.getD i 0)).toNat
theorem Ql {t:List Nat} (hn : ∀p∈t,0≤wdI p) {i:Nat} (hi:i<t.length):wQ t i=(((wdI (t.getD i 0)).toNat:Nat):Int):=by
 unfold wQ cK
 have hm:t.getD i 0∈t:=by rw[List.getD_eq_getElem?_getD,List.getElem?_eq_getElem hi];exact List.getElem_mem hi
 have:=hn _ hm
 congr 1
 omega
theorem yQ {t:List Nat} (hn : ∀p∈t,0≤wdI p) : ∀i,i≤t.length→rs i (wQ t)=((qH t i:Nat):Int)
 | 0,_=>rfl
 | i+1,h=>by
  rw[rs,yQ hn i (by omega),Ql hn (by omega),qH,Int.natCast_add,Rat.intCast_add]
theorem yR {t:List Nat} {k:Nat} (hw : ∀p∈t,(wdI p).natAbs≤2 ^ k) : ∀i,i≤t.length→qH t i≤2 ^ (k+i)
 | 0,_=>Nat.zero_le _
 | i+1,h=>by
  have a:=yR hw i (by omega)
  have hm:t.getD i 0∈t:=by rw[List.getD_eq_getElem?_getD,List.getElem?_eq_getElem (by omega)];exact List.getElem_mem (by omega)
  have b:=hw _ hm
  have c:2 ^ k≤2 ^ (k+i):=Nat.pow_le_pow_right (by omega) (by omega)
  have e:2 ^ (k+(i+1))=2 ^ (k+i)+2 ^ (k+i):=by rw[←Nat.add_assoc,Nat.pow_succ];omega
  rw[qH,e]
  omega
theorem zI {t:List Nat} (hw : ∀p∈t,p<W8) : ∀p∈t,(wdI p).natAbs≤2 ^ 512:=fun p hp=>(lI (hw p hp)).abs
theorem Ck (t:List Nat) : ∀i j,i≤j→qH t i≤qH t j:=by
 intro i j h
 induction j with
 | zero =>
  obtain rfl:i=0:=by omega
  exact Nat.le_refl _
 | succ j ih =>
  by_cases e:i=j+1
  ·rw[e];exact Nat.le_refl _
  ·rw[qH];have:=ih (by omega);omega
theorem Gw {t:List Nat} (hw : ∀p∈t,p<W8) (hn : ∀p∈t,0≤wdI p) (hz : ∃p∈t,p≠0):0<qH t t.length:=by
 obtain⟨p,hp,p0⟩:=hz
 obtain⟨i,hi⟩:=List.getElem?_of_mem hp
 have hil:=(List.getElem?_eq_some_iff.1 hi).1
 have g:t.getD i 0=p:=by rw[List.getD_eq_getElem?_getD,hi];rfl
 have h1:=Ck t (i+1) t.length (by omega)
 rw[qH,g] at h1
 have h2:=hn p hp
 have h3:wdI p≠0:=fun h=>p0 ((lM (hw p hp)).1 h)
 omega
theorem Gr {t:List Nat} (hw : ∀p∈t,p<W8) (hn : ∀p∈t,0≤wdI p) (hz:0<qH t t.length) {i:Nat} (hi:i<t.length):OvL (qH t t.length) (512+t.length) (wQ t i / rs t.length (wQ t)):=by
 have a:=yR (zI hw) t.length (Nat.le_refl _)
 refine⟨hz,a,((wdI (t.getD i 0)).toNat:Nat),by rw[yQ hn _ (Nat.le_refl _),Ql hn hi],?_⟩
 have b:=Ck t (i+1) t.length (by omega)
 rw[qH] at b
 rw[Int.natAbs_natCast]
 omega
theorem MA {t:List Nat} {g:Nat→Rat} {L x:Nat} (hw : ∀p∈t,p<W8) (hn : ∀p∈t,0≤wdI p) (hz:0<qH t t.length) (h0:0<t.length) (hg : ∀s,s<t.length→OvL L x (g s)) {i:Nat} (hi:i≤t.length):OvL (qH t t.length*L) (512+t.length+x+i) (lW t g i):=by
 have z:=(Gr hw hn hz h0).mul (hg 0 h0)
 exact OvL.rs z.1 z.2.1 fun s hs=>(Gr hw hn hz (by omega)).mul (hg s (by omega))
theorem PW {N D d:Nat} {p:Nat→Nat→Rat} {f:Nat→Rat} {s:Nat} (hp : ∀i j,i<N→j<N→OvL D d (p i j)) {S R:Nat} (hs:s<N):OvL (D ^ S) (S*(d+N)+2*N+2*S+2) (fC N p f R S s):=by
 have a:=fun m (hm:m<S+1)=>lO (S:=S) (hit:=leF f s) (s:=s) (by omega) hp S hm
 rw[←Dh (l:=[1]) hs rfl,Lo _ rfl]
 have z:=a 0 (by omega)
 exact(OvL.rs z.1 z.2.1 fun i hi=>(a i hi).ite).mono (by omega)
theorem LV (l:List Rat) : ∀i,i≤l.length→rs i (fun j=>l.getD j 0)=gi (l.take i)
 | 0,_=>rfl
 | i+1,h=>by
  have e:l[i]?=some (l.getD i 0):=by rw[List.getD_eq_getElem?_getD,List.getElem?_eq_getElem (by omega)];rfl
  rw[rs,LV l i (by omega),eV e,jU]
theorem MN {ll:List (List (Nat×Nat))} (ko:dK ll) {i:Nat} (hi:i<ll.length):rs ll.length (kAt ll i)=1:=by
 obtain⟨h1,h2⟩:=ko.2.2 _ (List.getElem_mem hi)
 have a:=LV (ll[i].map rOf) ll.length (by rw[List.length_map];omega)
 rw[List.take_of_length_le (by rw[List.length_map];omega),h2.2] at a
 rw[←a]
 refine bm fun j hj=>?_
 unfold kAt
 have g:ll.getD i []=ll[i]:=by rw[List.getD_eq_getElem?_getD,List.getElem?_eq_getElem hi];rfl
 rw[g,List.getD_eq_getElem?_getD,List.getD_eq_getElem?_getD,List.getElem?_map,List.getElem?_eq_getElem (by omega)]
 rfl
theorem Hh:rOf (0,0)=0:=by
 have:wdI 0=0:=by
  have h2:=eP
  have h3:=iJ
  unfold wdI
  split<;>omega
 unfold rOf
 rw[this,Rat.divInt_zero]
theorem Fa {ll:List (List (Nat×Nat))} (ko:dK ll) (i j:Nat):0≤kAt ll i j:=by
 by_cases hi:i<ll.length
 ·by_cases hj:j<ll.length
  ·obtain⟨_,p,_,_,_,ok,nn,e⟩:=fi ko hi hj
   rw[e];exact JA ok nn
  ·unfold kAt
   obtain⟨h1,_⟩:=ko.2.2 _ (List.getElem_mem hi)
   have g:ll.getD i []=ll[i]:=by rw[List.getD_eq_getElem?_getD,List.getElem?_eq_getElem hi];rfl
   have g2:ll[i].getD j (0,0)=(0,0):=by rw[List.getD_eq_getElem?_getD,List.getElem?_eq_none (by omega)];rfl
   rw[g,g2,Hh]
   exact Rat.le_refl
 ·unfold kAt
  have g:ll.getD i [] = []:=by rw[List.getD_eq_getElem?_getD,List.getElem?_eq_none (by omega)];rfl
  rw[g]
  show 0≤rOf (0,0)
  rw[Hh]
  exact Rat.le_refl
theorem QY {n:Nat} {f:Nat→Rat} (h : ∀i,0≤f i) : ∀{j:Nat},j<n→f j≤rs n f:=by
 induction n with
 | zero=>intro j hj;omega
 | succ n ih =>
  intro j hj
  rw[rs]
  have a:0≤rs n f:=Oi fun i _=>h i
  by_cases e:j=n
  ·subst e;grind
  ·have:=ih (j:=j) (by omega)
   have:=h n
   grind
theorem MO {ll:List (List (Nat×Nat))} (ko:dK ll) (hw : ∀i j,i<ll.length→j<ll.length→(kAt ll i j).den≤2 ^ 512) : ∃D,∀i j,i<ll.length→j<ll.length→OvL D (512*ll.length*ll.length) (kAt ll i j) :=
 U6 fun i j hi hj=>⟨Fa ko i j,by rw[←MN ko hi];exact QY (Fa ko i) hj,hw i j hi hj⟩
theorem ji.dens {h:IH} {v:Value} {ll:List (List (Nat×Nat))} (hk:ji h v ll) (ko:dK ll) {i j:Nat} (hi:i<ll.length) (hj:j<ll.length):(kAt ll i j).den≤2 ^ 512:=by
 obtain⟨r,p,e1,_,e2,ok,_,e⟩:=fi ko hi hj
 obtain⟨_,_,s,_⟩:=hk.nT e1
 obtain⟨w1,w2⟩:=s.2.2 p (List.mem_of_getElem? e2)
 rw[e]
 exact(iO w1 w2 ok).2
def hZ (e:Nat×Nat) (n:Int):Nat:=(iG (rOf e*(((n.toNat+1:Nat):Int):Rat))).toNat
noncomputable def A7 (ll:List (List (Nat×Nat))) (t:List Nat) (f:List (Nat×Nat)) (e:Nat×Nat) (n:Int):Value :=
 if uj ll t f e n=0 then gN (lW t (fC ll.length (kAt ll) (ft f) (hZ e n) n.toNat) ll.length) else errV (uj ll t f e n)
noncomputable def J5 (ll:List (List (Nat×Nat))) (t:List Nat) (f:List (Nat×Nat)) (e:Nat×Nat) (n:Int):Value :=
 if uj ll t f e n=0 then gN (lW t (fun s=>rs (n.toNat+1) (fun k=>mI ll.length (kAt ll) (ft f) (hZ e n) n.toNat k s) / (((n.toNat+1:Nat):Int):Rat)) ll.length) else errV (uj ll t f e n)
theorem Hv {ll:List (List (Nat×Nat))} {t:List Nat} {f:List (Nat×Nat)} {e:Nat×Nat} {n:Int} (h:uj ll t f e n=0):dK ll∧t.length=ll.length∧(∀p∈t,0≤wdI p)∧(∃p∈t,p≠0)∧Eu ll t∧TH f∧okS e.1 e.2∧f.length=ll.length∧0≤rOf e∧rOf e≤1∧0≤n∧n≤20:=by
 unfold uj at h
 by_cases c1:pG ll t=0
 case neg=>rw[if_pos c1] at h;exact absurd h c1
 rw[if_neg (fun k=>k c1)] at h
 unfold pG at c1
 by_cases k1:dK ll
 case neg=>rw[if_pos k1] at c1;omega
 rw[if_neg (fun k=>k k1)] at c1
 by_cases k2:t.length≠ll.length ∨ ∃p∈t,wdI p<0
 ·rw[if_pos k2] at c1;omega
 have k3:t.length=ll.length:=Classical.byContradiction fun h=>k2 (.inl h)
 have k4 : ∀p∈t,0≤wdI p:=fun p hp=>Classical.byContradiction fun h=>k2 (.inr ⟨p,hp,by omega⟩)
 by_cases c2 : ∃p∈t,p≠0
 case neg=>rw[if_pos c2] at h;omega
 rw[if_neg (fun k=>k c2)] at h
 by_cases c3:Eu ll t
 case neg=>rw[if_pos c3] at h;omega
 rw[if_neg (fun k=>k c3)] at h
 by_cases c4 : ∃p∈f ++ [e],¬okS p.1 p.2
 ·rw[if_pos c4] at h;omega
 rw[if_neg c4] at h
 by_cases c5:f.length≠ll.length∨rOf e<0∨1<rOf e∨n<0∨20<n
 ·rw[if_pos c5] at h;omega
 have ok : ∀p∈f ++ [e],okS p.1 p.2:=fun p hp=>Classical.byContradiction fun h=>c4 ⟨p,hp,h⟩
 exact⟨k1,k3,k4,c2,c3,fun p hp=>ok p (List.mem_append_left _ hp),ok e (by simp),Classical.byContradiction fun h=>c5 (.inl h),Rat.not_lt.1 fun h=>c5 (.inr (.inl h)),Rat.not_lt.1 fun h=>c5 (.inr (.inr (.inl h))),by omega,by omega⟩
theorem DC {e:Nat×Nat} {n:Nat} (h0:0≤rOf e) (h1:rOf e≤1):rB (rOf e) n=(hZ e n:Int) - 1∧hZ e n≤n+1:=by
 obtain⟨a,b⟩:=nG (n:=n) h0 h1
 unfold rB hZ
 rw[Int.toNat_natCast]
 omega
theorem OC {h:IH} {kv wv fv:Value} {ll:List (List (Nat×Nat))} {t:List Nat} {f:List (Nat×Nat)} {e:Nat×Nat} {n:Int} (hk:ji h kv ll) (hw:ni h wv t) (hf:gw h fv f) (hne:fv=.slice none 0 0∨0<f.length) (hfl:f.length≤1000) (he:e.1<W8∧e.2<W8) (hn:fZ n) (h8:ll.length≤8) :
  WV Proofs.Tryz.prog (.func (.func 20) #[] #[]) [kv,wv,fv,KI n,shV e.1 e.2] h fun r h'=>Ext h h'∧r=A7 ll t f e n:=by
 obtain⟨H0,hH0,n0,E0,g8,g9,g10⟩:=gG h [KI n] (shC e.1 e.2) Z16
 refine enter (nt:=33) (rs:=[.cell 10 32,.tmp 11]) Proofs.Tryz.func20 rfl rfl rfl (by simp) ?_
 simp -dsimp (disch:=try exact dx) only[wpS,zE,zL,zA,fR,ld3,cq,aD,ax,aS]
 rw[←hH0]
 clear hH0
 refine call (CP (hk.aa E0.aa) (hw.aa E0.aa) (hf.aa E0.aa) hne hfl he hn) ?_
 rintro _ h1 ⟨X1,rfl⟩
 have m1:=X1.n
 unfold A7
 by_cases c:uj ll t f e n=0
 case neg =>
  rw[if_neg c]
  have d:(uj ll t f e n != 0)=true:=by simpa using c
  have Y6:=X1.kept (by omega) g10
  simp -dsimp (disch:=try exact dx) only[wpS,wpT,zE,zL,zA,cq,IE,dF,d,Y6]
  exact⟨(E0.trans X1).put (by omega) _,rfl⟩
 rw[if_pos c,c]
 obtain⟨ko,lt,hn0,hz,hr,ok,oke,lf,e0,e1,z0,z20⟩:=Hv c
 obtain⟨S,rfl⟩:=Int.eq_ofNat_of_zero_le z0
 rw[Int.toNat_natCast]
 simp -dsimp (disch:=try exact dx) only[wpS,wpT,zE]
 refine call (fe 1 ⟨by omega,by omega⟩) ?_
 rintro ro h2 ⟨X2,po⟩
 have m2:=X2.n
 obtain⟨a1,a2,a3,a4,rfl,_,_,d1,q1,d2,q2,q3,q4⟩:=po.parts
 simp -dsimp (disch:=try exact dx) only[wpS,wpT,zE,zL,zA,Tt,ZZ,Zag]
 obtain⟨H3,hH3⟩ : ∃H,H=((h2.new (.cells [a1,a2,a3,a4] 4 none)).new (.cells [.slice none 0 0] 0 none)).put (h2.n+1) (.cells [.slice (some ⟨2*h2.n,0,none⟩) 1 3] 0 none):=⟨_,rfl⟩
 have F3:Ext h2 H3:=by rw[hH3];exact(((Ext.refl h2).new _).new _).put (by omega) _
 have n3:H3.n=h2.n+2:=by rw[hH3];rfl
 have g13:H3.ext.get (h2.n+1)=some (.cells [.slice (some ⟨2*h2.n,0,none⟩) 1 3] 0 none):=by rw[hH3];simp (disch:=try exact dx) only[ae]
 have gl:H3.ext.get h2.n=some (.cells [a1,a2,a3,a4] 4 none):=by rw[hH3,ak _ _ (by omega)];simp (disch:=try exact dx) only[ah,aq]
 rw[←hH3]
 clear hH3
 have sn:oz bt H3 (.slice (some ⟨2*h2.n,0,none⟩) 1 3) [1]:=⟨[a1,a2,a3,a4],cI (n:=1) gl (by omega) (by omega) rfl (by omega) (by omega),⟨a1,a2,a3,a4,[],rfl,po.aa F3.aa,rfl⟩,by simp⟩
 have X03:=(X1.trans X2).trans F3
 have E3:=E0.trans X03
 have g83:=X03.kept (by omega) g8
 have g93:=X03.kept (by omega) g9
 obtain⟨D,hD⟩:=MO ko fun i j hi hj=>hk.dens ko hi hj
 obtain⟨N,hN⟩:=aT (ll.length)
 rw[←hN] at hD h8 lt lf ⊢
 obtain⟨d,hd⟩:=aT (512*N*N)
 have hd3:d≤32768:=by
  have a:512*N≤4096:=by omega
  have b:=Nat.mul_le_mul a h8
  omega
 rw[←hd] at hD
 have kb:S*(d+N)≤20*(d+N):=Nat.mul_le_mul_right _ (by omega)
 obtain⟨cl,cR⟩:=DC (n:=S) e0 e1
 have N0:0<N:=by have:=ko.1;omega
 have hwp : ∀p∈t,p<W8:=hw.2.2
 have wz:=Gw hwp hn0 hz
 have gO : ∀s,s<N→OvL (D ^ S) (S*(d+N)+2*N+2*S+2) (fC N (kAt ll) (ft f) (hZ e S) S s):=fun s hs=>PW hD hs
 have mO:=fun s (hs:s≤N)=>MA (g:=fC N (kAt ll) (ft f) (hZ e S) S) hwp hn0 wz (by omega) (by rw[lt];exact gO) (i:=s) (by omega)
 rw[lt] at mO wz
 have w0:rs N (wQ t)=((qH t N:Nat):Int):=by rw[←lt];exact yQ hn0 _ (Nat.le_refl _)
 refine call (HL (k:=512+N+(S*(d+N)+2*N+2*S+2)+N) (g:=fC N (kAt ll) (ft f) (hZ e S) S) (hk.aa E3.aa) (hw.aa E3.aa) (hf.aa E3.aa) ok (N:=N) (by omega) lt lf ⟨rfl,rfl⟩ (fun H s hv X hs sl=>JR (hk.aa (E3.trans X).aa) ko hN sl (by omega) hs hD (by omega) (X.kept (by omega) g83) (X.kept (by omega) g13) (X.kept (by omega) g93) (by have:=X.n;omega) (by have:=X.n;omega) (by have:=X.n;omega) (sn.aa hI X.aa) he oke e0 e1 cl) (fun s hs=>((gO s hs).mono (by omega)).qb) (fun s hs=>((mO s hs).mono (by omega)).qb) (by omega) (by rw[w0];exact oh wz) (by
  rw[w0]
  exact(QB.int (k:=512+N) (by rw[Int.natAbs_natCast];exact yR (zI hwp) N (by omega))).mono (by omega))) ?_
 rintro _ h4 ⟨X4,rfl⟩
 obtain⟨x,y,er,hf'⟩:=jT (lW t (fC N (kAt ll) (ft f) (hZ e S) S) N)
 rw[hf']
 have Ss:=(X03.trans X4).kept (by omega) g10
 simp -dsimp (disch:=omega) only[wpS,wpT,zE,zL,zA,cq,dF,Ss,aD,ax,aV,bg,aS]
 exact⟨(E3.trans X4).put (by omega) _,rfl⟩
theorem OvL.divN {L x m y:Nat} {q:Rat} (h:OvL L x q) (hm:0<m) (hy:m≤2 ^ y):OvL (L*m) (x+y) (q / ((m:Int):Rat)):=by
 obtain⟨hL,hx,N,e,hN⟩:=h
 have h2:2 ^ (x+y)=2 ^ x*2 ^ y:=Nat.pow_add ..
 have:=oh hL
 have:=oh hm
 refine⟨Nat.mul_pos hL hm,by rw[h2];exact Nat.mul_le_mul hx hy,N,?_,by rw[h2];exact Nat.le_trans hN (Nat.le_mul_of_pos_right _ (Nat.pow_pos (by omega)))⟩
 rw[e,Int.natCast_mul,Rat.intCast_mul]
 grind
theorem JP {h:IH} {kv wv fv:Value} {ll:List (List (Nat×Nat))} {t:List Nat} {f:List (Nat×Nat)} {e:Nat×Nat} {n:Int} (hk:ji h kv ll) (hw:ni h wv t) (hf:gw h fv f) (hne:fv=.slice none 0 0∨0<f.length) (hfl:f.length≤1000) (he:e.1<W8∧e.2<W8) (hn:fZ n) (h8:ll.length≤8) :
  WV Proofs.Tryz.prog (.func (.func 22) #[] #[]) [kv,wv,fv,KI n,shV e.1 e.2] h fun r h'=>Ext h h'∧r=J5 ll t f e n:=by
 obtain⟨H0,hH0,n0,E0,g8,g9,g10⟩:=gG h [KI n] (shC e.1 e.2) Z16
 refine enter (nt:=30) (rs:=[.cell 10 32,.tmp 11]) Proofs.Tryz.func22 rfl rfl rfl (by simp) ?_
 simp -dsimp (disch:=try exact dx) only[wpS,zE,zL,zA,fR,ld3,cq,aD,ax,aS]
 rw[←hH0]
 clear hH0
 refine call (CP (hk.aa E0.aa) (hw.aa E0.aa) (hf.aa E0.aa) hne hfl he hn) ?_
 rintro _ h1 ⟨X1,rfl⟩
 have m1:=X1.n
 unfold J5
 by_cases c:uj ll t f e n=0
 case neg =>
  rw[if_neg c]
  have d:(uj ll t f e n != 0)=true:=by simpa using c
  have Y6:=X1.kept (by omega) g10
  simp -dsimp (disch:=omega) only[wpS,wpT,zE,zL,zA,cq,IE,dF,d,Y6]
  exact⟨(E0.trans X1).put (by omega) _,rfl⟩
 rw[if_pos c,c]
 obtain⟨ko,lt,hn0,hz,hr,ok,oke,lf,e0,e1,z0,z20⟩:=Hv c
 obtain⟨S,rfl⟩:=Int.eq_ofNat_of_zero_le z0
 rw[Int.toNat_natCast]
 have E3:=E0.trans X1
 have g83:=X1.kept (by omega) g8
 have g93:=X1.kept (by omega) g9
 simp -dsimp (disch:=omega) only[wpS,wpT,zE]
 obtain⟨D,hD⟩:=MO ko fun i j hi hj=>hk.dens ko hi hj
 obtain⟨N,hN⟩:=aT (ll.length)
 rw[←hN] at hD h8 lt lf ⊢
 obtain⟨d,hd⟩:=aT (512*N*N)
 have hd3:d≤32768:=by
  have a:512*N≤4096:=by omega
  have b:=Nat.mul_le_mul a h8
  omega
 rw[←hd] at hD
 have kb:S*(d+N)≤20*(d+N):=Nat.mul_le_mul_right _ (by omega)
 obtain⟨cl,cR⟩:=DC (n:=S) e0 e1
 have N0:0<N:=by have:=ko.1;omega
 have hwp : ∀p∈t,p<W8:=hw.2.2
 have wz:=Gw hwp hn0 hz
 obtain⟨g,hg⟩:=aT (fun s=>rs (S+1) (fun k=>mI N (kAt ll) (ft f) (hZ e S) S k s) / (((S+1:Nat):Int):Rat))
 rw[←hg]
 have gO : ∀s,s<N→OvL (D ^ S*(S+1)) (S*(d+N)+2*N+3*S+8) (g s):=fun s hs=>by
  rw[hg]
  have z : ∀k,k<S+1→OvL (D ^ S) (S*(d+N)+2*N+2*S+2) (mI N (kAt ll) (ft f) (hZ e S) S k s):=fun k hk=>MC hD hs hk
  exact((OvL.rs (z 0 (by omega)).1 (z 0 (by omega)).2.1 z).divN (m:=S+1) (y:=5) (by omega) (by omega)).mono (by omega)
 have mO:=fun s (hs:s≤N)=>MA (g:=g) hwp hn0 wz (by omega) (by rw[lt];exact gO) (i:=s) (by omega)
 rw[lt] at mO wz
 have w0:rs N (wQ t)=((qH t N:Nat):Int):=by rw[←lt];exact yQ hn0 _ (Nat.le_refl _)
 refine call (HL (k:=512+N+(S*(d+N)+2*N+3*S+8)+N) (g:=g) (hk.aa E3.aa) (hw.aa E3.aa) (hf.aa E3.aa) ok (N:=N) (by omega) lt lf ⟨rfl,rfl⟩ (fun H s hv X hs sl=>by
  rw[hg]
  exact Hu (hk.aa (E3.trans X).aa) ko hN sl (by omega) hs hD (by omega) (X.kept (by omega) g83) (X.kept (by omega) g93) (by have:=X.n;omega) (by have:=X.n;omega) he oke e0 e1 cl) (fun s hs=>((gO s hs).mono (by omega)).qb) (fun s hs=>((mO s hs).mono (by omega)).qb) (by omega) (by rw[w0];exact oh wz) (by
  rw[w0]
  exact(QB.int (k:=512+N) (by rw[Int.natAbs_natCast];exact yR (zI hwp) N (by omega))).mono (by omega))) ?_
 rintro _ h4 ⟨X4,rfl⟩
 obtain⟨x,y,er,hf'⟩:=jT (lW t (g) N)
 rw[hf']
 have Ss:=(X1.trans X4).kept (by omega) g10
 simp -dsimp (disch:=omega) only[wpS,wpT,zE,zL,zA,cq,dF,Ss,aD,ax,aV,bg,aS]
 exact⟨(E3.trans X4).put (by omega) _,rfl⟩
end Go.Id
namespace Go.Id
open Go

theorem UI {a b:Nat} (h:a≤b):(2:Nat) ^ a≤2 ^ b:=Nat.pow_le_pow_right (by omega) h
structure WB (h hh:IH) (b7 b9 b10:Nat) (s7 s9 s10:Value) (n k:Nat):Prop where
 e:Ext h hh
 l7:h.n+1+1+1+1≤b7
 l9:b7<b9
 l10:b9<b10
 lt:b10<hh.n
 g4:hh.ext.get (h.n+1+1)=some (.cells [ZW,ZW,ZW,ZW,ZW,ZW,ZW,ZW] 0 none)
 g5:hh.ext.get (h.n+1+1+1)=some (.cells [.int .u64 0] 0 none)
 g7:hh.ext.get b7=some (.cells [.bool false,s7] 0 none)
 g9:hh.ext.get b9=some (.cells [.bool false,s9] 0 none)
 g10:hh.ext.get b10=some (.cells [.bool false,s10] 0 none)
 p7:bd hh (.agg #[.bool false,s7]) ((n:Nat):Int)
 p9:bd hh (.agg #[.bool false,s9]) ((2 ^ 64:Nat):Int)
 p10:bd hh (.agg #[.bool false,s10]) ((2 ^ k:Nat):Int)
structure FW (fr:Fr) (h:IH) (b7 b9 b10 k:Nat):Prop where
 f2:ab fr 2=some (ptr (2*h.n) 0)
 f4:ab fr 4=some (ptr (2*(h.n+1+1)) 0)
 f5:ab fr 5=some (ptr (2*(h.n+1+1+1)) 0)
 f7:ab fr 7=some (ptr (2*b7) 0)
 f8:ab fr 8=some (KN k)
 f9:ab fr 9=some (ptr (2*b9) 0)
 f10:ab fr 10=some (ptr (2*b10) 0)



end Go.Id
