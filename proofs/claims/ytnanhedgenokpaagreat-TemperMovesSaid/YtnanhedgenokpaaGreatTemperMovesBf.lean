/-
  Contracts: the reference's fractions: lowest terms. Contracts: the reference's fractions: sums, differences, products, quotients, order.
-/
import Derived.Test.YtnanhedgenokpaaGreatTemperMovesAt
import Derived.Test.YtnanhedgenokpaaGreatTemperMovesBd
import Derived.Test.YtnanhedgenokpaaGreatTemperMovesBb
import Derived.Test.YtnanhedgenokpaaGreatTemperMovesAw
import Derived.Test.YtnanhedgenokpaaGreatTemperMovesBe
import Derived.Test.YtnanhedgenokpaaGreatTemperMovesAs
import Derived.Test.YtnanhedgenokpaaGreatTemperMovesAq
import Derived.Test.YtnanhedgenokpaaGreatTemperMovesAu
set_option linter.unusedVariables false
set_option linter.unusedSimpArgs false
set_option linter.defProp false
set_option linter.deprecated false
namespace Go.Id
open Go
open Nat renaming reduceAdd→zA,reduceEqDiff→zE,reduceLeDiff→zL
set_option maxHeartbeats 16000000
def uS (h:IH) (v:Value) (n d:Int):Prop:=∃a s b t,v=.agg #[a,s,b,t]∧aZ h (.agg #[a,s]) n∧aZ h (.agg #[b,t]) d
theorem uS.ab {h h':IH} {v:Value} {n d:Int} (p:uS h v n d) (e:aF h h'):uS h' v n d:=let ⟨a,s,b,t,h1,h2,h3⟩:=p;⟨a,s,b,t,h1,h2.ab e,h3.ab e⟩
def nC (h:IH) (v:Value) (q:Rat):Prop:=uS h v q.num q.den
theorem nC.ab {h h':IH} {v:Value} {q:Rat} (p:nC h v q) (e:aF h h'):nC h' v q:=uS.ab p e
theorem aZ.cT {h:IH} {v:Value} {z:Int} (d:aZ h v z) : ∃s,v=.agg #[.bool (decide (z<0)),s]∧s.cells = #[s]∧aG s=true:=let ⟨s,n,a,b,c,_⟩:=d.form;⟨s,a,b,c⟩
theorem aZ.co {h:IH} {a s:Value} {z:Int} (d:aZ h (.agg #[a,s]) z):a=.bool (decide (z<0))∧s.cells = #[s]∧aG s=true:=by
 obtain⟨s',h1,h2,h3⟩:=d.cT
 cases h1
 exact⟨rfl,h2,h3⟩
theorem KH {n d:Int} (hd:d<0):n / (-(Int.gcd n d:Int))=(Rat.divInt n d).num∧d / (-(Int.gcd n d:Int))=(Rat.divInt n d).den:=by
 obtain⟨a,b⟩:=vB (n:=n) hd
 rw[Int.ediv_neg,Int.ediv_neg]
 exact⟨a,b⟩
theorem wN {h:IH} {v w:Value} {n d:Int} (hv:aZ h v n) (hw:aZ h w d) (sn:aS n) (sd:aS d) (d0:d≠0) :
  WV Proofs.Tryz.prog (.func (.func 215) #[] #[]) [v,w] h fun r h'=>Ext h h'∧nC h' r (Rat.divInt n d):=by
 obtain⟨s,rfl,c1,o1⟩:=hv.cT
 obtain⟨t,rfl,c2,o2⟩:=hw.cT
 have sg:aS (Int.gcd n d:Int):=by
  have h1:Int.gcd n d≤d.natAbs:=Nat.le_of_dvd (by omega) (Nat.gcd_dvd_right _ _)
  exact iF (sd.le h1)
 refine enter (nt:=32) (rs:=[.cell 4 196]) Proofs.Tryz.func215 rfl rfl rfl (by simp) ?_
 simp -dsimp (disch:=try exact dx) only[wpS,wpT,zE,zL,zA,rf,bZ]
 obtain⟨H0,hH0,n0,E0,g0,g1,g2⟩:=gP h [.bool (decide (n<0)),s] [.bool (decide (d<0)),t] ZR
 rw[←hH0]
 clear hH0
 refine call (xR (hv.ab E0.ab) (hw.ab E0.ab) sn sd) ?_
 rintro _ h1 ⟨hE1,hg⟩
 obtain⟨sg1,rfl,c3,o3⟩:=hg.cT
 have hng:decide ((Int.gcd n d:Int)<0)=false:=decide_eq_false (by omega)
 rw[hng] at hg ⊢
 have x1:=E0.trans hE1
 have n1:=(hE1).n;try simp only[al,aq] at n1
 simp -dsimp (disch:=try exact dx) only[wpS,wpT,zE,zL,zA,kD,fW,dF,ld4,o3,ai (hE1.kept (by omega) g1),yy]
 obtain⟨H2,hH2⟩ : ∃H2,H2=(h1.new (.cells ZL 0 none)).put h1.n (.cells [.bool false,sg1] 0 none):=⟨_,rfl⟩
 have e2:Ext h1 H2:=by rw[hH2];exact((Ext.refl _).new _).put (Nat.le_refl _) _
 have n2:H2.n=h1.n+1:=by rw[hH2];rfl
 have gg:H2.ext.get h1.n=some (.cells [.bool false,sg1] 0 none):=by rw[hH2];simp (disch:=try exact dx) only[ad]
 rw[←hH2]
 clear hH2
 have x2:=x1.trans e2
 have kk0:=e2.kept (by omega) (hE1.kept (by omega) g0)
 have kk1:=e2.kept (by omega) (hE1.kept (by omega) g1)
 have kk2:=e2.kept (by omega) (hE1.kept (by omega) g2)
 refine fR (fun fr2 H3 => ∃(g:Int) (ag sg2:Value),Ext h H3∧h1.n+1≤H3.n∧H3.ext.get h.n=some (.cells [.bool (decide (n<0)),s] 0 none)∧H3.ext.get (h.n+1)=some (.cells [.bool (decide (d<0)),t] 0 none)∧H3.ext.get (h.n+1+1)=some (.cells ZR 0 none)∧H3.ext.get h1.n=some (.cells [ag,sg2] 0 none)∧aZ H3 (.agg #[ag,sg2]) g∧aS g∧g≠0∧n / g=(Rat.divInt n d).num∧d / g=(Rat.divInt n d).den ∧
  aZ H3 (.agg #[.bool (decide (n<0)),s]) n∧aZ H3 (.agg #[.bool (decide (d<0)),t]) d∧ah fr2 2=some (ptr (2*h.n) 0)∧ah fr2 3=some (ptr (2*(h.n+1)) 0)∧ah fr2 4=some (ptr (2*(h.n+1+1)) 0)∧ah fr2 5=some (ptr (2*h1.n) 0)) (fun hb=>?_) (fun hb=>?_) ?_
 ·have hd:d<0:=by simpa using hb
  obtain⟨b1,b2⟩:=KH (n:=n) hd
  simp -dsimp (disch:=try exact dx) only[wpS,wpT,zE,zL,zA,bZ,ai gg,yy]
  refine call (F7 (hg.ab e2.ab)) ?_
  rintro _ h3 ⟨hE3,hT⟩
  obtain⟨sT,rfl,c4,o4⟩:=hT.cT
  have n3:=(hE3).n;try simp only[al,aq] at n3
  have kg:=hE3.kept (by omega) gg
  simp -dsimp (disch:=try exact dx) only[wpS,wpT,zE,zL,zA,fW,kg,o4]
  have kp:=(aF.refl h3).put kg (.cells [.bool (decide (-(Int.gcd n d:Int)<0)),sT] 0 none)
  have x3:=x2.trans hE3
  have hng:=xG (n:=n) (d:=d) (by omega)
  refine⟨-(Int.gcd n d:Int),_,sT,x3.put (by omega) _,by simp only[aq];omega,by simp (disch:=try exact dx) only[ae];exact hE3.kept (by omega) kk0,by simp (disch:=try exact dx) only[ae];exact hE3.kept (by omega) kk1,by simp (disch:=try exact dx) only[ae];exact hE3.kept (by omega) kk2,ad _ _ rfl,hT.ab kp,by rw[aS,Int.natAbs_neg];exact sg,by omega,b1,b2,hv.ab (x3.ab.trans kp),hw.ab (x3.ab.trans kp),by simp,by simp,by simp,by simp⟩
 ·have hd:0<d:=by
   have : ¬d<0:=by simpa using hb
   omega
  obtain⟨b1,b2⟩:=pF (n:=n) hd
  simp -dsimp (disch:=try exact dx) only[wpS,wpT]
  exact⟨Int.gcd n d,_,sg1,x2,by omega,kk0,kk1,kk2,gg,hg.ab e2.ab,sg,xG d0,b1,b2,hv.ab x2.ab,hw.ab x2.ab,by simp,by simp,by simp,by simp⟩
 clear hg kk0 kk1 kk2 gg x2 e2
 rintro fr2 H3 ⟨g,ag,sg2,x3,n3,k0,k1,k2,kg,hg,sgg,g0',b1,b2,hv3,hw3,f2,f3,f4,f5⟩
 rw[kf]
 simp -dsimp (disch:=try exact dx) only[wpS,wpT,zE,zL,zA,bZ,f2,f5,ai k0,ai kg,yy]
 refine call (zK hv3 hg sn sgg g0') ?_
 rintro _ h4 ⟨hE4,q,u,rfl,hq,hu⟩
 rw[b1] at hq
 obtain⟨sq,rfl,c4,o4⟩:=hq.cT
 obtain⟨su,rfl,c5,o5⟩:=hu.cT
 have n4:=(hE4).n;try simp only[al,aq] at n4
 have x4:=x3.trans hE4
 simp -dsimp (disch:=try exact dx) only[wpS,wpT,zE,zL,zA,bZ,kD,fW,o4,o5,f3,f5,ai (hE4.kept (by omega) k1),ai (hE4.kept (by omega) kg),yy]
 obtain⟨H5,hH5⟩ : ∃H4,H4=((((h4.new (.cells ZL 0 none)).new (.cells ZL 0 none)).put h4.n (.cells [.bool (decide ((Rat.divInt n d).num<0)),sq] 0 none)).put (h4.n+1) (.cells [.bool (decide (n % g<0)),su] 0 none)):=⟨_,rfl⟩
 have e5:Ext h4 H5:=by rw[hH5];exact((((Ext.refl _).new _).new _).put (Nat.le_refl _) _).put (by omega) _
 have n5:H5.n=h4.n+2:=by rw[hH5];rfl
 have gq:H5.ext.get h4.n=some (.cells [.bool (decide ((Rat.divInt n d).num<0)),sq] 0 none):=by rw[hH5];simp (disch:=try exact dx) only[ad,ae]
 rw[←hH5]
 clear hH5
 refine call (zK (hw3.ab (hE4.trans e5).ab) (hg.ab (hE4.trans e5).ab) sd sgg g0') ?_
 rintro _ h6 ⟨hE6,q2,u2,rfl,hq2,hu2⟩
 rw[b2] at hq2
 obtain⟨sq2,rfl,c6,o6⟩:=hq2.cT
 obtain⟨su2,rfl,c7,o7⟩:=hu2.cT
 have n6:=(hE6).n;try simp only[al,aq] at n6
 have hdf:decide (((Rat.divInt n d).den:Int)<0)=false:=decide_eq_false (by omega)
 rw[hdf] at hq2 ⊢
 have x6:=(x4.trans e5).trans hE6
 have kq:=hE6.kept (by omega) gq
 have kr:=hE6.kept (by omega) (e5.kept (by omega) (hE4.kept (by omega) k2))
 simp -dsimp (disch:=try exact dx) only[wpS,wpT,zE,zL,zA,bZ,kD,fW,Px,Gy,Gx,rI,xi,o6,o7,f4,ai kq,kr,o4,yy,kA]
 refine⟨?_,_,_,_,_,rfl,hq.ab ((e5.trans hE6).ab.trans ?_),hq2.ab ?_⟩
 ·exact((((x6.new _).new _).put (by omega) _).put (by omega) _).put (by omega) _
 ·exact(((((aF.refl h6).new _).new _).put (cs:=ZL) (f:=none) (by simp (disch:=try exact dx) only[aa,ao]) _).put (cs:=ZL) (f:=none) (by simp (disch:=try exact dx) only[aa,ae]) _).put (cs:=ZR) (f:=none) (by simp (disch:=try exact dx) only[ao,ae];exact kr) _
 ·exact(((((aF.refl h6).new _).new _).put (cs:=ZL) (f:=none) (by simp (disch:=try exact dx) only[aa,ao]) _).put (cs:=ZL) (f:=none) (by simp (disch:=try exact dx) only[aa,ae]) _).put (cs:=ZR) (f:=none) (by simp (disch:=try exact dx) only[ao,ae];exact kr) _
end Go.Id

namespace Go.Id
open Go
open Go.Proofs.Tryz (prog)
open Nat renaming reduceAdd→zA,reduceEqDiff→zE,reduceLeDiff→zL
set_option maxHeartbeats 16000000
theorem nC.parts {h:IH} {v:Value} {q:Rat} (p:nC h v q) : ∃a s b t,v=.agg #[a,s,b,t]∧aZ h (.agg #[a,s]) q.num∧aZ h (.agg #[b,t]) q.den∧s.cells = #[s]∧aG s=true∧t.cells = #[t]∧aG t=true∧aG a=true∧aG b=true:=by
 obtain⟨a,s,b,t,rfl,h1,h2⟩:=p
 obtain⟨rfl,c1,o1⟩:=h1.co
 obtain⟨rfl,c2,o2⟩:=h2.co
 exact⟨_,s,_,t,rfl,h1,h2,c1,o1,c2,o2,rfl,rfl⟩
theorem ql4 {H:IH} {k:Nat} {a s b t:Value} (g:H.ext.get k=some (.cells [a,s,b,t] 0 none)):load prog H 194 (ptr (2*k) 0)=some (.agg #[a,s])∧load prog H 194 (ptr (2*k) 2)=some (.agg #[b,t])∧load prog H 196 (ptr (2*k) 0)=some (.agg #[a,s,b,t]):=by
 have r:=ai g
 refine⟨?_,?_,?_⟩
 ·simp -dsimp (disch:=try exact dx) only[wpS,wpT,zL,zA,bZ,r]
  rfl
 ·simp -dsimp (disch:=try exact dx) only[wpS,wpT,zL,zA,bZ,r]
  rfl
 ·rw[eG PD JQ,zw r]
  rfl
theorem Ki {h:IH} {v w:Value} {x y:Rat} {a b:Nat} (hv:nC h v x) (hw:nC h w y) (qx:QB a x) (qy:QB b y) (hk:a+b+1<16000000) :
  WV prog (.func (.func 168) #[] #[]) [v,w] h fun r h'=>Ext h h'∧nC h' r (x+y):=by
 obtain⟨a1,s1,b1,t1,rfl,hn1,hd1,c1,o1,c2,o2,o3,o4⟩:=hv.parts
 obtain⟨a2,s2,b2,t2,rfl,hn2,hd2,c5,o5,c6,o6,o7,o8⟩:=hw.parts
 refine enter (nt:=22) (rs:=[.cell 4 196]) Proofs.Tryz.func168 rfl rfl rfl (by simp) ?_
 simp -dsimp (disch:=try exact dx) only[wpS,zE,zA,rf]
 obtain⟨H0,hH0,n0,E0,g0,g1,g2⟩:=gP h [a1,s1,b1,t1] [a2,s2,b2,t2] ZR
 rw[←hH0]
 clear hH0
 have X0:=Ext.refl H0
 obtain⟨L1,L2,_⟩:=ql4 g0
 obtain⟨L3,L4,_⟩:=ql4 g1
 refine drawn [(6,[4]),(8,[4]),(12,[4,9,10]),(14,[4,9,10])] (by kernel_rfl) (by kernel_rfl) rfl ?_
 simp -dsimp (disch:=try exact dx) only[wpS,wpT,zE,zL,zA,nv,bZ,pM,ai g0,ai g1,tkA,tkB]
 refine call (og (hn1.ab E0.ab) (hd2.ab E0.ab) (aT qx.1 (by omega)) (aT qy.fA (by omega))) ?_
 rintro r1 h1 ⟨X1,p1⟩
 have m1:=X1.n
 simp -dsimp (disch:=try exact dx) only[wpS,wpT,zE,zL,zA,nv,bZ,pM,ai (X1.kept (by omega) g0),ai (X1.kept (by omega) g1),tkA,tkB]
 refine call (og (hn2.ab (E0.trans X1).ab) (hd1.ab (E0.trans X1).ab) (aT qy.1 (by omega)) (aT qx.fA (by omega))) ?_
 rintro r2 h2 ⟨hE2,p2⟩
 have m2:=hE2.n
 have X2:=X1.trans hE2
 simp -dsimp (disch:=try exact dx) only[wpS,zE]
 have b1':=bX qx.1 qy.fA
 have b2':=bX qy.1 qx.fA
 have b3':=qx.Q3 qy
 have b4':=bX qx.fA qy.fA
 have sb1:aS (x.num*y.den):=bU b1' (by omega)
 have sb2:aS (y.num*x.den):=bU b2' (by omega)
 have sb3:aS (x.num*y.den+y.num*x.den):=bU b3' hk
 have sb4:aS ((x.den:Int)*y.den):=bU b4' (by omega)
 refine call (vu (p1.ab hE2.ab) p2 sb1 sb2) ?_
 rintro r3 h3 ⟨hE3,p3⟩
 have m3:=hE3.n
 have X3:=X2.trans hE3
 simp -dsimp (disch:=try exact dx) only[wpS,wpT,zE,zL,zA,bZ,pM,ai (X3.kept (by omega) g0),ai (X3.kept (by omega) g1),tkB]
 refine call (og (hd1.ab (E0.trans X3).ab) (hd2.ab (E0.trans X3).ab) (aT qx.fA (by omega)) (aT qy.fA (by omega))) ?_
 rintro r4 h4 ⟨hE4,p4⟩
 have m4:=hE4.n
 have X4:=X3.trans hE4
 simp -dsimp (disch:=try exact dx) only[wpS,zE]
 refine call (wN (p3.ab hE4.ab) p4 sb3 sb4 (DH x y)) ?_
 rintro r5 h5 ⟨hE5,p5⟩
 have m5:=hE5.n
 have X5:=X4.trans hE5
 rw[←A7] at p5
 obtain⟨a3,s3,b3,t3,rfl,_,_,d1,o1,d2,o2,o3,o4⟩:=p5.parts
 have kg:=X5.kept (by omega) g2
 simp -dsimp (disch:=try exact dx) only[wpS,wpT,zE,zL,zA,rI,kg,o1,o2,o3,o4]
 refine⟨by repeat' first|refine aN ?_ ?_|refine aI ?_ ?_|exact ak rfl rfl rfl rfl (aJ (H0:=H0) rfl (by omega) (by assumption) (by assumption) (by with_reducible assumption)),?_⟩
 simp -dsimp (disch:=try exact dx) only[wpS,wpT,zE,zL,zA,xi,kA]
 exact⟨(E0.trans X5).put (by omega) _,p5.ab ((aF.refl _).put kg _)⟩
theorem Nv (x y:Rat):(if x.num*y.den<y.num*x.den then (-1:Int) else if y.num*x.den<x.num*y.den then 1 else 0)=if x<y then -1 else if x=y then 0 else 1:=by
 simp only[Rat.lt_iff,Rat.eq_iff_mul_eq_mul]
 split
 ·rfl
 ·split<;>split<;>first|rfl|omega
theorem Iq {h:IH} {v w:Value} {x y:Rat} {a b:Nat} (hv:nC h v x) (hw:nC h w y) (qx:QB a x) (qy:QB b y) (hk:a+b<16000000) :
  WV prog (.func (.func 169) #[] #[]) [v,w] h fun r h'=>Ext h h'∧r=KI (if x<y then -1 else if x=y then 0 else 1):=by
 obtain⟨a1,s1,b1,t1,rfl,hn1,hd1,c1,o1,c2,o2,o3,o4⟩:=hv.parts
 obtain⟨a2,s2,b2,t2,rfl,hn2,hd2,c5,o5,c6,o6,o7,o8⟩:=hw.parts
 refine enter (nt:=16) (rs:=[.tmp 4]) Proofs.Tryz.func169 rfl rfl rfl (by simp) ?_
 simp -dsimp (disch:=try exact dx) only[wpS,zE,zA]
 obtain⟨H0,hH0,n0,E0,g0,g1⟩:=gl h [a1,s1,b1,t1] [a2,s2,b2,t2]
 rw[←hH0]
 clear hH0
 have X0:=Ext.refl H0
 obtain⟨L1,L2,_⟩:=ql4 g0
 obtain⟨L3,L4,_⟩:=ql4 g1
 have sb1:aS (x.num*y.den):=bU (bX qx.1 qy.fA) hk
 have sb2:aS (y.num*x.den):=bU (by rw[Nat.add_comm];exact bX qy.1 qx.fA) hk
 refine drawn [(6,[4]),(8,[4])] (by kernel_rfl) (by kernel_rfl) rfl ?_
 simp -dsimp (disch:=try exact dx) only[wpS,wpT,zE,zL,zA,nv,bZ,pM,ai g0,ai g1,tkA,tkB]
 refine call (og (hn1.ab E0.ab) (hd2.ab E0.ab) (aT qx.1 (by omega)) (aT qy.fA (by omega))) ?_
 rintro r1 h1 ⟨X1,p1⟩
 have m1:=X1.n
 simp -dsimp (disch:=try exact dx) only[wpS,wpT,zE,zL,zA,nv,bZ,pM,ai (X1.kept (by omega) g0),ai (X1.kept (by omega) g1),tkA,tkB]
 refine call (og (hn2.ab (E0.trans X1).ab) (hd1.ab (E0.trans X1).ab) (aT qy.1 (by omega)) (aT qx.fA (by omega))) ?_
 rintro r2 h2 ⟨hE2,p2⟩
 have m2:=hE2.n
 have X2:=X1.trans hE2
 simp -dsimp (disch:=try exact dx) only[wpS,zE]
 refine call (IC (p1.ab hE2.ab) p2 sb1 sb2) ?_
 rintro _ h5 ⟨hE5,rfl⟩
 have X5:=X2.trans hE5
 rw[Nv]
 simp -dsimp (disch:=try exact dx) only[wpS,zE]
 refine⟨by repeat' first|refine aN ?_ ?_|refine aI ?_ ?_|exact ak rfl rfl rfl rfl (aJ (H0:=H0) rfl (by omega) (by assumption) (by assumption) (by with_reducible assumption)),?_⟩
 simp -dsimp (disch:=try exact dx) only[wpS,wpT,zE,zA]
 exact E0.trans X5
end Go.Id

namespace Go.Id
open Go
open Go.Proofs.Tryz (prog)
open Nat renaming reduceAdd→zA,reduceEqDiff→zE,reduceLeDiff→zL
set_option maxHeartbeats 16000000
theorem wS {h:IH} (n d:Int) (hn:dH n) (hd:dH d) (d0:d≠0):WV prog (.func (.func 135) #[] #[]) [KI n,KI d] h fun r h'=>Ext h h'∧nC h' r (Rat.divInt n d):=by
 refine enter (nt:=10) (rs:=[.cell 4 196]) Proofs.Tryz.func135 rfl rfl rfl (by simp) ?_
 simp -dsimp (disch:=try exact dx) only[wpS,zE,zA,rf]
 have E1:Ext h (h.new (.cells ZR 0 none)):=(Ext.refl h).new _
 have g1:(h.new (.cells ZR 0 none)).ext.get h.n=some (.cells ZR 0 none):=by simp (disch:=try exact dx) only[aa]
 refine call (oL n hn) ?_
 rintro _ h1 ⟨X1,p1⟩
 simp -dsimp (disch:=try exact dx) only[wpS,zE]
 refine call (oL d hd) ?_
 rintro _ h2 ⟨X2,p2⟩
 simp -dsimp (disch:=try exact dx) only[wpS,zE]
 have sn:aS n:=Ge (by have:=hn.1;have:=hn.2;omega)
 have sd:aS d:=Ge (by have:=hd.1;have:=hd.2;omega)
 refine call (wN (p1.ab X2.ab) p2 sn sd d0) ?_
 rintro _ h3 ⟨X3,p3⟩
 have m1:=X1.n
 have m2:=X2.n
 have m3:=X3.n
 simp only[al] at m1
 obtain⟨a3,s3,b3,t3,rfl,_,_,d1,o1,d2,o2,o3,o4⟩:=p3.parts
 have kg:=X3.kept (by omega) (X2.kept (by omega) (X1.kept (by simp) g1))
 simp -dsimp (disch:=try exact dx) only[wpS,wpT,zE,zL,zA,rI,xi,kg,o1,o2,o3,o4,kA]
 exact⟨(((E1.trans X1).trans X2).trans X3).put (by omega) _,p3.ab ((aF.refl _).put kg _)⟩
theorem Kf {h:IH} (n d:Nat) (hn:n<W8) (hd:d<W8):WV prog (.func (.func 167) #[] #[]) [shV n d] h fun r h'=>Ext h h'∧uS h' r (wdI n) (wdI d):=by
 refine enter (nt:=10) (rs:=[.cell 2 196]) Proofs.Tryz.func167 rfl rfl rfl (by simp) ?_
 simp -dsimp (disch:=try exact dx) only[wpS,rf,aV]
 obtain⟨H0,hH0,n0,E0,g0,g1⟩:=gl h (shC n d) ZR
 rw[←hH0]
 clear hH0
 have X0:=Ext.refl H0
 obtain⟨L1,L2,_⟩:=psh g0
 refine drawn [(4,[2])] (by kernel_rfl) (by kernel_rfl) rfl ?_
 simp -dsimp (disch:=try exact dx) only[wpS,zE,zL,qW,ba,ai g0,aH,gU]
 refine call (GU n hn) ?_
 rintro r1 h1 ⟨X1,p1⟩
 have m1:=X1.n
 simp -dsimp (disch:=try exact dx) only[wpS,zE,zL,zA,ba,qV,ai (X1.kept (by omega) g0),aH,iT]
 refine call (GU d hd) ?_
 rintro r2 h2 ⟨hE2,p2⟩
 have m2:=hE2.n
 have X2:=X1.trans hE2
 obtain⟨s1,rfl,c1,o1⟩:=p1.cT
 obtain⟨s2,rfl,c2,o2⟩:=p2.cT
 have kg:=X2.kept (by omega) g1
 simp -dsimp (disch:=try exact dx) only[wpS,wpT,zE,zL,zA,Px,Gy,Gx,rI,kg,o1,o2]
 refine⟨by repeat' first|refine aN ?_ ?_|refine aI ?_ ?_|exact ak rfl rfl rfl rfl (aJ (H0:=H0) rfl (by omega) (by assumption) (by assumption) (by with_reducible assumption)),?_⟩
 simp -dsimp (disch:=try exact dx) only[wpS,wpT,zE,zL,zA,xi,kA]
 have kp:=(aF.refl h2).put kg (.cells [.bool (decide (wdI n<0)),s1,.bool (decide (wdI d<0)),s2] 0 none)
 exact⟨(E0.trans X2).put (by omega) _,_,_,_,_,rfl,p1.ab (hE2.ab.trans kp),p2.ab kp⟩
theorem Il {h:IH} {v:Value} {q:Rat} (hv:nC h v q):WV prog (.func (.func 134) #[] #[]) [v] h fun r h'=>Ext h h'∧r=(open Classical in if QW q then .tuple #[iS q,KI 0] else .tuple #[shV 0 0,KI 6]):=by
 obtain⟨a1,s1,b1,t1,rfl,hn1,hd1,c1,o1,c2,o2,o3,o4⟩:=hv.parts
 refine enter (nt:=30) (rs:=[.cell 2 32,.tmp 3]) Proofs.Tryz.func134 rfl rfl rfl (by simp) ?_
 simp -dsimp (disch:=try exact dx) only[wpS,wpT,zE,zL,zA,mi,nv,bZ]
 obtain⟨H0,hH0,n0,E0,g0,g1⟩:=gl h [a1,s1,b1,t1] Z16
 rw[←hH0]
 clear hH0
 simp -dsimp (disch:=try exact dx) only[tkA]
 refine call (ES (hn1.ab E0.ab)) ?_
 rintro _ h1 ⟨X1,rfl⟩
 have m1:=X1.n
 obtain⟨w1,e1,hw⟩ : ∃w1 e1,(if InW q.num then Value.tuple #[mj q.num,KI 0] else .tuple #[wdV 0,KI 6])=.tuple #[wdV w1,KI e1]∧(InW q.num∧w1=aU q.num∧e1=0 ∨ ¬InW q.num∧e1=6):=by
  by_cases hi:InW q.num
  ·exact⟨_,0,by rw[if_pos hi],.inl ⟨hi,rfl,rfl⟩⟩
  ·exact⟨0,6,by rw[if_neg hi],.inr ⟨hi,rfl⟩⟩
 rw[hw.1]
 have k0:=X1.kept (by omega) g0
 have k1:=X1.kept (by omega) g1
 simp -dsimp (disch:=try exact dx) only[wpS,wpT,zE,zL,zA,bZ,dB,cj,pM,aM,aj,ay,aO,ai k0,tkA,tkB]
 obtain⟨H2,hH2⟩ : ∃H2,H2=(h1.new (.cells [ZW,ZW,ZW,ZW,ZW,ZW,ZW,ZW] 0 none)).put h1.n (.cells (wdC w1) 0 none):=⟨_,rfl⟩
 have e2:Ext h1 H2:=by rw[hH2];exact((Ext.refl _).new _).put (Nat.le_refl _) _
 have n2:H2.n=h1.n+1:=by rw[hH2];rfl
 have ga:H2.ext.get h1.n=some (.cells (wdC w1) 0 none):=by rw[hH2];simp (disch:=try exact dx) only[ad]
 have k1':=e2.kept (by omega) k1
 rw[←hH2]
 clear hH2
 refine call (ES (hd1.ab ((E0.trans X1).trans e2).ab)) ?_
 rintro _ h3 ⟨X3,rfl⟩
 have m3:=X3.n
 obtain⟨w2,f2,hw2⟩ : ∃w1 e1,(if InW (q.den:Int) then Value.tuple #[mj q.den,KI 0] else .tuple #[wdV 0,KI 6])=.tuple #[wdV w1,KI e1]∧(InW (q.den:Int)∧w1=aU q.den∧e1=0 ∨ ¬InW (q.den:Int)∧e1=6):=by
  by_cases hi:InW (q.den:Int)
  ·exact⟨_,0,by rw[if_pos hi],.inl ⟨hi,rfl,rfl⟩⟩
  ·exact⟨0,6,by rw[if_neg hi],.inr ⟨hi,rfl⟩⟩
 rw[hw2.1]
 have ga3:=X3.kept (by omega) ga
 have k3:=X3.kept (by omega) k1'
 have xx:=((E0.trans X1).trans e2).trans X3
 rcases hw.2 with⟨i1,rfl,rfl⟩|⟨i1,rfl⟩
 ·rcases hw2.2 with⟨i2,rfl,rfl⟩|⟨i2,rfl⟩
  ·rw[if_pos (show QW q from⟨i1,i2⟩)]
   simp -dsimp (disch:=try exact dx) only[wpS,wpT,zE,zL,zA,dB,cj,ve,jr,ba,Ks,Kr,fE,aM,aj,ay,aO,ai ga3,k3,dV,J8,J7,dX,aH,cU,bN]
   exact⟨(((xx.new _).put (by omega) _).put (by omega) _),rfl⟩
  ·rw[if_neg (show ¬QW q from fun h=>i2 h.2)]
   simp -dsimp (disch:=try exact dx) only[wpS,wpT,zE,zL,zA,dB,cj,ve,jr,fE,aM,aj,ay,aO,k3,Gh]
   exact⟨(((xx.new _).put (by omega) _).put (by omega) _),by rw[rO]⟩
 ·rw[if_neg (show ¬QW q from fun h=>i1 h.1)]
  simp -dsimp (disch:=try exact dx) only[wpS,wpT,zE,zL,zA,dB,cj,ve,jr,fE,aM,aj,ay,aO,k3,Gh]
  exact⟨(((xx.new _).put (by omega) _).put (by omega) _),by rw[rO]⟩
theorem wQ {h:IH} (n d:Int) (hn:dH n) (hd:dH d) (d0:d≠0):WV prog (.func (.func 55) #[] #[]) [KI n,KI d] h fun r h'=>Ext h h'∧r=.tuple #[iS (Rat.divInt n d),KI 0]:=by
 have hd':(d == 0)=false:=by simpa using d0
 refine enter (nt:=15) (rs:=[.cell 4 32,.tmp 5]) Proofs.Tryz.func55 rfl rfl rfl (by simp) ?_
 simp -dsimp (disch:=try exact dx) only[wpS,zE,zA,mi,hd']
 have E1:Ext h (h.new (.cells Z16 0 none)):=(Ext.refl h).new _
 have g1:(h.new (.cells Z16 0 none)).ext.get h.n=some (.cells Z16 0 none):=by simp (disch:=try exact dx) only[aa]
 refine call (wS n d hn hd d0) ?_
 rintro _ h1 ⟨X1,p1⟩
 simp -dsimp (disch:=try exact dx) only[wpS,zE]
 refine call (Il p1) ?_
 rintro _ h2 ⟨X2,rfl⟩
 rw[if_pos (wR hn hd d0)]
 have m1:=X1.n
 have m2:=X2.n
 simp only[al] at m1
 have kg:=X2.kept (by omega) (X1.kept (by simp) g1)
 simp -dsimp (disch:=try exact dx) only[wpS,wpT,zE,zL,zA,jr,fE,kg,aV,aH,cU,dX,bN]
 exact⟨((E1.trans X1).trans X2).put (by omega) _,rfl⟩
end Go.Id

namespace Go.Id
open Go
end Go.Id

namespace Go.Id
open Go
open Go.Proofs.Tryz (prog)
section
variable {P:Program}
theorem EN:ar P (program)=some P:=rfl
theorem uw {e:TypeId} {n:Nat} (hA:aY P e=some true) (hs:aP P e=some n) (cs:Array Value) (off:Nat):ar P (part e cs off)=some (.agg (cs.extract off (off+n))):=by
 unfold part
 have h1:ar P (isAgg e)=some true:=by
  unfold isAgg
  simp only[aY,Option.map_eq_some_iff] at hA
  obtain⟨d,hd,hA⟩:=hA
  rw[bm (cB hd)]
  cases d<;>first|rfl|(simp at hA)
 rw[bm h1]
 simp only[if_true]
 rw[bm (zx hs)]
 rfl
theorem qv {t:TypeId} {x y:Array Value} {b:Bool} (hg:P.eqGuardType P.depth t=false) (hx:plain (.agg x)=true) (hy:plain (.agg y)=true) (h:ar P (Op.equal t (.agg x) (.agg y))=some b) (ox oy:Operand):binop P .eql t ox oy (.agg x) (.agg y)=some (.bool b):=by
 refine cZ P t ox oy hx hy rfl ?_
 have h1:ar P (eqGuard .eql t ox oy (.agg x) (.agg y))=some ():=by
  show ar P (if (!P.eqGuardType P.depth t)=true then _ else _)=_
  rw[hg];rfl
 rw[bm h1]
 show ar P (Op.equal t _ _ >>= fun r=>pure (Value.bool r))=_
 rw[bm h];rfl
theorem yV {t:TypeId} {x y:Array Value} {b:Bool} (hg:P.eqGuardType P.depth t=false) (hx:plain (.agg x)=true) (hy:plain (.agg y)=true) (h:ar P (Op.equal t (.agg x) (.agg y))=some b) (ox oy:Operand):binop P .neq t ox oy (.agg x) (.agg y)=some (.bool (!b)):=by
 refine cZ P t ox oy hx hy rfl ?_
 have h1:ar P (eqGuard .neq t ox oy (.agg x) (.agg y))=some ():=by
  show ar P (if (!P.eqGuardType P.depth t)=true then _ else _)=_
  rw[hg];rfl
 rw[bm h1]
 show ar P (Op.equal t _ _ >>= fun r=>pure (Value.bool !r))=_
 rw[bm h];rfl
end
theorem Nf (n d:Nat):((shC n d).toArray).extract 0 8=(wdC n).toArray:=by
 simp only[List.extract_toArray,List.extract_eq_take_drop]
 rw[show(8 - 0)=8 from rfl,gU]
theorem Nd (n d:Nat):((shC n d).toArray).extract 8 16=(wdC d).toArray:=by
 simp only[List.extract_toArray,List.extract_eq_take_drop]
 rw[show(16 - 8)=8 from rfl,iT]
theorem vP {n m:Nat} (hn:n<W8) (hm:m<W8) (k:Nat):ar prog (Op.equalIn (k+2) 30 (.agg (wdC n).toArray) (.agg (wdC m).toArray))=some (decide (n=m)):=by
 rw[lU,lU,nf u30 u28 yz _ _ _ (by simp) (by simp),AP hn hm]
theorem wI {n d n' d':Nat} (h1:n<W8) (h2:d<W8) (h3:n'<W8) (h4:d'<W8) (k:Nat):ar prog (Op.equalIn (k+3) 32 (.agg (shC n d).toArray) (.agg (shC n' d').toArray))=some (decide (n=n'∧d=d')):=by
 unfold Op.equalIn
 rw[bm (cB (show Program.underlying prog 32=some (.struct { toList:=[{ name := "N",type:=30,offset:=0,embedded:=false,tag := "",pkgPath := "",byteOffset:=0 },{ name := "D",type:=30,offset:=8,embedded:=false,tag := "",pkgPath := "",byteOffset:=64 }] }) by kernel_rfl))]
 simp only
 rw[bm EN,show Program.stoodInHeld prog 32=false by kernel_rfl]
 have seq : ∀{α β:Type} (s:Sem α) (f:α→Sem β),ar prog (s >>= f)=(ar prog s).bind fun a=>ar prog (f a):=fun s f=>cp _ f s
 have p1:=fun(n d:Nat)=>uw (P:=prog) OA JP (shC n d).toArray 0
 have p2:=fun(n d:Nat)=>uw (P:=prog) OA JP (shC n d).toArray 8
 have n1:("N" ≠ "_")=True:=by simp
 have n2:("D" ≠ "_")=True:=by simp
 simp only[Bool.false_eq_true,if_false,←Array.forIn_toList,List.forIn_cons,List.forIn_nil,seq,n1,n2,if_true,p1,Option.bind_some,Nat.zero_add,Nf,vP h1 h3]
 by_cases e1:n=n'
 ·simp only[decide_eq_true e1,Bool.not_true,Bool.false_eq_true,if_false,pA,Option.bind_some,seq,p2,show(8+8:Nat)=16 from rfl,Nd,vP h2 h4]
  by_cases e2:d=d'
  ·simp only[decide_eq_true e2,Bool.not_true,Bool.false_eq_true,if_false,pA,Option.bind_some]
   rw[decide_eq_true (And.intro e1 e2)]
  ·simp only[decide_eq_false e2,Bool.not_false,if_true,pA,Option.bind_some]
   rw[decide_eq_false (fun h=>e2 h.2)]
 ·simp only[decide_eq_false e1,Bool.not_false,if_true,pA,Option.bind_some]
  rw[decide_eq_false (fun h=>e1 h.1)]
theorem rP (n d:Nat):plain (.agg (shC n d).toArray)=true:=by
 simp only[plain,shC,wdC]
 simp[bP]
theorem Ka {n d n' d':Nat} (h1:n<W8) (h2:d<W8) (h3:n'<W8) (h4:d'<W8) (ox oy:Operand):binop prog .eql 32 ox oy (.agg (shC n d).toArray) (.agg (shC n' d').toArray)=some (.bool (decide (n=n'∧d=d'))):=by
 exact qv (by kernel_rfl) (rP _ _) (rP _ _) (wI h1 h2 h3 h4 9997) ox oy
theorem J9 {n d n' d':Nat} (h1:n<W8) (h2:d<W8) (h3:n'<W8) (h4:d'<W8) (ox oy:Operand):binop prog .neq 32 ox oy (.agg (shC n d).toArray) (.agg (shC n' d').toArray)=some (.bool (!decide (n=n'∧d=d'))):=by
 exact yV (by kernel_rfl) (rP _ _) (rP _ _) (wI h1 h2 h3 h4 9997) ox oy
end Go.Id

namespace Go.Id
open Go
end Go.Id

namespace Go.Id
open Go
end Go.Id

namespace Go.Id
open Go
end Go.Id

namespace Go.Id
open Go
end Go.Id

namespace Go.Id
open Go
open Go.Proofs.Tryz (prog)
open Nat renaming reduceAdd→zA,reduceEqDiff→zE,reduceLeDiff→zL
set_option maxHeartbeats 16000000
theorem P6 {h:IH} {v:Value} {z:Int} (hv:aZ h v z):WV prog (.func (.func 238) #[] #[]) [v] h fun r h'=>Ext h h'∧r=.bool (decide (z=1)):=by
 obtain⟨s,rfl,ds,hD,hN,hx⟩:=hv
 have E1:Ext h (h.new (.cells [.bool (decide (z<0)),s] 0 none)):=(Ext.refl h).new _
 refine enter (nt:=19) (rs:=[.tmp 2]) Proofs.Tryz.func238 rfl rfl rfl (by simp) ?_
 by_cases h1:ds.length=1
 ·obtain⟨x,rfl⟩:=List.length_eq_one_iff.1 h1
  have hv:au [x]=x:=by simp[au,az]
  rw[hv] at hx
  have ib:indexAddr prog 25 s (.int .i64 0)=some (aK s 0):=by
   simpa using hD.1.RY (P:=prog) (t:=25) fc (k:=.i64) (i:=0) (by omega) (by simp)
  have l0:load prog (h.new (.cells [.bool (decide (z<0)),s] 0 none)) 3 (aK s 0)=some (KN x):=hD.1.ld E1.ab (P:=prog) (t:=3) (c:=0) (by simp) ag3
  have hl:=fun h'=>hD.1.len (P:=prog) cW h'
  have hl' : ∀h',nT prog h' 25 s=some (.int .i64 1):=fun h'=>hl h'
  by_cases hx1:x=1
  ·subst hx1
   have l0':load prog (h.new (.cells [.bool (decide (z<0)),s] 0 none)) 3 (aK s 0)=some (KI 1):=l0
   simp -dsimp (disch:=try exact dx) only[wpS,wpT,zE,eP,fQ,dF,ld4,hl',ib,l0']
   refine⟨E1,congrArg Value.bool ?_⟩
   by_cases h0:z<0
   ·rw[decide_eq_true h0,decide_eq_false (by omega)];rfl
   ·rw[decide_eq_false h0,decide_eq_true (by omega)];rfl
  ·have c1:((x:Int) == 1)=false:=by simp;omega
   simp -dsimp (disch:=try exact dx) only[wpS,wpT,zE,eP,fQ,hl',ib,l0,c1]
   exact⟨E1,by rw[decide_eq_false (by omega)]⟩
 ·have c1:((ds.length:Int) == 1)=false:=by simp;omega
  simp -dsimp (disch:=try exact dx) only[wpS,wpT,zE,eP,fQ,hD.1.len cW,c1]
  refine⟨E1,?_⟩
  rw[decide_eq_false]
  rintro rfl
  have h2:au ds=1:=hx
  have h3:=hN.lH (b:=[1]) (by intro d hd;simp at hd;omega) (by rw[h2];simp[au,az])
  have h4:=hN.jM
  rcases Nat.lt_or_ge 0 ds.length with h5|h5
  ·simp at h3;omega
  ·have:ds = []:=List.length_eq_zero_iff.1 (by omega)
   rw[this] at h2;simp[au,az] at h2
theorem CN {h:IH} (n d:Nat) (hn:n<W8) (hd:d<W8):WV prog (.func (.func 164) #[] #[]) [shV n d] h fun r h'=>Ext h h'∧r=.bool (decide (okS n d)):=by
 refine enter (nt:=26) (rs:=[.tmp 2]) Proofs.Tryz.func164 rfl rfl rfl (by simp) ?_
 simp -dsimp (disch:=try exact dx) only[wpS,aV]
 obtain⟨H0,hH0⟩ : ∃H0,H0=h.new (.cells (shC n d) 0 none):=⟨_,rfl⟩
 have E0:Ext h H0:=by rw[hH0];exact(Ext.refl h).new _
 have n0:H0.n=h.n+1:=by rw[hH0];rfl
 have g0:H0.ext.get h.n=some (.cells (shC n d) 0 none):=by rw[hH0];simp (disch:=try exact dx) only[aa]
 rw[←hH0]
 clear hH0
 have X0:=Ext.refl H0
 obtain⟨L1,L2,_⟩:=psh g0
 refine drawn [(4,[2])] (by kernel_rfl) (by kernel_rfl) rfl ?_
 simp -dsimp (disch:=try exact dx) only[wpS,zE,zL,qW,ba,ai g0,aH,gU]
 refine call (GU n hn) ?_
 rintro _ h1 ⟨X1,p1⟩
 have m1:=X1.n
 simp -dsimp (disch:=try exact dx) only[wpS,zE,zL,zA,ba,qV,ai (X1.kept (by omega) g0),aH,iT]
 refine call (GU d hd) ?_
 rintro _ h2 ⟨X2,p2⟩
 have m2:=X2.n
 have X12:=X1.trans X2
 obtain⟨s1,n1',rfl,c1,o1,_,_⟩:=p1.form
 obtain⟨s2,n2',rfl,c2,o2,RM,zD⟩:=p2.form
 simp -dsimp (disch:=try exact dx) only[wpS,wpT,zE,zL,zA,kD,fW,o1,o2]
 refine⟨by repeat' first|refine aN ?_ ?_|refine aI ?_ ?_|exact ak rfl rfl rfl rfl (aJ (H0:=H0) rfl (by omega) (by assumption) (by assumption) (by with_reducible assumption)),?_⟩
 obtain⟨K0,hK0⟩ : ∃K0,K0=((((h2.new (.cells ZL 0 none)).new (.cells ZL 0 none)).put h2.n (.cells [.bool (decide (wdI n<0)),s1] 0 none)).put (h2.n+1) (.cells [.bool (decide (wdI d<0)),s2] 0 none)):=⟨_,rfl⟩
 have e3:Ext h2 K0:=by rw[hK0];exact((((Ext.refl _).new _).new _).put (Nat.le_refl _) _).put (by omega) _
 have n3:K0.n=h2.n+2:=by rw[hK0];rfl
 have ga:K0.ext.get h2.n=some (.cells [.bool (decide (wdI n<0)),s1] 0 none):=by rw[hK0];simp (disch:=try exact dx) only[ad,ae]
 have gb:K0.ext.get (h2.n+1)=some (.cells [.bool (decide (wdI d<0)),s2] 0 none):=by rw[hK0];simp (disch:=try exact dx) only[ad]
 simp -dsimp (disch:=try exact dx) only[wpS,wpT,zE,zA,dF,ld4]
 rw[←hK0]
 clear hK0
 have q1:=p1.ab (X2.trans e3).ab
 have q2:=p2.ab e3.ab
 have E3:=(E0.trans X12).trans e3
 by_cases Du:wdI d<0
 ·have cn:decide (wdI d<0)=true:=decide_eq_true Du
  rw[cn] at gb
  simp -dsimp (disch:=try exact dx) only[wpS,wpT,zE]
  exact⟨E3,by rw[decide_eq_false (fun h=>by have:=h.1;omega)]⟩
 ·have cn:decide (wdI d<0)=false:=decide_eq_false Du
  rw[cn] at gb q2
  by_cases hz:wdI d=0
  ·have c0:decide ((0:Int)<(n2':Int))=false:=decide_eq_false (by have:=zD.2 hz;omega)
   simp -dsimp (disch:=try exact dx) only[wpS,wpT,zE,eP,fQ,ai gb,RM cW,c0]
   exact⟨E3,by rw[decide_eq_false (fun h=>by have:=h.1;omega)]⟩
  ·have c0:decide ((0:Int)<(n2':Int))=true:=decide_eq_true (by
    have:n2'≠0:=fun h=>hz (zD.1 h)
    omega)
   simp -dsimp (disch:=try exact dx) only[wpS,wpT,zE,zL,zA,eP,fQ,bZ,ai ga,ai gb,RM cW,c0,yy]
   refine call (xR q1 q2 (iD hn) (iD hd)) ?_
   rintro g h4 ⟨X4,hg⟩
   simp -dsimp (disch:=try exact dx) only[wpS,wpT,zE]
   refine call (P6 hg) ?_
   rintro _ h5 ⟨X5,rfl⟩
   simp -dsimp (disch:=try exact dx) only[wpS,zE]
   refine⟨(E3.trans X4).trans X5,congrArg Value.bool ?_⟩
   rw[decide_eq_decide]
   unfold okS
   constructor
   ·intro h;exact⟨by omega,by omega⟩
   ·rintro⟨_,h⟩;omega
end Go.Id

namespace Go.Id
open Go
end Go.Id

namespace Go.Id
open Go
end Go.Id

namespace Go.Id
open Go
end Go.Id

namespace Go.Id
open Go
end Go.Id

namespace Go.Proofs.YtnanhedgenokpaaGreat
open Go.ChangeShapes Go.WideShapes Go.ChangeAt Go.RowKit Go.Id
theorem Rk:Tryz.prog.underlying 28=some (.int .u64):=by kernel_rfl
theorem SV:Tryz.prog.cellsOf 28=1:=by kernel_rfl
theorem wf_i64 {x:Int} (h:(Lit.int .i64 x).wf=true):dH x:=by
 simp only[Lit.wf,Bool.and_eq_true,decide_eq_true_eq] at h
 have h1:(-9223372036854775808:Int)≤x:=h.1
 have h2:x≤(9223372036854775807:Int):=h.2
 exact⟨h1,by omega⟩
section
variable {H:Type} {enc:TypeId×Value→H} {W:World} {base:Nat} {sp:Nat→Bool} {held:Bool}
end
theorem Rl:Tryz.prog.underlying 3=some (.int .i64):=by kernel_rfl
theorem Rj:Tryz.prog.underlying 5=some (.int .u8):=by kernel_rfl
section
variable {H:Type} {enc:TypeId×Value→H} {W:World} {held:Bool}
end
end Go.Proofs.YtnanhedgenokpaaGreat

namespace Go.Id
open Go
open Go.Proofs.Tryz (prog)
open Nat renaming reduceAdd→zA,reduceEqDiff→zE
theorem Bl {h:IH} {v fv:Value} {a:List Int} (p:Int→Bool) (ha:ko h 1 v a.length (a.map KI)) (la:a.length≤1000000000) (hp : ∀x∈a,WV prog fv [KI x] h fun r h'=>h'=h∧r=.bool (p x)) :
  WV prog (.func (.func 221) #[] #[]) [v,fv] h fun r h'=>h'=h ∧ ∃c:Int,r=KI c∧(0≤c↔a.any p=true):=by
 refine enter (nt:=19) (rs:=[.tmp 4]) Proofs.Tryz.func221 rfl rfl rfl (by simp) ?_
 simp -dsimp (disch:=try exact dx) only[wpS,zE,zA,ha.len cW]
 refine loop (fun m fr h1=>h1=h ∧ ∃i:Nat,i+m=a.length∧ah fr 0=some v∧ah fr 1=some fv∧ah fr 7=some (KI a.length)∧ah fr 8=some (KI i)∧a.any p=(a.drop i).any p) a.length ⟨rfl,0,by simp,by simp,by simp,by simp,by simp,by simp⟩ ?_
 rintro m fr h1 ⟨rfl,i,him,f0,f1,f7,f8,hz⟩
 simp -dsimp (disch:=try exact dx) only[wpS,f7,f8]
 refine ax ?_ ?_<;>intro hc2<;>simp only[decide_eq_true_eq,decide_eq_false_iff_not] at hc2
 ·have hi:i<a.length:=by omega
  obtain⟨x,hx⟩ : ∃x,a[i]?=some x:=⟨a[i],List.getElem?_eq_getElem hi⟩
  simp -dsimp (disch:=try exact dx) only[wpS,wpT,zE,f0,f1,f8,ha.idx fc hi,ha.ld (P:=prog) (t:=3) (c:=i) (by simpa using hi) ag3,List.getElem?_map,hx]
  refine call (hp x (List.mem_of_getElem? hx)) ?_
  rintro _ _ ⟨rfl,rfl⟩
  have ea:a.drop i=x :: a.drop (i+1):=by
   have h1:=List.getElem?_eq_some_iff.1 hx
   rw[←h1.2,List.getElem_cons_drop_succ_eq_drop]
  rw[ea,List.any_cons] at hz
  simp -dsimp (disch:=try exact dx) only[wpS,zE]
  refine ax ?_ ?_<;>intro hc
  ·simp -dsimp (disch:=try exact dx) only[wpS,wpT,zE]
   exact⟨_,rfl,by rw[hz,hc];simp⟩
  ·simp -dsimp (disch:=try exact dx) only[wpS,zE,f8]
   rw[hc,Bool.false_or] at hz
   exact⟨m - 1,by omega,rfl,i+1,by omega,by simp[f0],by simp[f1],by simp[f7],by simp,hz⟩
 ·simp -dsimp (disch:=try exact dx) only[wpS,wpT]
  exact⟨_,rfl,by rw[hz,List.drop_of_length_le (by omega)];simp⟩
theorem vd {h:IH} {v fv:Value} {a:List Int} (p:Int→Bool) (ha:ko h 1 v a.length (a.map KI)) (la:a.length≤1000000000) (hp : ∀x∈a,WV prog fv [KI x] h fun r h'=>h'=h∧r=.bool (p x)) :
  WV prog (.func (.func 141) #[] #[]) [v,fv] h fun r h'=>h'=h∧r=.bool (a.any p):=by
 refine enter (nt:=9) (rs:=[.tmp 4]) Proofs.Tryz.func141 rfl rfl rfl (by simp) ?_
 simp -dsimp (disch:=try exact dx) only[wpS,zE,zA]
 refine call (Bl p ha la hp) ?_
 rintro _ _ ⟨rfl,c,rfl,hc⟩
 simp -dsimp (disch:=try exact dx) only[wpS,wpT,zE]
 cases hb:a.any p
 ·rw[hb] at hc
  simp at hc
  simp;exact hc
 ·rw[hb] at hc
  simp at hc
  simp;exact hc
end Go.Id
