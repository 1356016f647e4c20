/-
  Contracts: the reference's fractions: sums, differences, products, quotients, order.
-/
import Derived.Test.YtnnmjocmapilaaaGreatOutlierOddsAo
set_option linter.unusedVariables false
set_option linter.unusedSimpArgs false
set_option linter.defProp false
set_option linter.deprecated false
namespace Go.Id
open Go
open Go renaming Operand→QY,Program→QX,TypeId→QZ,Value→QQ
open Nat renaming reduceAdd→zA,reduceEqDiff→zE,reduceLeDiff→zL
open Nat (reduceMul)
set_option maxHeartbeats 16000000
open Go.Proofs.Tryz (prog)
variable {h:IH}{v:QQ}
def fX.parts {q:Rat} (p:fX h v q) : ∃a s b t,v=.agg #[a,s,b,t]∧bU h (.agg #[a,s]) q.num∧bU h (.agg #[b,t]) q.den∧s.cells = #[s]∧aM s=true∧t.cells = #[t]∧aM t=true∧aM a=true∧aM b=true:=by obtain⟨a,s,b,t,rfl,h1,h2⟩:=p;obtain⟨rfl,c1,o1⟩:=h1.co;obtain⟨rfl,c2,o2⟩:=h2.co;exact⟨_,s,_,t,rfl,h1,h2,c1,o1,c2,o2,rfl,rfl⟩
variable {s:QQ}{k:Nat}{H:IH}
def ql4 {a b t:QQ} (g:H.ext.get k=some (.cells [a,s,b,t] 0 none)):load prog H 175 (ptr (2*k) 0)=some (.agg #[a,s])∧load prog H 175 (ptr (2*k) 2)=some (.agg #[b,t])∧load prog H 177 (ptr (2*k) 0)=some (.agg #[a,s,b,t]):=by
 have r:=aw g;refine⟨?_,?_,?_⟩;·simp -dsimp (disch:=omega) only[wpS,wpT,zL,zA,de,r];rfl
 ·simp -dsimp (disch:=omega) only[wpS,wpT,zL,zA,de,r]
  rfl
 ·rw[hZ FI yZ,zq r];rfl
def ql2 {a:QQ} (g:H.ext.get k=some (.cells [a,s] 0 none)):load prog H 175 (ptr (2*k) 0)=some (.agg #[a,s]):=by have r:=aw g;simp -dsimp (disch:=omega) only[wpS,wpT,zL,zA,de,r];rfl
variable {w:QQ}{y x:Rat}{a b:Nat}
def sL (hv:fX h v x) (hw:fX h w y) (qx:QB a x) (qy:QB b y) (hk:a+b+1<16000000) :WV prog (.func (.func 168) #[] #[]) [v,w] h fun r h'=>Ext h h'∧fX h' r (x+y):=by obtain⟨a1,s1,b1,t1,rfl,hn1,hd1,c1,o1,c2,o2,o3,o4⟩:=hv.parts;obtain⟨a2,s2,b2,t2,rfl,hn2,hd2,c5,o5,c6,o6,o7,o8⟩:=hw.parts;refine enter (nt:=22) (rs:=[.cell 4 177]) Proofs.Tryz.func168 rfl rfl rfl aa ?_;simp -dsimp (disch:=omega) only[wpS,zE,zA,jF];obtain⟨H0,hH0,n0,E0,g0,g1,g2⟩:=kK h [a1,s1,b1,t1] [a2,s2,b2,t2] ZR;rw[←hH0];clear hH0;have X0:=Ext.refl H0;obtain⟨L1,L2,_⟩:=ql4 g0;obtain⟨L3,L4,_⟩:=ql4 g1;refine drawn [(6,[4]),(8,[4]),(12,[4,9,10]),(14,[4,9,10])] ab ab rfl ?_;simp -dsimp (disch:=omega) only[wpS,wpT,zE,zL,zA,j0,de,og,aw g0,aw g1,tkA,tkB];refine call (mD (hn1.ae E0.ae) (hd2.ae E0.ae) (bB qx.1 byOmega) (bB qy.gM byOmega)) ?_;rintro r1 h1 ⟨X1,p1⟩;have m1:=X1.n;simp -dsimp (disch:=omega) only[wpS,wpT,zE,zL,zA,j0,de,og,aw (X1.kept byOmega g0),aw (X1.kept byOmega g1),tkA,tkB];refine call (mD (hn2.ae (E0.trans X1).ae) (hd1.ae (E0.trans X1).ae) (bB qy.1 byOmega) (bB qx.gM byOmega)) ?_;rintro r2 h2 ⟨hE2,p2⟩;have m2:=hE2.n;have X2:=X1.trans hE2;simp -dsimp (disch:=omega) only[wpS,zE];have b1':=dc qx.1 qy.gM;have b2':=dc qy.1 qx.gM;have b3':=qx.Zeo qy;have b4':=dc qx.gM qy.gM;have sb1:bE (x.num*y.den):=bV b1' byOmega;have sb2:bE (y.num*x.den):=bV b2' byOmega;have sb3:bE (x.num*y.den+y.num*x.den):=bV b3' hk;have sb4:bE ((x.den:Int)*y.den):=bV b4' byOmega;refine call (zB (p1.ae hE2.ae) p2 sb1 sb2) ?_;rintro r3 h3 ⟨hE3,p3⟩;have m3:=hE3.n;have X3:=X2.trans hE3;simp -dsimp (disch:=omega) only[wpS,wpT,zE,zL,zA,de,og,aw (X3.kept byOmega g0),aw (X3.kept byOmega g1),tkB];refine call (mD (hd1.ae (E0.trans X3).ae) (hd2.ae (E0.trans X3).ae) (bB qx.gM byOmega) (bB qy.gM byOmega)) ?_;rintro r4 h4 ⟨hE4,p4⟩;have m4:=hE4.n;have X4:=X3.trans hE4;simp -dsimp (disch:=omega) only[wpS,zE];refine call (nw (p3.ae hE4.ae) p4 sb3 sb4 (HQ x y)) ?_;rintro r5 h5 ⟨hE5,p5⟩;have m5:=hE5.n;have X5:=X4.trans hE5;rw[←zw] at p5;obtain⟨a3,s3,b3,t3,rfl,_,_,d1,o1,d2,o2,o3,o4⟩:=p5.parts;have kg:=X5.kept byOmega g2;simp -dsimp (disch:=omega) only[wpS,wpT,zE,zL,zA,fS,kg,o1,o2,o3,o4];refine⟨by repeat' first|refine aB ?_ ?_|refine aA ?_ ?_|exact ai rfl rfl rfl rfl (aO (H0:=H0) rfl byOmega aG aG cS),?_⟩;simp -dsimp (disch:=omega) only[wpS,wpT,zE,zL,zA,fU,fm];exact⟨(E0.trans X5).put byOmega _,p5.ae ((aX.refl _).put kg _)⟩
def sK (hv:fX h v x) (hw:fX h w y) (qx:QB a x) (qy:QB b y) (hk:a+b<16000000) :WV prog (.func (.func 166) #[] #[]) [v,w] h fun r h'=>Ext h h'∧fX h' r (x*y):=by obtain⟨a1,s1,b1,t1,rfl,hn1,hd1,c1,o1,c2,o2,o3,o4⟩:=hv.parts;obtain⟨a2,s2,b2,t2,rfl,hn2,hd2,c5,o5,c6,o6,o7,o8⟩:=hw.parts;refine enter (nt:=16) (rs:=[.cell 4 177]) Proofs.Tryz.func166 rfl rfl rfl aa ?_;simp -dsimp (disch:=omega) only[wpS,zE,zA,jF];obtain⟨H0,hH0,n0,E0,g0,g1,g2⟩:=kK h [a1,s1,b1,t1] [a2,s2,b2,t2] ZR;rw[←hH0];clear hH0;have X0:=Ext.refl H0;obtain⟨L1,L2,_⟩:=ql4 g0;obtain⟨L3,L4,_⟩:=ql4 g1;have sb1:bE (x.num*y.num):=bV (dc qx.1 qy.1) hk;have sb2:bE ((x.den:Int)*y.den):=bV (dc qx.gM qy.gM) hk;refine drawn [(6,[4]),(8,[4])] ab ab rfl ?_;simp -dsimp (disch:=omega) only[wpS,wpT,zE,zL,zA,j0,de,aw g0,aw g1,tkA];refine call (mD (hn1.ae E0.ae) (hn2.ae E0.ae) (bB qx.1 byOmega) (bB qy.1 byOmega)) ?_;rintro r1 h1 ⟨X1,p1⟩;have m1:=X1.n;simp -dsimp (disch:=omega) only[wpS,wpT,zE,zL,zA,de,og,aw (X1.kept byOmega g0),aw (X1.kept byOmega g1),tkB];refine call (mD (hd1.ae (E0.trans X1).ae) (hd2.ae (E0.trans X1).ae) (bB qx.gM byOmega) (bB qy.gM byOmega)) ?_;rintro r2 h2 ⟨hE2,p2⟩;have m2:=hE2.n;have X2:=X1.trans hE2;simp -dsimp (disch:=omega) only[wpS,zE];refine call (nw (p1.ae hE2.ae) p2 sb1 sb2 (HQ x y)) ?_;rintro r5 h5 ⟨hE5,p5⟩;have m5:=hE5.n;have X5:=X2.trans hE5;rw[←Ct] at p5;obtain⟨a3,s3,b3,t3,rfl,_,_,d1,o1,d2,o2,o3,o4⟩:=p5.parts;have kg:=X5.kept byOmega g2;simp -dsimp (disch:=omega) only[wpS,wpT,zE,zL,zA,fS,kg,o1,o2,o3,o4];refine⟨by repeat' first|refine aB ?_ ?_|refine aA ?_ ?_|exact ai rfl rfl rfl rfl (aO (H0:=H0) rfl byOmega aG aG cS),?_⟩;simp -dsimp (disch:=omega) only[wpS,wpT,zE,zL,zA,fU,fm];exact⟨(E0.trans X5).put byOmega _,p5.ae ((aX.refl _).put kg _)⟩
def V0 (hv:fX h v x) (hw:fX h w y) (qx:QB a x) (qy:QB b y) (hk:a+b<16000000) (y0:y≠0) :WV prog (.func (.func 165) #[] #[]) [v,w] h fun r h'=>Ext h h'∧fX h' r (x / y):=by obtain⟨a1,s1,b1,t1,rfl,hn1,hd1,c1,o1,c2,o2,o3,o4⟩:=hv.parts;obtain⟨a2,s2,b2,t2,rfl,hn2,hd2,c5,o5,c6,o6,o7,o8⟩:=hw.parts;refine enter (nt:=16) (rs:=[.cell 4 177]) Proofs.Tryz.func165 rfl rfl rfl aa ?_;simp -dsimp (disch:=omega) only[wpS,zE,zA,jF];obtain⟨H0,hH0,n0,E0,g0,g1,g2⟩:=kK h [a1,s1,b1,t1] [a2,s2,b2,t2] ZR;rw[←hH0];clear hH0;have X0:=Ext.refl H0;obtain⟨L1,L2,_⟩:=ql4 g0;obtain⟨L3,L4,_⟩:=ql4 g1;have sb1:bE (x.num*y.den):=bV (dc qx.1 qy.gM) hk;have sb2:bE ((x.den:Int)*y.num):=bV (dc qx.gM qy.1) hk;refine drawn [(6,[4]),(8,[4])] ab ab rfl ?_;simp -dsimp (disch:=omega) only[wpS,wpT,zE,zL,zA,j0,de,og,aw g0,aw g1,tkA,tkB];refine call (mD (hn1.ae E0.ae) (hd2.ae E0.ae) (bB qx.1 byOmega) (bB qy.gM byOmega)) ?_;rintro r1 h1 ⟨X1,p1⟩;have m1:=X1.n;simp -dsimp (disch:=omega) only[wpS,wpT,zE,zL,zA,j0,de,og,aw (X1.kept byOmega g0),aw (X1.kept byOmega g1),tkA,tkB];refine call (mD (hd1.ae (E0.trans X1).ae) (hn2.ae (E0.trans X1).ae) (bB qx.gM byOmega) (bB qy.1 byOmega)) ?_;rintro r2 h2 ⟨hE2,p2⟩;have m2:=hE2.n;have X2:=X1.trans hE2;simp -dsimp (disch:=omega) only[wpS,zE];refine call (nw (p1.ae hE2.ae) p2 sb1 sb2 (Int.mul_ne_zero (Fh x) (O9 y0))) ?_;rintro r5 h5 ⟨hE5,p5⟩;have m5:=hE5.n;have X5:=X2.trans hE5;rw[←zu] at p5;obtain⟨a3,s3,b3,t3,rfl,_,_,d1,o1,d2,o2,o3,o4⟩:=p5.parts;have kg:=X5.kept byOmega g2;simp -dsimp (disch:=omega) only[wpS,wpT,zE,zL,zA,fS,kg,o1,o2,o3,o4];refine⟨by repeat' first|refine aB ?_ ?_|refine aA ?_ ?_|exact ai rfl rfl rfl rfl (aO (H0:=H0) rfl byOmega aG aG cS),?_⟩;simp -dsimp (disch:=omega) only[wpS,wpT,zE,zL,zA,fU,fm];exact⟨(E0.trans X5).put byOmega _,p5.ae ((aX.refl _).put kg _)⟩
theorem ZN (x y:Rat):(if x.num*y.den<y.num*x.den then (-1:Int) else if y.num*x.den<x.num*y.den then 1 else 0)=if x<y then -1 else if x=y then 0 else 1:=by
 simp only[Rat.lt_iff,Rat.eq_iff_mul_eq_mul];split;·rfl
 ·split<;>split<;>first|rfl|omega
def nz (hv:fX h v x) (hw:fX h w y) (qx:QB a x) (qy:QB b y) (hk:a+b<16000000) :WV prog (.func (.func 167) #[] #[]) [v,w] h fun r h'=>Ext h h'∧r=KI (if x<y then -1 else if x=y then 0 else 1):=by obtain⟨a1,s1,b1,t1,rfl,hn1,hd1,c1,o1,c2,o2,o3,o4⟩:=hv.parts;obtain⟨a2,s2,b2,t2,rfl,hn2,hd2,c5,o5,c6,o6,o7,o8⟩:=hw.parts;refine enter (nt:=16) (rs:=[.tmp 4]) Proofs.Tryz.func167 rfl rfl rfl aa ?_;simp -dsimp (disch:=omega) only[wpS,zE,zA];obtain⟨H0,hH0,n0,E0,g0,g1⟩:=gN h [a1,s1,b1,t1] [a2,s2,b2,t2];rw[←hH0];clear hH0;have X0:=Ext.refl H0;obtain⟨L1,L2,_⟩:=ql4 g0;obtain⟨L3,L4,_⟩:=ql4 g1;have sb1:bE (x.num*y.den):=bV (dc qx.1 qy.gM) hk;have sb2:bE (y.num*x.den):=bV (by rw[xW];exact dc qy.1 qx.gM) hk;refine drawn [(6,[4]),(8,[4])] ab ab rfl ?_;simp -dsimp (disch:=omega) only[wpS,wpT,zE,zL,zA,j0,de,og,aw g0,aw g1,tkA,tkB];refine call (mD (hn1.ae E0.ae) (hd2.ae E0.ae) (bB qx.1 byOmega) (bB qy.gM byOmega)) ?_;rintro r1 h1 ⟨X1,p1⟩;have m1:=X1.n;simp -dsimp (disch:=omega) only[wpS,wpT,zE,zL,zA,j0,de,og,aw (X1.kept byOmega g0),aw (X1.kept byOmega g1),tkA,tkB];refine call (mD (hn2.ae (E0.trans X1).ae) (hd1.ae (E0.trans X1).ae) (bB qy.1 byOmega) (bB qx.gM byOmega)) ?_;rintro r2 h2 ⟨hE2,p2⟩;have m2:=hE2.n;have X2:=X1.trans hE2;simp -dsimp (disch:=omega) only[wpS,zE];refine call (Hi (p1.ae hE2.ae) p2 sb1 sb2) ?_;rintro _ h5 ⟨hE5,rfl⟩;have X5:=X2.trans hE5;rw[ZN];simp -dsimp (disch:=omega) only[wpS,zE];refine⟨by repeat' first|refine aB ?_ ?_|refine aA ?_ ?_|exact ai rfl rfl rfl rfl (aO (H0:=H0) rfl byOmega aG aG cS),?_⟩;simp -dsimp (disch:=omega) only[wpS,wpT,zE,zA];exact E0.trans X5
def VY (hv:fX h v x) :WV prog (.func (.func 227) #[] #[]) [v] h fun r h'=>Ext h h'∧fX h' r (-x):=by obtain⟨a1,s1,b1,t1,rfl,hn1,hd1,c1,o1,c2,o2,o3,o4⟩:=hv.parts;refine enter (nt:=9) (rs:=[.cell 2 177]) Proofs.Tryz.func227 rfl rfl rfl aa ?_;simp -dsimp (disch:=omega) only[wpS,jF];obtain⟨H0,hH0,n0,E0,g0,g1⟩:=gN h [a1,s1,b1,t1] ZR;rw[←hH0];clear hH0;have X0:=Ext.refl H0;obtain⟨L1,L2,_⟩:=ql4 g0;refine drawn [(4,[2])] ab ab rfl ?_;simp -dsimp (disch:=omega) only[wpS,wpT,zE,zL,zA,j0,de,aw g0,tkA];refine call (IZ (hn1.ae E0.ae)) ?_;rintro r1 h1 ⟨X1,p1⟩;have m1:=X1.n;obtain⟨s3,rfl,c5,o5⟩:=p1.dJ;have kg:=X1.kept byOmega g1;simp -dsimp (disch:=omega) only[wpS,wpT,zE,zL,zA,de,og,Sc,Cv,Cu,fS,aw (X1.kept byOmega g0),kg,tkB,o5,o2,o4];refine⟨by repeat' first|refine aB ?_ ?_|refine aA ?_ ?_|exact ai rfl rfl rfl rfl (aO (H0:=H0) rfl byOmega aG aG cS),?_⟩;simp -dsimp (disch:=omega) only[wpS,wpT,zE,zL,zA,fU,fm];have kp:=(aX.refl h1).put kg (.cells [.bool (decide (-x.num<0)),s3,b1,t1] 0 none);exact⟨(E0.trans X1).put byOmega _,_,_,_,_,rfl,p1.ae kp,hd1.ae ((E0.trans X1).ae.trans kp)⟩
def Ti (hv:fX h v x) (hw:fX h w y) (qx:QB a x) (qy:QB b y) (hk:a+b+1<16000000) :WV prog (.func (.func 169) #[] #[]) [v,w] h fun r h'=>Ext h h'∧fX h' r (x - y):=by obtain⟨a1,s1,b1,t1,rfl,hn1,hd1,c1,o1,c2,o2,o3,o4⟩:=hv.parts;obtain⟨a2,s2,b2,t2,rfl,hn2,hd2,c5,o5,c6,o6,o7,o8⟩:=hw.parts;refine enter (nt:=9) (rs:=[.cell 4 177]) Proofs.Tryz.func169 rfl rfl rfl aa ?_;simp -dsimp (disch:=omega) only[wpS,zE,zA,jF];obtain⟨H0,hH0,n0,E0,g0,g1,g2⟩:=kK h [a1,s1,b1,t1] [a2,s2,b2,t2] ZR;rw[←hH0];clear hH0;have X0:=Ext.refl H0;obtain⟨_,_,L1⟩:=ql4 g0;obtain⟨_,_,L2⟩:=ql4 g1;refine drawn [(0,[3])] ab ab rfl ?_;simp -dsimp (disch:=omega) only[wpS,wpT,zE,zL,zA,fU,aw g0,aw g1,fm];refine call (VY (hw.ae E0.ae)) ?_;rintro r1 h1 ⟨X1,p1⟩;have m1:=X1.n;simp -dsimp (disch:=omega) only[wpS,zE];refine call (sL (hv.ae (E0.trans X1).ae) p1 qx qy.neg hk) ?_;rintro r2 h2 ⟨hE2,p2⟩;have X2:=X1.trans hE2;have m2:=hE2.n;rw[←Rat.sub_eq_add_neg] at p2;obtain⟨a3,s3,b3,t3,rfl,_,_,d1,o1,d2,o2,o3,o4⟩:=p2.parts;have kg:=X2.kept byOmega g2;simp -dsimp (disch:=omega) only[wpS,wpT,zE,zL,zA,fS,kg,o1,o2,o3,o4];refine⟨by repeat' first|refine aB ?_ ?_|refine aA ?_ ?_|exact ai rfl rfl rfl rfl (aO (H0:=H0) rfl byOmega aG aG cS),?_⟩;simp -dsimp (disch:=omega) only[wpS,wpT,zE,zL,zA,fU,fm];exact⟨(E0.trans X2).put byOmega _,p2.ae ((aX.refl _).put kg _)⟩
variable {h:IH}
def lC (n d:Int) (hn:gV n) (hd:gV d) (d0:d≠0):WV prog (.func (.func 115) #[] #[]) [KI n,KI d] h fun r h'=>Ext h h'∧fX h' r (Rat.divInt n d):=by
 refine enter (nt:=10) (rs:=[.cell 4 177]) Proofs.Tryz.func115 rfl rfl rfl aa ?_;simp -dsimp (disch:=omega) only[wpS,zE,zA,jF];have E1:Ext h (h.new (.cells ZR 0 none)):=(Ext.refl h).new _;have g1:(h.new (.cells ZR 0 none)).ext.get h.n=some (.cells ZR 0 none):=by simp (disch:=omega) only[aq]
 refine call (qA n hn) ?_;rintro _ h1 ⟨X1,p1⟩;simp -dsimp (disch:=omega) only[wpS,zE];refine call (qA d hd) ?_;rintro _ h2 ⟨X2,p2⟩;simp -dsimp (disch:=omega) only[wpS,zE];have sn:bE n:=QE (by have:=hn.1;have:=hn.2;omega);have sd:bE d:=QE (by have:=hd.1;have:=hd.2;omega);refine call (nw (p1.ae X2.ae) p2 sn sd d0) ?_;rintro _ h3 ⟨X3,p3⟩;have m1:=X1.n;have m2:=X2.n;have m3:=X3.n;simp only[bj] at m1;obtain⟨a3,s3,b3,t3,rfl,_,_,d1,o1,d2,o2,o3,o4⟩:=p3.parts;have kg:=X3.kept byOmega (X2.kept byOmega (X1.kept aa g1));simp -dsimp (disch:=omega) only[wpS,wpT,zE,zL,zA,fS,fU,kg,o1,o2,o3,o4,fm];exact⟨(((E1.trans X1).trans X2).trans X3).put byOmega _,p3.ae ((aX.refl _).put kg _)⟩
variable {q:Rat}{v:Value}
def Qd (hv:fX h v q):WV prog (.func (.func 234) #[] #[]) [v] h fun r h'=>Ext h h'∧r=.bool (decide (q=0)):=by obtain⟨a1,s1,b1,t1,rfl,hn1,hd1,c1,o1,c2,o2,o3,o4⟩:=hv.parts;obtain⟨s,n,he,_,_,l1,z1⟩:=hn1.form;cases he;refine enter (nt:=8) (rs:=[.tmp 2]) Proofs.Tryz.func234 rfl rfl rfl aa ?_;simp -dsimp (disch:=omega) only[wpS,zE,j0,im,uQ,l1 jk];refine⟨(Ext.refl h).new _,?_⟩;congr 1;rw[show(((n:Nat):Int) == 0)=decide (n=0) by by_cases h0:n=0<;>simp[h0]];exact xN.2 (z1.trans Rat.num_eq_zero)
def lz (n d:Nat) (hn:n<W8) (hd:d<W8):WV prog (.func (.func 164) #[] #[]) [shV n d] h fun r h'=>Ext h h'∧xL h' r (wdI n) (wdI d):=by refine enter (nt:=10) (rs:=[.cell 2 177]) Proofs.Tryz.func164 rfl rfl rfl aa ?_;simp -dsimp (disch:=omega) only[wpS,jF,aU];obtain⟨H0,hH0,n0,E0,g0,g1⟩:=gN h (shC n d) ZR;rw[←hH0];clear hH0;have X0:=Ext.refl H0;obtain⟨L1,L2,_⟩:=psh g0;refine drawn [(4,[2])] ab ab rfl ?_;simp -dsimp (disch:=omega) only[wpS,zE,zL,PL,iO,aw g0,aC,vx];refine call (vX n hn) ?_;rintro r1 h1 ⟨X1,p1⟩;have m1:=X1.n;simp -dsimp (disch:=omega) only[wpS,zE,zL,zA,iO,PK,aw (X1.kept byOmega g0),aC,vv];refine call (vX d hd) ?_;rintro r2 h2 ⟨hE2,p2⟩;have m2:=hE2.n;have X2:=X1.trans hE2;obtain⟨s1,rfl,c1,o1⟩:=p1.dJ;obtain⟨s2,rfl,c2,o2⟩:=p2.dJ;have kg:=X2.kept byOmega g1;simp -dsimp (disch:=omega) only[wpS,wpT,zE,zL,zA,Sc,Cv,Cu,fS,kg,o1,o2];refine⟨by repeat' first|refine aB ?_ ?_|refine aA ?_ ?_|exact ai rfl rfl rfl rfl (aO (H0:=H0) rfl byOmega aG aG cS),?_⟩;simp -dsimp (disch:=try exact dx) only[wpS,wpT,zE,zL,zA,fU,fm];have kp:=(aX.refl h2).put kg (.cells [.bool (decide (wdI n<0)),s1,.bool (decide (wdI d<0)),s2] 0 none);exact⟨(E0.trans X2).put byOmega _,_,_,_,_,rfl,p1.ae (hE2.ae.trans kp),p2.ae kp⟩
def wP (hv:fX h v q):WV prog (.func (.func 114) #[] #[]) [v] h fun r h'=>Ext h h'∧r=(open Classical in if QW q then .tuple #[mG q,KI 0] else .tuple #[shV 0 0,KI 6]):=by
 obtain⟨a1,s1,b1,t1,rfl,hn1,hd1,c1,o1,c2,o2,o3,o4⟩:=hv.parts;refine enter (nt:=30) (rs:=[.cell 2 32,.tmp 3]) Proofs.Tryz.func114 rfl rfl rfl aa ?_;simp -dsimp (disch:=try exact dx) only[wpS,wpT,zE,zL,zA,lX,j0,de];obtain⟨H0,hH0,n0,E0,g0,g1⟩:=gN h [a1,s1,b1,t1] Z16;rw[←hH0];clear hH0;simp -dsimp (disch:=try exact dx) only[tkA];refine call (OT (hn1.ae E0.ae)) ?_;rintro _ h1 ⟨X1,rfl⟩;have m1:=X1.n
 obtain⟨w1,e1,hw⟩ : ∃w1 e1,(if InW q.num then Value.tuple #[uF q.num,KI 0] else .tuple #[wdV 0,KI 6])=.tuple #[wdV w1,KI e1]∧(InW q.num∧w1=bJ q.num∧e1=0 ∨ ¬InW q.num∧e1=6):=by
  by_cases hi:InW q.num;·exact⟨_,0,by rw[ah hi],.inl ⟨hi,rfl,rfl⟩⟩
  ·exact⟨0,6,by rw[ad hi],.inr ⟨hi,rfl⟩⟩
 rw[hw.1];have k0:=X1.kept byOmega g0;have k1:=X1.kept byOmega g1;simp -dsimp (disch:=omega) only[wpS,wpT,zE,zL,zA,de,rR,oV,og,eG,aH,dH,iF,aw k0,tkA,tkB];obtain⟨H2,hH2⟩:=bm ((h1.new (.cells [ZW,ZW,ZW,ZW,ZW,ZW,ZW,ZW] 0 none)).put h1.n (.cells (wdC w1) 0 none));have e2:Ext h1 H2:=by rw[hH2];exact((Ext.refl _).new _).put (ar _) _
 have n2:H2.n=h1.n+1:=by rw[hH2];rfl
 have ga:H2.ext.get h1.n=some (.cells (wdC w1) 0 none):=by rw[hH2];simp (disch:=omega) only[ak]
 have k1':=e2.kept byOmega k1;rw[←hH2];clear hH2;refine call (OT (hd1.ae ((E0.trans X1).trans e2).ae)) ?_;rintro _ h3 ⟨X3,rfl⟩;have m3:=X3.n
 obtain⟨w2,f2,hw2⟩ : ∃w1 e1,(if InW (q.den:Int) then Value.tuple #[uF q.den,KI 0] else .tuple #[wdV 0,KI 6])=.tuple #[wdV w1,KI e1]∧(InW (q.den:Int)∧w1=bJ q.den∧e1=0 ∨ ¬InW (q.den:Int)∧e1=6):=by
  by_cases hi:InW (q.den:Int);·exact⟨_,0,by rw[ah hi],.inl ⟨hi,rfl,rfl⟩⟩
  ·exact⟨0,6,by rw[ad hi],.inr ⟨hi,rfl⟩⟩
 rw[hw2.1];have ga3:=X3.kept byOmega ga;have k3:=X3.kept byOmega k1';have xx:=((E0.trans X1).trans e2).trans X3;rcases hw.2 with⟨i1,rfl,rfl⟩|⟨i1,rfl⟩
 ·rcases hw2.2 with⟨i2,rfl,rfl⟩|⟨i2,rfl⟩
  ·rw[ah (show QW q from⟨i1,i2⟩)];simp -dsimp (disch:=omega) only[wpS,wpT,zE,zL,zA,rR,oV,Ky,iJ,iO,We,Wd,dX,eG,aH,dH,iF,aw ga3,k3,di,VF,VE,cD,aC,bH,bF];exact⟨(((xx.new _).put byOmega _).put byOmega _),rfl⟩
  ·rw[ad (show ¬QW q from fun h=>i2 h.2)];simp -dsimp (disch:=omega) only[wpS,wpT,zE,zL,zA,rR,oV,Ky,iJ,dX,eG,aH,dH,iF,k3,QI];exact⟨(((xx.new _).put byOmega _).put byOmega _),by rw[zk]⟩
 ·rw[ad (show ¬QW q from fun h=>i1 h.1)];simp -dsimp (disch:=omega) only[wpS,wpT,zE,zL,zA,rR,oV,Ky,iJ,dX,eG,aH,dH,iF,k3,QI];exact⟨(((xx.new _).put byOmega _).put byOmega _),by rw[zk]⟩
def OG (n d:Nat) (hn:n<W8) (hd:d<W8) (d0:d≠0):WV prog (.func (.func 147) #[] #[]) [wdV n,wdV d] h fun r h'=>Ext h h'∧r=(open Classical in if QW (Rat.divInt (wdI n) (wdI d)) then .tuple #[mG (Rat.divInt (wdI n) (wdI d)),KI 0] else .tuple #[shV 0 0,KI 6]):=by
 refine enter (nt:=18) (rs:=[.cell 4 32,.tmp 5]) Proofs.Tryz.func147 rfl rfl rfl aa ?_;simp -dsimp (disch:=try exact dx) only[wpS,wpT,zE,zL,zA,lX,iO,Gj,eG,aH];obtain⟨H0,hH0,n0,E0,g0,g1,g2⟩:=kK h (wdC n) (wdC d) Z16;rw[←hH0];clear hH0;have X0:=Ext.refl H0;have L2:load prog H0 30 (ptr (2*(h.n+1)) 0)=some (wdV d):=by simp -dsimp (disch:=try exact dx) only[wpS,zL,iO,aw g1,aH,di];rfl
 have hz:binop prog .eql 30 (.tmp 6) (.tmp 7) (.agg (wdC d).toArray) (.agg #[ZW,ZW,ZW,ZW,ZW,ZW,ZW,ZW])=some (.bool false):=by rw[qW,wdV,Va hd (by have:=jE;have:=nM;omega)];rw[aY d0]
 have hdI:wdI d≠0:=fun h=>d0 ((pg hd).1 h);simp -dsimp (disch:=try exact dx) only[wpS,zE,di,hz];refine drawn [(2,[1])] ab ab rfl ?_;simp -dsimp (disch:=omega) only[wpS,zE,zL,iO,aw g0,aH,di];refine call (vX n hn) ?_;rintro r1 h1 ⟨X1,p1⟩;have m1:=X1.n;simp -dsimp (disch:=omega) only[wpS,zE,zL,iO,aw (X1.kept byOmega g1),aH,di];refine call (vX d hd) ?_;rintro r2 h2 ⟨hE2,p2⟩;have X2:=X1.trans hE2;have m2:=hE2.n;simp -dsimp (disch:=omega) only[wpS,zE];refine call (nw (p1.ae hE2.ae) p2 (jO hn) (jO hd) hdI) ?_;rintro r3 h3 ⟨hE3,p3⟩;have X3:=X2.trans hE3;have m3:=hE3.n;simp -dsimp (disch:=omega) only[wpS,zE];refine call (wP p3) ?_;rintro _ h4 ⟨hE4,rfl⟩;have X4:=X3.trans hE4;have m4:=hE4.n;have kg:=X4.kept byOmega g2;by_cases hq:QW (Rat.divInt (wdI n) (wdI d))
 ·rw[ah hq];simp -dsimp (disch:=omega) only[wpS,wpT,zE,zL,zA,iJ,kg,aU,aC,bH,cD];refine⟨by repeat' first|refine aB ?_ ?_|refine aA ?_ ?_|exact ai rfl rfl rfl rfl (aO (H0:=H0) rfl byOmega aG aG cS),?_⟩;simp -dsimp (disch:=omega) only[wpS,wpT,zE,zL,zA,dX,aC,bF];exact⟨(E0.trans X4).put byOmega _,rfl⟩
 ·rw[ad hq];simp -dsimp (disch:=omega) only[wpS,wpT,zE,zL,zA,iJ,kg,aU,aC,bH,cD];refine⟨by repeat' first|refine aB ?_ ?_|refine aA ?_ ?_|exact ai rfl rfl rfl rfl (aO (H0:=H0) rfl byOmega aG aG cS),?_⟩;simp -dsimp (disch:=omega) only[wpS,wpT,zE,zL,zA,dX,aC,bF];exact⟨(E0.trans X4).put byOmega _,rfl⟩
def ue (n d:Int) (hn:gV n) (hd:gV d) (d0:d≠0):WV prog (.func (.func 42) #[] #[]) [KI n,KI d] h fun r h'=>Ext h h'∧r=.tuple #[mG (Rat.divInt n d),KI 0]:=by
 have hd':(d == 0)=false:=by simpa using d0
 refine enter (nt:=15) (rs:=[.cell 4 32,.tmp 5]) Proofs.Tryz.func42 rfl rfl rfl aa ?_;simp -dsimp (disch:=omega) only[wpS,zE,zA,lX,hd'];have E1:Ext h (h.new (.cells Z16 0 none)):=(Ext.refl h).new _;have g1:(h.new (.cells Z16 0 none)).ext.get h.n=some (.cells Z16 0 none):=by simp (disch:=omega) only[aq]
 refine call (lC n d hn hd d0) ?_;rintro _ h1 ⟨X1,p1⟩;simp -dsimp (disch:=omega) only[wpS,zE];refine call (wP p1) ?_;rintro _ h2 ⟨X2,rfl⟩;rw[ah (uh hn hd d0)];have m1:=X1.n;have m2:=X2.n;simp only[bj] at m1;have kg:=X2.kept byOmega (X1.kept aa g1);simp -dsimp (disch:=omega) only[wpS,wpT,zE,zL,zA,iJ,dX,kg,aU,aC,bH,cD,bF];exact⟨((E1.trans X1).trans X2).put byOmega _,rfl⟩
def WC {h:IH} (n d:Nat) (hn:n<W8) (hd:d<W8) (d0:d≠0) (hq:QW (Rat.divInt (wdI n) (wdI d))):WV Proofs.Tryz.prog (.func (.func 73) #[] #[]) [wdV n,wdV d] h fun r h'=>Ext h h'∧r=mG (Rat.divInt (wdI n) (wdI d)):=by refine enter (nt:=22) (rs:=[.cell 4 32]) Proofs.Tryz.func73 rfl rfl rfl aa ?_;simp -dsimp (disch:=try exact dx) only[wpS,Nat.reduceEqDiff,Nat.reduceLeDiff,Nat.reduceAdd,lX,iO,eG,aH,di];obtain⟨H0,hH0,n0,E0,g0,g1,g2⟩:=kK h (wdC n) (wdC d) Z16;rw[←hH0];clear hH0;refine call (OG n d hn hd d0) ?_;rintro _ h1 ⟨X1,rfl⟩;rw[ah hq];have m1:=X1.n;have k2:=X1.kept byOmega g2;simp -dsimp (disch:=omega) only[wpS,wpT,Nat.reduceEqDiff,Nat.reduceLeDiff,Nat.reduceAdd,lX,iJ,dX,k2,aU,aC,bH,cD,bF];exact⟨(((E0.trans X1).new _).put byOmega _).put byOmega _,rfl⟩
section
variable {P:QX}
theorem ON:aD P (program)=some P:=rfl
def BK {e:TypeId} {n:Nat} (hA:bX P e=some true) (hs:ba P e=some n) (cs:Array Value) (off:Nat):aD P (part e cs off)=some (.agg (cs.extract off (off+n))):=by
 unfold part;have h1:aD P (isAgg e)=some true:=by unfold isAgg;simp only[bX,bg] at hA;obtain⟨d,hd,hA⟩:=hA;rw[eo (iZ hd)];cases d<;>first|rfl|(simp at hA)
 rw[eo h1];simp only[bS];rw[eo (GU hs)];rfl
def Gk {t:TypeId} {x y:Array Value} {b:Bool} (hg:P.eqGuardType P.depth t=false) (hx:plain (.agg x)=true) (hy:plain (.agg y)=true) (h:aD P (Op.equal t (.agg x) (.agg y))=some b) (ox oy:Operand):binop P .neq t ox oy (.agg x) (.agg y)=some (.bool (!b)):=by
 refine fA P t ox oy hx hy rfl ?_;have h1:aD P (eqGuard .neq t ox oy (.agg x) (.agg y))=some ():=by show aD P (if (!P.eqGuardType P.depth t)=true then _ else _)=_;rw[hg];rfl
 rw[eo h1];show aD P (Op.equal t _ _ >>= fun r=>pure (Value.bool !r))=_;rw[eo h];rfl
end
def Zu (n d:Nat):((shC n d).toArray).extract 0 8=(wdC n).toArray:=by simp only[List.extract_toArray,NQ];rw[show(8 - 0)=8 from rfl,vx]
def Zt (n d:Nat):((shC n d).toArray).extract 8 16=(wdC d).toArray:=by simp only[List.extract_toArray,NQ];rw[show(16 - 8)=8 from rfl,vv]
variable {n:Nat}
def Dw {m:Nat} (hn:n<W8) (hm:m<W8) (k:Nat):aD prog (Op.equalIn (k+2) 30 (.agg (wdC n).toArray) (.agg (wdC m).toArray))=some (decide (n=m)):=by rw[wJ,wJ,uj u30 u28 I9 _ _ _ aa aa,Oa hn hm]
variable {d' n' d:Nat}
def Ox (h1:n<W8) (h2:d<W8) (h3:n'<W8) (h4:d'<W8) (k:Nat):aD prog (Op.equalIn (k+3) 32 (.agg (shC n d).toArray) (.agg (shC n' d').toArray))=some (decide (n=n'∧d=d')):=by
 unfold Op.equalIn;rw[eo (iZ (show QX.underlying prog 32=some (.struct { toList:=[{ name := "N",type:=30,offset:=0,embedded:=false,tag := "",pkgPath := "",byteOffset:=0 },{ name := "D",type:=30,offset:=8,embedded:=false,tag := "",pkgPath := "",byteOffset:=64 }] }) by kernel_rfl))];simp only;rw[eo ON,show QX.stoodInHeld prog 32=false by kernel_rfl];have seq : ∀{α β:Type} (s:Sem α) (f:α→Sem β),aD prog (s >>= f)=(aD prog s).bind fun a=>aD prog (f a):=fun s f=>iM _ f s;have p1:=fun(n d:Nat)=>BK (P:=prog) ZaX SM (shC n d).toArray 0;have p2:=fun(n d:Nat)=>BK (P:=prog) ZaX SM (shC n d).toArray 8;have n1:("N" ≠ "_")=True:=aa;have n2:("D" ≠ "_")=True:=aa;simp only[gv,cH,←Array.forIn_toList,List.forIn_cons,List.forIn_nil,seq,n1,n2,bS,p1,ke,eu,Zu,Dw h1 h3];by_cases e1:n=n'
 ·simp only[bf e1,lW,gv,cH,zy,ke,seq,p2,show(8+8:Nat)=16 from rfl,Zt,Dw h2 h4];by_cases e2:d=d'
  ·simp only[bf e2,lW,gv,cH,zy,ke];rw[bf (ao e1 e2)]
  ·simp only[aY e2,Bool.not_false,bS,zy,ke];rw[aY (fun h=>e2 h.2)]
 ·simp only[aY e1,Bool.not_false,bS,zy,ke];rw[aY (fun h=>e1 h.1)]
def DP (n d:Nat):plain (.agg (shC n d).toArray)=true:=by simp only[plain,shC,wdC];simp[ct]
def VG (h1:n<W8) (h2:d<W8) (h3:n'<W8) (h4:d'<W8) (ox oy:Operand):binop prog .neq 32 ox oy (.agg (shC n d).toArray) (.agg (shC n' d').toArray)=some (.bool (!decide (n=n'∧d=d'))):=by exact Gk ab (DP _ _) (DP _ _) (Ox h1 h2 h3 h4 9997) ox oy


variable {h:IH}{x:QQ}{n:Int}{b:Bool}
def qH (hx:([x]:List QQ).all aM=true) (h0:0≤n) (hn:n<4294967296) :
  WV prog (.func (.func 72) #[] #[]) [.agg #[.bool b,x,.int .u32 n]] h fun r h'=>Ext h h' ∧ ∃z:Int,r=KI z ∧ -1000000≤z∧z≤1000000:=by
 have E1:Ext h (h.new (.cells [.bool b,x,.int .u32 n] 0 none)):=(Ext.refl h).new _;have hm:0≤n % 1000001:=byOmega;have hm2:n % 1000001≤1000000:=byOmega;have hx':aM x=true:=by simpa using hx
 refine enter (nt:=13) (rs:=[.tmp 2]) Proofs.Tryz.func72 rfl rfl rfl aa ?_;simp -dsimp (disch:=omega) only[wpS,zE,ZdP,ld54,Zd0,ZdQ,ld4];cases b;·simp -dsimp (disch:=omega) only[wpS,zE];exact⟨E1,_,rfl,byOmega,byOmega⟩
 ·simp -dsimp (disch:=omega) only[wpS,zE]
  exact⟨E1,_,rfl,byOmega,byOmega⟩
def DD (z:Int) : -1000<z.tmod 1000∧z.tmod 1000<1000:=by
 rcases Int.le_total 0 z with h|h;·rw[IE h];omega
 ·obtain⟨w,rfl⟩ : ∃w,z = -w:=⟨-z,byOmega⟩
  rw[Int.neg_tmod,IE byOmega];omega
def AN (a c:Int) (ha : -1000<a∧a<1000) (hc:0<c∧c<25):WV prog (.func (.func 73) #[] #[]) [uF a,uF c] h fun r h'=>Ext h h'∧r=mG (Rat.divInt a c):=by
 have ia:gV a:=⟨byOmega,byOmega⟩;have ic:gV c:=⟨byOmega,byOmega⟩;have e1:wdI (bJ a)=a:=dQ (mW ia);have e2:wdI (bJ c)=c:=dQ (mW ic);have hz:bJ c≠0:=by intro e;rw[e] at e2;have:wdI 0=0:=mQ;omega
 have hq:QW (Rat.divInt (wdI (bJ a)) (wdI (bJ c))):=by rw[e1,e2];exact uh ia ic byOmega
 have:=WC (h:=h) (bJ a) (bJ c) (gZ (mW ia)) (gZ (mW ic)) hz hq;rw[e1,e2] at this;exact this
def EZ {b2:Bool} {x2:QQ} {n2:Int} (hx:([x]:List QQ).all aM=true) (hx2:([x2]:List QQ).all aM=true) (h0:0≤n) (hn:n<4294967296) (g0:0≤n2) (gn:n2<4294967296) :
  WV prog (.func (.func 29) #[] #[]) [.agg #[.bool b,x,.int .u32 n,.bool b2,x2,.int .u32 n2]] h fun r h'=>Ext h h' ∧ ∃a c:Int,(-1000<a∧a<1000)∧(0<c∧c<25)∧r=mG (Rat.divInt a c):=by
 have hx':aM x=true:=by simpa using hx
 have hx2':aM x2=true:=by simpa using hx2
 obtain⟨H0,hH0,n0,E0,k0,k1⟩:=gN h [.bool b,x,.int .u32 n,.bool b2,x2,.int .u32 n2] Z16;refine enter (nt:=21) (rs:=[.cell 2 32]) Proofs.Tryz.func29 rfl rfl rfl aa ?_;simp -dsimp (disch:=try exact dx) only[wpS,wpT,zE,zL,zA,lX,Xk,TP];rw[←hH0];clear hH0;refine call (qH hx2 g0 gn) ?_;rintro _ h1 ⟨X1,z,rfl,z0,z1⟩;have m1:=X1.n;have kx:=X1.kept byOmega k0;have Zd4:z<0∨0≤z:=byOmega;rcases Zd4 with hz|hz;·obtain⟨w,hw⟩:=bm (-z);have c1:decide (z<0)=true:=bf hz;simp -dsimp (disch:=omega) only[wpS,wpT,zE,zL,zA,TP,PJ,c1,aw kx];rw[←hw];refine call (qH hx h0 hn) ?_;rintro _ h2 ⟨X2,y,rfl,y0,y1⟩;have m2:=X2.n;have hr : ∀ox oy,binop prog .rem 3 ox oy (KI y) (KI 1000)=some (KI (y.tmod 1000)):=fun _ _=>tA _ _ _ _ aP;have hy:=DD y;simp -dsimp (disch:=omega) only[wpS,zE,hr];refine call (hP (y.tmod 1000) ⟨byOmega,byOmega⟩) ?_;rintro _ h3 ⟨X3,rfl⟩;have m3:=X3.n;simp -dsimp (disch:=omega) only[wpS,zE];refine call (hP (1+w % 24) ⟨byOmega,byOmega⟩) ?_;rintro _ h4 ⟨X4,rfl⟩;have m4:=X4.n;simp -dsimp (disch:=omega) only[wpS,zE];refine call (AN (y.tmod 1000) (1+w % 24) hy ⟨byOmega,byOmega⟩) ?_;rintro _ h5 ⟨X5,rfl⟩;have m5:=X5.n;have XX:=(((X1.trans X2).trans X3).trans X4).trans X5;have k2:=XX.kept byOmega k1;simp -dsimp (disch:=omega) only[wpS,wpT,zE,zL,zA,iJ,dX,k2,aU,aC,bH,cD,bF];exact⟨(E0.trans XX).put byOmega _,_,_,hy,⟨byOmega,byOmega⟩,rfl⟩
 ·obtain⟨w,hw⟩:=bm (z)
  have c1:decide (z<0)=false:=aY byOmega;simp -dsimp (disch:=omega) only[wpS,wpT,zE,zL,zA,TP,PJ,c1,aw kx];rw[←hw];refine call (qH hx h0 hn) ?_;rintro _ h2 ⟨X2,y,rfl,y0,y1⟩;have m2:=X2.n;have hr : ∀ox oy,binop prog .rem 3 ox oy (KI y) (KI 1000)=some (KI (y.tmod 1000)):=fun _ _=>tA _ _ _ _ aP;have hy:=DD y;simp -dsimp (disch:=omega) only[wpS,zE,hr];refine call (hP (y.tmod 1000) ⟨byOmega,byOmega⟩) ?_;rintro _ h3 ⟨X3,rfl⟩;have m3:=X3.n;simp -dsimp (disch:=omega) only[wpS,zE];refine call (hP (1+w % 24) ⟨byOmega,byOmega⟩) ?_;rintro _ h4 ⟨X4,rfl⟩;have m4:=X4.n;simp -dsimp (disch:=omega) only[wpS,zE];refine call (AN (y.tmod 1000) (1+w % 24) hy ⟨byOmega,byOmega⟩) ?_;rintro _ h5 ⟨X5,rfl⟩;have m5:=X5.n;have XX:=(((X1.trans X2).trans X3).trans X4).trans X5;have k2:=XX.kept byOmega k1;simp -dsimp (disch:=omega) only[wpS,wpT,zE,zL,zA,iJ,dX,k2,aU,aC,bH,cD,bF];exact⟨(E0.trans XX).put byOmega _,_,_,hy,⟨byOmega,byOmega⟩,rfl⟩

variable {h:IH}
def Zc8 {v:Value} {z:Int} (hv:bU h v z):WV prog (.func (.func 224) #[] #[]) [v] h fun r h'=>Ext h h'∧r=.bool (decide (z=1)):=by
 obtain⟨s,rfl,ds,hD,hN,hx⟩:=hv;have E1:Ext h (h.new (.cells [.bool (decide (z<0)),s] 0 none)):=(Ext.refl h).new _;refine enter (nt:=19) (rs:=[.tmp 2]) Proofs.Tryz.func224 rfl rfl rfl aa ?_;by_cases h1:ds.length=1
 ·obtain⟨x,rfl⟩:=List.length_eq_one_iff.1 h1;have hv:ay [x]=x:=by simp[ay,a8]
  rw[hv] at hx;have ib:indexAddr prog 25 s (.int .i64 0)=some (a9 s 0):=by simpa using hD.1.idxI (P:=prog) (t:=25) mP (k:=.i64) (i:=0) byOmega aa
  have l0:load prog (h.new (.cells [.bool (decide (z<0)),s] 0 none)) 3 (a9 s 0)=some (KN x):=hD.1.ld E1.ae (P:=prog) (t:=3) (c:=0) aa ag3;have hl:=fun h'=>hD.1.len (P:=prog) jk h';have hl' : ∀h',qB prog h' 25 s=some (.int .i64 1):=fun h'=>hl h';by_cases hx1:x=1
  ·subst hx1;have l0':load prog (h.new (.cells [.bool (decide (z<0)),s] 0 none)) 3 (a9 s 0)=some (KI 1):=l0;simp -dsimp (disch:=omega) only[wpS,wpT,zE,im,uQ,fM,ld4,hl',ib,l0'];refine⟨E1,gC Value.bool ?_⟩;by_cases h0:z<0
   ·rw[bf h0,aY byOmega];rfl
   ·rw[aY h0,bf byOmega];rfl
  ·have c1:((x:Int) == 1)=false:=bq;simp -dsimp (disch:=omega) only[wpS,wpT,zE,im,uQ,hl',ib,l0,c1];exact⟨E1,by rw[aY byOmega]⟩
 ·have c1:((ds.length:Int) == 1)=false:=bq;simp -dsimp (disch:=omega) only[wpS,wpT,zE,im,uQ,hD.1.len jk,c1];refine⟨E1,?_⟩;rw[aY];rintro rfl;have h2:ay ds=1:=hx;have h3:=hN.mc (b:=[1]) (by intro d hd;simp at hd;omega) (by rw[h2];simp[ay,a8]);have h4:=hN.nW;rcases cU 0 ds.length with h5|h5
  ·simp at h3;omega
  ·have:ds = []:=fC.1 byOmega;rw[this] at h2;simp[ay,a8] at h2
def vD (n d:Nat) (hn:n<W8) (hd:d<W8):WV prog (.func (.func 148) #[] #[]) [shV n d] h fun r h'=>Ext h h'∧r=.bool (decide (okS n d)):=by
 refine enter (nt:=26) (rs:=[.tmp 2]) Proofs.Tryz.func148 rfl rfl rfl aa ?_;simp -dsimp (disch:=omega) only[wpS,aU];obtain⟨H0,hH0⟩:=bm (h.new (.cells (shC n d) 0 none));have E0:Ext h H0:=by rw[hH0];exact(Ext.refl h).new _
 have n0:H0.n=h.n+1:=by rw[hH0];rfl
 have g0:H0.ext.get h.n=some (.cells (shC n d) 0 none):=by rw[hH0];simp (disch:=omega) only[aq]
 rw[←hH0];clear hH0;have X0:=Ext.refl H0;obtain⟨L1,L2,_⟩:=psh g0;refine drawn [(4,[2])] ab ab rfl ?_;simp -dsimp (disch:=omega) only[wpS,zE,zL,PL,iO,aw g0,aC,vx];refine call (vX n hn) ?_;rintro _ h1 ⟨X1,p1⟩;have m1:=X1.n;simp -dsimp (disch:=omega) only[wpS,zE,zL,zA,iO,PK,aw (X1.kept byOmega g0),aC,vv];refine call (vX d hd) ?_;rintro _ h2 ⟨X2,p2⟩;have m2:=X2.n;have X12:=X1.trans X2;obtain⟨s1,n1',rfl,c1,o1,_,_⟩:=p1.form;obtain⟨s2,n2',rfl,c2,o2,lenD,zD⟩:=p2.form;simp -dsimp (disch:=try exact dx) only[wpS,wpT,zE,zL,zA,ou,jI,o1,o2];refine⟨by repeat' first|refine aB ?_ ?_|refine aA ?_ ?_|exact ai rfl rfl rfl rfl (aO (H0:=H0) rfl byOmega aG aG cS),?_⟩;obtain⟨K0,hK0⟩:=bm (((((h2.new (.cells ZL 0 none)).new (.cells ZL 0 none)).put h2.n (.cells [.bool (decide (wdI n<0)),s1] 0 none)).put (h2.n+1) (.cells [.bool (decide (wdI d<0)),s2] 0 none)));have e3:Ext h2 K0:=by rw[hK0];exact((((Ext.refl _).new _).new _).put (ar _) _).put byOmega _
 have n3:K0.n=h2.n+2:=by rw[hK0];rfl
 have ga:K0.ext.get h2.n=some (.cells [.bool (decide (wdI n<0)),s1] 0 none):=by rw[hK0];simp (disch:=omega) only[ak,ax]
 have gb:K0.ext.get (h2.n+1)=some (.cells [.bool (decide (wdI d<0)),s2] 0 none):=by rw[hK0];simp (disch:=omega) only[ak]
 simp -dsimp (disch:=omega) only[wpS,wpT,zE,zA,fM,ld4];rw[←hK0];clear hK0;have q1:=p1.ae (X2.trans e3).ae;have q2:=p2.ae e3.ae;have E3:=(E0.trans X12).trans e3;by_cases sY:wdI d<0;·have cn:decide (wdI d<0)=true:=bf sY;rw[cn] at gb;simp -dsimp (disch:=omega) only[wpS,wpT,zE];exact⟨E3,by rw[aY (fun h=>by have:=h.1;omega)]⟩
 ·have cn:decide (wdI d<0)=false:=aY sY;rw[cn] at gb q2;by_cases hz:wdI d=0
  ·have c0:decide ((0:Int)<(n2':Int))=false:=aY (by have:=zD.2 hz;omega)
   simp -dsimp (disch:=omega) only[wpS,wpT,zE,im,uQ,aw gb,lenD jk,c0]
   exact⟨E3,by rw[aY (fun h=>by have:=h.1;omega)]⟩
  ·have c0:decide ((0:Int)<(n2':Int))=true:=bf (by
    have:n2'≠0:=fun h=>hz (zD.1 h);omega)
   simp -dsimp (disch:=omega) only[wpS,wpT,zE,zL,zA,im,uQ,de,aw ga,aw gb,lenD jk,c0,vk];refine call (Fc q1 q2 (jO hn) (jO hd)) ?_;rintro g h4 ⟨X4,hg⟩;simp -dsimp (disch:=omega) only[wpS,wpT,zE];refine call (Zc8 hg) ?_;rintro _ h5 ⟨X5,rfl⟩;simp -dsimp (disch:=omega) only[wpS,zE];refine⟨(E3.trans X4).trans X5,gC Value.bool ?_⟩;rw[xN];unfold okS;constructor;·intro h;exact⟨byOmega,byOmega⟩
   ·rintro⟨_,h⟩;omega
theorem PR (n:Nat):Rat.divInt 1 (n:Int)=1 / (((n:Nat):Int):Rat):=by rw[oK];rfl
theorem ux:Rat.divInt 0 1=0:=mQ

def Ow {h:IH} {v:Value} {l:List (Nat×Nat)} (hs:iS h v l) (hne:v=.slice none 0 0∨0<l.length) (hn:l.length≤1000000) :WV Proofs.Tryz.prog (.func (.func 118) #[] #[]) [v] h fun r h'=>Ext h h'∧Acc h' h.n 16 r l.length (shL l):=by
 have hc:=QJ l;have hnow:=hs.1.now;obtain⟨⟨hz,hl,⟨rfl,hl0⟩|⟨b,o,k,rfl,hh⟩⟩,_⟩:=hs;·refine enter (nt:=8) (rs:=[.tmp 2]) Proofs.Tryz.func118 rfl rfl rfl aa ?_;simp -dsimp (disch:=omega) only[wpS,wpT,Nat.reduceEqDiff,Nat.reduceMul,Cl,Mv u61];obtain rfl:l = []:=fC.1 hl0;exact⟨Ext.refl _,Acc.nil _ _ byOmega⟩
 ·have hp:0<l.length:=by
   rcases hne with h1|h1;·cases h1
   ·exact h1
  have hk:Ext h (h.new (.cells [] 16 none)):=(Ext.refl h).new _;have W1:rJ (h.new (.cells [] 16 none)) 16 (.slice (some ⟨b,o,none⟩) l.length k) l.length (shL l):=(cA.ae ⟨hz,hl,.inr ⟨b,o,k,rfl,hh⟩⟩ hk.ae).now;refine enter (nt:=8) (rs:=[.tmp 2]) Proofs.Tryz.func118 rfl rfl rfl aa ?_;simp -dsimp (disch:=omega) only[wpS,wpT,Nat.reduceEqDiff,Nat.reduceMul,Cl,oi,BQ u61,oF Gr _ W1 hp hc byOmega];refine⟨hk.new _,?_⟩;exact(Am byOmega hl hp).from aa
def DrOf (cs:List Value):Prop:=∃b x n b2 x2 n2,cs = [.bool b,x,.int .u32 n,.bool b2,x2,.int .u32 n2]∧aM x=true∧aM x2=true∧0≤n∧n<4294967296∧0≤n2∧n2<4294967296
def NG (h:IH) (v:Value) (n:Nat):Prop:=∃cs,cA h 6 v n cs ∧ ∀i,i<n→DrOf ((cs.drop (i*6)).take 6)
def NG.ae {h h':IH} {v:Value} {n:Nat} (s:NG h v n) (e:aX h h'):NG h' v n:=let ⟨cs,a,b⟩:=s;⟨cs,a.ae e,b⟩
def od (p:Nat×Nat):Prop:=∃a c:Int,(-1000<a∧a<1000)∧(0<c∧c<25)∧p=shq (Rat.divInt a c)
theorem od.lt {p:Nat×Nat} (h:od p):p.1<W8∧p.2<W8:=by obtain⟨a,c,ha,hc,rfl⟩:=h;exact rT (uh ⟨byOmega,byOmega⟩ ⟨byOmega,byOmega⟩ byOmega)
end Go.Id
namespace Go.Proofs.YtnnmjocmapilaaaGreat
open Go.ChangeShapes Go.WideShapes Go.ChangeAt Go.RowKit Go.Id
def Qs:Tryz.prog.underlying 32=some (.struct { toList:=[{ name := "N",type:=30,offset:=0,embedded:=false,tag := "",pkgPath := "",byteOffset:=0 },{ name := "D",type:=30,offset:=8,embedded:=false,tag := "",pkgPath := "",byteOffset:=64 }] }):=ab
def Zct:Tryz.prog.underlying 30=some (.array 8 28):=ab
def ZeE:Tryz.prog.underlying 28=some (.int .u64):=ab
theorem R9:Tryz.prog.cellsOf 32=16:=ab
theorem PZ:Tryz.prog.cellsOf 30=8:=ab
theorem Zgp:Tryz.prog.cellsOf 28=1:=ab
def wf_i64 {x:Int} (h:(Lit.int .i64 x).wf=true):gV x:=by simp only[Lit.wf,eV,aJ] at h;have h1:(-9223372036854775808:Int)≤x:=h.1;have h2:x≤(9223372036854775807:Int):=h.2;exact⟨h1,byOmega⟩
def RS : ∀{cs:List Value},(∀c∈cs,∃k:Nat,k<18446744073709551616∧c=K64 k) → ∃ds:List Nat,cs=ds.map K64 ∧ ∀d∈ds,d<18446744073709551616
 | [],_=>⟨[],rfl,fun d hd=>by cases hd⟩
 | c :: cs,h=>by
  obtain⟨k,hk,rfl⟩:=h c aa;obtain⟨ds,hds,hd⟩:=RS (cs:=cs) fun c hc=>h c (by simp[hc]);exact⟨k :: ds,by rw[hds];rfl,fun d hd'=>by
   rcases dD.1 hd' with rfl|hd';·exact hk
   ·exact hd d hd'⟩
section
variable {H:Type} {enc:TypeId×Value→H} {W:World} {base:Nat} {sp:Nat→Bool} {held:Bool}
variable {x:DataW H×List MemPlace}{fuel:Nat}{cs:List Value}
def IT (h:DataW.trod enc Tryz.prog W base sp held fuel 30 cs=some x) : ∃n,n<W8∧cs=wdC n:=by
 obtain⟨xs,m,_,_,hl,hn,hel⟩:=DataW.trod_array Zct h;rw[PZ] at hl;have hc : ∀c∈cs,∃k:Nat,k<18446744073709551616∧c=K64 k:=by
  intro c hc;obtain⟨i,hi⟩:=List.mem_iff_getElem?.1 hc;have hi8:i<8:=by have:=(bZ.1 hi).1;omega
  obtain⟨y,hy⟩:=fJ (l:=xs) (i:=i) byOmega;have e:=(hel i hi8).trans hy;rw[Zgp,dG] at e;have e1:(cs.drop i).take 1 = [c]:=by obtain⟨hlt,hg⟩:=bZ.1 hi;rw[List.drop_eq_getElem_cons hlt,hg];rfl
  rw[e1] at e;obtain⟨k,h1,h2⟩:=pW (m:=18446744073709551615) rfl rfl ZeE e;cases h1;exact⟨k,byOmega,rfl⟩
 obtain⟨ds,rfl,hd⟩:=RS hc;rw[cd] at hl;have e:=Wf (ds:=ds) byOmega hd;have e2:IH.aI [ZW,ZW,ZW,ZW,ZW,ZW,ZW,ZW] 0 (ds.map K64)=ds.map K64:=jA (by rw[cd,hl];rfl);refine⟨B.ay ds,?_,e2.symm.trans e⟩;have:=B.lJ hd;rw[hl,←FM] at this;exact this
def LO (h:DataW.trod enc Tryz.prog W base sp held fuel 32 cs=some x) : ∃n d,n<W8∧d<W8∧cs=shC n d:=by
 obtain⟨xs,m,_,_,hl,hn,hf⟩:=DataW.trod_struct Qs h;rw[R9] at hl;have hn2:xs.length=2:=hn;obtain⟨x0,hx0⟩:=fJ (l:=xs) (i:=0) byOmega;have f0:DataW.trod enc Tryz.prog W base sp held m 30 ((cs.drop 0).take (Tryz.prog.cellsOf 30))=some x0:=(hf 0 { name := "N",type:=30,offset:=0,embedded:=false,tag := "",pkgPath := "",byteOffset:=0 } rfl).trans hx0;obtain⟨x1,hx1⟩:=fJ (l:=xs) (i:=1) byOmega;have f1:DataW.trod enc Tryz.prog W base sp held m 30 ((cs.drop 8).take (Tryz.prog.cellsOf 30))=some x1:=(hf 1 { name := "D",type:=30,offset:=8,embedded:=false,tag := "",pkgPath := "",byteOffset:=64 } rfl).trans hx1;rw[PZ] at f0 f1;obtain⟨n,h1,e1⟩:=IT f0;obtain⟨d,h2,e2⟩:=IT f1;refine⟨n,d,h1,h2,?_⟩;rw[shC,←e1,←e2,cp]
 conv=>lhs;rw[←List.take_append_drop 8 cs]
 congr 1;rw[dr (by rw[oN];omega)]
end
def Wy {cs:List Value} (h : ∀y∈cs,ct y=true):cs.map trV=cs:=by
 induction cs with
 | nil=>rfl
 | cons a l ih=>rw[kW,Lk (h a aa),ih fun y hy=>h y (by simp[hy])]
def SY {y:Value} (h:ct y=true):ef y=true:=by
 unfold ef;split;·simp[ct] at h
 ·exact h
variable {α:Type}
def len3 : ∀{l:List α},l.length=3 → ∃a b c,l = [a,b,c]
 | [a,b,c],_=>⟨a,b,c,rfl⟩
def len6 : ∀{l:List α},l.length=6 → ∃a b c d e f,l = [a,b,c,d,e,f]
 | [a,b,c,d,e,f],_=>⟨a,b,c,d,e,f,rfl⟩
def Li:Tryz.prog.underlying 52=some (.slice 58):=ab
def IY:Tryz.prog.underlying 58=some (.struct { toList:=[{ name := "N",type:=56,offset:=0,embedded:=false,tag := "",pkgPath := "",byteOffset:=0 },{ name := "D",type:=56,offset:=3,embedded:=false,tag := "",pkgPath := "",byteOffset:=40 }] }):=ab
def Vj:Tryz.prog.underlying 56=some (.struct { toList:=[{ name := "Below",type:=4,offset:=0,embedded:=false,tag := "",pkgPath := "",byteOffset:=0 },{ name := "Bits",type:=53,offset:=1,embedded:=false,tag := "",pkgPath := "",byteOffset:=8 },{ name := "Less",type:=54,offset:=2,embedded:=false,tag := "",pkgPath := "",byteOffset:=32 }] }):=ab
def Zcu:Tryz.prog.underlying 53=some (.slice 332):=ab
def ZeG:Tryz.prog.underlying 332=some (.int .u16):=ab
def ZeF:Tryz.prog.underlying 54=some (.int .u32):=ab
def Zcv:Tryz.prog.underlying 4=some .bool:=ab
def ZeH:Tryz.prog.underlying 3=some (.int .i64):=ab
def Za:Tryz.prog.underlying 5=some (.int .u8):=ab
theorem Kx:Tryz.prog.cellsOf 58=6:=ab
theorem Fv:Tryz.prog.cellsOf 56=3:=ab
def Zgr:Tryz.prog.cellsOf 332=1:=ab
theorem Zgq:Tryz.prog.cellsOf 54=1:=ab
theorem Zd9:Tryz.prog.cellsOf 4=1:=ab
theorem Zd8:Tryz.prog.cellsOf 53=1:=ab
section
variable {H:Type} {enc:TypeId×Value→H} {W:World} {held:Bool}
variable {fuel:Nat}{x:DataW H×List MemPlace}
def CH (G:Nat→Option (List Value)) {cs:List Value} (h:DataW.trod enc Tryz.prog W 0 (fun _=>true) held fuel 56 cs=some x) :∃b y n,cs = [.bool b,y,.int .u32 n]∧aM (trV y)=true∧ef y=true∧(0≤n∧n<4294967296):=by
 obtain⟨xs,m,_,_,hl,hn,hf⟩:=DataW.trod_struct Vj h;rw[Fv] at hl;have hn2:xs.length=3:=hn;obtain⟨x0,hx0⟩:=fJ (l:=xs) (i:=0) byOmega;have f0:DataW.trod enc Tryz.prog W 0 (fun _=>true) held m 4 ((cs.drop 0).take (Tryz.prog.cellsOf 4))=some x0:=(hf 0 { name := "Below",type:=4,offset:=0,embedded:=false,tag := "",pkgPath := "",byteOffset:=0 } rfl).trans hx0;obtain⟨x1,hx1⟩:=fJ (l:=xs) (i:=1) byOmega;have f1:DataW.trod enc Tryz.prog W 0 (fun _=>true) held m 53 ((cs.drop 1).take (Tryz.prog.cellsOf 53))=some x1:=(hf 1 { name := "Bits",type:=53,offset:=1,embedded:=false,tag := "",pkgPath := "",byteOffset:=8 } rfl).trans hx1;obtain⟨x2,hx2⟩:=fJ (l:=xs) (i:=2) byOmega;have f2:DataW.trod enc Tryz.prog W 0 (fun _=>true) held m 54 ((cs.drop 2).take (Tryz.prog.cellsOf 54))=some x2:=(hf 2 { name := "Less",type:=54,offset:=2,embedded:=false,tag := "",pkgPath := "",byteOffset:=32 } rfl).trans hx2;rw[Zd9] at f0;rw[Zd8] at f1;rw[Zgq] at f2;obtain⟨a,y,c,rfl⟩:=len3 hl
 ·obtain⟨b,e0,_⟩:=DataW.trod_bool Zcv f0;obtain⟨v,n,cs',e1,ht,hn',hs,_⟩:=tV (R:=fun _=>True) Zcu Zgr byOmega (fun n cs x hx=>by
   obtain⟨k,rfl,_⟩:=pW (m:=65535) rfl rfl ZeG hx;exact⟨trivial,fun y hy=>by rw[iD.1 hy];rfl⟩) G f1
  obtain⟨k,e2,hk⟩:=pW (m:=4294967295) rfl rfl ZeF f2;cases e0;cases e1;cases e2;exact⟨b,_,k,rfl,hs.cok,ht,byOmega,byOmega⟩
def Ln (G:Nat→Option (List Value)) {cs0:List Value} (h:DataW.trod enc Tryz.prog W 0 (fun _=>true) held fuel 52 cs0=some x) :∃v n,cs0 = [v]∧ef v=true∧NG (IH.start (By G W)) (trV v) n:=by
 obtain⟨v,n,cs,e,ht,hn,hs,hR⟩:=tV (R:=fun cs=>DrOf (cs.map trV)) Li Kx byOmega (fun n cs x hx=>by
  obtain⟨xs,m,_,_,hl,hn,hf⟩:=DataW.trod_struct IY hx;rw[Kx] at hl;have hn2:xs.length=2:=hn;obtain⟨x0,hx0⟩:=fJ (l:=xs) (i:=0) byOmega;have f0:DataW.trod enc Tryz.prog W 0 (fun _=>true) held m 56 ((cs.drop 0).take (Tryz.prog.cellsOf 56))=some x0:=(hf 0 { name := "N",type:=56,offset:=0,embedded:=false,tag := "",pkgPath := "",byteOffset:=0 } rfl).trans hx0;obtain⟨x1,hx1⟩:=fJ (l:=xs) (i:=1) byOmega;have f1:DataW.trod enc Tryz.prog W 0 (fun _=>true) held m 56 ((cs.drop 3).take (Tryz.prog.cellsOf 56))=some x1:=(hf 1 { name := "D",type:=56,offset:=3,embedded:=false,tag := "",pkgPath := "",byteOffset:=40 } rfl).trans hx1;rw[Fv] at f0 f1;obtain⟨a,b,c,d,e,f,rfl⟩:=len6 hl
  ·obtain⟨b1,y1,n1,e0,o1,t1,r1⟩:=CH G f0;obtain⟨b2,y2,n2,e1,o2,t2,r2⟩:=CH G f1;cases e0;cases e1;refine⟨⟨b1,_,n1,b2,_,n2,rfl,o1,o2,r1.1,r1.2,r2.1,r2.2⟩,fun y hy=>?_⟩;simp at hy;rcases hy with rfl|rfl|rfl|rfl|rfl|rfl<;>first|rfl|assumption) G h
 refine⟨v,n,e,ht,cs.map trV,hs,fun i hi=>?_⟩;rw[←List.map_drop,←tJ];exact hR i hi
end
end Go.Proofs.YtnnmjocmapilaaaGreat
namespace Go.Id
open Go
open Go renaming Operand→QY,Program→QX,TypeId→QZ,Value→QQ
open Nat renaming reduceAdd→zA,reduceEqDiff→zE,reduceLeDiff→zL
open Nat (reduceMul)
set_option maxHeartbeats 16000000
open Go.Proofs.Tryz (prog)

variable {h:IH}
def wC.rat {v:Value} {n d:Nat} (p:wC h v (wdI n) (wdI d)) (ok:okS n d):ch h v (rOf (n,d)):=by obtain⟨e1,e2⟩:=fi (p:=(n,d)) ok;unfold ch;rw[e1,e2];exact p
variable {d1 n1 n2 d2:Nat}
def Zcw (h1:n1<W8) (h2:d1<W8) (h3:n2<W8) (h4:d2<W8):iS (h.new (.cells (shL [(n1,d1),(n2,d2)]) 16 none)) (.slice (some ⟨2*h.n,0,none⟩) 2 5) [(n1,d1),(n2,d2)]:=by
 refine⟨eh (k:=h.n) (f:=none) (aq _ _ rfl) aa aP (by rw[ua];rfl) byOmega byOmega,aa,?_⟩;intro p hp;simp at hp;rcases hp with rfl|rfl;·exact⟨h1,h2⟩
 ·exact⟨h3,h4⟩
def Zah {fv:Value} {z:Int} (h1:n1<W8) (h2:d1<W8) (h3:n2<W8) (h4:d2<W8) (ok1:okS n1 d1) (ok2:okS n2 d2)(op : ∀(h':IH) (v w:Value),ch h' v (rOf (n1,d1))→ch h' w (rOf (n2,d2))→WV prog fv [v,w] h' fun r h''=>Ext h' h''∧r=KI z) :WV prog (.func (.func 89) #[] #[]) [shV n1 d1,shV n2 d2,fv] h fun r h'=>Ext h h'∧r=.tuple #[KI z,KI 0]:=by
 refine enter (nt:=21) (rs:=[.tmp 6,.tmp 7]) Proofs.Tryz.func89 rfl rfl rfl aa ?_;simp -dsimp (disch:=try exact dx) only[wpS,zE,zA,dX,aU];obtain⟨H0,hH0,n0,E0,g0,g1⟩:=gN h (shC n1 d1) (shC n2 d2);rw[←hH0];clear hH0;have X0:=Ext.refl H0;have bb : ∀hx:IH,buildSlice prog hx 61 2 [(0,.agg (shC n1 d1).toArray),(1,.agg (shC n2 d2).toArray)]=some (.slice (some ⟨2*hx.n,0,none⟩) 2 5,hx.new (.cells (shL [(n1,d1),(n2,d2)]) 16 none)):=fun hx=>Zee n1 d1 n2 d2;simp -dsimp (disch:=try exact dx) only[wpS,zE,zL,dX,aw g1,aC,bF,bb];refine call (Ov (Zcw h1 h2 h3 h4)) ?_;rintro _ k1 ⟨Y1,rfl⟩;have X1:Ext H0 k1:=(X0.new _).trans Y1;have dt:decide (∀p ∈ [(n1,d1),(n2,d2)],okS p.1 p.2)=true:=bf (by
  intro p hp;simp at hp;rcases hp with rfl|rfl;·exact ok1
  ·exact ok2)
 rw[dt];have L2:=(psh g1).2.2;simp -dsimp (disch:=omega) only[wpS,wpT,zE];refine drawn [(3,[2])] ab ab rfl ?_;simp -dsimp (disch:=omega) only[wpS,zE,zL,dX,aw (X1.kept byOmega g0),aC,bF];refine call (gS n1 d1 h1 h2) ?_;rintro v k2 ⟨Y2,p2⟩;have X2:=X1.trans Y2;simp -dsimp (disch:=omega) only[wpS,zE,zL,dX,aw (X2.kept byOmega g1),aC,bF];refine call (gS n2 d2 h3 h4) ?_;rintro w k3 ⟨Y3,p3⟩;have X3:=X2.trans Y3;simp -dsimp (disch:=omega) only[wpS,zE];refine call (op k3 v w (ch.ae (p2.rat ok1) Y3.ae) (p3.rat ok2)) ?_;rintro _ k4 ⟨Y4,rfl⟩;have X4:=X3.trans Y4;simp -dsimp (disch:=omega) only[wpS,zE];refine⟨by repeat' first|refine aB ?_ ?_|refine aA ?_ ?_|exact ai rfl rfl rfl rfl (aO (H0:=H0) rfl byOmega aG aG cS),?_⟩;simp -dsimp (disch:=try exact dx) only[wpS,wpT,zE,zA];exact E0.trans X4
def VC {p1 p2:Nat×Nat} (h1:p1.1<W8∧p1.2<W8) (h2:p2.1<W8∧p2.2<W8) (ok1:okS p1.1 p1.2) (ok2:okS p2.1 p2.2):WV prog (.func (.func 26) #[] #[]) [shV p1.1 p1.2,shV p2.1 p2.2] h fun r h'=>Ext h h'∧r=.tuple #[KI (if rOf p1<rOf p2 then -1 else if rOf p1=rOf p2 then 0 else 1),KI 0]:=by have q1:=jY (p:=p1) h1.1 h1.2 ok1;have q2:=jY (p:=p2) h2.1 h2.2 ok2;refine enter (nt:=11) (rs:=[.tmp 4,.tmp 5]) Proofs.Tryz.func26 rfl rfl rfl aa ?_;simp -dsimp (disch:=try exact dx) only[wpS,zE,zA,dX,aU];obtain⟨H0,hH0,n0,E0,g0,g1⟩:=gN h (shC p1.1 p1.2) (shC p2.1 p2.2);rw[←hH0];clear hH0;simp -dsimp (disch:=try exact dx) only[wpS,zE,zL,dX,aw g1,aC,bF];refine call (Zah h1.1 h1.2 h2.1 h2.2 ok1 ok2 (fun h' v w a b=>wR a b q1 q2 byOmega)) ?_;rintro _ k1 ⟨X1,rfl⟩;simp -dsimp (disch:=omega) only[wpS,wpT,zE];exact E0.trans X1

end Go.Id
namespace Go.Id
open Go
open Go renaming Operand→QY,Program→QX,TypeId→QZ,Value→QQ
open Nat renaming reduceAdd→zA,reduceEqDiff→zE,reduceLeDiff→zL
open Nat (reduceMul)
set_option maxHeartbeats 16000000
def E1 (P:QX) (tb:FuncId→Option (List QQ→Option QQ)):Env:=⟨P,fun _ _=>none,fun f=>(tb f).map fun g args h=>bif args.all plain then (g args).map (·,h) else none⟩
variable {m:Mp}{l:List QQ}
theorem Tn {l':List QQ} (h:cg m l l') (hp:l.all plain=true):l'=l:=by
 apply jT fun i=>?_;by_cases hi:i<l.length;·obtain⟨v',h1,h2⟩:=h.get (bK hi);rw[h1,bK hi,h2.fx (by have:=gG.1 hp;exact this _ (iE hi))]
 ·rw[cI (show l'.length≤i from h.1▸xT hi),cI (xT hi)]
def zC (hp:l.all plain=true):cg m l l :=
 ⟨rfl,fun i v v' a b=>by
  rw[a] at b;cases b;exact .cY (gG.1 hp _ (bN a))⟩
variable {h:IH}{B:Nat}{w w0:World}
def Rel.bare (R:Rel B w0 m h w):Rel B w0 ⟨fun b=>if b % 2=1 then m b else none,m.ez⟩ (IH.start fun _=>none) w:=by
 have leaf : ∀{α:Type} (k:Nat),(Tr.leaf:Tr α).get k=none:=fun k=>rfl
 have odd : ∀k x,(⟨fun b=>if b % 2=1 then m b else none,m.ez⟩:Mp) (2*k)=some x→False:=by intro k x h;have h1:(if 2*k % 2=1 then m (2*k) else none)=some x:=h;rw[ad byOmega] at h1;cases h1
 refine⟨R.below,R.size,?_,fun b h=>?_,?_,fun k _=>leaf k,?_,?_,?_,?_,?_,?_⟩;·intro b cs h;cases h
 ·show(if (2*b+1) % 2=1 then m (2*b+1) else none)=_
  rw[ah byOmega];exact R.odd b h
 ·intro k r s h;exact(odd _ _ h).elim
 ·intro k o r s h;cases h
 ·intro k k' o o' r s s' _ h;cases h
 ·intro f st h;cases h
 ·intro k cs t f h;cases h
 ·intro f st h;cases h
 ·intro f st x y h;cases h
variable {w':World}
theorem jD.same {r s:Nat} {z:Nat×Nat} {o:cB} (h:jD m w r s z o) (e:w'.heap[r]?=w.heap[r]?):jD m w' r s z o:=by cases o<;>simp only[jD] at h ⊢ <;> first|(rw[e];exact h)|trivial
def Rel.aside {m':Mp} {h':IH} (R:Rel B w0 m h w) (R':Rel B w0 m' h' w') (S:Step ⟨fun b=>if b % 2=1 then m b else none,m.ez⟩ (IH.start fun _=>none) w m' h' w'):Rel B w0 m h w'∧Step m h w m h w':=by
 have same : ∀r,r<w.heap.size→w'.heap[r]?=w.heap[r]?:=fun r hr=>S.frame r hr fun k s hk=>absurd hk (Nat.not_lt_zero k);refine⟨⟨R'.below,R'.size,fun b cs hb=>?_,R.odd,fun k r s hk=>?_,R.dom,fun k o r s hk hm=>?_,R.own,R.fI,R.fam,R.long,R.whole⟩,⟨Mp.le_refl m,fun b hb=>absurd rfl hb,ar _,rfl,fun r hr _=>same r hr,fun _ _ _=>rfl,S.size,fun k r s h1 h2=>byOmega,fun _ _ _ hh=>hh⟩⟩;·obtain⟨r,s,h1,h2,c,el,fz,h3,h4⟩:=R.base b cs hb;exact⟨r,s,h1,h2,c,el,fz,by rw[same r (by have:=R.size;omega)];exact h3,h4⟩
 ·have:=R.even k r s hk
  have:=S.size;exact⟨byOmega,byOmega⟩
 ·exact(R.obj k o r s hk hm).same (same r (R.even k r s hm).2)
def qj:QQ→Bool
 | .tuple vs=>vs.toList.all plain
 | v=>plain v
variable {v:QQ}
def aW.G0 {v':QQ} (h:aW m v v') (hv:qj v=true):v'=v:=by
 unfold qj at hv;split at hv;·obtain⟨cs',rfl,h2⟩:=h.sF;have:=cg.fx h2 hv;exact gC QQ.tuple (Array.ext' this)
 ·exact h.fx hv
def aW.GZ (hv:qj v=true):aW m v v:=by
 unfold qj at hv;split at hv;·exact aW.ji (zC hv)
 ·exact .cY hv
def Su (P:QX) (f:FuncId) (args:List QQ) (v:QQ):Prop :=
 ∀(B:Nat) (w0:World) (m:Mp) (h:IH) (w:World),Rel B w0 m h w → ∃h2,oq P f args.toArray B w0 ⟨fun b=>if b % 2=1 then m b else none,m.ez⟩ (IH.start fun _=>none) w v h2
variable {f:FuncId}{args:List QQ}
def Hu {E:Env} (S:Sound E) {n:Nat} {h2:IH} (hr:dj E (n+1) (.func (.func f) #[] #[]) args (IH.start fun _=>none)=some (v,h2)) (hb : ∃fn,E.P.funcs[f]?=some fn∧fn.body.isSome=true) (hp:args.all plain=true):Su E.P f args v:=by
 intro B w0 m h w R
 refine⟨h2,?_⟩;have hc:=hr;unfold dj at hc;have fresh:iA ⟨fun b=>if b % 2=1 then m b else none,m.ez⟩ (IH.start fun _=>none).n h2.n:=fun k _ _=>by show(if 2*k % 2=1 then m (2*k) else none)=none;rw[ad byOmega]
 obtain⟨fn,hfn,hb⟩:=hb;rcases yI S (tv S n) (kH S n) hc R.bare (args':=args.toArray) (by simpa using zC hp) fresh with⟨_,k⟩|⟨fn',k1,k2,_⟩;·exact k
 ·have k3:E.P.funcs[f]?=some fn':=k1
  rw[hfn] at k3;cases k3;rw[k2] at hb;cases hb
variable {P:QX}
def Xg (S:Sound (E0 P)) (hb : ∃fn,P.funcs[f]?=some fn∧fn.body.isSome=true) (hp:args.all plain=true) (h:WV P (.func (.func f) #[] #[]) args (IH.start fun _=>none) fun r _=>r=v):Su P f args v:=by obtain⟨⟨r,h2⟩,⟨N,hN⟩,hr⟩:=h;simp only at hr;subst hr;exact Hu (E:=E0 P) S (hN (N+1) byOmega) hb hp
def ZcN {tb:FuncId→Option (List QQ→Option QQ)} (S:Sound (E0 P)) (hf : ∀f g,tb f=some g → ∃fn,P.funcs[f]?=some fn∧fn.body.isSome=true)(hv : ∀f g,tb f=some g → ∀args v,args.all plain=true→g args=some v→qj v=true∧Su P f args v):Sound (E1 P tb) where
 mixed:=S.mixed
 names:=S.names
 origin:=S.origin
 MV:=fun f g hg args h v h' e=>by
  obtain⟨g0,h1,rfl⟩:=bg.1 hg;simp only[aK] at e;split at e;·obtain⟨v0,_,e2⟩:=bg.1 e;cases e2;exact ar _
  ·cases e
 xh:=fun f g hg=>by
  obtain⟨g0,h1,rfl⟩:=bg.1 hg;refine⟨hf f g0 h1,fun args h v h' e B w0 m w args' R jK _=>?_⟩;simp only[aK] at e;split at e
  case isFalse=>cases e
  rename_i hp;obtain⟨v0,e1,e2⟩:=bg.1 e;cases e2;obtain⟨hpl,hg⟩:=hv f g0 h1 args v hp e1;obtain⟨h2,key⟩:=hg B w0 m h w R;have ea:args.toArray=args':=by rw[←Tn jK hp]
  rw[ea] at key;refine key.mono fun e' w' ⟨v',m',he,hvr,R',S'⟩=>?_;obtain⟨R2,S2⟩:=R.aside R' S';exact⟨v',m,he,by rw[hvr.G0 hpl];exact .GZ hpl,R2,S2⟩
end Go.Id
