/-
  Contracts: the reference's fractions: sums, differences, products, quotients, order.
-/
import Derived.Test.YtnnmjocmapilaaaGreatOutlierValidAx
set_option linter.unusedVariables false
set_option linter.unusedSimpArgs false
set_option linter.defProp false
set_option linter.deprecated false
namespace Go.Id
open Go
open Go.Proofs.Tryz (prog)
open Nat renaming reduceAdd→zA,reduceEqDiff→zE,reduceLeDiff→zL
set_option maxHeartbeats 16000000
theorem fm.parts {h:IH} {v:Value} {q:Rat} (p:fm h v q) : ∃a s b t,v=.agg #[a,s,b,t]∧ba h (.agg #[a,s]) q.num∧ba h (.agg #[b,t]) q.den∧s.cells = #[s]∧aA s=true∧t.cells = #[t]∧aA t=true∧aA a=true∧aA b=true:=by
 obtain⟨a,s,b,t,rfl,h1,h2⟩:=p
 obtain⟨rfl,c1,o1⟩:=h1.co
 obtain⟨rfl,c2,o2⟩:=h2.co
 exact⟨_,s,_,t,rfl,h1,h2,c1,o1,c2,o2,rfl,rfl⟩
theorem ql4 {H:IH} {k:Nat} {a s b t:Value} (g:H.ext.get k=some (.cells [a,s,b,t] 0 none)):load prog H 175 (ptr (2*k) 0)=some (.agg #[a,s])∧load prog H 175 (ptr (2*k) 2)=some (.agg #[b,t])∧load prog H 177 (ptr (2*k) 0)=some (.agg #[a,s,b,t]):=by
 have r:=aj g
 refine⟨?_,?_,?_⟩
 ·simp -dsimp (disch:=omega) only[wpS,wpT,zL,zA,bW,r]
  rfl
 ·simp -dsimp (disch:=omega) only[wpS,wpT,zL,zA,bW,r]
  rfl
 ·rw[eP Hs yZ,xn r]
  rfl
theorem zy {h:IH} {v w:Value} {x y:Rat} {a b:Nat} (hv:fm h v x) (hw:fm h w y) (qx:QB a x) (qy:QB b y) (hk:a+b+1<16000000) :
  WV prog (.func (.func 168) #[] #[]) [v,w] h fun r h'=>Ext h h'∧fm h' r (x+y):=by
 obtain⟨a1,s1,b1,t1,rfl,hn1,hd1,c1,o1,c2,o2,o3,o4⟩:=hv.parts
 obtain⟨a2,s2,b2,t2,rfl,hn2,hd2,c5,o5,c6,o6,o7,o8⟩:=hw.parts
 refine enter (nt:=22) (rs:=[.cell 4 177]) Proofs.Tryz.func168 rfl rfl rfl (by simp) ?_
 simp -dsimp (disch:=omega) only[wpS,zE,zA,ku]
 obtain⟨H0,hH0,n0,E0,g0,g1,g2⟩:=fP h [a1,s1,b1,t1] [a2,s2,b2,t2] ZR
 rw[←hH0]
 clear hH0
 have X0:=Ext.refl H0
 obtain⟨L1,L2,_⟩:=ql4 g0
 obtain⟨L3,L4,_⟩:=ql4 g1
 refine drawn [(6,[4]),(8,[4]),(12,[4,9,10]),(14,[4,9,10])] (by kernel_rfl) (by kernel_rfl) rfl ?_
 simp -dsimp (disch:=omega) only[wpS,wpT,zE,zL,zA,jq,bW,j6,aj g0,aj g1,tkA,tkB]
 refine call (jh (hn1.aa E0.aa) (hd2.aa E0.aa) (aS qx.1 (by omega)) (aS qy.dM (by omega))) ?_
 rintro r1 h1 ⟨X1,p1⟩
 have m1:=X1.n
 simp -dsimp (disch:=omega) only[wpS,wpT,zE,zL,zA,jq,bW,j6,aj (X1.kept (by omega) g0),aj (X1.kept (by omega) g1),tkA,tkB]
 refine call (jh (hn2.aa (E0.trans X1).aa) (hd1.aa (E0.trans X1).aa) (aS qy.1 (by omega)) (aS qx.dM (by omega))) ?_
 rintro r2 h2 ⟨hE2,p2⟩
 have m2:=hE2.n
 have X2:=X1.trans hE2
 simp -dsimp (disch:=omega) only[wpS,zE]
 have b1':=bQ qx.1 qy.dM
 have b2':=bQ qy.1 qx.dM
 have b3':=qx.XR qy
 have b4':=bQ qx.dM qy.dM
 have sb1:aU (x.num*y.den):=bt b1' (by omega)
 have sb2:aU (y.num*x.den):=bt b2' (by omega)
 have sb3:aU (x.num*y.den+y.num*x.den):=bt b3' hk
 have sb4:aU ((x.den:Int)*y.den):=bt b4' (by omega)
 refine call (yk (p1.aa hE2.aa) p2 sb1 sb2) ?_
 rintro r3 h3 ⟨hE3,p3⟩
 have m3:=hE3.n
 have X3:=X2.trans hE3
 simp -dsimp (disch:=omega) only[wpS,wpT,zE,zL,zA,bW,j6,aj (X3.kept (by omega) g0),aj (X3.kept (by omega) g1),tkB]
 refine call (jh (hd1.aa (E0.trans X3).aa) (hd2.aa (E0.trans X3).aa) (aS qx.dM (by omega)) (aS qy.dM (by omega))) ?_
 rintro r4 h4 ⟨hE4,p4⟩
 have m4:=hE4.n
 have X4:=X3.trans hE4
 simp -dsimp (disch:=omega) only[wpS,zE]
 refine call (ma (p3.aa hE4.aa) p4 sb3 sb4 (Cy x y)) ?_
 rintro r5 h5 ⟨hE5,p5⟩
 have m5:=hE5.n
 have X5:=X4.trans hE5
 rw[←uI] at p5
 obtain⟨a3,s3,b3,t3,rfl,_,_,d1,o1,d2,o2,o3,o4⟩:=p5.parts
 have kg:=X5.kept (by omega) g2
 simp -dsimp (disch:=omega) only[wpS,wpT,zE,zL,zA,iW,kg,o1,o2,o3,o4]
 refine⟨by repeat' first|refine ay ?_ ?_|refine az ?_ ?_|exact ad rfl rfl rfl rfl (aT (H0:=H0) rfl (by omega) (by assumption) (by assumption) (by with_reducible assumption)),?_⟩
 simp -dsimp (disch:=omega) only[wpS,wpT,zE,zL,zA,jx,fg]
 exact⟨(E0.trans X5).put (by omega) _,p5.aa ((aJ.refl _).put kg _)⟩
theorem M4 {h:IH} {v w:Value} {x y:Rat} {a b:Nat} (hv:fm h v x) (hw:fm h w y) (qx:QB a x) (qy:QB b y) (hk:a+b<16000000) :
  WV prog (.func (.func 166) #[] #[]) [v,w] h fun r h'=>Ext h h'∧fm h' r (x*y):=by
 obtain⟨a1,s1,b1,t1,rfl,hn1,hd1,c1,o1,c2,o2,o3,o4⟩:=hv.parts
 obtain⟨a2,s2,b2,t2,rfl,hn2,hd2,c5,o5,c6,o6,o7,o8⟩:=hw.parts
 refine enter (nt:=16) (rs:=[.cell 4 177]) Proofs.Tryz.func166 rfl rfl rfl (by simp) ?_
 simp -dsimp (disch:=omega) only[wpS,zE,zA,ku]
 obtain⟨H0,hH0,n0,E0,g0,g1,g2⟩:=fP h [a1,s1,b1,t1] [a2,s2,b2,t2] ZR
 rw[←hH0]
 clear hH0
 have X0:=Ext.refl H0
 obtain⟨L1,L2,_⟩:=ql4 g0
 obtain⟨L3,L4,_⟩:=ql4 g1
 have sb1:aU (x.num*y.num):=bt (bQ qx.1 qy.1) hk
 have sb2:aU ((x.den:Int)*y.den):=bt (bQ qx.dM qy.dM) hk
 refine drawn [(6,[4]),(8,[4])] (by kernel_rfl) (by kernel_rfl) rfl ?_
 simp -dsimp (disch:=omega) only[wpS,wpT,zE,zL,zA,jq,bW,aj g0,aj g1,tkA]
 refine call (jh (hn1.aa E0.aa) (hn2.aa E0.aa) (aS qx.1 (by omega)) (aS qy.1 (by omega))) ?_
 rintro r1 h1 ⟨X1,p1⟩
 have m1:=X1.n
 simp -dsimp (disch:=omega) only[wpS,wpT,zE,zL,zA,bW,j6,aj (X1.kept (by omega) g0),aj (X1.kept (by omega) g1),tkB]
 refine call (jh (hd1.aa (E0.trans X1).aa) (hd2.aa (E0.trans X1).aa) (aS qx.dM (by omega)) (aS qy.dM (by omega))) ?_
 rintro r2 h2 ⟨hE2,p2⟩
 have m2:=hE2.n
 have X2:=X1.trans hE2
 simp -dsimp (disch:=omega) only[wpS,zE]
 refine call (ma (p1.aa hE2.aa) p2 sb1 sb2 (Cy x y)) ?_
 rintro r5 h5 ⟨hE5,p5⟩
 have m5:=hE5.n
 have X5:=X2.trans hE5
 rw[←yi] at p5
 obtain⟨a3,s3,b3,t3,rfl,_,_,d1,o1,d2,o2,o3,o4⟩:=p5.parts
 have kg:=X5.kept (by omega) g2
 simp -dsimp (disch:=omega) only[wpS,wpT,zE,zL,zA,iW,kg,o1,o2,o3,o4]
 refine⟨by repeat' first|refine ay ?_ ?_|refine az ?_ ?_|exact ad rfl rfl rfl rfl (aT (H0:=H0) rfl (by omega) (by assumption) (by assumption) (by with_reducible assumption)),?_⟩
 simp -dsimp (disch:=omega) only[wpS,wpT,zE,zL,zA,jx,fg]
 exact⟨(E0.trans X5).put (by omega) _,p5.aa ((aJ.refl _).put kg _)⟩
theorem PZ {h:IH} {v w:Value} {x y:Rat} {a b:Nat} (hv:fm h v x) (hw:fm h w y) (qx:QB a x) (qy:QB b y) (hk:a+b<16000000) (y0:y≠0) :
  WV prog (.func (.func 165) #[] #[]) [v,w] h fun r h'=>Ext h h'∧fm h' r (x / y):=by
 obtain⟨a1,s1,b1,t1,rfl,hn1,hd1,c1,o1,c2,o2,o3,o4⟩:=hv.parts
 obtain⟨a2,s2,b2,t2,rfl,hn2,hd2,c5,o5,c6,o6,o7,o8⟩:=hw.parts
 refine enter (nt:=16) (rs:=[.cell 4 177]) Proofs.Tryz.func165 rfl rfl rfl (by simp) ?_
 simp -dsimp (disch:=omega) only[wpS,zE,zA,ku]
 obtain⟨H0,hH0,n0,E0,g0,g1,g2⟩:=fP h [a1,s1,b1,t1] [a2,s2,b2,t2] ZR
 rw[←hH0]
 clear hH0
 have X0:=Ext.refl H0
 obtain⟨L1,L2,_⟩:=ql4 g0
 obtain⟨L3,L4,_⟩:=ql4 g1
 have sb1:aU (x.num*y.den):=bt (bQ qx.1 qy.dM) hk
 have sb2:aU ((x.den:Int)*y.num):=bt (bQ qx.dM qy.1) hk
 refine drawn [(6,[4]),(8,[4])] (by kernel_rfl) (by kernel_rfl) rfl ?_
 simp -dsimp (disch:=omega) only[wpS,wpT,zE,zL,zA,jq,bW,j6,aj g0,aj g1,tkA,tkB]
 refine call (jh (hn1.aa E0.aa) (hd2.aa E0.aa) (aS qx.1 (by omega)) (aS qy.dM (by omega))) ?_
 rintro r1 h1 ⟨X1,p1⟩
 have m1:=X1.n
 simp -dsimp (disch:=omega) only[wpS,wpT,zE,zL,zA,jq,bW,j6,aj (X1.kept (by omega) g0),aj (X1.kept (by omega) g1),tkA,tkB]
 refine call (jh (hd1.aa (E0.trans X1).aa) (hn2.aa (E0.trans X1).aa) (aS qx.dM (by omega)) (aS qy.1 (by omega))) ?_
 rintro r2 h2 ⟨hE2,p2⟩
 have m2:=hE2.n
 have X2:=X1.trans hE2
 simp -dsimp (disch:=omega) only[wpS,zE]
 refine call (ma (p1.aa hE2.aa) p2 sb1 sb2 (Int.mul_ne_zero (Av x) (IN y0))) ?_
 rintro r5 h5 ⟨hE5,p5⟩
 have m5:=hE5.n
 have X5:=X2.trans hE5
 rw[←yj] at p5
 obtain⟨a3,s3,b3,t3,rfl,_,_,d1,o1,d2,o2,o3,o4⟩:=p5.parts
 have kg:=X5.kept (by omega) g2
 simp -dsimp (disch:=omega) only[wpS,wpT,zE,zL,zA,iW,kg,o1,o2,o3,o4]
 refine⟨by repeat' first|refine ay ?_ ?_|refine az ?_ ?_|exact ad rfl rfl rfl rfl (aT (H0:=H0) rfl (by omega) (by assumption) (by assumption) (by with_reducible assumption)),?_⟩
 simp -dsimp (disch:=omega) only[wpS,wpT,zE,zL,zA,jx,fg]
 exact⟨(E0.trans X5).put (by omega) _,p5.aa ((aJ.refl _).put kg _)⟩
theorem To (x y:Rat):(if x.num*y.den<y.num*x.den then (-1:Int) else if y.num*x.den<x.num*y.den then 1 else 0)=if x<y then -1 else if x=y then 0 else 1:=by
 simp only[Rat.lt_iff,Rat.eq_iff_mul_eq_mul]
 split
 ·rfl
 ·split<;>split<;>first|rfl|omega
theorem BJ {h:IH} {v w:Value} {x y:Rat} {a b:Nat} (hv:fm h v x) (hw:fm h w y) (qx:QB a x) (qy:QB b y) (hk:a+b<16000000) :
  WV prog (.func (.func 167) #[] #[]) [v,w] h fun r h'=>Ext h h'∧r=KI (if x<y then -1 else if x=y then 0 else 1):=by
 obtain⟨a1,s1,b1,t1,rfl,hn1,hd1,c1,o1,c2,o2,o3,o4⟩:=hv.parts
 obtain⟨a2,s2,b2,t2,rfl,hn2,hd2,c5,o5,c6,o6,o7,o8⟩:=hw.parts
 refine enter (nt:=16) (rs:=[.tmp 4]) Proofs.Tryz.func167 rfl rfl rfl (by simp) ?_
 simp -dsimp (disch:=omega) only[wpS,zE,zA]
 obtain⟨H0,hH0,n0,E0,g0,g1⟩:=dY h [a1,s1,b1,t1] [a2,s2,b2,t2]
 rw[←hH0]
 clear hH0
 have X0:=Ext.refl H0
 obtain⟨L1,L2,_⟩:=ql4 g0
 obtain⟨L3,L4,_⟩:=ql4 g1
 have sb1:aU (x.num*y.den):=bt (bQ qx.1 qy.dM) hk
 have sb2:aU (y.num*x.den):=bt (by rw[Nat.add_comm];exact bQ qy.1 qx.dM) hk
 refine drawn [(6,[4]),(8,[4])] (by kernel_rfl) (by kernel_rfl) rfl ?_
 simp -dsimp (disch:=omega) only[wpS,wpT,zE,zL,zA,jq,bW,j6,aj g0,aj g1,tkA,tkB]
 refine call (jh (hn1.aa E0.aa) (hd2.aa E0.aa) (aS qx.1 (by omega)) (aS qy.dM (by omega))) ?_
 rintro r1 h1 ⟨X1,p1⟩
 have m1:=X1.n
 simp -dsimp (disch:=omega) only[wpS,wpT,zE,zL,zA,jq,bW,j6,aj (X1.kept (by omega) g0),aj (X1.kept (by omega) g1),tkA,tkB]
 refine call (jh (hn2.aa (E0.trans X1).aa) (hd1.aa (E0.trans X1).aa) (aS qy.1 (by omega)) (aS qx.dM (by omega))) ?_
 rintro r2 h2 ⟨hE2,p2⟩
 have m2:=hE2.n
 have X2:=X1.trans hE2
 simp -dsimp (disch:=omega) only[wpS,zE]
 refine call (B6 (p1.aa hE2.aa) p2 sb1 sb2) ?_
 rintro _ h5 ⟨hE5,rfl⟩
 have X5:=X2.trans hE5
 rw[To]
 simp -dsimp (disch:=omega) only[wpS,zE]
 refine⟨by repeat' first|refine ay ?_ ?_|refine az ?_ ?_|exact ad rfl rfl rfl rfl (aT (H0:=H0) rfl (by omega) (by assumption) (by assumption) (by with_reducible assumption)),?_⟩
 simp -dsimp (disch:=omega) only[wpS,wpT,zE,zA]
 exact E0.trans X5
theorem PX {h:IH} {v:Value} {x:Rat} (hv:fm h v x) :
  WV prog (.func (.func 227) #[] #[]) [v] h fun r h'=>Ext h h'∧fm h' r (-x):=by
 obtain⟨a1,s1,b1,t1,rfl,hn1,hd1,c1,o1,c2,o2,o3,o4⟩:=hv.parts
 refine enter (nt:=9) (rs:=[.cell 2 177]) Proofs.Tryz.func227 rfl rfl rfl (by simp) ?_
 simp -dsimp (disch:=omega) only[wpS,ku]
 obtain⟨H0,hH0,n0,E0,g0,g1⟩:=dY h [a1,s1,b1,t1] ZR
 rw[←hH0]
 clear hH0
 have X0:=Ext.refl H0
 obtain⟨L1,L2,_⟩:=ql4 g0
 refine drawn [(4,[2])] (by kernel_rfl) (by kernel_rfl) rfl ?_
 simp -dsimp (disch:=omega) only[wpS,wpT,zE,zL,zA,jq,bW,aj g0,tkA]
 refine call (C6 (hn1.aa E0.aa)) ?_
 rintro r1 h1 ⟨X1,p1⟩
 have m1:=X1.n
 obtain⟨s3,rfl,c5,o5⟩:=p1.cg
 have kg:=X1.kept (by omega) g1
 simp -dsimp (disch:=omega) only[wpS,wpT,zE,zL,zA,bW,j6,LW,ym,yl,iW,aj (X1.kept (by omega) g0),kg,tkB,o5,o2,o4]
 refine⟨by repeat' first|refine ay ?_ ?_|refine az ?_ ?_|exact ad rfl rfl rfl rfl (aT (H0:=H0) rfl (by omega) (by assumption) (by assumption) (by with_reducible assumption)),?_⟩
 simp -dsimp (disch:=omega) only[wpS,wpT,zE,zL,zA,jx,fg]
 have kp:=(aJ.refl h1).put kg (.cells [.bool (decide (-x.num<0)),s3,b1,t1] 0 none)
 exact⟨(E0.trans X1).put (by omega) _,_,_,_,_,rfl,p1.aa kp,hd1.aa ((E0.trans X1).aa.trans kp)⟩
theorem M6 {h:IH} {v w:Value} {x y:Rat} {a b:Nat} (hv:fm h v x) (hw:fm h w y) (qx:QB a x) (qy:QB b y) (hk:a+b+1<16000000) :
  WV prog (.func (.func 169) #[] #[]) [v,w] h fun r h'=>Ext h h'∧fm h' r (x - y):=by
 obtain⟨a1,s1,b1,t1,rfl,hn1,hd1,c1,o1,c2,o2,o3,o4⟩:=hv.parts
 obtain⟨a2,s2,b2,t2,rfl,hn2,hd2,c5,o5,c6,o6,o7,o8⟩:=hw.parts
 refine enter (nt:=9) (rs:=[.cell 4 177]) Proofs.Tryz.func169 rfl rfl rfl (by simp) ?_
 simp -dsimp (disch:=omega) only[wpS,zE,zA,ku]
 obtain⟨H0,hH0,n0,E0,g0,g1,g2⟩:=fP h [a1,s1,b1,t1] [a2,s2,b2,t2] ZR
 rw[←hH0]
 clear hH0
 have X0:=Ext.refl H0
 obtain⟨_,_,L1⟩:=ql4 g0
 obtain⟨_,_,L2⟩:=ql4 g1
 refine drawn [(0,[3])] (by kernel_rfl) (by kernel_rfl) rfl ?_
 simp -dsimp (disch:=omega) only[wpS,wpT,zE,zL,zA,jx,aj g0,aj g1,fg]
 refine call (PX (hw.aa E0.aa)) ?_
 rintro r1 h1 ⟨X1,p1⟩
 have m1:=X1.n
 simp -dsimp (disch:=omega) only[wpS,zE]
 refine call (zy (hv.aa (E0.trans X1).aa) p1 qx qy.neg hk) ?_
 rintro r2 h2 ⟨hE2,p2⟩
 have X2:=X1.trans hE2
 have m2:=hE2.n
 rw[←Rat.sub_eq_add_neg] at p2
 obtain⟨a3,s3,b3,t3,rfl,_,_,d1,o1,d2,o2,o3,o4⟩:=p2.parts
 have kg:=X2.kept (by omega) g2
 simp -dsimp (disch:=omega) only[wpS,wpT,zE,zL,zA,iW,kg,o1,o2,o3,o4]
 refine⟨by repeat' first|refine ay ?_ ?_|refine az ?_ ?_|exact ad rfl rfl rfl rfl (aT (H0:=H0) rfl (by omega) (by assumption) (by assumption) (by with_reducible assumption)),?_⟩
 simp -dsimp (disch:=omega) only[wpS,wpT,zE,zL,zA,jx,fg]
 exact⟨(E0.trans X2).put (by omega) _,p2.aa ((aJ.refl _).put kg _)⟩
theorem uJ {h:IH} (n d:Int) (hn:fR n) (hd:fR d) (d0:d≠0):WV prog (.func (.func 115) #[] #[]) [KI n,KI d] h fun r h'=>Ext h h'∧fm h' r (Rat.divInt n d):=by
 refine enter (nt:=10) (rs:=[.cell 4 177]) Proofs.Tryz.func115 rfl rfl rfl (by simp) ?_
 simp -dsimp (disch:=omega) only[wpS,zE,zA,ku]
 have E1:Ext h (h.new (.cells ZR 0 none)):=(Ext.refl h).new _
 have g1:(h.new (.cells ZR 0 none)).ext.get h.n=some (.cells ZR 0 none):=by simp (disch:=omega) only[ah]
 refine call (nU n hn) ?_
 rintro _ h1 ⟨X1,p1⟩
 simp -dsimp (disch:=omega) only[wpS,zE]
 refine call (nU d hd) ?_
 rintro _ h2 ⟨X2,p2⟩
 simp -dsimp (disch:=omega) only[wpS,zE]
 have sn:aU n:=Ke (by have:=hn.1;have:=hn.2;omega)
 have sd:aU d:=Ke (by have:=hd.1;have:=hd.2;omega)
 refine call (ma (p1.aa X2.aa) p2 sn sd d0) ?_
 rintro _ h3 ⟨X3,p3⟩
 have m1:=X1.n
 have m2:=X2.n
 have m3:=X3.n
 simp only[aI] at m1
 obtain⟨a3,s3,b3,t3,rfl,_,_,d1,o1,d2,o2,o3,o4⟩:=p3.parts
 have kg:=X3.kept (by omega) (X2.kept (by omega) (X1.kept (by simp) g1))
 simp -dsimp (disch:=omega) only[wpS,wpT,zE,zL,zA,iW,jx,kg,o1,o2,o3,o4,fg]
 exact⟨(((E1.trans X1).trans X2).trans X3).put (by omega) _,p3.aa ((aJ.refl _).put kg _)⟩
theorem zw {h:IH} (n d:Nat) (hn:n<W8) (hd:d<W8):WV prog (.func (.func 164) #[] #[]) [shV n d] h fun r h'=>Ext h h'∧xS h' r (wdI n) (wdI d):=by
 refine enter (nt:=10) (rs:=[.cell 2 177]) Proofs.Tryz.func164 rfl rfl rfl (by simp) ?_
 simp -dsimp (disch:=omega) only[wpS,ku,aB]
 obtain⟨H0,hH0,n0,E0,g0,g1⟩:=dY h (shC n d) ZR
 rw[←hH0]
 clear hH0
 have X0:=Ext.refl H0
 obtain⟨L1,L2,_⟩:=psh g0
 refine drawn [(4,[2])] (by kernel_rfl) (by kernel_rfl) rfl ?_
 simp -dsimp (disch:=omega) only[wpS,zE,zL,Jq,eV,aj g0,au,uB]
 refine call (uX n hn) ?_
 rintro r1 h1 ⟨X1,p1⟩
 have m1:=X1.n
 simp -dsimp (disch:=omega) only[wpS,zE,zL,zA,eV,Jp,aj (X1.kept (by omega) g0),au,uA]
 refine call (uX d hd) ?_
 rintro r2 h2 ⟨hE2,p2⟩
 have m2:=hE2.n
 have X2:=X1.trans hE2
 obtain⟨s1,rfl,c1,o1⟩:=p1.cg
 obtain⟨s2,rfl,c2,o2⟩:=p2.cg
 have kg:=X2.kept (by omega) g1
 simp -dsimp (disch:=omega) only[wpS,wpT,zE,zL,zA,LW,ym,yl,iW,kg,o1,o2]
 refine⟨by repeat' first|refine ay ?_ ?_|refine az ?_ ?_|exact ad rfl rfl rfl rfl (aT (H0:=H0) rfl (by omega) (by assumption) (by assumption) (by with_reducible assumption)),?_⟩
 simp -dsimp (disch:=try exact dx) only[wpS,wpT,zE,zL,zA,jx,fg]
 have kp:=(aJ.refl h2).put kg (.cells [.bool (decide (wdI n<0)),s1,.bool (decide (wdI d<0)),s2] 0 none)
 exact⟨(E0.trans X2).put (by omega) _,_,_,_,_,rfl,p1.aa (hE2.aa.trans kp),p2.aa kp⟩
theorem vY {h:IH} {v:Value} {q:Rat} (hv:fm h v q):WV prog (.func (.func 114) #[] #[]) [v] h fun r h'=>Ext h h'∧r=(open Classical in if QW q then .tuple #[hZ q,KI 0] else .tuple #[shV 0 0,KI 6]):=by
 obtain⟨a1,s1,b1,t1,rfl,hn1,hd1,c1,o1,c2,o2,o3,o4⟩:=hv.parts
 refine enter (nt:=30) (rs:=[.cell 2 32,.tmp 3]) Proofs.Tryz.func114 rfl rfl rfl (by simp) ?_
 simp -dsimp (disch:=try exact dx) only[wpS,wpT,zE,zL,zA,gC,jq,bW]
 obtain⟨H0,hH0,n0,E0,g0,g1⟩:=dY h [a1,s1,b1,t1] Z16
 rw[←hH0]
 clear hH0
 simp -dsimp (disch:=try exact dx) only[tkA]
 refine call (Iz (hn1.aa E0.aa)) ?_
 rintro _ h1 ⟨X1,rfl⟩
 have m1:=X1.n
 obtain⟨w1,e1,hw⟩ : ∃w1 e1,(if InW q.num then Value.tuple #[pH q.num,KI 0] else .tuple #[wdV 0,KI 6])=.tuple #[wdV w1,KI e1]∧(InW q.num∧w1=aV q.num∧e1=0 ∨ ¬InW q.num∧e1=6):=by
  by_cases hi:InW q.num
  ·exact⟨_,0,by rw[if_pos hi],.inl ⟨hi,rfl,rfl⟩⟩
  ·exact⟨0,6,by rw[if_neg hi],.inr ⟨hi,rfl⟩⟩
 rw[hw.1]
 have k0:=X1.kept (by omega) g0
 have k1:=X1.kept (by omega) g1
 simp -dsimp (disch:=omega) only[wpS,wpT,zE,zL,zA,bW,nh,kK,j6,cD,ar,cb,ev,aj k0,tkA,tkB]
 obtain⟨H2,hH2⟩:=aP ((h1.new (.cells [ZW,ZW,ZW,ZW,ZW,ZW,ZW,ZW] 0 none)).put h1.n (.cells (wdC w1) 0 none))
 have e2:Ext h1 H2:=by rw[hH2];exact((Ext.refl _).new _).put (Nat.le_refl _) _
 have n2:H2.n=h1.n+1:=by rw[hH2];rfl
 have ga:H2.ext.get h1.n=some (.cells (wdC w1) 0 none):=by rw[hH2];simp (disch:=omega) only[ae]
 have k1':=e2.kept (by omega) k1
 rw[←hH2]
 clear hH2
 refine call (Iz (hd1.aa ((E0.trans X1).trans e2).aa)) ?_
 rintro _ h3 ⟨X3,rfl⟩
 have m3:=X3.n
 obtain⟨w2,f2,hw2⟩ : ∃w1 e1,(if InW (q.den:Int) then Value.tuple #[pH q.den,KI 0] else .tuple #[wdV 0,KI 6])=.tuple #[wdV w1,KI e1]∧(InW (q.den:Int)∧w1=aV q.den∧e1=0 ∨ ¬InW (q.den:Int)∧e1=6):=by
  by_cases hi:InW (q.den:Int)
  ·exact⟨_,0,by rw[if_pos hi],.inl ⟨hi,rfl,rfl⟩⟩
  ·exact⟨0,6,by rw[if_neg hi],.inr ⟨hi,rfl⟩⟩
 rw[hw2.1]
 have ga3:=X3.kept (by omega) ga
 have k3:=X3.kept (by omega) k1'
 have xx:=((E0.trans X1).trans e2).trans X3
 rcases hw.2 with⟨i1,rfl,rfl⟩|⟨i1,rfl⟩
 ·rcases hw2.2 with⟨i2,rfl,rfl⟩|⟨i2,rfl⟩
  ·rw[if_pos (show QW q from⟨i1,i2⟩)]
   simp -dsimp (disch:=omega) only[wpS,wpT,zE,zL,zA,nh,kK,Ej,ed,eV,Qa,P9,bY,cD,ar,cb,ev,aj ga3,k3,bS,Pz,Py,bC,au,aY,aO]
   exact⟨(((xx.new _).put (by omega) _).put (by omega) _),rfl⟩
  ·rw[if_neg (show ¬QW q from fun h=>i2 h.2)]
   simp -dsimp (disch:=omega) only[wpS,wpT,zE,zL,zA,nh,kK,Ej,ed,bY,cD,ar,cb,ev,k3,Kj]
   exact⟨(((xx.new _).put (by omega) _).put (by omega) _),by rw[uz]⟩
 ·rw[if_neg (show ¬QW q from fun h=>i1 h.1)]
  simp -dsimp (disch:=omega) only[wpS,wpT,zE,zL,zA,nh,kK,Ej,ed,bY,cD,ar,cb,ev,k3,Kj]
  exact⟨(((xx.new _).put (by omega) _).put (by omega) _),by rw[uz]⟩
theorem Im {h:IH} (n d:Nat) (hn:n<W8) (hd:d<W8) (d0:d≠0):WV prog (.func (.func 147) #[] #[]) [wdV n,wdV d] h fun r h'=>Ext h h'∧r=(open Classical in if QW (Rat.divInt (wdI n) (wdI d)) then .tuple #[hZ (Rat.divInt (wdI n) (wdI d)),KI 0] else .tuple #[shV 0 0,KI 6]):=by
 refine enter (nt:=18) (rs:=[.cell 4 32,.tmp 5]) Proofs.Tryz.func147 rfl rfl rfl (by simp) ?_
 simp -dsimp (disch:=try exact dx) only[wpS,wpT,zE,zL,zA,gC,eV,Ek,cD,ar]
 obtain⟨H0,hH0,n0,E0,g0,g1,g2⟩:=fP h (wdC n) (wdC d) Z16
 rw[←hH0]
 clear hH0
 have X0:=Ext.refl H0
 have L2:load prog H0 30 (ptr (2*(h.n+1)) 0)=some (wdV d):=by
  simp -dsimp (disch:=try exact dx) only[wpS,zL,eV,aj g1,ar,bS]
  rfl
 have hz:binop prog .eql 30 (.tmp 6) (.tmp 7) (.agg (wdC d).toArray) (.agg #[ZW,ZW,ZW,ZW,ZW,ZW,ZW,ZW])=some (.bool false):=by
  rw[mF,wdV,O5 hd (by have:=dZ;have:=gU;omega)]
  rw[decide_eq_false d0]
 have hdI:wdI d≠0:=fun h=>d0 ((kX hd).1 h)
 simp -dsimp (disch:=try exact dx) only[wpS,zE,bS,hz]
 refine drawn [(2,[1])] (by kernel_rfl) (by kernel_rfl) rfl ?_
 simp -dsimp (disch:=omega) only[wpS,zE,zL,eV,aj g0,ar,bS]
 refine call (uX n hn) ?_
 rintro r1 h1 ⟨X1,p1⟩
 have m1:=X1.n
 simp -dsimp (disch:=omega) only[wpS,zE,zL,eV,aj (X1.kept (by omega) g1),ar,bS]
 refine call (uX d hd) ?_
 rintro r2 h2 ⟨hE2,p2⟩
 have X2:=X1.trans hE2
 have m2:=hE2.n
 simp -dsimp (disch:=omega) only[wpS,zE]
 refine call (ma (p1.aa hE2.aa) p2 (fZ hn) (fZ hd) hdI) ?_
 rintro r3 h3 ⟨hE3,p3⟩
 have X3:=X2.trans hE3
 have m3:=hE3.n
 simp -dsimp (disch:=omega) only[wpS,zE]
 refine call (vY p3) ?_
 rintro _ h4 ⟨hE4,rfl⟩
 have X4:=X3.trans hE4
 have m4:=hE4.n
 have kg:=X4.kept (by omega) g2
 by_cases hq:QW (Rat.divInt (wdI n) (wdI d))
 ·rw[if_pos hq]
  simp -dsimp (disch:=omega) only[wpS,wpT,zE,zL,zA,ed,kg,aB,au,aY,bC]
  refine⟨by repeat' first|refine ay ?_ ?_|refine az ?_ ?_|exact ad rfl rfl rfl rfl (aT (H0:=H0) rfl (by omega) (by assumption) (by assumption) (by with_reducible assumption)),?_⟩
  simp -dsimp (disch:=omega) only[wpS,wpT,zE,zL,zA,bY,au,aO]
  exact⟨(E0.trans X4).put (by omega) _,rfl⟩
 ·rw[if_neg hq]
  simp -dsimp (disch:=omega) only[wpS,wpT,zE,zL,zA,ed,kg,aB,au,aY,bC]
  refine⟨by repeat' first|refine ay ?_ ?_|refine az ?_ ?_|exact ad rfl rfl rfl rfl (aT (H0:=H0) rfl (by omega) (by assumption) (by assumption) (by with_reducible assumption)),?_⟩
  simp -dsimp (disch:=omega) only[wpS,wpT,zE,zL,zA,bY,au,aO]
  exact⟨(E0.trans X4).put (by omega) _,rfl⟩
theorem oU {h:IH} (n d:Int) (hn:fR n) (hd:fR d) (d0:d≠0):WV prog (.func (.func 42) #[] #[]) [KI n,KI d] h fun r h'=>Ext h h'∧r=.tuple #[hZ (Rat.divInt n d),KI 0]:=by
 have hd':(d == 0)=false:=by simpa using d0
 refine enter (nt:=15) (rs:=[.cell 4 32,.tmp 5]) Proofs.Tryz.func42 rfl rfl rfl (by simp) ?_
 simp -dsimp (disch:=omega) only[wpS,zE,zA,gC,hd']
 have E1:Ext h (h.new (.cells Z16 0 none)):=(Ext.refl h).new _
 have g1:(h.new (.cells Z16 0 none)).ext.get h.n=some (.cells Z16 0 none):=by simp (disch:=omega) only[ah]
 refine call (uJ n d hn hd d0) ?_
 rintro _ h1 ⟨X1,p1⟩
 simp -dsimp (disch:=omega) only[wpS,zE]
 refine call (vY p1) ?_
 rintro _ h2 ⟨X2,rfl⟩
 rw[if_pos (kL hn hd d0)]
 have m1:=X1.n
 have m2:=X2.n
 simp only[aI] at m1
 have kg:=X2.kept (by omega) (X1.kept (by simp) g1)
 simp -dsimp (disch:=omega) only[wpS,wpT,zE,zL,zA,ed,bY,kg,aB,au,aY,bC,aO]
 exact⟨((E1.trans X1).trans X2).put (by omega) _,rfl⟩
end Go.Id
namespace Go.Id
open Go
theorem Qv {h:IH} (n d:Nat) (hn:n<W8) (hd:d<W8) (d0:d≠0) (hq:QW (Rat.divInt (wdI n) (wdI d))):WV Proofs.Tryz.prog (.func (.func 73) #[] #[]) [wdV n,wdV d] h fun r h'=>Ext h h'∧r=hZ (Rat.divInt (wdI n) (wdI d)):=by
 refine enter (nt:=22) (rs:=[.cell 4 32]) Proofs.Tryz.func73 rfl rfl rfl (by simp) ?_
 simp -dsimp (disch:=try exact dx) only[wpS,Nat.reduceEqDiff,Nat.reduceLeDiff,Nat.reduceAdd,gC,eV,cD,ar,bS]
 obtain⟨H0,hH0,n0,E0,g0,g1,g2⟩:=fP h (wdC n) (wdC d) Z16
 rw[←hH0]
 clear hH0
 refine call (Im n d hn hd d0) ?_
 rintro _ h1 ⟨X1,rfl⟩
 rw[if_pos hq]
 have m1:=X1.n
 have k2:=X1.kept (by omega) g2
 simp -dsimp (disch:=omega) only[wpS,wpT,Nat.reduceEqDiff,Nat.reduceLeDiff,Nat.reduceAdd,gC,ed,bY,k2,aB,au,aY,bC,aO]
 exact⟨(((E0.trans X1).new _).put (by omega) _).put (by omega) _,rfl⟩
section
variable {P:Program}
end


open Go.Proofs.Tryz (prog)
open Nat renaming reduceAdd→zA,reduceEqDiff→zE,reduceLeDiff→zL
set_option maxHeartbeats 16000000
theorem mq {h:IH} {b:Bool} {x:Value} {n:Int} (hx:([x]:List Value).all aA=true) (h0:0≤n) (hn:n<4294967296) :
  WV prog (.func (.func 72) #[] #[]) [.agg #[.bool b,x,.int .u32 n]] h fun r h'=>Ext h h' ∧ ∃z:Int,r=KI z ∧ -1000000≤z∧z≤1000000:=by
 have E1:Ext h (h.new (.cells [.bool b,x,.int .u32 n] 0 none)):=(Ext.refl h).new _
 have hm:0≤n % 1000001:=by omega
 have hm2:n % 1000001≤1000000:=by omega
 have hx':aA x=true:=by simpa using hx
 refine enter (nt:=13) (rs:=[.tmp 2]) Proofs.Tryz.func72 rfl rfl rfl (by simp) ?_
 simp -dsimp (disch:=omega) only[wpS,zE,Xh,ld54,Xp,Xi,ld4]
 cases b
 ·simp -dsimp (disch:=omega) only[wpS,zE]
  exact⟨E1,_,rfl,by omega,by omega⟩
 ·simp -dsimp (disch:=omega) only[wpS,zE]
  exact⟨E1,_,rfl,by omega,by omega⟩
theorem yV (z:Int) : -1000<z.tmod 1000∧z.tmod 1000<1000:=by
 rcases Int.le_total 0 z with h|h
 ·rw[Int.tmod_eq_emod_of_nonneg h];omega
 ·obtain⟨w,rfl⟩ : ∃w,z = -w:=⟨-z,by omega⟩
  rw[Int.neg_tmod,Int.tmod_eq_emod_of_nonneg (by omega)];omega
theorem vV {h:IH} (a c:Int) (ha : -1000<a∧a<1000) (hc:0<c∧c<25):WV prog (.func (.func 73) #[] #[]) [pH a,pH c] h fun r h'=>Ext h h'∧r=hZ (Rat.divInt a c):=by
 have ia:fR a:=⟨by omega,by omega⟩
 have ic:fR c:=⟨by omega,by omega⟩
 have e1:wdI (aV a)=a:=cm (jy ia)
 have e2:wdI (aV c)=c:=cm (jy ic)
 have hz:aV c≠0:=by
  intro e
  rw[e] at e2
  have:wdI 0=0:=by decide +kernel
  omega
 have hq:QW (Rat.divInt (wdI (aV a)) (wdI (aV c))):=by
  rw[e1,e2]
  exact kL ia ic (by omega)
 have:=Qv (h:=h) (aV a) (aV c) (dR (jy ia)) (dR (jy ic)) hz hq
 rw[e1,e2] at this
 exact this
theorem Js {h:IH} {b b2:Bool} {x x2:Value} {n n2:Int} (hx:([x]:List Value).all aA=true) (hx2:([x2]:List Value).all aA=true) (h0:0≤n) (hn:n<4294967296) (g0:0≤n2) (gn:n2<4294967296) :
  WV prog (.func (.func 29) #[] #[]) [.agg #[.bool b,x,.int .u32 n,.bool b2,x2,.int .u32 n2]] h fun r h'=>Ext h h' ∧ ∃a c:Int,(-1000<a∧a<1000)∧(0<c∧c<25)∧r=hZ (Rat.divInt a c):=by
 have hx':aA x=true:=by simpa using hx
 have hx2':aA x2=true:=by simpa using hx2
 obtain⟨H0,hH0,n0,E0,k0,k1⟩:=dY h [.bool b,x,.int .u32 n,.bool b2,x2,.int .u32 n2] Z16
 refine enter (nt:=21) (rs:=[.cell 2 32]) Proofs.Tryz.func29 rfl rfl rfl (by simp) ?_
 simp -dsimp (disch:=try exact dx) only[wpS,wpT,zE,zL,zA,gC,Ra,ND]
 rw[←hH0]
 clear hH0
 refine call (mq hx2 g0 gn) ?_
 rintro _ h1 ⟨X1,z,rfl,z0,z1⟩
 have m1:=X1.n
 have kx:=X1.kept (by omega) k0
 have Xt:z<0∨0≤z:=by omega
 rcases Xt with hz|hz
 ·obtain⟨w,hw⟩:=aP (-z)
  have c1:decide (z<0)=true:=decide_eq_true hz
  simp -dsimp (disch:=omega) only[wpS,wpT,zE,zL,zA,ND,Jo,c1,aj kx]
  rw[←hw]
  refine call (mq hx h0 hn) ?_
  rintro _ h2 ⟨X2,y,rfl,y0,y1⟩
  have m2:=X2.n
  have hr : ∀ox oy,binop prog .rem 3 ox oy (KI y) (KI 1000)=some (KI (y.tmod 1000)):=fun _ _=>ow _ _ _ _ (by decide)
  have hy:=yV y
  simp -dsimp (disch:=omega) only[wpS,zE,hr]
  refine call (dT (y.tmod 1000) ⟨by omega,by omega⟩) ?_
  rintro _ h3 ⟨X3,rfl⟩
  have m3:=X3.n
  simp -dsimp (disch:=omega) only[wpS,zE]
  refine call (dT (1+w % 24) ⟨by omega,by omega⟩) ?_
  rintro _ h4 ⟨X4,rfl⟩
  have m4:=X4.n
  simp -dsimp (disch:=omega) only[wpS,zE]
  refine call (vV (y.tmod 1000) (1+w % 24) hy ⟨by omega,by omega⟩) ?_
  rintro _ h5 ⟨X5,rfl⟩
  have m5:=X5.n
  have XX:=(((X1.trans X2).trans X3).trans X4).trans X5
  have k2:=XX.kept (by omega) k1
  simp -dsimp (disch:=omega) only[wpS,wpT,zE,zL,zA,ed,bY,k2,aB,au,aY,bC,aO]
  exact⟨(E0.trans XX).put (by omega) _,_,_,hy,⟨by omega,by omega⟩,rfl⟩
 ·obtain⟨w,hw⟩:=aP (z)
  have c1:decide (z<0)=false:=decide_eq_false (by omega)
  simp -dsimp (disch:=omega) only[wpS,wpT,zE,zL,zA,ND,Jo,c1,aj kx]
  rw[←hw]
  refine call (mq hx h0 hn) ?_
  rintro _ h2 ⟨X2,y,rfl,y0,y1⟩
  have m2:=X2.n
  have hr : ∀ox oy,binop prog .rem 3 ox oy (KI y) (KI 1000)=some (KI (y.tmod 1000)):=fun _ _=>ow _ _ _ _ (by decide)
  have hy:=yV y
  simp -dsimp (disch:=omega) only[wpS,zE,hr]
  refine call (dT (y.tmod 1000) ⟨by omega,by omega⟩) ?_
  rintro _ h3 ⟨X3,rfl⟩
  have m3:=X3.n
  simp -dsimp (disch:=omega) only[wpS,zE]
  refine call (dT (1+w % 24) ⟨by omega,by omega⟩) ?_
  rintro _ h4 ⟨X4,rfl⟩
  have m4:=X4.n
  simp -dsimp (disch:=omega) only[wpS,zE]
  refine call (vV (y.tmod 1000) (1+w % 24) hy ⟨by omega,by omega⟩) ?_
  rintro _ h5 ⟨X5,rfl⟩
  have m5:=X5.n
  have XX:=(((X1.trans X2).trans X3).trans X4).trans X5
  have k2:=XX.kept (by omega) k1
  simp -dsimp (disch:=omega) only[wpS,wpT,zE,zL,zA,ed,bY,k2,aB,au,aY,bC,aO]
  exact⟨(E0.trans XX).put (by omega) _,_,_,hy,⟨by omega,by omega⟩,rfl⟩
end Go.Id
namespace Go.Id
open Go

open Go.Proofs.Tryz (prog)
open Nat renaming reduceAdd→zA,reduceEqDiff→zE,reduceLeDiff→zL
set_option maxHeartbeats 16000000
theorem Ws {h:IH} {v:Value} {z:Int} (hv:ba h v z):WV prog (.func (.func 224) #[] #[]) [v] h fun r h'=>Ext h h'∧r=.bool (decide (z=1)):=by
 obtain⟨s,rfl,ds,hD,hN,hx⟩:=hv
 have E1:Ext h (h.new (.cells [.bool (decide (z<0)),s] 0 none)):=(Ext.refl h).new _
 refine enter (nt:=19) (rs:=[.tmp 2]) Proofs.Tryz.func224 rfl rfl rfl (by simp) ?_
 by_cases h1:ds.length=1
 ·obtain⟨x,rfl⟩:=List.length_eq_one_iff.1 h1
  have hv:ao [x]=x:=by simp[ao,aE]
  rw[hv] at hx
  have ib:indexAddr prog 25 s (.int .i64 0)=some (aM s 0):=by
   simpa using hD.1.Zc (P:=prog) (t:=25) jN (k:=.i64) (i:=0) (by omega) (by simp)
  have l0:load prog (h.new (.cells [.bool (decide (z<0)),s] 0 none)) 3 (aM s 0)=some (KN x):=hD.1.ld E1.aa (P:=prog) (t:=3) (c:=0) (by simp) ag3
  have hl:=fun h'=>hD.1.len (P:=prog) fT h'
  have hl' : ∀h',nB prog h' 25 s=some (.int .i64 1):=fun h'=>hl h'
  by_cases hx1:x=1
  ·subst hx1
   have l0':load prog (h.new (.cells [.bool (decide (z<0)),s] 0 none)) 3 (aM s 0)=some (KI 1):=l0
   simp -dsimp (disch:=omega) only[wpS,wpT,zE,fc,qM,dL,ld4,hl',ib,l0']
   refine⟨E1,congrArg Value.bool ?_⟩
   by_cases h0:z<0
   ·rw[decide_eq_true h0,decide_eq_false (by omega)];rfl
   ·rw[decide_eq_false h0,decide_eq_true (by omega)];rfl
  ·have c1:((x:Int) == 1)=false:=by simp;omega
   simp -dsimp (disch:=omega) only[wpS,wpT,zE,fc,qM,hl',ib,l0,c1]
   exact⟨E1,by rw[decide_eq_false (by omega)]⟩
 ·have c1:((ds.length:Int) == 1)=false:=by simp;omega
  simp -dsimp (disch:=omega) only[wpS,wpT,zE,fc,qM,hD.1.len fT,c1]
  refine⟨E1,?_⟩
  rw[decide_eq_false]
  rintro rfl
  have h2:ao ds=1:=hx
  have h3:=hN.iO (b:=[1]) (by intro d hd;simp at hd;omega) (by rw[h2];simp[ao,aE])
  have h4:=hN.jZ
  rcases Nat.lt_or_ge 0 ds.length with h5|h5
  ·simp at h3;omega
  ·have:ds = []:=List.length_eq_zero_iff.1 (by omega)
   rw[this] at h2;simp[ao,aE] at h2
theorem FN {h:IH} (n d:Nat) (hn:n<W8) (hd:d<W8):WV prog (.func (.func 148) #[] #[]) [shV n d] h fun r h'=>Ext h h'∧r=.bool (decide (okS n d)):=by
 refine enter (nt:=26) (rs:=[.tmp 2]) Proofs.Tryz.func148 rfl rfl rfl (by simp) ?_
 simp -dsimp (disch:=omega) only[wpS,aB]
 obtain⟨H0,hH0⟩:=aP (h.new (.cells (shC n d) 0 none))
 have E0:Ext h H0:=by rw[hH0];exact(Ext.refl h).new _
 have n0:H0.n=h.n+1:=by rw[hH0];rfl
 have g0:H0.ext.get h.n=some (.cells (shC n d) 0 none):=by rw[hH0];simp (disch:=omega) only[ah]
 rw[←hH0]
 clear hH0
 have X0:=Ext.refl H0
 obtain⟨L1,L2,_⟩:=psh g0
 refine drawn [(4,[2])] (by kernel_rfl) (by kernel_rfl) rfl ?_
 simp -dsimp (disch:=omega) only[wpS,zE,zL,Jq,eV,aj g0,au,uB]
 refine call (uX n hn) ?_
 rintro _ h1 ⟨X1,p1⟩
 have m1:=X1.n
 simp -dsimp (disch:=omega) only[wpS,zE,zL,zA,eV,Jp,aj (X1.kept (by omega) g0),au,uA]
 refine call (uX d hd) ?_
 rintro _ h2 ⟨X2,p2⟩
 have m2:=X2.n
 have X12:=X1.trans X2
 obtain⟨s1,n1',rfl,c1,o1,_,_⟩:=p1.form
 obtain⟨s2,n2',rfl,c2,o2,YW,zD⟩:=p2.form
 simp -dsimp (disch:=try exact dx) only[wpS,wpT,zE,zL,zA,kS,gF,o1,o2]
 refine⟨by repeat' first|refine ay ?_ ?_|refine az ?_ ?_|exact ad rfl rfl rfl rfl (aT (H0:=H0) rfl (by omega) (by assumption) (by assumption) (by with_reducible assumption)),?_⟩
 obtain⟨K0,hK0⟩:=aP (((((h2.new (.cells ZL 0 none)).new (.cells ZL 0 none)).put h2.n (.cells [.bool (decide (wdI n<0)),s1] 0 none)).put (h2.n+1) (.cells [.bool (decide (wdI d<0)),s2] 0 none)))
 have e3:Ext h2 K0:=by rw[hK0];exact((((Ext.refl _).new _).new _).put (Nat.le_refl _) _).put (by omega) _
 have n3:K0.n=h2.n+2:=by rw[hK0];rfl
 have ga:K0.ext.get h2.n=some (.cells [.bool (decide (wdI n<0)),s1] 0 none):=by rw[hK0];simp (disch:=omega) only[ae,ak]
 have gb:K0.ext.get (h2.n+1)=some (.cells [.bool (decide (wdI d<0)),s2] 0 none):=by rw[hK0];simp (disch:=omega) only[ae]
 simp -dsimp (disch:=omega) only[wpS,wpT,zE,zA,dL,ld4]
 rw[←hK0]
 clear hK0
 have q1:=p1.aa (X2.trans e3).aa
 have q2:=p2.aa e3.aa
 have E3:=(E0.trans X12).trans e3
 by_cases tL:wdI d<0
 ·have cn:decide (wdI d<0)=true:=decide_eq_true tL
  rw[cn] at gb
  simp -dsimp (disch:=omega) only[wpS,wpT,zE]
  exact⟨E3,by rw[decide_eq_false (fun h=>by have:=h.1;omega)]⟩
 ·have cn:decide (wdI d<0)=false:=decide_eq_false tL
  rw[cn] at gb q2
  by_cases hz:wdI d=0
  ·have c0:decide ((0:Int)<(n2':Int))=false:=decide_eq_false (by have:=zD.2 hz;omega)
   simp -dsimp (disch:=omega) only[wpS,wpT,zE,fc,qM,aj gb,YW fT,c0]
   exact⟨E3,by rw[decide_eq_false (fun h=>by have:=h.1;omega)]⟩
  ·have c0:decide ((0:Int)<(n2':Int))=true:=decide_eq_true (by
    have:n2'≠0:=fun h=>hz (zD.1 h)
    omega)
   simp -dsimp (disch:=omega) only[wpS,wpT,zE,zL,zA,fc,qM,bW,aj ga,aj gb,YW fT,c0,qh]
   refine call (Aq q1 q2 (fZ hn) (fZ hd)) ?_
   rintro g h4 ⟨X4,hg⟩
   simp -dsimp (disch:=omega) only[wpS,wpT,zE]
   refine call (Ws hg) ?_
   rintro _ h5 ⟨X5,rfl⟩
   simp -dsimp (disch:=omega) only[wpS,zE]
   refine⟨(E3.trans X4).trans X5,congrArg Value.bool ?_⟩
   rw[decide_eq_decide]
   unfold okS
   constructor
   ·intro h;exact⟨by omega,by omega⟩
   ·rintro⟨_,h⟩;omega
end Go.Id
namespace Go.Id
open Go


theorem Ib {h:IH} {v:Value} {l:List (Nat×Nat)} (hs:iT h v l) (hne:v=.slice none 0 0∨0<l.length) (hn:l.length≤1000000) :
  WV Proofs.Tryz.prog (.func (.func 118) #[] #[]) [v] h fun r h'=>Ext h h'∧Acc h' h.n 16 r l.length (shL l):=by
 have hc:=SY l
 have Zv:=hs.1.now
 obtain⟨⟨hz,hl,⟨rfl,hl0⟩|⟨b,o,k,rfl,hh⟩⟩,_⟩:=hs
 ·refine enter (nt:=8) (rs:=[.tmp 2]) Proofs.Tryz.func118 rfl rfl rfl (by simp) ?_
  simp -dsimp (disch:=omega) only[wpS,wpT,Nat.reduceEqDiff,Nat.reduceMul,Hm,Gm u61]
  obtain rfl:l = []:=List.length_eq_zero_iff.1 hl0
  exact⟨Ext.refl _,Acc.nil _ _ (by omega)⟩
 ·have hp:0<l.length:=by
   rcases hne with h1|h1
   ·cases h1
   ·exact h1
  have hk:Ext h (h.new (.cells [] 16 none)):=(Ext.refl h).new _
  have Zu:pO (h.new (.cells [] 16 none)) 16 (.slice (some ⟨b,o,none⟩) l.length k) l.length (shL l):=(bJ.aa ⟨hz,hl,.inr ⟨b,o,k,rfl,hh⟩⟩ hk.aa).now
  refine enter (nt:=8) (rs:=[.tmp 2]) Proofs.Tryz.func118 rfl rfl rfl (by simp) ?_
  simp -dsimp (disch:=omega) only[wpS,wpT,Nat.reduceEqDiff,Nat.reduceMul,Hm,rT,Gl u61,rf OG _ Zu hp hc (by omega)]
  refine⟨hk.new _,?_⟩
  exact(yF (by omega) hl hp).from (by simp)
def DrOf (cs:List Value):Prop:=∃b x n b2 x2 n2,cs = [.bool b,x,.int .u32 n,.bool b2,x2,.int .u32 n2]∧aA x=true∧aA x2=true∧0≤n∧n<4294967296∧0≤n2∧n2<4294967296
def ON (h:IH) (v:Value) (n:Nat):Prop:=∃cs,bJ h 6 v n cs ∧ ∀i,i<n→DrOf ((cs.drop (i*6)).take 6)
theorem ON.aa {h h':IH} {v:Value} {n:Nat} (s:ON h v n) (e:aJ h h'):ON h' v n:=let ⟨cs,a,b⟩:=s;⟨cs,a.aa e,b⟩
def pd (p:Nat×Nat):Prop:=∃a c:Int,(-1000<a∧a<1000)∧(0<c∧c<25)∧p=shq (Rat.divInt a c)
theorem pd.lt {p:Nat×Nat} (h:pd p):p.1<W8∧p.2<W8:=by
 obtain⟨a,c,ha,hc,rfl⟩:=h
 exact nk (kL ⟨by omega,by omega⟩ ⟨by omega,by omega⟩ (by omega))
end Go.Id
namespace Go.Proofs.YtnnmjocmapilaaaGreat
open Go.ChangeShapes Go.WideShapes Go.ChangeAt Go.RowKit Go.Id
theorem wf_u8 {x:Int} (h:(Lit.int .u8 x).wf=true):0≤x∧x<256:=by
 simp only[Lit.wf,Bool.and_eq_true,decide_eq_true_eq] at h
 have h1:(0:Int)≤x:=h.1
 have h2:x≤(255:Int):=h.2
 exact⟨h1,by omega⟩
section
variable {H:Type} {enc:TypeId×Value→H} {W:World} {base:Nat} {sp:Nat→Bool} {held:Bool}
end
theorem len3 {α:Type} : ∀{l:List α},l.length=3 → ∃a b c,l = [a,b,c]
 | [a,b,c],_=>⟨a,b,c,rfl⟩
theorem YX {α:Type} : ∀{l:List α},l.length=6 → ∃a b c d e f,l = [a,b,c,d,e,f]
 | [a,b,c,d,e,f],_=>⟨a,b,c,d,e,f,rfl⟩
theorem EX:Tryz.prog.underlying 52=some (.slice 58):=by kernel_rfl
theorem C5:Tryz.prog.underlying 58=some (.struct { toList:=[{ name := "N",type:=56,offset:=0,embedded:=false,tag := "",pkgPath := "",byteOffset:=0 },{ name := "D",type:=56,offset:=3,embedded:=false,tag := "",pkgPath := "",byteOffset:=40 }] }):=by kernel_rfl
theorem Pd:Tryz.prog.underlying 56=some (.struct { toList:=[{ name := "Below",type:=4,offset:=0,embedded:=false,tag := "",pkgPath := "",byteOffset:=0 },{ name := "Bits",type:=53,offset:=1,embedded:=false,tag := "",pkgPath := "",byteOffset:=8 },{ name := "Less",type:=54,offset:=2,embedded:=false,tag := "",pkgPath := "",byteOffset:=32 }] }):=by kernel_rfl
theorem V0:Tryz.prog.underlying 53=some (.slice 332):=by kernel_rfl
theorem Yj:Tryz.prog.underlying 332=some (.int .u16):=by kernel_rfl
theorem Yi:Tryz.prog.underlying 54=some (.int .u32):=by kernel_rfl
theorem V1:Tryz.prog.underlying 4=some .bool:=by kernel_rfl
theorem VZ:Tryz.prog.underlying 5=some (.int .u8):=by kernel_rfl
theorem Ei:Tryz.prog.cellsOf 58=6:=by kernel_rfl
theorem AH:Tryz.prog.cellsOf 56=3:=by kernel_rfl
theorem Zah:Tryz.prog.cellsOf 332=1:=by kernel_rfl
theorem Zag:Tryz.prog.cellsOf 54=1:=by kernel_rfl
theorem Xx:Tryz.prog.cellsOf 4=1:=by kernel_rfl
theorem Xw:Tryz.prog.cellsOf 53=1:=by kernel_rfl
section
variable {H:Type} {enc:TypeId×Value→H} {W:World} {held:Bool}
theorem yz (G:Nat→Option (List Value)) {fuel:Nat} {cs:List Value} {x:DataW H×List MemPlace} (h:DataW.trod enc Tryz.prog W 0 (fun _=>true) held fuel 56 cs=some x) :
  ∃b y n,cs = [.bool b,y,.int .u32 n]∧aA (trV y)=true∧dc y=true∧(0≤n∧n<4294967296):=by
 obtain⟨xs,m,_,_,hl,hn,hf⟩:=DataW.trod_struct Pd h
 rw[AH] at hl
 have hn2:xs.length=3:=hn
 obtain⟨x0,hx0⟩:=il (l:=xs) (i:=0) (by omega)
 have f0:DataW.trod enc Tryz.prog W 0 (fun _=>true) held m 4 ((cs.drop 0).take (Tryz.prog.cellsOf 4))=some x0:=(hf 0 { name := "Below",type:=4,offset:=0,embedded:=false,tag := "",pkgPath := "",byteOffset:=0 } rfl).trans hx0
 obtain⟨x1,hx1⟩:=il (l:=xs) (i:=1) (by omega)
 have f1:DataW.trod enc Tryz.prog W 0 (fun _=>true) held m 53 ((cs.drop 1).take (Tryz.prog.cellsOf 53))=some x1:=(hf 1 { name := "Bits",type:=53,offset:=1,embedded:=false,tag := "",pkgPath := "",byteOffset:=8 } rfl).trans hx1
 obtain⟨x2,hx2⟩:=il (l:=xs) (i:=2) (by omega)
 have f2:DataW.trod enc Tryz.prog W 0 (fun _=>true) held m 54 ((cs.drop 2).take (Tryz.prog.cellsOf 54))=some x2:=(hf 2 { name := "Less",type:=54,offset:=2,embedded:=false,tag := "",pkgPath := "",byteOffset:=32 } rfl).trans hx2
 rw[Xx] at f0
 rw[Xw] at f1
 rw[Zag] at f2
 obtain⟨a,y,c,rfl⟩:=len3 hl
 ·obtain⟨b,e0,_⟩:=DataW.trod_bool V1 f0
  obtain⟨v,n,cs',e1,ht,hn',hs,_⟩:=tj (R:=fun _=>True) V0 Zah (by omega) (fun n cs x hx=>by
   obtain⟨k,rfl,_⟩:=uf (m:=65535) rfl rfl Yj hx
   exact⟨trivial,fun y hy=>by rw[List.mem_singleton.1 hy];rfl⟩) G f1
  obtain⟨k,e2,hk⟩:=uf (m:=4294967295) rfl rfl Yi f2
  cases e0;cases e1;cases e2
  exact⟨b,_,k,rfl,hs.cok,ht,by omega,by omega⟩
theorem Fb (G:Nat→Option (List Value)) {fuel:Nat} {cs0:List Value} {x:DataW H×List MemPlace} (h:DataW.trod enc Tryz.prog W 0 (fun _=>true) held fuel 52 cs0=some x) :
  ∃v n,cs0 = [v]∧dc v=true∧ON (IH.start (yW G W)) (trV v) n:=by
 obtain⟨v,n,cs,e,ht,hn,hs,hR⟩:=tj (R:=fun cs=>DrOf (cs.map trV)) EX Ei (by omega) (fun n cs x hx=>by
  obtain⟨xs,m,_,_,hl,hn,hf⟩:=DataW.trod_struct C5 hx
  rw[Ei] at hl
  have hn2:xs.length=2:=hn
  obtain⟨x0,hx0⟩:=il (l:=xs) (i:=0) (by omega)
  have f0:DataW.trod enc Tryz.prog W 0 (fun _=>true) held m 56 ((cs.drop 0).take (Tryz.prog.cellsOf 56))=some x0:=(hf 0 { name := "N",type:=56,offset:=0,embedded:=false,tag := "",pkgPath := "",byteOffset:=0 } rfl).trans hx0
  obtain⟨x1,hx1⟩:=il (l:=xs) (i:=1) (by omega)
  have f1:DataW.trod enc Tryz.prog W 0 (fun _=>true) held m 56 ((cs.drop 3).take (Tryz.prog.cellsOf 56))=some x1:=(hf 1 { name := "D",type:=56,offset:=3,embedded:=false,tag := "",pkgPath := "",byteOffset:=40 } rfl).trans hx1
  rw[AH] at f0 f1
  obtain⟨a,b,c,d,e,f,rfl⟩:=YX hl
  ·obtain⟨b1,y1,n1,e0,o1,t1,r1⟩:=yz G f0
   obtain⟨b2,y2,n2,e1,o2,t2,r2⟩:=yz G f1
   cases e0;cases e1
   refine⟨⟨b1,_,n1,b2,_,n2,rfl,o1,o2,r1.1,r1.2,r2.1,r2.2⟩,fun y hy=>?_⟩
   simp at hy
   rcases hy with rfl|rfl|rfl|rfl|rfl|rfl<;>first|rfl|assumption) G h
 refine⟨v,n,e,ht,cs.map trV,hs,fun i hi=>?_⟩
 rw[←List.map_drop,←List.map_take]
 exact hR i hi
end
end Go.Proofs.YtnnmjocmapilaaaGreat
namespace Go.Id
open Go

end Go.Id
