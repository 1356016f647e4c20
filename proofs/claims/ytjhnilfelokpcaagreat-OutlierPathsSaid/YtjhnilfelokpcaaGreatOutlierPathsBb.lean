/-
  Contracts: the reference's fractions: sums, differences, products, quotients, order. Contracts: the reference's shares: in, out, made, valid; fractions of integers.
-/
import Derived.Test.YtjhnilfelokpcaaGreatOutlierPathsAq
import Derived.Test.YtjhnilfelokpcaaGreatOutlierPathsBa
import Derived.Test.YtjhnilfelokpcaaGreatOutlierPathsAo
import Derived.Test.YtjhnilfelokpcaaGreatOutlierPathsAr
import Derived.Test.YtjhnilfelokpcaaGreatOutlierPathsAl
import Derived.Test.YtjhnilfelokpcaaGreatOutlierPathsAm
set_option linter.unusedVariables false
set_option linter.unusedSimpArgs false
set_option linter.defProp false
set_option linter.deprecated false
namespace Go.Id
open Go
open Go.Proofs.Tryz (prog)
open Nat renaming reduceAdd→zA,reduceEqDiff→zE,reduceLeDiff→zL
set_option maxHeartbeats 16000000
theorem po.parts {h:IH} {v:Value} {q:Rat} (p:po h v q) : ∃a s b t,v=.agg #[a,s,b,t]∧aV h (.agg #[a,s]) q.num∧aV h (.agg #[b,t]) q.den∧s.cells = #[s]∧aH s=true∧t.cells = #[t]∧aH t=true∧aH a=true∧aH b=true:=by
 obtain⟨a,s,b,t,rfl,h1,h2⟩:=p
 obtain⟨rfl,c1,o1⟩:=h1.co
 obtain⟨rfl,c2,o2⟩:=h2.co
 exact⟨_,s,_,t,rfl,h1,h2,c1,o1,c2,o2,rfl,rfl⟩
theorem ql4 {H:IH} {k:Nat} {a s b t:Value} (g:H.ext.get k=some (.cells [a,s,b,t] 0 none)):load prog H 131 (ptr (2*k) 0)=some (.agg #[a,s])∧load prog H 131 (ptr (2*k) 2)=some (.agg #[b,t])∧load prog H 186 (ptr (2*k) 0)=some (.agg #[a,s,b,t]):=by
 have r:=aj g
 refine⟨?_,?_,?_⟩
 ·simp -dsimp (disch:=try exact dx) only[wpS,wpT,zL,zA,bq,r]
  rfl
 ·simp -dsimp (disch:=try exact dx) only[wpS,wpT,zL,zA,bq,r]
  rfl
 ·rw[fy Uq N8,tY r]
  rfl
theorem ql2 {H:IH} {k:Nat} {a s:Value} (g:H.ext.get k=some (.cells [a,s] 0 none)):load prog H 131 (ptr (2*k) 0)=some (.agg #[a,s]):=by
 have r:=aj g
 simp -dsimp (disch:=try exact dx) only[wpS,wpT,zL,zA,bq,r]
 rfl
theorem OT {h:IH} {v w:Value} {x y:Rat} {a b:Nat} (hv:po h v x) (hw:po h w y) (qx:QB a x) (qy:QB b y) (hk:a+b+1<16000000) :
  WV prog (.func (.func 168) #[] #[]) [v,w] h fun r h'=>Ext h h'∧po h' r (x+y):=by
 obtain⟨a1,s1,b1,t1,rfl,hn1,hd1,c1,o1,c2,o2,o3,o4⟩:=hv.parts
 obtain⟨a2,s2,b2,t2,rfl,hn2,hd2,c5,o5,c6,o6,o7,o8⟩:=hw.parts
 refine enter (nt:=22) (rs:=[.cell 4 186]) Proofs.Tryz.func168 rfl rfl rfl (by simp) ?_
 simp -dsimp (disch:=try exact dx) only[wpS,zE,zA,tA]
 obtain⟨H0,hH0,n0,E0,g0,g1,g2⟩:=iP h [a1,s1,b1,t1] [a2,s2,b2,t2] ZR
 rw[←hH0]
 clear hH0
 have X0:=Ext.refl H0
 obtain⟨L1,L2,_⟩:=ql4 g0
 obtain⟨L3,L4,_⟩:=ql4 g1
 refine drawn [(6,[4]),(8,[4]),(12,[4,9,10]),(14,[4,9,10])] (by kernel_rfl) (by kernel_rfl) rfl ?_
 simp -dsimp (disch:=try exact dx) only[wpS,wpT,zE,zL,zA,oY,bq,rj,aj g0,aj g1,tkA,tkB]
 refine call (gv (hn1.ae E0.ae) (hd2.ae E0.ae) (aS qx.1 (by omega)) (aS qy.gj (by omega))) ?_
 rintro r1 h1 ⟨X1,p1⟩
 have m1:=X1.n
 simp -dsimp (disch:=try exact dx) only[wpS,wpT,zE,zL,zA,oY,bq,rj,aj (X1.kept (by omega) g0),aj (X1.kept (by omega) g1),tkA,tkB]
 refine call (gv (hn2.ae (E0.trans X1).ae) (hd1.ae (E0.trans X1).ae) (aS qy.1 (by omega)) (aS qx.gj (by omega))) ?_
 rintro r2 h2 ⟨hE2,p2⟩
 have m2:=hE2.n
 have X2:=X1.trans hE2
 simp -dsimp (disch:=try exact dx) only[wpS,zE]
 have b1':=dv qx.1 qy.gj
 have b2':=dv qy.1 qx.gj
 have b3':=qx.Wf qy
 have b4':=dv qx.gj qy.gj
 have sb1:aU (x.num*y.den):=cp b1' (by omega)
 have sb2:aU (y.num*x.den):=cp b2' (by omega)
 have sb3:aU (x.num*y.den+y.num*x.den):=cp b3' hk
 have sb4:aU ((x.den:Int)*y.den):=cp b4' (by omega)
 refine call (oN (p1.ae hE2.ae) p2 sb1 sb2) ?_
 rintro r3 h3 ⟨hE3,p3⟩
 have m3:=hE3.n
 have X3:=X2.trans hE3
 simp -dsimp (disch:=try exact dx) only[wpS,wpT,zE,zL,zA,bq,rj,aj (X3.kept (by omega) g0),aj (X3.kept (by omega) g1),tkB]
 refine call (gv (hd1.ae (E0.trans X3).ae) (hd2.ae (E0.trans X3).ae) (aS qx.gj (by omega)) (aS qy.gj (by omega))) ?_
 rintro r4 h4 ⟨hE4,p4⟩
 have m4:=hE4.n
 have X4:=X3.trans hE4
 simp -dsimp (disch:=try exact dx) only[wpS,zE]
 refine call (yQ (p3.ae hE4.ae) p4 sb3 sb4 (Kl x y)) ?_
 rintro r5 h5 ⟨hE5,p5⟩
 have m5:=hE5.n
 have X5:=X4.trans hE5
 rw[←ua] at p5
 obtain⟨a3,s3,b3,t3,rfl,_,_,d1,o1,d2,o2,o3,o4⟩:=p5.parts
 have kg:=X5.kept (by omega) g2
 simp -dsimp (disch:=try exact dx) only[wpS,wpT,zE,zL,zA,tN,kg,o1,o2,o3,o4]
 refine⟨by repeat' first|refine ba ?_ ?_|refine aX ?_ ?_|exact ao rfl rfl rfl rfl (aD (H0:=H0) rfl (by omega) (by assumption) (by assumption) (by with_reducible assumption)),?_⟩
 simp -dsimp (disch:=try exact dx) only[wpS,wpT,zE,zL,zA,zB,pJ]
 exact⟨(E0.trans X5).put (by omega) _,p5.ae ((aN.refl _).put kg _)⟩
theorem R8 (x y:Rat):(if x.num*y.den<y.num*x.den then (-1:Int) else if y.num*x.den<x.num*y.den then 1 else 0)=if x<y then -1 else if x=y then 0 else 1:=by
 simp only[Rat.lt_iff,Rat.eq_iff_mul_eq_mul]
 split
 ·rfl
 ·split<;>split<;>first|rfl|omega
theorem LM {h:IH} {v w:Value} {x y:Rat} {a b:Nat} (hv:po h v x) (hw:po h w y) (qx:QB a x) (qy:QB b y) (hk:a+b<16000000) :
  WV prog (.func (.func 129) #[] #[]) [v,w] h fun r h'=>Ext h h'∧r=KI (if x<y then -1 else if x=y then 0 else 1):=by
 obtain⟨a1,s1,b1,t1,rfl,hn1,hd1,c1,o1,c2,o2,o3,o4⟩:=hv.parts
 obtain⟨a2,s2,b2,t2,rfl,hn2,hd2,c5,o5,c6,o6,o7,o8⟩:=hw.parts
 refine enter (nt:=16) (rs:=[.tmp 4]) Proofs.Tryz.func129 rfl rfl rfl (by simp) ?_
 simp -dsimp (disch:=try exact dx) only[wpS,zE,zA]
 obtain⟨H0,hH0,n0,E0,g0,g1⟩:=iQ h [a1,s1,b1,t1] [a2,s2,b2,t2]
 rw[←hH0]
 clear hH0
 have X0:=Ext.refl H0
 obtain⟨L1,L2,_⟩:=ql4 g0
 obtain⟨L3,L4,_⟩:=ql4 g1
 have sb1:aU (x.num*y.den):=cp (dv qx.1 qy.gj) hk
 have sb2:aU (y.num*x.den):=cp (by rw[Nat.add_comm];exact dv qy.1 qx.gj) hk
 refine drawn [(6,[4]),(8,[4])] (by kernel_rfl) (by kernel_rfl) rfl ?_
 simp -dsimp (disch:=try exact dx) only[wpS,wpT,zE,zL,zA,oY,bq,rj,aj g0,aj g1,tkA,tkB]
 refine call (gv (hn1.ae E0.ae) (hd2.ae E0.ae) (aS qx.1 (by omega)) (aS qy.gj (by omega))) ?_
 rintro r1 h1 ⟨X1,p1⟩
 have m1:=X1.n
 simp -dsimp (disch:=try exact dx) only[wpS,wpT,zE,zL,zA,oY,bq,rj,aj (X1.kept (by omega) g0),aj (X1.kept (by omega) g1),tkA,tkB]
 refine call (gv (hn2.ae (E0.trans X1).ae) (hd1.ae (E0.trans X1).ae) (aS qy.1 (by omega)) (aS qx.gj (by omega))) ?_
 rintro r2 h2 ⟨hE2,p2⟩
 have m2:=hE2.n
 have X2:=X1.trans hE2
 simp -dsimp (disch:=try exact dx) only[wpS,zE]
 refine call (ly (p1.ae hE2.ae) p2 sb1 sb2) ?_
 rintro _ h5 ⟨hE5,rfl⟩
 have X5:=X2.trans hE5
 rw[R8]
 simp -dsimp (disch:=try exact dx) only[wpS,zE]
 refine⟨by repeat' first|refine ba ?_ ?_|refine aX ?_ ?_|exact ao rfl rfl rfl rfl (aD (H0:=H0) rfl (by omega) (by assumption) (by assumption) (by with_reducible assumption)),?_⟩
 simp -dsimp (disch:=try exact dx) only[wpS,wpT,zE,zA]
 exact E0.trans X5
end Go.Id

namespace Go.Id
open Go
open Go.Proofs.Tryz (prog)
open Nat renaming reduceAdd→zA,reduceEqDiff→zE,reduceLeDiff→zL
set_option maxHeartbeats 16000000
theorem yX {h:IH} (n d:Int) (hn:jP n) (hd:jP d) (d0:d≠0):WV prog (.func (.func 122) #[] #[]) [KI n,KI d] h fun r h'=>Ext h h'∧po h' r (Rat.divInt n d):=by
 refine enter (nt:=10) (rs:=[.cell 4 186]) Proofs.Tryz.func122 rfl rfl rfl (by simp) ?_
 simp -dsimp (disch:=try exact dx) only[wpS,zE,zA,tA]
 have E1:Ext h (h.new (.cells ZR 0 none)):=(Ext.refl h).new _
 have g1:(h.new (.cells ZR 0 none)).ext.get h.n=some (.cells ZR 0 none):=by simp (disch:=try exact dx) only[ab]
 refine call (eP n hn) ?_
 rintro _ h1 ⟨X1,p1⟩
 simp -dsimp (disch:=try exact dx) only[wpS,zE]
 refine call (eP d hd) ?_
 rintro _ h2 ⟨X2,p2⟩
 simp -dsimp (disch:=try exact dx) only[wpS,zE]
 have sn:aU n:=Jk (by have:=hn.1;have:=hn.2;omega)
 have sd:aU d:=Jk (by have:=hd.1;have:=hd.2;omega)
 refine call (yQ (p1.ae X2.ae) p2 sn sd d0) ?_
 rintro _ h3 ⟨X3,p3⟩
 have m1:=X1.n
 have m2:=X2.n
 have m3:=X3.n
 simp only[ax] at m1
 obtain⟨a3,s3,b3,t3,rfl,_,_,d1,o1,d2,o2,o3,o4⟩:=p3.parts
 have kg:=X3.kept (by omega) (X2.kept (by omega) (X1.kept (by simp) g1))
 simp -dsimp (disch:=try exact dx) only[wpS,wpT,zE,zL,zA,tN,zB,kg,o1,o2,o3,o4,pJ]
 exact⟨(((E1.trans X1).trans X2).trans X3).put (by omega) _,p3.ae ((aN.refl _).put kg _)⟩
theorem OL {h:IH} (n d:Nat) (hn:n<W8) (hd:d<W8):WV prog (.func (.func 127) #[] #[]) [shV n d] h fun r h'=>Ext h h'∧xp h' r (wdI n) (wdI d):=by
 refine enter (nt:=10) (rs:=[.cell 2 186]) Proofs.Tryz.func127 rfl rfl rfl (by simp) ?_
 simp -dsimp (disch:=try exact dx) only[wpS,tA,bV]
 obtain⟨H0,hH0,n0,E0,g0,g1⟩:=iQ h (shC n d) ZR
 rw[←hH0]
 clear hH0
 have X0:=Ext.refl H0
 obtain⟨L1,L2,_⟩:=psh g0
 refine drawn [(4,[2])] (by kernel_rfl) (by kernel_rfl) rfl ?_
 simp -dsimp (disch:=try exact dx) only[wpS,zE,zL,zW,bL,aj g0,aP,nO]
 refine call (mO n hn) ?_
 rintro r1 h1 ⟨X1,p1⟩
 have m1:=X1.n
 simp -dsimp (disch:=try exact dx) only[wpS,zE,zL,zA,bL,tm,aj (X1.kept (by omega) g0),aP,lT]
 refine call (mO d hd) ?_
 rintro r2 h2 ⟨hE2,p2⟩
 have m2:=hE2.n
 have X2:=X1.trans hE2
 obtain⟨s1,rfl,c1,o1⟩:=p1.cP
 obtain⟨s2,rfl,c2,o2⟩:=p2.cP
 have kg:=X2.kept (by omega) g1
 simp -dsimp (disch:=try exact dx) only[wpS,wpT,zE,zL,zA,Uj,JG,JF,tN,kg,o1,o2]
 refine⟨by repeat' first|refine ba ?_ ?_|refine aX ?_ ?_|exact ao rfl rfl rfl rfl (aD (H0:=H0) rfl (by omega) (by assumption) (by assumption) (by with_reducible assumption)),?_⟩
 simp -dsimp (disch:=try exact dx) only[wpS,wpT,zE,zL,zA,zB,pJ]
 have kp:=(aN.refl h2).put kg (.cells [.bool (decide (wdI n<0)),s1,.bool (decide (wdI d<0)),s2] 0 none)
 exact⟨(E0.trans X2).put (by omega) _,_,_,_,_,rfl,p1.ae (hE2.ae.trans kp),p2.ae kp⟩
theorem LH {h:IH} {v:Value} {q:Rat} (hv:po h v q):WV prog (.func (.func 121) #[] #[]) [v] h fun r h'=>Ext h h'∧r=(open Classical in if QW q then .tuple #[pY q,KI 0] else .tuple #[shV 0 0,KI 6]):=by
 obtain⟨a1,s1,b1,t1,rfl,hn1,hd1,c1,o1,c2,o2,o3,o4⟩:=hv.parts
 refine enter (nt:=30) (rs:=[.cell 2 48,.tmp 3]) Proofs.Tryz.func121 rfl rfl rfl (by simp) ?_
 simp -dsimp (disch:=try exact dx) only[wpS,wpT,zE,zL,zA,xr,oY,bq]
 obtain⟨H0,hH0,n0,E0,g0,g1⟩:=iQ h [a1,s1,b1,t1] Z16
 rw[←hH0]
 clear hH0
 simp -dsimp (disch:=try exact dx) only[tkA]
 refine call (y8 (hn1.ae E0.ae)) ?_
 rintro _ h1 ⟨X1,rfl⟩
 have m1:=X1.n
 obtain⟨w1,e1,hw⟩ : ∃w1 e1,(if InW q.num then Value.tuple #[pz q.num,KI 0] else .tuple #[wdV 0,KI 6])=.tuple #[wdV w1,KI e1]∧(InW q.num∧w1=bW q.num∧e1=0 ∨ ¬InW q.num∧e1=6):=by
  by_cases hi:InW q.num
  ·exact⟨_,0,by rw[if_pos hi],.inl ⟨hi,rfl,rfl⟩⟩
  ·exact⟨0,6,by rw[if_neg hi],.inr ⟨hi,rfl⟩⟩
 rw[hw.1]
 have k0:=X1.kept (by omega) g0
 have k1:=X1.kept (by omega) g1
 simp -dsimp (disch:=try exact dx) only[wpS,wpT,zE,zL,zA,bq,fo,dr,rj,aY,aq,aM,bf,aj k0,tkA,tkB]
 obtain⟨H2,hH2⟩ : ∃H2,H2=(h1.new (.cells [ZW,ZW,ZW,ZW,ZW,ZW,ZW,ZW] 0 none)).put h1.n (.cells (wdC w1) 0 none):=⟨_,rfl⟩
 have e2:Ext h1 H2:=by rw[hH2];exact((Ext.refl _).new _).put (Nat.le_refl _) _
 have n2:H2.n=h1.n+1:=by rw[hH2];rfl
 have ga:H2.ext.get h1.n=some (.cells (wdC w1) 0 none):=by rw[hH2];simp (disch:=try exact dx) only[aa]
 have k1':=e2.kept (by omega) k1
 rw[←hH2]
 clear hH2
 refine call (y8 (hd1.ae ((E0.trans X1).trans e2).ae)) ?_
 rintro _ h3 ⟨X3,rfl⟩
 have m3:=X3.n
 obtain⟨w2,f2,hw2⟩ : ∃w1 e1,(if InW (q.den:Int) then Value.tuple #[pz q.den,KI 0] else .tuple #[wdV 0,KI 6])=.tuple #[wdV w1,KI e1]∧(InW (q.den:Int)∧w1=bW q.den∧e1=0 ∨ ¬InW (q.den:Int)∧e1=6):=by
  by_cases hi:InW (q.den:Int)
  ·exact⟨_,0,by rw[if_pos hi],.inl ⟨hi,rfl,rfl⟩⟩
  ·exact⟨0,6,by rw[if_neg hi],.inr ⟨hi,rfl⟩⟩
 rw[hw2.1]
 have ga3:=X3.kept (by omega) ga
 have k3:=X3.kept (by omega) k1'
 have xx:=((E0.trans X1).trans e2).trans X3
 rcases hw.2 with⟨i1,rfl,rfl⟩|⟨i1,rfl⟩
 ·rcases hw2.2 with⟨i2,rfl,rfl⟩|⟨i2,rfl⟩
  ·rw[if_pos (show QW q from⟨i1,i2⟩)]
   simp -dsimp (disch:=try exact dx) only[wpS,wpT,zE,zL,zA,fo,dr,Nb,rz,bL,O4,O3,kA,aY,aq,aM,bf,aj ga3,k3,eG,Oy,Ox,iI,aP,dH,dG]
   exact⟨(((xx.new _).put (by omega) _).put (by omega) _),rfl⟩
  ·rw[if_neg (show ¬QW q from fun h=>i2 h.2)]
   simp -dsimp (disch:=try exact dx) only[wpS,wpT,zE,zL,zA,fo,dr,Nb,rz,kA,aY,aq,aM,bf,k3,Jo]
   exact⟨(((xx.new _).put (by omega) _).put (by omega) _),by rw[tT]⟩
 ·rw[if_neg (show ¬QW q from fun h=>i1 h.1)]
  simp -dsimp (disch:=try exact dx) only[wpS,wpT,zE,zL,zA,fo,dr,Nb,rz,kA,aY,aq,aM,bf,k3,Jo]
  exact⟨(((xx.new _).put (by omega) _).put (by omega) _),by rw[tT]⟩
theorem sH {h:IH} (n d:Int) (hn:jP n) (hd:jP d) (d0:d≠0):WV prog (.func (.func 43) #[] #[]) [KI n,KI d] h fun r h'=>Ext h h'∧r=.tuple #[pY (Rat.divInt n d),KI 0]:=by
 have hd':(d == 0)=false:=by simpa using d0
 refine enter (nt:=15) (rs:=[.cell 4 48,.tmp 5]) Proofs.Tryz.func43 rfl rfl rfl (by simp) ?_
 simp -dsimp (disch:=try exact dx) only[wpS,zE,zA,xr,hd']
 have E1:Ext h (h.new (.cells Z16 0 none)):=(Ext.refl h).new _
 have g1:(h.new (.cells Z16 0 none)).ext.get h.n=some (.cells Z16 0 none):=by simp (disch:=try exact dx) only[ab]
 refine call (yX n d hn hd d0) ?_
 rintro _ h1 ⟨X1,p1⟩
 simp -dsimp (disch:=try exact dx) only[wpS,zE]
 refine call (LH p1) ?_
 rintro _ h2 ⟨X2,rfl⟩
 rw[if_pos (vi hn hd d0)]
 have m1:=X1.n
 have m2:=X2.n
 simp only[ax] at m1
 have kg:=X2.kept (by omega) (X1.kept (by simp) g1)
 simp -dsimp (disch:=try exact dx) only[wpS,wpT,zE,zL,zA,rz,kA,kg,bV,aP,dH,iI,dG]
 exact⟨((E1.trans X1).trans X2).put (by omega) _,rfl⟩
end Go.Id

namespace Go.Id
open Go
end Go.Id

namespace Go.Id
open Go
section
variable {P:Program}
theorem AR {t:TypeId} {x y:Array Value} {b:Bool} (hg:P.eqGuardType P.depth t=false) (hx:plain (.agg x)=true) (hy:plain (.agg y)=true) (h:az P (Op.equal t (.agg x) (.agg y))=some b) (ox oy:Operand):binop P .neq t ox oy (.agg x) (.agg y)=some (.bool (!b)):=by
 refine dE P t ox oy hx hy rfl ?_
 have h1:az P (eqGuard .neq t ox oy (.agg x) (.agg y))=some ():=by
  show az P (if (!P.eqGuardType P.depth t)=true then _ else _)=_
  rw[hg];rfl
 rw[cz h1]
 show az P (Op.equal t _ _ >>= fun r=>pure (Value.bool !r))=_
 rw[cz h];rfl
end
theorem Oz (n d:Nat):plain (.agg (shC n d).toArray)=true:=by
 simp only[plain,shC,wdC]
 simp[bJ]
end Go.Id

namespace Go.Id
open Go
end Go.Id

namespace Go.Id
open Go
end Go.Id

namespace Go.Id
open Go
end Go.Id

namespace Go.Id
open Go
end Go.Id

namespace Go.Id
open Go
open Go.Proofs.Tryz (prog)
open Nat renaming reduceAdd→zA,reduceEqDiff→zE,reduceLeDiff→zL
set_option maxHeartbeats 16000000
theorem Va {h:IH} {v:Value} {z:Int} (hv:aV h v z):WV prog (.func (.func 205) #[] #[]) [v] h fun r h'=>Ext h h'∧r=.bool (decide (z=1)):=by
 obtain⟨s,rfl,ds,hD,hN,hx⟩:=hv
 have E1:Ext h (h.new (.cells [.bool (decide (z<0)),s] 0 none)):=(Ext.refl h).new _
 refine enter (nt:=19) (rs:=[.tmp 2]) Proofs.Tryz.func205 rfl rfl rfl (by simp) ?_
 by_cases h1:ds.length=1
 ·obtain⟨x,rfl⟩:=List.length_eq_one_iff.1 h1
  have hv:au [x]=x:=by simp[au,aE]
  rw[hv] at hx
  have ib:indexAddr prog 25 s (.int .i64 0)=some (aO s 0):=by
   simpa using hD.1.W0 (P:=prog) (t:=25) gU (k:=.i64) (i:=0) (by omega) (by simp)
  have l0:load prog (h.new (.cells [.bool (decide (z<0)),s] 0 none)) 3 (aO s 0)=some (KN x):=hD.1.ld E1.ae (P:=prog) (t:=3) (c:=0) (by simp) ag3
  have hl:=fun h'=>hD.1.len (P:=prog) eH h'
  have hl' : ∀h',qo prog h' 25 s=some (.int .i64 1):=fun h'=>hl h'
  by_cases hx1:x=1
  ·subst hx1
   have l0':load prog (h.new (.cells [.bool (decide (z<0)),s] 0 none)) 3 (aO s 0)=some (KI 1):=l0
   simp -dsimp (disch:=try exact dx) only[wpS,wpT,zE,eV,qp,dJ,ld4,hl',ib,l0']
   refine⟨E1,congrArg Value.bool ?_⟩
   by_cases h0:z<0
   ·rw[decide_eq_true h0,decide_eq_false (by omega)];rfl
   ·rw[decide_eq_false h0,decide_eq_true (by omega)];rfl
  ·have c1:((x:Int) == 1)=false:=by simp;omega
   simp -dsimp (disch:=try exact dx) only[wpS,wpT,zE,eV,qp,hl',ib,l0,c1]
   exact⟨E1,by rw[decide_eq_false (by omega)]⟩
 ·have c1:((ds.length:Int) == 1)=false:=by simp;omega
  simp -dsimp (disch:=try exact dx) only[wpS,wpT,zE,eV,qp,hD.1.len eH,c1]
  refine⟨E1,?_⟩
  rw[decide_eq_false]
  rintro rfl
  have h2:au ds=1:=hx
  have h3:=hN.iM (b:=[1]) (by intro d hd;simp at hd;omega) (by rw[h2];simp[au,aE])
  have h4:=hN.jV
  rcases Nat.lt_or_ge 0 ds.length with h5|h5
  ·simp at h3;omega
  ·have:ds = []:=List.length_eq_zero_iff.1 (by omega)
   rw[this] at h2;simp[au,aE] at h2
theorem Fh {h:IH} (n d:Nat) (hn:n<W8) (hd:d<W8):WV prog (.func (.func 126) #[] #[]) [shV n d] h fun r h'=>Ext h h'∧r=.bool (decide (okS n d)):=by
 refine enter (nt:=26) (rs:=[.tmp 2]) Proofs.Tryz.func126 rfl rfl rfl (by simp) ?_
 simp -dsimp (disch:=try exact dx) only[wpS,bV]
 obtain⟨H0,hH0⟩ : ∃H0,H0=h.new (.cells (shC n d) 0 none):=⟨_,rfl⟩
 have E0:Ext h H0:=by rw[hH0];exact(Ext.refl h).new _
 have n0:H0.n=h.n+1:=by rw[hH0];rfl
 have g0:H0.ext.get h.n=some (.cells (shC n d) 0 none):=by rw[hH0];simp (disch:=try exact dx) only[ab]
 rw[←hH0]
 clear hH0
 have X0:=Ext.refl H0
 obtain⟨L1,L2,_⟩:=psh g0
 refine drawn [(4,[2])] (by kernel_rfl) (by kernel_rfl) rfl ?_
 simp -dsimp (disch:=try exact dx) only[wpS,zE,zL,zW,bL,aj g0,aP,nO]
 refine call (mO n hn) ?_
 rintro _ h1 ⟨X1,p1⟩
 have m1:=X1.n
 simp -dsimp (disch:=try exact dx) only[wpS,zE,zL,zA,bL,tm,aj (X1.kept (by omega) g0),aP,lT]
 refine call (mO d hd) ?_
 rintro _ h2 ⟨X2,p2⟩
 have m2:=X2.n
 have X12:=X1.trans X2
 obtain⟨s1,n1',rfl,c1,o1,_,_⟩:=p1.form
 obtain⟨s2,n2',rfl,c2,o2,WO,zD⟩:=p2.form
 simp -dsimp (disch:=try exact dx) only[wpS,wpT,zE,zL,zA,dh,bY,o1,o2]
 refine⟨by repeat' first|refine ba ?_ ?_|refine aX ?_ ?_|exact ao rfl rfl rfl rfl (aD (H0:=H0) rfl (by omega) (by assumption) (by assumption) (by with_reducible assumption)),?_⟩
 obtain⟨K0,hK0⟩ : ∃K0,K0=((((h2.new (.cells ZL 0 none)).new (.cells ZL 0 none)).put h2.n (.cells [.bool (decide (wdI n<0)),s1] 0 none)).put (h2.n+1) (.cells [.bool (decide (wdI d<0)),s2] 0 none)):=⟨_,rfl⟩
 have e3:Ext h2 K0:=by rw[hK0];exact((((Ext.refl _).new _).new _).put (Nat.le_refl _) _).put (by omega) _
 have n3:K0.n=h2.n+2:=by rw[hK0];rfl
 have ga:K0.ext.get h2.n=some (.cells [.bool (decide (wdI n<0)),s1] 0 none):=by rw[hK0];simp (disch:=try exact dx) only[aa,ah]
 have gb:K0.ext.get (h2.n+1)=some (.cells [.bool (decide (wdI d<0)),s2] 0 none):=by rw[hK0];simp (disch:=try exact dx) only[aa]
 simp -dsimp (disch:=try exact dx) only[wpS,wpT,zE,zA,dJ,ld4]
 rw[←hK0]
 clear hK0
 have q1:=p1.ae (X2.trans e3).ae
 have q2:=p2.ae e3.ae
 have E3:=(E0.trans X12).trans e3
 by_cases Xm:wdI d<0
 ·have cn:decide (wdI d<0)=true:=decide_eq_true Xm
  rw[cn] at gb
  simp -dsimp (disch:=try exact dx) only[wpS,wpT,zE]
  exact⟨E3,by rw[decide_eq_false (fun h=>by have:=h.1;omega)]⟩
 ·have cn:decide (wdI d<0)=false:=decide_eq_false Xm
  rw[cn] at gb q2
  by_cases hz:wdI d=0
  ·have c0:decide ((0:Int)<(n2':Int))=false:=decide_eq_false (by have:=zD.2 hz;omega)
   simp -dsimp (disch:=try exact dx) only[wpS,wpT,zE,eV,qp,aj gb,WO eH,c0]
   exact⟨E3,by rw[decide_eq_false (fun h=>by have:=h.1;omega)]⟩
  ·have c0:decide ((0:Int)<(n2':Int))=true:=decide_eq_true (by
    have:n2'≠0:=fun h=>hz (zD.1 h)
    omega)
   simp -dsimp (disch:=try exact dx) only[wpS,wpT,zE,zL,zA,eV,qp,bq,aj ga,aj gb,WO eH,c0,AA]
   refine call (tq q1 q2 (iT hn) (iT hd)) ?_
   rintro g h4 ⟨X4,hg⟩
   simp -dsimp (disch:=try exact dx) only[wpS,wpT,zE]
   refine call (Va hg) ?_
   rintro _ h5 ⟨X5,rfl⟩
   simp -dsimp (disch:=try exact dx) only[wpS,zE]
   refine⟨(E3.trans X4).trans X5,congrArg Value.bool ?_⟩
   rw[decide_eq_decide]
   unfold okS
   constructor
   ·intro h;exact⟨by omega,by omega⟩
   ·rintro⟨_,h⟩;omega
end Go.Id

namespace Go.Id
open Go
end Go.Id

namespace Go.Id
open Go
end Go.Id

namespace Go.Id
open Go
end Go.Id

namespace Go.Id
open Go
end Go.Id

namespace Go.Proofs.YtjhnilfelokpcaaGreat
open Go.ChangeShapes Go.WideShapes Go.ChangeAt Go.RowKit Go.Id
theorem RG:Tryz.prog.underlying 48=some (.struct { toList:=[{ name := "N",type:=44,offset:=0,embedded:=false,tag := "",pkgPath := "",byteOffset:=0 },{ name := "D",type:=44,offset:=8,embedded:=false,tag := "",pkgPath := "",byteOffset:=64 }] }):=by kernel_rfl
theorem UF:Tryz.prog.underlying 44=some (.array 8 42):=by kernel_rfl
theorem Tw:Tryz.prog.underlying 42=some (.int .u64):=by kernel_rfl
theorem KA:Tryz.prog.cellsOf 48=16:=by kernel_rfl
theorem QU:Tryz.prog.cellsOf 44=8:=by kernel_rfl
theorem Ug:Tryz.prog.cellsOf 42=1:=by kernel_rfl
theorem wf_i64 {x:Int} (h:(Lit.int .i64 x).wf=true):jP x:=by
 simp only[Lit.wf,Bool.and_eq_true,decide_eq_true_eq] at h
 have h1:(-9223372036854775808:Int)≤x:=h.1
 have h2:x≤(9223372036854775807:Int):=h.2
 exact⟨h1,by omega⟩
theorem Kk : ∀{cs:List Value},(∀c∈cs,∃k:Nat,k<18446744073709551616∧c=K64 k) → ∃ds:List Nat,cs=ds.map K64 ∧ ∀d∈ds,d<18446744073709551616
 | [],_=>⟨[],rfl,fun d hd=>by cases hd⟩
 | c :: cs,h=>by
  obtain⟨k,hk,rfl⟩:=h c (by simp)
  obtain⟨ds,hds,hd⟩:=Kk (cs:=cs) fun c hc=>h c (by simp[hc])
  exact⟨k :: ds,by rw[hds];rfl,fun d hd'=>by
   rcases List.mem_cons.1 hd' with rfl|hd'
   ·exact hk
   ·exact hd d hd'⟩
section
variable {H:Type} {enc:TypeId×Value→H} {W:World} {base:Nat} {sp:Nat→Bool} {held:Bool}
theorem IY {fuel:Nat} {cs:List Value} {x:DataW H×List MemPlace} (h:DataW.trod enc Tryz.prog W base sp held fuel 44 cs=some x) : ∃n,n<W8∧cs=wdC n:=by
 obtain⟨xs,m,_,_,hl,hn,hel⟩:=DataW.trod_array UF h
 rw[QU] at hl
 have hc : ∀c∈cs,∃k:Nat,k<18446744073709551616∧c=K64 k:=by
  intro c hc
  obtain⟨i,hi⟩:=List.mem_iff_getElem?.1 hc
  have hi8:i<8:=by have:=(List.getElem?_eq_some_iff.1 hi).1;omega
  obtain⟨y,hy⟩ : ∃y,xs[i]?=some y:=⟨_,List.getElem?_eq_getElem (by omega)⟩
  have e:=(hel i hi8).trans hy
  rw[Ug,Nat.mul_one] at e
  have e1:(cs.drop i).take 1 = [c]:=by
   obtain⟨hlt,hg⟩:=List.getElem?_eq_some_iff.1 hi
   rw[List.drop_eq_getElem_cons hlt,hg]
   rfl
  rw[e1] at e
  obtain⟨k,h1,h2⟩:=nF (m:=18446744073709551615) rfl rfl Tw e
  cases h1
  exact⟨k,by omega,rfl⟩
 obtain⟨ds,rfl,hd⟩:=Kk hc
 rw[List.length_map] at hl
 have e:=O7 (ds:=ds) (by omega) hd
 have e2:IH.aG [ZW,ZW,ZW,ZW,ZW,ZW,ZW,ZW] 0 (ds.map K64)=ds.map K64:=gC (by rw[List.length_map,hl];rfl)
 refine⟨B.au ds,?_,e2.symm.trans e⟩
 have:=B.iC hd
 rw[hl,←uS] at this
 exact this
theorem Ov {fuel:Nat} {cs:List Value} {x:DataW H×List MemPlace} (h:DataW.trod enc Tryz.prog W base sp held fuel 48 cs=some x) : ∃n d,n<W8∧d<W8∧cs=shC n d:=by
 obtain⟨xs,m,_,_,hl,hn,hf⟩:=DataW.trod_struct RG h
 rw[KA] at hl
 have hn2:xs.length=2:=hn
 obtain⟨x0,hx0⟩ : ∃y,xs[0]?=some y:=⟨_,List.getElem?_eq_getElem (by omega)⟩
 have f0:DataW.trod enc Tryz.prog W base sp held m 44 ((cs.drop 0).take (Tryz.prog.cellsOf 44))=some x0:=(hf 0 { name := "N",type:=44,offset:=0,embedded:=false,tag := "",pkgPath := "",byteOffset:=0 } rfl).trans hx0
 obtain⟨x1,hx1⟩ : ∃y,xs[1]?=some y:=⟨_,List.getElem?_eq_getElem (by omega)⟩
 have f1:DataW.trod enc Tryz.prog W base sp held m 44 ((cs.drop 8).take (Tryz.prog.cellsOf 44))=some x1:=(hf 1 { name := "D",type:=44,offset:=8,embedded:=false,tag := "",pkgPath := "",byteOffset:=64 } rfl).trans hx1
 rw[QU] at f0 f1
 obtain⟨n,h1,e1⟩:=IY f0
 obtain⟨d,h2,e2⟩:=IY f1
 refine⟨n,d,h1,h2,?_⟩
 rw[shC,←e1,←e2,List.drop_zero]
 conv=>lhs;rw[←List.take_append_drop 8 cs]
 congr 1
 rw[List.take_of_length_le (by rw[List.length_drop];omega)]
end
theorem Tx:Tryz.prog.underlying 3=some (.int .i64):=by kernel_rfl
theorem RF:Tryz.prog.underlying 5=some (.int .u8):=by kernel_rfl
section
variable {H:Type} {enc:TypeId×Value→H} {W:World} {held:Bool}
end
end Go.Proofs.YtjhnilfelokpcaaGreat

namespace Go.Id
open Go
end Go.Id

namespace Go.Id
open Go
open Go.Proofs.Tryz (prog)
open Nat renaming reduceAdd→zA,reduceEqDiff→zE,reduceLeDiff→zL
set_option maxHeartbeats 16000000
theorem uU.rat {h:IH} {v:Value} {n d:Nat} (p:uU h v (wdI n) (wdI d)) (ok:okS n d):fc h v (rOf (n,d)):=by
 obtain⟨e1,e2⟩:=dZ (p:=(n,d)) ok
 unfold fc
 rw[e1,e2]
 exact p
theorem UH {h:IH} {n1 d1 n2 d2:Nat} (h1:n1<W8) (h2:d1<W8) (h3:n2<W8) (h4:d2<W8):jt (h.new (.cells (shL [(n1,d1),(n2,d2)]) 16 none)) (.slice (some ⟨2*h.n,0,none⟩) 2 5) [(n1,d1),(n2,d2)]:=by
 refine⟨cD (k:=h.n) (f:=none) (ab _ _ rfl) (by simp) (by decide) (by rw[mI];rfl) (by omega) (by omega),by simp,?_⟩
 intro p hp
 simp at hp
 rcases hp with rfl|rfl
 ·exact⟨h1,h2⟩
 ·exact⟨h3,h4⟩
theorem Sw {h:IH} {n1 d1 n2 d2:Nat} {fv:Value} {z:Int} (h1:n1<W8) (h2:d1<W8) (h3:n2<W8) (h4:d2<W8) (ok1:okS n1 d1) (ok2:okS n2 d2)
  (op : ∀(h':IH) (v w:Value),fc h' v (rOf (n1,d1))→fc h' w (rOf (n2,d2))→WV prog fv [v,w] h' fun r h''=>Ext h' h''∧r=KI z) :
  WV prog (.func (.func 106) #[] #[]) [shV n1 d1,shV n2 d2,fv] h fun r h'=>Ext h h'∧r=.tuple #[KI z,KI 0]:=by
 refine enter (nt:=21) (rs:=[.tmp 6,.tmp 7]) Proofs.Tryz.func106 rfl rfl rfl (by simp) ?_
 simp -dsimp (disch:=try exact dx) only[wpS,zE,zA,kA,bV]
 obtain⟨H0,hH0,n0,E0,g0,g1⟩:=iQ h (shC n1 d1) (shC n2 d2)
 rw[←hH0]
 clear hH0
 have X0:=Ext.refl H0
 have bb : ∀hx:IH,buildSlice prog hx 82 2 [(0,.agg (shC n1 d1).toArray),(1,.agg (shC n2 d2).toArray)]=some (.slice (some ⟨2*hx.n,0,none⟩) 2 5,hx.new (.cells (shL [(n1,d1),(n2,d2)]) 16 none)):=fun hx=>V4 n1 d1 n2 d2
 simp -dsimp (disch:=try exact dx) only[wpS,zE,zL,kA,aj g1,aP,dG,bb]
 refine call (Hi (UH h1 h2 h3 h4)) ?_
 rintro _ k1 ⟨Y1,rfl⟩
 have X1:Ext H0 k1:=(X0.new _).trans Y1
 have dt:decide (∀p ∈ [(n1,d1),(n2,d2)],okS p.1 p.2)=true:=decide_eq_true (by
  intro p hp
  simp at hp
  rcases hp with rfl|rfl
  ·exact ok1
  ·exact ok2)
 rw[dt]
 have L2:=(psh g1).2.2
 simp -dsimp (disch:=try exact dx) only[wpS,wpT,zE]
 refine drawn [(3,[2])] (by kernel_rfl) (by kernel_rfl) rfl ?_
 simp -dsimp (disch:=try exact dx) only[wpS,zE,zL,kA,aj (X1.kept (by omega) g0),aP,dG]
 refine call (lg n1 d1 h1 h2) ?_
 rintro v k2 ⟨Y2,p2⟩
 have X2:=X1.trans Y2
 simp -dsimp (disch:=try exact dx) only[wpS,zE,zL,kA,aj (X2.kept (by omega) g1),aP,dG]
 refine call (lg n2 d2 h3 h4) ?_
 rintro w k3 ⟨Y3,p3⟩
 have X3:=X2.trans Y3
 simp -dsimp (disch:=try exact dx) only[wpS,zE]
 refine call (op k3 v w (fc.ae (p2.rat ok1) Y3.ae) (p3.rat ok2)) ?_
 rintro _ k4 ⟨Y4,rfl⟩
 have X4:=X3.trans Y4
 simp -dsimp (disch:=try exact dx) only[wpS,zE]
 refine⟨by repeat' first|refine ba ?_ ?_|refine aX ?_ ?_|exact ao rfl rfl rfl rfl (aD (H0:=H0) rfl (by omega) (by assumption) (by assumption) (by with_reducible assumption)),?_⟩
 simp -dsimp (disch:=try exact dx) only[wpS,wpT,zE,zA]
 exact E0.trans X4
theorem Ou {h:IH} {p1 p2:Nat×Nat} (h1:p1.1<W8∧p1.2<W8) (h2:p2.1<W8∧p2.2<W8) (ok1:okS p1.1 p1.2) (ok2:okS p2.1 p2.2):WV prog (.func (.func 36) #[] #[]) [shV p1.1 p1.2,shV p2.1 p2.2] h fun r h'=>Ext h h'∧r=.tuple #[KI (if rOf p1<rOf p2 then -1 else if rOf p1=rOf p2 then 0 else 1),KI 0]:=by
 have q1:=Bx (p:=p1) h1.1 h1.2 ok1
 have q2:=Bx (p:=p2) h2.1 h2.2 ok2
 refine enter (nt:=11) (rs:=[.tmp 4,.tmp 5]) Proofs.Tryz.func36 rfl rfl rfl (by simp) ?_
 simp -dsimp (disch:=try exact dx) only[wpS,zE,zA,kA,bV]
 obtain⟨H0,hH0,n0,E0,g0,g1⟩:=iQ h (shC p1.1 p1.2) (shC p2.1 p2.2)
 rw[←hH0]
 clear hH0
 simp -dsimp (disch:=try exact dx) only[wpS,zE,zL,kA,aj g1,aP,dG]
 refine call (Sw h1.1 h1.2 h2.1 h2.2 ok1 ok2 (fun h' v w a b=>CY a b q1 q2 (by omega))) ?_
 rintro _ k1 ⟨X1,rfl⟩
 simp -dsimp (disch:=try exact dx) only[wpS,wpT,zE]
 exact E0.trans X1
end Go.Id

namespace Go.Id
open Go
end Go.Id

namespace Go.Id
open Go
def E1 (P:Program) (tb:FuncId→Option (List Value→Option Value)):Env:=⟨P,fun _ _=>none,fun f=>(tb f).map fun g args h=>bif args.all plain then (g args).map (·,h) else none⟩
theorem LR {m:Mp} {l l':List Value} (h:bz m l l') (hp:l.all plain=true):l'=l:=by
 apply List.ext_getElem? fun i=>?_
 by_cases hi:i<l.length
 ·obtain⟨v',h1,h2⟩:=h.get (List.getElem?_eq_getElem hi)
  rw[h1,List.getElem?_eq_getElem hi,h2.cW (by have:=List.all_eq_true.1 hp;exact this _ (List.getElem_mem hi))]
 ·rw[List.getElem?_eq_none (show l'.length≤i from h.1▸Nat.le_of_not_lt hi),List.getElem?_eq_none (Nat.le_of_not_lt hi)]
theorem ue {m:Mp} {l:List Value} (hp:l.all plain=true):bz m l l :=
 ⟨rfl,fun i v v' a b=>by
  rw[a] at b;cases b
  exact .bT (List.all_eq_true.1 hp _ (List.mem_of_getElem? a))⟩
theorem Rel.bare {B:Nat} {w0:World} {m:Mp} {h:IH} {w:World} (R:Rel B w0 m h w):Rel B w0 ⟨fun b=>if b % 2=1 then m b else none,m.ez⟩ (IH.start fun _=>none) w:=by
 have leaf : ∀{α:Type} (k:Nat),(Tr.leaf:Tr α).get k=none:=fun k=>rfl
 have odd : ∀k x,(⟨fun b=>if b % 2=1 then m b else none,m.ez⟩:Mp) (2*k)=some x→False:=by
  intro k x h
  have h1:(if 2*k % 2=1 then m (2*k) else none)=some x:=h
  rw[if_neg (by omega)] at h1;cases h1
 refine⟨R.below,R.size,?_,fun b h=>?_,?_,fun k _=>leaf k,?_,?_,?_,?_,?_,?_⟩
 ·intro b cs h;cases h
 ·show(if (2*b+1) % 2=1 then m (2*b+1) else none)=_
  rw[if_pos (by omega)];exact R.odd b h
 ·intro k r s h;exact(odd _ _ h).elim
 ·intro k o r s h;cases h
 ·intro k k' o o' r s s' _ h;cases h
 ·intro f st h;cases h
 ·intro k cs t f h;cases h
 ·intro f st h;cases h
 ·intro f st x y h;cases h
theorem fO.same {m:Mp} {w w':World} {r s:Nat} {z:Nat×Nat} {o:bR} (h:fO m w r s z o) (e:w'.heap[r]?=w.heap[r]?):fO m w' r s z o:=by
 cases o<;>simp only[fO] at h ⊢ <;> first|(rw[e];exact h)|trivial
theorem Rel.aside {B:Nat} {w0:World} {m m':Mp} {h h':IH} {w w':World} (R:Rel B w0 m h w) (R':Rel B w0 m' h' w') (S:Step ⟨fun b=>if b % 2=1 then m b else none,m.ez⟩ (IH.start fun _=>none) w m' h' w'):Rel B w0 m h w'∧Step m h w m h w':=by
 have same : ∀r,r<w.heap.size→w'.heap[r]?=w.heap[r]?:=fun r hr=>S.frame r hr fun k s hk=>absurd hk (Nat.not_lt_zero k)
 refine⟨⟨R'.below,R'.size,fun b cs hb=>?_,R.odd,fun k r s hk=>?_,R.dom,fun k o r s hk hm=>?_,R.own,R.de,R.fam,R.long,R.whole⟩,
  ⟨Mp.le_refl m,fun b hb=>absurd rfl hb,Nat.le_refl _,rfl,fun r hr _=>same r hr,fun _ _ _=>rfl,S.size,fun k r s h1 h2=>by omega,fun _ _ _ hh=>hh⟩⟩
 ·obtain⟨r,s,h1,h2,c,el,fz,h3,h4⟩:=R.base b cs hb
  exact⟨r,s,h1,h2,c,el,fz,by rw[same r (by have:=R.size;omega)];exact h3,h4⟩
 ·have:=R.even k r s hk
  have:=S.size
  exact⟨by omega,by omega⟩
 ·exact(R.obj k o r s hk hm).same (same r (R.even k r s hm).2)
def lY:Value→Bool
 | .tuple vs=>vs.toList.all plain
 | v=>plain v
theorem aC.BC {m:Mp} {v v':Value} (h:aC m v v') (hv:lY v=true):v'=v:=by
 unfold lY at hv
 split at hv
 ·obtain⟨cs',rfl,h2⟩:=h.nD
  have:=bz.cW h2 hv
  exact congrArg Value.tuple (Array.ext' this)
 ·exact h.cW hv
theorem aC.BB {m:Mp} {v:Value} (hv:lY v=true):aC m v v:=by
 unfold lY at hv
 split at hv
 ·exact aC.fu (ue hv)
 ·exact .bT hv
def KT (P:Program) (f:FuncId) (args:List Value) (v:Value):Prop :=
 ∀(B:Nat) (w0:World) (m:Mp) (h:IH) (w:World),Rel B w0 m h w → ∃h2,j5 P f args.toArray B w0 ⟨fun b=>if b % 2=1 then m b else none,m.ez⟩ (IH.start fun _=>none) w v h2
theorem BW {E:Env} (S:Sound E) {n:Nat} {f:FuncId} {args:List Value} {v:Value} {h2:IH} (hr:cb E (n+1) (.func (.func f) #[] #[]) args (IH.start fun _=>none)=some (v,h2)) (hb : ∃fn,E.P.funcs[f]?=some fn∧fn.body.isSome=true) (hp:args.all plain=true):KT E.P f args v:=by
 intro B w0 m h w R
 refine⟨h2,?_⟩
 have hc:=hr
 unfold cb at hc
 have fresh:dX ⟨fun b=>if b % 2=1 then m b else none,m.ez⟩ (IH.start fun _=>none).n h2.n:=fun k _ _=>by
  show(if 2*k % 2=1 then m (2*k) else none)=none
  rw[if_neg (by omega)]
 obtain⟨fn,hfn,hb⟩:=hb
 rcases tv S (oj S n) (gL S n) hc R.bare (args':=args.toArray) (by simpa using ue hp) fresh with⟨_,k⟩|⟨fn',k1,k2,_⟩
 ·exact k
 ·have k3:E.P.funcs[f]?=some fn':=k1
  rw[hfn] at k3;cases k3
  rw[k2] at hb;cases hb
theorem P3 {P:Program} (S:Sound (E0 P)) {f:FuncId} {args:List Value} {v:Value} (hb : ∃fn,P.funcs[f]?=some fn∧fn.body.isSome=true) (hp:args.all plain=true) (h:WV P (.func (.func f) #[] #[]) args (IH.start fun _=>none) fun r _=>r=v):KT P f args v:=by
 obtain⟨⟨r,h2⟩,⟨N,hN⟩,hr⟩:=h
 simp only at hr
 subst hr
 exact BW (E:=E0 P) S (hN (N+1) (by omega)) hb hp
theorem UN {P:Program} {tb:FuncId→Option (List Value→Option Value)} (S:Sound (E0 P)) (hf : ∀f g,tb f=some g → ∃fn,P.funcs[f]?=some fn∧fn.body.isSome=true)
  (hv : ∀f g,tb f=some g → ∀args v,args.all plain=true→g args=some v→lY v=true∧KT P f args v):Sound (E1 P tb) where
 mixed:=S.mixed
 names:=S.names
 origin:=S.origin
 FZ:=fun f g hg args h v h' e=>by
  obtain⟨g0,h1,rfl⟩:=Option.map_eq_some_iff.1 hg
  simp only[cond_eq_ite] at e
  split at e
  ·obtain⟨v0,_,e2⟩:=Option.map_eq_some_iff.1 e
   cases e2;exact Nat.le_refl _
  ·cases e
 rE:=fun f g hg=>by
  obtain⟨g0,h1,rfl⟩:=Option.map_eq_some_iff.1 hg
  refine⟨hf f g0 h1,fun args h v h' e B w0 m w args' R fS _=>?_⟩
  simp only[cond_eq_ite] at e
  split at e
  case isFalse=>cases e
  rename_i hp
  obtain⟨v0,e1,e2⟩:=Option.map_eq_some_iff.1 e
  cases e2
  obtain⟨hpl,hg⟩:=hv f g0 h1 args v hp e1
  obtain⟨h2,key⟩:=hg B w0 m h w R
  have ea:args.toArray=args':=by
   rw[←LR fS hp]
  rw[ea] at key
  refine key.mono fun e' w' ⟨v',m',he,hvr,R',S'⟩=>?_
  obtain⟨R2,S2⟩:=R.aside R' S'
  exact⟨v',m,he,by rw[hvr.BC hpl];exact .BB hpl,R2,S2⟩
end Go.Id
