/-
  Contracts: the program's fractions: sums, differences, products, quotients, order.
-/
import Derived.Test.YtnnmjocmapilaaaGreatOutlierRisesAo
set_option linter.unusedVariables false
set_option linter.unusedSimpArgs false
set_option linter.defProp false
set_option linter.deprecated false
namespace Go.Id
open Go
open Go.Proofs.Tryz (prog)
open Nat renaming reduceAdd→zA,reduceEqDiff→zE,reduceLeDiff→zL
set_option maxHeartbeats 16000000
variable {v:Value}{h:IH}
def bt.parts {q:Rat} (p:bt h v q) : ∃a s b t,v=.agg #[a,s,b,t]∧a9 h (.agg #[a,s]) q.num∧a9 h (.agg #[b,t]) q.den∧s.cells = #[s]∧aB s=true∧t.cells = #[t]∧aB t=true∧aB a=true∧aB b=true:=by
 obtain⟨a,s,b,t,rfl,h1,h2⟩:=p
 obtain⟨rfl,c1,o1⟩:=h1.co
 obtain⟨rfl,c2,o2⟩:=h2.co
 exact⟨_,s,_,t,rfl,h1,h2,c1,o1,c2,o2,rfl,rfl⟩
variable {s:Value}{H:IH}{k:Nat}
def pl4 {a b t:Value} (g:H.ext.get k=some (.cells [a,s,b,t] 0 none)):load prog H 135 (ptr (2*k) 0)=some (.agg #[a,s])∧load prog H 135 (ptr (2*k) 2)=some (.agg #[b,t])∧load prog H 137 (ptr (2*k) 0)=some (.agg #[a,s,b,t]):=by
 have r:=aj g
 refine⟨?_,?_,?_⟩
 ·simp -dsimp (disch:=omega) only[wpS,wpT,zL,zA,bR,r]
  rfl
 ·simp -dsimp (disch:=omega) only[wpS,wpT,zL,zA,bR,r]
  rfl
 ·simp -dsimp (disch:=omega) only[wpS,wpT,zL,zA,fO,r]
  rfl
def pl2 {a:Value} (g:H.ext.get k=some (.cells [a,s] 0 none)):load prog H 135 (ptr (2*k) 0)=some (.agg #[a,s]):=by
 have r:=aj g
 simp -dsimp (disch:=omega) only[wpS,wpT,zL,zA,bR,r]
 rfl
variable {a:Nat}{y:Rat}{b:Nat}{x:Rat}{w:Value}
def iM (hv:bt h v x) (hw:bt h w y) (qx:QB a x) (qy:QB b y) (hk:a+b+1<16000000) :
  WV prog (.func (.func 83) #[] #[]) [v,w] h fun r h'=>Ext h h'∧bt h' r (x+y):=by
 obtain⟨a1,s1,b1,t1,rfl,hn1,hd1,c1,o1,c2,o2,o3,o4⟩:=hv.parts
 obtain⟨a2,s2,b2,t2,rfl,hn2,hd2,c5,o5,c6,o6,o7,o8⟩:=hw.parts
 refine enter (nt:=22) (rs:=[.cell 4 137]) Proofs.Tryz.func83 rfl rfl rfl (by simp) ?_
 simp -dsimp (disch:=omega) only[wpS,zE,zA,dW]
 obtain⟨H0,hH0,n0,E0,g0,g1,g2⟩:=gG h [a1,s1,b1,t1] [a2,s2,b2,t2] ZR
 rw[←hH0]
 clear hH0
 have X0:=Ext.refl H0
 obtain⟨L1,L2,_⟩:=pl4 g0
 obtain⟨L3,L4,_⟩:=pl4 g1
 refine drawn [(6,[4]),(8,[4]),(12,[4,9,10]),(14,[4,9,10])] (by kernel_rfl) (by kernel_rfl) rfl ?_
 simp -dsimp (disch:=omega) only[wpS,wpT,zE,zL,zA,gI,bR,iA,aj g0,aj g1,tkA,tkB]
 refine call (gD (hn1.aa E0.aa) (hd2.aa E0.aa) (aU qx.1 (by omega)) (aU qy.dU (by omega))) ?_
 rintro r1 h1 ⟨X1,p1⟩
 have m1:=X1.n
 simp -dsimp (disch:=omega) only[wpS,wpT,zE,zL,zA,gI,bR,iA,aj (X1.kept (by omega) g0),aj (X1.kept (by omega) g1),tkA,tkB]
 refine call (gD (hn2.aa (E0.trans X1).aa) (hd1.aa (E0.trans X1).aa) (aU qy.1 (by omega)) (aU qx.dU (by omega))) ?_
 rintro r2 h2 ⟨hE2,p2⟩
 have m2:=hE2.n
 have X2:=X1.trans hE2
 simp -dsimp (disch:=omega) only[wpS,zE]
 have b1':=bW qx.1 qy.dU
 have b2':=bW qy.1 qx.dU
 have b3':=qx.ZI qy
 have b4':=bW qx.dU qy.dU
 have sb1:aX (x.num*y.den):=bC b1' (by omega)
 have sb2:aX (y.num*x.den):=bC b2' (by omega)
 have sb3:aX (x.num*y.den+y.num*x.den):=bC b3' hk
 have sb4:aX ((x.den:Int)*y.den):=bC b4' (by omega)
 refine call (qY (p1.aa hE2.aa) p2 sb1 sb2) ?_
 rintro r3 h3 ⟨hE3,p3⟩
 have m3:=hE3.n
 have X3:=X2.trans hE3
 simp -dsimp (disch:=omega) only[wpS,wpT,zE,zL,zA,bR,iA,aj (X3.kept (by omega) g0),aj (X3.kept (by omega) g1),tkB]
 refine call (gD (hd1.aa (E0.trans X3).aa) (hd2.aa (E0.trans X3).aa) (aU qx.dU (by omega)) (aU qy.dU (by omega))) ?_
 rintro r4 h4 ⟨hE4,p4⟩
 have m4:=hE4.n
 have X4:=X3.trans hE4
 simp -dsimp (disch:=omega) only[wpS,zE]
 refine call (sM (p3.aa hE4.aa) p4 sb3 sb4 (Dx x y)) ?_
 rintro r5 h5 ⟨hE5,p5⟩
 have m5:=hE5.n
 have X5:=X4.trans hE5
 rw[←vo] at p5
 obtain⟨a3,s3,b3,t3,rfl,_,_,d1,o1,d2,o2,o3,o4⟩:=p5.parts
 have kg:=X5.kept (by omega) g2
 simp -dsimp (disch:=omega) only[wpS,wpT,zE,zL,zA,df,kg,o1,o2,o3,o4]
 refine⟨by repeat' first|refine aw ?_ ?_|refine aC ?_ ?_|exact ad rfl rfl rfl rfl (aW (H0:=H0) rfl (by omega) (by assumption) (by assumption) (by with_reducible assumption)),?_⟩
 simp -dsimp (disch:=omega) only[wpS,wpT,zE,zL,zA,fO,fF]
 exact⟨(E0.trans X5).put (by omega) _,p5.aa ((aK.refl _).put kg _)⟩
def jq (hv:bt h v x) (hw:bt h w y) (qx:QB a x) (qy:QB b y) (hk:a+b<16000000) :
  WV prog (.func (.func 87) #[] #[]) [v,w] h fun r h'=>Ext h h'∧bt h' r (x*y):=by
 obtain⟨a1,s1,b1,t1,rfl,hn1,hd1,c1,o1,c2,o2,o3,o4⟩:=hv.parts
 obtain⟨a2,s2,b2,t2,rfl,hn2,hd2,c5,o5,c6,o6,o7,o8⟩:=hw.parts
 refine enter (nt:=16) (rs:=[.cell 4 137]) Proofs.Tryz.func87 rfl rfl rfl (by simp) ?_
 simp -dsimp (disch:=omega) only[wpS,zE,zA,dW]
 obtain⟨H0,hH0,n0,E0,g0,g1,g2⟩:=gG h [a1,s1,b1,t1] [a2,s2,b2,t2] ZR
 rw[←hH0]
 clear hH0
 have X0:=Ext.refl H0
 obtain⟨L1,L2,_⟩:=pl4 g0
 obtain⟨L3,L4,_⟩:=pl4 g1
 have sb1:aX (x.num*y.num):=bC (bW qx.1 qy.1) hk
 have sb2:aX ((x.den:Int)*y.den):=bC (bW qx.dU qy.dU) hk
 refine drawn [(6,[4]),(8,[4])] (by kernel_rfl) (by kernel_rfl) rfl ?_
 simp -dsimp (disch:=omega) only[wpS,wpT,zE,zL,zA,gI,bR,aj g0,aj g1,tkA]
 refine call (gD (hn1.aa E0.aa) (hn2.aa E0.aa) (aU qx.1 (by omega)) (aU qy.1 (by omega))) ?_
 rintro r1 h1 ⟨X1,p1⟩
 have m1:=X1.n
 simp -dsimp (disch:=omega) only[wpS,wpT,zE,zL,zA,bR,iA,aj (X1.kept (by omega) g0),aj (X1.kept (by omega) g1),tkB]
 refine call (gD (hd1.aa (E0.trans X1).aa) (hd2.aa (E0.trans X1).aa) (aU qx.dU (by omega)) (aU qy.dU (by omega))) ?_
 rintro r2 h2 ⟨hE2,p2⟩
 have m2:=hE2.n
 have X2:=X1.trans hE2
 simp -dsimp (disch:=omega) only[wpS,zE]
 refine call (sM (p1.aa hE2.aa) p2 sb1 sb2 (Dx x y)) ?_
 rintro r5 h5 ⟨hE5,p5⟩
 have m5:=hE5.n
 have X5:=X2.trans hE5
 rw[←yV] at p5
 obtain⟨a3,s3,b3,t3,rfl,_,_,d1,o1,d2,o2,o3,o4⟩:=p5.parts
 have kg:=X5.kept (by omega) g2
 simp -dsimp (disch:=omega) only[wpS,wpT,zE,zL,zA,df,kg,o1,o2,o3,o4]
 refine⟨by repeat' first|refine aw ?_ ?_|refine aC ?_ ?_|exact ad rfl rfl rfl rfl (aW (H0:=H0) rfl (by omega) (by assumption) (by assumption) (by with_reducible assumption)),?_⟩
 simp -dsimp (disch:=omega) only[wpS,wpT,zE,zL,zA,fO,fF]
 exact⟨(E0.trans X5).put (by omega) _,p5.aa ((aK.refl _).put kg _)⟩
def Ah (hv:bt h v x) (hw:bt h w y) (qx:QB a x) (qy:QB b y) (hk:a+b<16000000) (y0:y≠0) :
  WV prog (.func (.func 84) #[] #[]) [v,w] h fun r h'=>Ext h h'∧bt h' r (x / y):=by
 obtain⟨a1,s1,b1,t1,rfl,hn1,hd1,c1,o1,c2,o2,o3,o4⟩:=hv.parts
 obtain⟨a2,s2,b2,t2,rfl,hn2,hd2,c5,o5,c6,o6,o7,o8⟩:=hw.parts
 refine enter (nt:=16) (rs:=[.cell 4 137]) Proofs.Tryz.func84 rfl rfl rfl (by simp) ?_
 simp -dsimp (disch:=omega) only[wpS,zE,zA,dW]
 obtain⟨H0,hH0,n0,E0,g0,g1,g2⟩:=gG h [a1,s1,b1,t1] [a2,s2,b2,t2] ZR
 rw[←hH0]
 clear hH0
 have X0:=Ext.refl H0
 obtain⟨L1,L2,_⟩:=pl4 g0
 obtain⟨L3,L4,_⟩:=pl4 g1
 have sb1:aX (x.num*y.den):=bC (bW qx.1 qy.dU) hk
 have sb2:aX ((x.den:Int)*y.num):=bC (bW qx.dU qy.1) hk
 refine drawn [(6,[4]),(8,[4])] (by kernel_rfl) (by kernel_rfl) rfl ?_
 simp -dsimp (disch:=omega) only[wpS,wpT,zE,zL,zA,gI,bR,iA,aj g0,aj g1,tkA,tkB]
 refine call (gD (hn1.aa E0.aa) (hd2.aa E0.aa) (aU qx.1 (by omega)) (aU qy.dU (by omega))) ?_
 rintro r1 h1 ⟨X1,p1⟩
 have m1:=X1.n
 simp -dsimp (disch:=omega) only[wpS,wpT,zE,zL,zA,gI,bR,iA,aj (X1.kept (by omega) g0),aj (X1.kept (by omega) g1),tkA,tkB]
 refine call (gD (hd1.aa (E0.trans X1).aa) (hn2.aa (E0.trans X1).aa) (aU qx.dU (by omega)) (aU qy.1 (by omega))) ?_
 rintro r2 h2 ⟨hE2,p2⟩
 have m2:=hE2.n
 have X2:=X1.trans hE2
 simp -dsimp (disch:=omega) only[wpS,zE]
 refine call (sM (p1.aa hE2.aa) p2 sb1 sb2 (Int.mul_ne_zero (Bo x) (JZ y0))) ?_
 rintro r5 h5 ⟨hE5,p5⟩
 have m5:=hE5.n
 have X5:=X2.trans hE5
 rw[←yW] at p5
 obtain⟨a3,s3,b3,t3,rfl,_,_,d1,o1,d2,o2,o3,o4⟩:=p5.parts
 have kg:=X5.kept (by omega) g2
 simp -dsimp (disch:=omega) only[wpS,wpT,zE,zL,zA,df,kg,o1,o2,o3,o4]
 refine⟨by repeat' first|refine aw ?_ ?_|refine aC ?_ ?_|exact ad rfl rfl rfl rfl (aW (H0:=H0) rfl (by omega) (by assumption) (by assumption) (by with_reducible assumption)),?_⟩
 simp -dsimp (disch:=omega) only[wpS,wpT,zE,zL,zA,fO,fF]
 exact⟨(E0.trans X5).put (by omega) _,p5.aa ((aK.refl _).put kg _)⟩
theorem FG (x y:Rat):(if x.num*y.den<y.num*x.den then (-1:Int) else if x.num*y.den=y.num*x.den then 0 else 1)=if x<y then -1 else if x=y then 0 else 1:=by
 simp only[Rat.lt_iff,Rat.eq_iff_mul_eq_mul]
def sG (hv:bt h v x) (hw:bt h w y) (qx:QB a x) (qy:QB b y) (hk:a+b<16000000) :
  WV prog (.func (.func 90) #[] #[]) [v,w] h fun r h'=>Ext h h'∧r=KI (if x<y then -1 else if x=y then 0 else 1):=by
 obtain⟨a1,s1,b1,t1,rfl,hn1,hd1,c1,o1,c2,o2,o3,o4⟩:=hv.parts
 obtain⟨a2,s2,b2,t2,rfl,hn2,hd2,c5,o5,c6,o6,o7,o8⟩:=hw.parts
 refine enter (nt:=16) (rs:=[.tmp 4]) Proofs.Tryz.func90 rfl rfl rfl (by simp) ?_
 simp -dsimp (disch:=omega) only[wpS,zE,zA]
 obtain⟨H0,hH0,n0,E0,g0,g1⟩:=ev h [a1,s1,b1,t1] [a2,s2,b2,t2]
 rw[←hH0]
 clear hH0
 have X0:=Ext.refl H0
 obtain⟨L1,L2,_⟩:=pl4 g0
 obtain⟨L3,L4,_⟩:=pl4 g1
 have sb1:aX (x.num*y.den):=bC (bW qx.1 qy.dU) hk
 have sb2:aX (y.num*x.den):=bC (by rw[Nat.add_comm];exact bW qy.1 qx.dU) hk
 refine drawn [(6,[4]),(8,[4])] (by kernel_rfl) (by kernel_rfl) rfl ?_
 simp -dsimp (disch:=omega) only[wpS,wpT,zE,zL,zA,gI,bR,iA,aj g0,aj g1,tkA,tkB]
 refine call (gD (hn1.aa E0.aa) (hd2.aa E0.aa) (aU qx.1 (by omega)) (aU qy.dU (by omega))) ?_
 rintro r1 h1 ⟨X1,p1⟩
 have m1:=X1.n
 simp -dsimp (disch:=omega) only[wpS,wpT,zE,zL,zA,gI,bR,iA,aj (X1.kept (by omega) g0),aj (X1.kept (by omega) g1),tkA,tkB]
 refine call (gD (hn2.aa (E0.trans X1).aa) (hd1.aa (E0.trans X1).aa) (aU qy.1 (by omega)) (aU qx.dU (by omega))) ?_
 rintro r2 h2 ⟨hE2,p2⟩
 have m2:=hE2.n
 have X2:=X1.trans hE2
 simp -dsimp (disch:=omega) only[wpS,zE]
 refine call (EG (p1.aa hE2.aa) p2 sb1 sb2) ?_
 rintro _ h5 ⟨hE5,rfl⟩
 have X5:=X2.trans hE5
 rw[FG]
 simp -dsimp (disch:=omega) only[wpS,zE]
 refine⟨by repeat' first|refine aw ?_ ?_|refine aC ?_ ?_|exact ad rfl rfl rfl rfl (aW (H0:=H0) rfl (by omega) (by assumption) (by assumption) (by with_reducible assumption)),?_⟩
 simp -dsimp (disch:=omega) only[wpS,wpT,zE,zA]
 exact E0.trans X5
def Af (hv:bt h v x) :
  WV prog (.func (.func 247) #[] #[]) [v] h fun r h'=>Ext h h'∧bt h' r (-x):=by
 obtain⟨a1,s1,b1,t1,rfl,hn1,hd1,c1,o1,c2,o2,o3,o4⟩:=hv.parts
 refine enter (nt:=9) (rs:=[.cell 2 137]) Proofs.Tryz.func247 rfl rfl rfl (by simp) ?_
 simp -dsimp (disch:=omega) only[wpS,dW]
 obtain⟨H0,hH0,n0,E0,g0,g1⟩:=ev h [a1,s1,b1,t1] ZR
 rw[←hH0]
 clear hH0
 have X0:=Ext.refl H0
 obtain⟨L1,L2,_⟩:=pl4 g0
 refine drawn [(4,[2])] (by kernel_rfl) (by kernel_rfl) rfl ?_
 simp -dsimp (disch:=omega) only[wpS,wpT,zE,zL,zA,gI,bR,aj g0,tkA]
 refine call (mD (hn1.aa E0.aa)) ?_
 rintro r1 h1 ⟨X1,p1⟩
 have m1:=X1.n
 obtain⟨s3,rfl,c5,o5⟩:=p1.ct
 have kg:=X1.kept (by omega) g1
 simp -dsimp (disch:=omega) only[wpS,wpT,zE,zL,zA,bR,iA,Nt,y8,y7,df,aj (X1.kept (by omega) g0),kg,tkB,o5,o2,o4]
 refine⟨by repeat' first|refine aw ?_ ?_|refine aC ?_ ?_|exact ad rfl rfl rfl rfl (aW (H0:=H0) rfl (by omega) (by assumption) (by assumption) (by with_reducible assumption)),?_⟩
 simp -dsimp (disch:=omega) only[wpS,wpT,zE,zL,zA,fO,fF]
 have kp:=(aK.refl h1).put kg (.cells [.bool (decide (-x.num<0)),s3,b1,t1] 0 none)
 exact⟨(E0.trans X1).put (by omega) _,_,_,_,_,rfl,p1.aa kp,hd1.aa ((E0.trans X1).aa.trans kp)⟩
def Ok (hv:bt h v x) (hw:bt h w y) (qx:QB a x) (qy:QB b y) (hk:a+b+1<16000000) :
  WV prog (.func (.func 198) #[] #[]) [v,w] h fun r h'=>Ext h h'∧bt h' r (x - y):=by
 obtain⟨a1,s1,b1,t1,rfl,hn1,hd1,c1,o1,c2,o2,o3,o4⟩:=hv.parts
 obtain⟨a2,s2,b2,t2,rfl,hn2,hd2,c5,o5,c6,o6,o7,o8⟩:=hw.parts
 refine enter (nt:=9) (rs:=[.cell 4 137]) Proofs.Tryz.func198 rfl rfl rfl (by simp) ?_
 simp -dsimp (disch:=omega) only[wpS,zE,zA,dW]
 obtain⟨H0,hH0,n0,E0,g0,g1,g2⟩:=gG h [a1,s1,b1,t1] [a2,s2,b2,t2] ZR
 rw[←hH0]
 clear hH0
 have X0:=Ext.refl H0
 obtain⟨_,_,L1⟩:=pl4 g0
 obtain⟨_,_,L2⟩:=pl4 g1
 refine drawn [(0,[3])] (by kernel_rfl) (by kernel_rfl) rfl ?_
 simp -dsimp (disch:=omega) only[wpS,wpT,zE,zL,zA,fO,aj g0,aj g1,fF]
 refine call (Af (hw.aa E0.aa)) ?_
 rintro r1 h1 ⟨X1,p1⟩
 have m1:=X1.n
 simp -dsimp (disch:=omega) only[wpS,zE]
 refine call (iM (hv.aa (E0.trans X1).aa) p1 qx qy.neg hk) ?_
 rintro r2 h2 ⟨hE2,p2⟩
 have X2:=X1.trans hE2
 have m2:=hE2.n
 rw[←Rat.sub_eq_add_neg] at p2
 obtain⟨a3,s3,b3,t3,rfl,_,_,d1,o1,d2,o2,o3,o4⟩:=p2.parts
 have kg:=X2.kept (by omega) g2
 simp -dsimp (disch:=omega) only[wpS,wpT,zE,zL,zA,df,kg,o1,o2,o3,o4]
 refine⟨by repeat' first|refine aw ?_ ?_|refine aC ?_ ?_|exact ad rfl rfl rfl rfl (aW (H0:=H0) rfl (by omega) (by assumption) (by assumption) (by with_reducible assumption)),?_⟩
 simp -dsimp (disch:=omega) only[wpS,wpT,zE,zL,zA,fO,fF]
 exact⟨(E0.trans X2).put (by omega) _,p2.aa ((aK.refl _).put kg _)⟩
def shC (n d:Nat):List Value:=wdC n ++ wdC d
def shV (n d:Nat):Value:=.agg (shC n d).toArray
theorem ax (n d:Nat):(shC n d).length=16:=by simp[shC,aA]
theorem aV (n d:Nat):(shC n d).all aB=true:=by simp only[shC,List.all_append,cm,Bool.and_self]
def aD (n d:Nat):(shV n d).cells.toList=shC n d:=rfl
theorem aS (n d:Nat):List.take 16 (List.drop 0 (shC n d))=shC n d:=by rw[List.drop_zero,List.take_of_length_le (by rw[ax];omega)]
theorem qR (n d:Nat):List.take 8 (List.drop 0 (shC n d))=wdC n:=by rw[List.drop_zero,shC,List.take_append_of_le_length (by rw[aA];omega),List.take_of_length_le (by rw[aA];omega)]
theorem qQ (n d:Nat):List.take 8 (List.drop 8 (shC n d))=wdC d:=by rw[shC,List.drop_append_of_le_length (by rw[aA];omega),List.drop_of_length_le (by rw[aA];omega),List.nil_append,List.take_of_length_le (by rw[aA];omega)]
abbrev Z16:List Value:=[ZW,ZW,ZW,ZW,ZW,ZW,ZW,ZW,ZW,ZW,ZW,ZW,ZW,ZW,ZW,ZW]
def QQ (n:Nat):IH.aJ Z16 0 (wdC n)=shC n 0:=by
 rw[IH.aJ,List.take_zero,List.nil_append,aA,shC,mq];rfl
def QP (n d:Nat):IH.aJ (shC n 0) 8 (wdC d)=shC n d:=by
 rw[IH.aJ,aA,shC,List.take_append_of_le_length (by rw[aA];omega),List.take_of_length_le (by rw[aA];omega),List.drop_of_length_le (by simp[aA]),List.append_nil];rfl
def bg (n d:Nat):IH.aJ Z16 0 (shC n d)=shC n d:=iX (by rw[ax];rfl)
theorem Uu:Z16=shC 0 0:=by rw[shC,mq];rfl
theorem ve:Value.agg #[ZW,ZW,ZW,ZW,ZW,ZW,ZW,ZW,ZW,ZW,ZW,ZW,ZW,ZW,ZW,ZW]=shV 0 0:=by rw[shV,←Uu]
def LM:List.take 16 (List.drop 0 Z16)=Z16:=rfl
abbrev gU (q:Rat):Value:=shV (aY q.num) (aY q.den)
def QW (q:Rat):Prop:=InW q.num∧InW (q.den:Int)
variable {v:Value}{k:Nat}
def MD {P:Program} {H0 hi:IH} {t:TypeId} {o:Nat} (hv:load P H0 t (ptr (2*k) o)=some v) (hb:k<H0.n) (e:Ext H0 hi):load P hi t (ptr (2*k) o)=some v:=(AK (by omega) e).trans hv
variable {n:Nat}
def psh {H:IH} {d:Nat} (g:H.ext.get k=some (.cells (shC n d) 0 none)):load prog H 30 (ptr (2*k) 0)=some (wdV n)∧load prog H 30 (ptr (2*k) 8)=some (wdV d)∧load prog H 32 (ptr (2*k) 0)=some (shV n d):=by
 have r:=aj g
 refine⟨?_,?_,?_⟩
 ·simp -dsimp (disch:=omega) only[wpS,zL,fh,r,ax,qR]
  rfl
 ·simp -dsimp (disch:=omega) only[wpS,zL,zA,fh,r,ax,qQ]
  rfl
 ·simp -dsimp (disch:=omega) only[wpS,zL,r,ax,aS,cq]
  rfl
variable {h:IH}
def dj (n d:Nat) (hn:n<W8) (hd:d<W8):WV prog (.func (.func 156) #[] #[]) [shV n d] h fun r h'=>Ext h h'∧rW h' r (wdI n) (wdI d):=by
 refine enter (nt:=10) (rs:=[.cell 2 137]) Proofs.Tryz.func156 rfl rfl rfl (by simp) ?_
 simp -dsimp (disch:=omega) only[wpS,dW,aD]
 obtain⟨H0,hH0,n0,E0,g0,g1⟩:=ev h (shC n d) ZR
 rw[←hH0]
 clear hH0
 have X0:=Ext.refl H0
 obtain⟨L1,L2,_⟩:=psh g0
 refine drawn [(4,[2])] (by kernel_rfl) (by kernel_rfl) rfl ?_
 simp -dsimp (disch:=omega) only[wpS,zE,zL,Kz,fh,aj g0,ax,qR]
 refine call (jt n hn) ?_
 rintro r1 h1 ⟨X1,p1⟩
 have m1:=X1.n
 simp -dsimp (disch:=omega) only[wpS,zE,zL,zA,fh,Ky,aj (X1.kept (by omega) g0),ax,qQ]
 refine call (jt d hd) ?_
 rintro r2 h2 ⟨hE2,p2⟩
 have m2:=hE2.n
 have X2:=X1.trans hE2
 obtain⟨s1,rfl,c1,o1⟩:=p1.ct
 obtain⟨s2,rfl,c2,o2⟩:=p2.ct
 have kg:=X2.kept (by omega) g1
 simp -dsimp (disch:=omega) only[wpS,wpT,zE,zL,zA,Nt,y8,y7,df,kg,o1,o2]
 refine⟨by repeat' first|refine aw ?_ ?_|refine aC ?_ ?_|exact ad rfl rfl rfl rfl (aW (H0:=H0) rfl (by omega) (by assumption) (by assumption) (by with_reducible assumption)),?_⟩
 simp -dsimp (disch:=try exact dx) only[wpS,wpT,zE,zL,zA,fO,fF]
 have kp:=(aK.refl h2).put kg (.cells [.bool (decide (wdI n<0)),s1,.bool (decide (wdI d<0)),s2] 0 none)
 exact⟨(E0.trans X2).put (by omega) _,_,_,_,_,rfl,p1.aa (hE2.aa.trans kp),p2.aa kp⟩
def vh {q:Rat} (hv:bt h v q):WV prog (.func (.func 132) #[] #[]) [v] h fun r h'=>Ext h h'∧r=(open Classical in if QW q then .tuple #[gU q,KI 0] else .tuple #[shV 0 0,KI 6]):=by
 obtain⟨a1,s1,b1,t1,rfl,hn1,hd1,c1,o1,c2,o2,o3,o4⟩:=hv.parts
 refine enter (nt:=30) (rs:=[.cell 2 32,.tmp 3]) Proofs.Tryz.func132 rfl rfl rfl (by simp) ?_
 simp -dsimp (disch:=try exact dx) only[wpS,wpT,zE,zL,zA,fR,gI,bR]
 obtain⟨H0,hH0,n0,E0,g0,g1⟩:=ev h [a1,s1,b1,t1] Z16
 rw[←hH0]
 clear hH0
 simp -dsimp (disch:=try exact dx) only[tkA]
 refine call (qW (hn1.aa E0.aa)) ?_
 rintro _ h1 ⟨X1,rfl⟩
 have m1:=X1.n
 obtain⟨w1,e1,hw⟩ : ∃w1 e1,(if InW q.num then Value.tuple #[qe q.num,KI 0] else .tuple #[wdV 0,KI 6])=.tuple #[wdV w1,KI e1]∧(InW q.num∧w1=aY q.num∧e1=0 ∨ ¬InW q.num∧e1=6):=by
  by_cases hi:InW q.num
  ·exact⟨_,0,by rw[if_pos hi],.inl ⟨hi,rfl,rfl⟩⟩
  ·exact⟨0,6,by rw[if_neg hi],.inr ⟨hi,rfl⟩⟩
 rw[hw.1]
 have k0:=X1.kept (by omega) g0
 have k1:=X1.kept (by omega) g1
 simp -dsimp (disch:=omega) only[wpS,wpT,zE,zL,zA,bR,nW,lh,iA,cM,aA,cm,eK,aj k0,tkA,tkB]
 obtain⟨H2,hH2⟩:=aT ((h1.new (.cells [ZW,ZW,ZW,ZW,ZW,ZW,ZW,ZW] 0 none)).put h1.n (.cells (wdC w1) 0 none))
 have e2:Ext h1 H2:=by rw[hH2];exact((Ext.refl _).new _).put (Nat.le_refl _) _
 have n2:H2.n=h1.n+1:=by rw[hH2];rfl
 have ga:H2.ext.get h1.n=some (.cells (wdC w1) 0 none):=by rw[hH2];simp (disch:=omega) only[ae]
 have k1':=e2.kept (by omega) k1
 rw[←hH2]
 clear hH2
 refine call (qW (hd1.aa ((E0.trans X1).trans e2).aa)) ?_
 rintro _ h3 ⟨X3,rfl⟩
 have m3:=X3.n
 obtain⟨w2,f2,hw2⟩ : ∃w1 e1,(if InW (q.den:Int) then Value.tuple #[qe q.den,KI 0] else .tuple #[wdV 0,KI 6])=.tuple #[wdV w1,KI e1]∧(InW (q.den:Int)∧w1=aY q.den∧e1=0 ∨ ¬InW (q.den:Int)∧e1=6):=by
  by_cases hi:InW (q.den:Int)
  ·exact⟨_,0,by rw[if_pos hi],.inl ⟨hi,rfl,rfl⟩⟩
  ·exact⟨0,6,by rw[if_neg hi],.inr ⟨hi,rfl⟩⟩
 rw[hw2.1]
 have ga3:=X3.kept (by omega) ga
 have k3:=X3.kept (by omega) k1'
 have xx:=((E0.trans X1).trans e2).trans X3
 rcases hw.2 with⟨i1,rfl,rfl⟩|⟨i1,rfl⟩
 ·rcases hw2.2 with⟨i2,rfl,rfl⟩|⟨i2,rfl⟩
  ·rw[if_pos (show QW q from⟨i1,i2⟩)]
   simp -dsimp (disch:=omega) only[wpS,wpT,zE,zL,zA,nW,lh,IE,dF,fh,Rq,Rp,cq,cM,aA,cm,eK,aj ga3,k3,bZ,QQ,QP,bg,ax,aV,aS]
   exact⟨(((xx.new _).put (by omega) _).put (by omega) _),rfl⟩
  ·rw[if_neg (show ¬QW q from fun h=>i2 h.2)]
   simp -dsimp (disch:=omega) only[wpS,wpT,zE,zL,zA,nW,lh,IE,dF,cq,cM,aA,cm,eK,k3,LM]
   exact⟨(((xx.new _).put (by omega) _).put (by omega) _),by rw[ve]⟩
 ·rw[if_neg (show ¬QW q from fun h=>i1 h.1)]
  simp -dsimp (disch:=omega) only[wpS,wpT,zE,zL,zA,nW,lh,IE,dF,cq,cM,aA,cm,eK,k3,LM]
  exact⟨(((xx.new _).put (by omega) _).put (by omega) _),by rw[ve]⟩
def okS (n d:Nat):Prop:=0<wdI d∧Int.gcd (wdI n) (wdI d)=1
instance (n d:Nat):Decidable (okS n d):=by unfold okS;infer_instance
def gC (hn:n<W8):aX (wdI n):=by
 refine XQ ?_
 have h2:=eP
 unfold wdI InW
 split<;>constructor<;>omega
def pD (n d:Nat) (hn:n<W8) (hd:d<W8):WV prog (.func (.func 128) #[] #[]) [shV n d] h fun r h'=>Ext h h'∧r=KI (if okS n d then 0 else 20):=by
 refine enter (nt:=22) (rs:=[.tmp 2]) Proofs.Tryz.func128 rfl rfl rfl (by simp) ?_
 simp -dsimp (disch:=omega) only[wpS,aD]
 have E1:Ext h (h.new (.cells (shC n d) 0 none)):=(Ext.refl h).new _
 have gs:(h.new (.cells (shC n d) 0 none)).ext.get h.n=some (.cells (shC n d) 0 none):=by simp (disch:=omega) only[ah]
 refine call (vB 1 ⟨by omega,by omega⟩) ?_
 rintro _ h1 ⟨X1,p1⟩
 have m1:=X1.n
 simp only[aH] at m1
 obtain⟨s1,rfl,c1,o1⟩:=p1.ct
 have gs1:=X1.kept (by simp) gs
 have e10:decide ((1:Int)<0)=false:=rfl
 rw[e10] at p1 ⊢
 simp -dsimp (disch:=omega) only[wpS,wpT,zE,zL,zA,jI,gH,cq,o1,aj gs1,ax,aS]
 obtain⟨H2,hH2⟩:=aT ((h1.new (.cells ZL 0 none)).put h1.n (.cells [.bool false,s1] 0 none))
 have e2:Ext h1 H2:=by rw[hH2];exact((Ext.refl _).new _).put (Nat.le_refl _) _
 have n2:H2.n=h1.n+1:=by rw[hH2];rfl
 have ga:H2.ext.get h1.n=some (.cells [.bool false,s1] 0 none):=by rw[hH2];simp (disch:=omega) only[ae]
 rw[←hH2]
 clear hH2
 refine call (dj n d hn hd) ?_
 rintro _ h3 ⟨X3,a2,s2,b2,t2,rfl,hN,hD⟩
 have m3:=X3.n
 obtain⟨e3,c3,o3⟩:=hN.co
 obtain⟨e4,c4,o4⟩:=hD.co
 subst e3 e4
 simp -dsimp (disch:=omega) only[wpS,wpT,zE,zL,zA,dW,df,o3,o4]
 obtain⟨H0,hH0⟩:=aT ((h3.new (.cells ZR 0 none)).put h3.n (.cells [.bool (decide (wdI n<0)),s2,.bool (decide (wdI d<0)),t2] 0 none))
 have e5:Ext h3 H0:=by rw[hH0];exact((Ext.refl _).new _).put (Nat.le_refl _) _
 have n5:H0.n=h3.n+1:=by rw[hH0];rfl
 have gb:H0.ext.get h3.n=some (.cells [.bool (decide (wdI n<0)),s2,.bool (decide (wdI d<0)),t2] 0 none):=by rw[hH0];simp (disch:=omega) only[ae]
 have gc:=e5.kept (by omega) (X3.kept (by omega) ga)
 rw[←hH0]
 clear hH0
 have hN0:=hN.aa e5.aa
 have hD0:=hD.aa e5.aa
 have p10:=p1.aa ((e2.trans X3).trans e5).aa
 have X0:=Ext.refl H0
 obtain⟨L1,L2,_⟩:=pl4 gb
 have L3:=pl2 gc
 have E0:=((((E1.trans X1).trans e2).trans X3).trans e5)
 refine drawn [(10,[9])] (by kernel_rfl) (by kernel_rfl) rfl ?_
 simp -dsimp (disch:=omega) only[wpS,wpT,zE,zL,zA,iA,bR,aj gb,tkB]
 refine call (mE hD0) ?_
 rintro _ h6 ⟨X6,rfl⟩
 have m6:=X6.n
 by_cases hd0:0<wdI d
 ·have hdn:decide (wdI d<0)=false:=decide_eq_false (by omega)
  rw[hdn] at hD0 gb L2
  rw[if_neg (by omega),if_neg (by omega)]
  simp -dsimp (disch:=omega) only[wpS,wpT,zE,zL,zA,iA,bR,gI,aj (X6.kept (by omega) gb),tkA,tkB]
  refine call (uh (hN0.aa X6.aa) (hD0.aa X6.aa) (gC hn) (gC hd)) ?_
  rintro g h7 ⟨X7,hg⟩
  have m7:=X7.n
  have X67:=X6.trans X7
  have sg:aX (Int.gcd (wdI n) (wdI d):Int):=jm ((gC hd).le (Nat.le_of_dvd (by omega) (Nat.gcd_dvd_right _ _)))
  simp -dsimp (disch:=omega) only[wpS,wpT,zE,zL,zA,bR,aj (X67.kept (by omega) gc),qL]
  refine call (EG hg (p10.aa X67.aa) sg (jm El)) ?_
  rintro _ h8 ⟨X8,rfl⟩
  have X68:=X67.trans X8
  have E8:=E0.trans X68
  by_cases hgc:Int.gcd (wdI n) (wdI d)=1
  ·rw[if_neg (by omega),if_pos (by omega),if_pos (show okS n d from⟨hd0,hgc⟩)]
   simp -dsimp (disch:=omega) only[wpS,wpT,zE]
   refine⟨by repeat' first|refine aw ?_ ?_|refine aC ?_ ?_|exact ad rfl rfl rfl rfl (aW (H0:=H0) rfl (by omega) (by assumption) (by assumption) (by with_reducible assumption)),?_⟩
   simp -dsimp (disch:=omega) only[wpS,wpT,zE,zA]
   exact E8
  ·rw[if_neg (show ¬okS n d from fun h=>hgc h.2)]
   have hg1 : ¬((Int.gcd (wdI n) (wdI d):Int)<1):=by
    have:=AZ (n:=wdI n) (d:=wdI d) (by omega)
    omega
   rw[if_neg hg1,if_neg (by omega)]
   simp -dsimp (disch:=omega) only[wpS,wpT,zE]
   refine⟨by repeat' first|refine aw ?_ ?_|refine aC ?_ ?_|exact ad rfl rfl rfl rfl (aW (H0:=H0) rfl (by omega) (by assumption) (by assumption) (by with_reducible assumption)),?_⟩
   simp -dsimp (disch:=omega) only[wpS,wpT,zE,zA]
   exact E8
 ·rw[if_neg (show ¬okS n d from fun h=>hd0 h.1)]
  have E6:=E0.trans X6
  obtain⟨c,hc,hc0⟩ : ∃c:Int,(if wdI d<0 then (-1:Int) else if wdI d=0 then 0 else 1)=c∧c≤0:=⟨_,rfl,by split<;>(try split)<;>omega⟩
  rw[hc]
  simp -dsimp (disch:=omega) only[wpS,wpT,zE,show decide (c≤0)=true from decide_eq_true hc0]
  refine⟨lK rfl rfl rfl,?_⟩
  simp -dsimp (disch:=omega) only[wpS,wpT,zE,zA]
  exact E6
def GY (n d:Nat) (hn:n<W8) (hd:d<W8):WV prog (.func (.func 240) #[] #[]) [shV n d] h fun r h'=>Ext h h'∧r=.bool (decide (okS n d)):=by
 refine enter (nt:=6) (rs:=[.tmp 2]) Proofs.Tryz.func240 rfl rfl rfl (by simp) ?_
 simp -dsimp (disch:=omega) only[wpS,zE,zL,cq,aD,ax,aS]
 refine call (pD n d hn hd) ?_
 rintro _ h1 ⟨hE,rfl⟩
 have E1:=((Ext.refl h).new (.cells (shC n d) 0 none)).trans hE
 by_cases hok:okS n d
 ·rw[if_pos hok]
  simp -dsimp (disch:=omega) only[wpS,wpT,zE]
  exact⟨E1,by rw[decide_eq_true hok]⟩
 ·rw[if_neg hok]
  simp -dsimp (disch:=omega) only[wpS,wpT,zE]
  exact⟨E1,by rw[decide_eq_false hok]⟩
def shL (l:List (Nat×Nat)):List Value:=l.flatMap fun p=>shC p.1 p.2
theorem LP (l:List (Nat×Nat)):(shL l).length=l.length*16:=by
 induction l with
 | nil=>rfl
 | cons a l ih=>rw[shL,List.flatMap_cons,List.length_append,ax,←shL,ih,List.length_cons];omega
variable {l:List (Nat×Nat)}{i:Nat}{p:Nat×Nat}
def XS (h:l[i]?=some p):((shL l).drop (i*16)).take 16=shC p.1 p.2:=by
 induction l generalizing i with
 | nil=>simp at h
 | cons a l ih =>
  rw[shL,List.flatMap_cons,←shL]
  cases i with
  | zero =>
   simp at h;subst h
   rw[Nat.zero_mul,List.drop_zero,List.take_append_of_le_length (by rw[ax];omega),List.take_of_length_le (by rw[ax];omega)]
  | succ i =>
   simp at h
   rw[show(i+1)*16=(shC a.1 a.2).length+i*16 by rw[ax];omega,List.drop_length_add_append]
   exact ih h
def Ux (l:List (Nat×Nat)):(shL l).all aB=true:=by
 induction l with
 | nil=>rfl
 | cons a l ih=>rw[shL,List.flatMap_cons,List.all_append,aV,←shL,ih];rfl
def gw (h:IH) (v:Value) (l:List (Nat×Nat)):Prop:=bH h 16 v l.length (shL l)∧l.length<1152921504606846976 ∧ ∀p∈l,p.1<W8∧p.2<W8
variable {h':IH}
def gw.aa (s:gw h v l) (e:aK h h'):gw h' v l:=⟨s.1.aa e,s.2⟩
def gw.ld (s:gw h v l) (e:aK h h') (hi:l[i]?=some p):load prog h' 32 (aP v (i*16))=some (shV p.1 p.2):=by
 have hl:i<l.length:=(List.getElem?_eq_some_iff.1 hi).1
 rw[s.1.C6 e (by rw[LP];omega) (by omega) ag32 XK,XS hi];rfl
def QN (hv:gw h v l):WV prog (.func (.func 241) #[] #[]) [(.func (.func 240) #[] #[]),v] h fun r h'=>Ext h h'∧r=.bool (decide (∀p∈l,okS p.1 p.2)):=by
 refine enter (nt:=18) (rs:=[.tmp 4]) Proofs.Tryz.func241 rfl rfl rfl (by simp) ?_
 simp -dsimp (disch:=omega) only[wpS,zE,zA,hv.1.len tZ]
 refine loop (fun m fr h1 => ∃i:Nat,i+m=l.length∧Ext h h1∧(∀j p,j<i→l[j]?=some p→okS p.1 p.2)∧ab fr 0=some (.func (.func 240) #[] #[])∧ab fr 7=some v∧ab fr 8=some (KN l.length)∧ab fr 9=some (KN i)) l.length
  ⟨0,by omega,Ext.refl _,fun j p hj=>by omega,by simp⟩ ?_
 rintro m fr h1 ⟨i,him,hE,hok,f0,f7,f8,f9⟩
 simp -dsimp (disch:=omega) only[wpS,f8,f9]
 refine au ?_ ?_<;>intro hc<;>simp only[decide_eq_true_eq,decide_eq_false_iff_not] at hc
 ·have hi:i<l.length:=by omega
  obtain⟨p,hp⟩:=iC (l:=l) (i:=i) hi
  have hpm:=List.mem_of_getElem? hp
  obtain⟨w1,w2⟩:=hv.2.2 p hpm
  have hlb:=hv.2.1
  simp -dsimp (disch:=omega) only[wpS,wpT,zE,zL,zA,cq,fR,dF,f0,f7,f9,hv.1.idx xl hi,hv.ld hE.aa hp,aD,ax,aV,bg,aS]
  refine call (GY p.1 p.2 w1 w2) ?_
  rintro _ h2 ⟨hE2,rfl⟩
  have E2:=((hE.new (.cells Z16 0 none)).put hE.n (.cells (shC p.1 p.2) 0 none)).trans hE2
  by_cases hk:okS p.1 p.2
  ·rw[decide_eq_true hk]
   simp -dsimp (disch:=omega) only[wpS,wpT,zE,f9]
   refine⟨m - 1,by omega,i+1,by omega,E2,?_,by simp[f0,f7,f8]⟩
   intro j q hj hq
   by_cases hji:j=i
   ·subst hji;rw[hp] at hq;cases hq;exact hk
   ·exact hok j q (by omega) hq
  ·rw[decide_eq_false hk]
   simp -dsimp (disch:=omega) only[wpS,wpT,zE]
   refine⟨E2,?_⟩
   rw[decide_eq_false fun eF=>hk (eF p hpm)]
 ·simp -dsimp (disch:=omega) only[wpS,wpT]
  refine⟨hE,?_⟩
  rw[decide_eq_true]
  intro p hp
  obtain⟨j,hj⟩:=List.getElem?_of_mem hp
  have:=(List.getElem?_eq_some_iff.1 hj).1
  exact hok j p (by omega) hj
def z9 (hv:gw h v l):WV prog (.func (.func 188) #[] #[]) [v] h fun r h'=>Ext h h'∧r=.bool (decide (∀p∈l,okS p.1 p.2)):=by
 refine enter (nt:=7) (rs:=[.tmp 2]) Proofs.Tryz.func188 rfl rfl rfl (by simp) ?_
 simp -dsimp (disch:=omega) only[wpS,zE]
 refine call (QN hv) ?_
 rintro _ h1 ⟨hE,rfl⟩
 simp -dsimp (disch:=omega) only[wpS,wpT,zE]
 exact hE
variable {h:IH}{n:Int}
def uM {v:Value} (hv:a9 h v n):WV prog (.func (.func 131) #[] #[]) [v] h fun r h'=>Ext h h'∧bt h' r (n:Rat):=by
 obtain⟨s,rfl,c1,o1⟩:=hv.ct
 refine enter (nt:=6) (rs:=[.cell 2 137]) Proofs.Tryz.func131 rfl rfl rfl (by simp) ?_
 simp -dsimp (disch:=omega) only[wpS,dW]
 obtain⟨H0,hH0,n0,E0,g0,g1⟩:=ev h [.bool (decide (n<0)),s] ZR
 rw[←hH0]
 clear hH0
 have X0:=Ext.refl H0
 have L1:=pl2 g0
 refine drawn [(0,[3])] (by kernel_rfl) (by kernel_rfl) rfl ?_
 simp -dsimp (disch:=omega) only[wpS,wpT,zE,zL,zA,bR,aj g0,qL]
 refine call (vB 1 ⟨by omega,by omega⟩) ?_
 rintro _ h1 ⟨X1,p1⟩
 have m1:=X1.n
 obtain⟨s1,rfl,c2,o2⟩:=p1.ct
 have kg:=X1.kept (by omega) g1
 simp -dsimp (disch:=omega) only[wpS,wpT,zE,zL,zA,Nt,y8,y7,df,kg,o1,o2]
 refine⟨by repeat' first|refine aw ?_ ?_|refine aC ?_ ?_|exact ad rfl rfl rfl rfl (aW (H0:=H0) rfl (by omega) (by assumption) (by assumption) (by with_reducible assumption)),?_⟩
 simp -dsimp (disch:=omega) only[wpS,wpT,zE,zL,zA,fO,fF]
 have kp:=(aK.refl h1).put kg (.cells [.bool (decide (n<0)),s,.bool false,s1] 0 none)
 exact⟨(E0.trans X1).put (by omega) _,_,_,_,_,rfl,hv.aa ((E0.trans X1).aa.trans kp),p1.aa kp⟩
def fe (n:Int) (hn:fZ n):WV prog (.func (.func 75) #[] #[]) [KI n] h fun r h'=>Ext h h'∧bt h' r (n:Rat):=by
 refine enter (nt:=6) (rs:=[.cell 2 137]) Proofs.Tryz.func75 rfl rfl rfl (by simp) ?_
 simp -dsimp (disch:=omega) only[wpS,zE,dW]
 have E1:Ext h (h.new (.cells ZR 0 none)):=(Ext.refl h).new _
 have g1:(h.new (.cells ZR 0 none)).ext.get h.n=some (.cells ZR 0 none):=by simp (disch:=omega) only[ah]
 refine call (vB n hn) ?_
 rintro _ h1 ⟨X1,p1⟩
 simp -dsimp (disch:=omega) only[wpS,zE]
 refine call (uM p1) ?_
 rintro _ h2 ⟨X2,p2⟩
 have m1:=X1.n
 have m2:=X2.n
 simp only[aH] at m1
 obtain⟨a3,s3,b3,t3,rfl,_,_,d1,o1,d2,o2,o3,o4⟩:=p2.parts
 have kg:=X2.kept (by omega) (X1.kept (by simp) g1)
 simp -dsimp (disch:=omega) only[wpS,wpT,zE,zL,zA,df,fO,kg,o1,o2,o3,o4,fF]
 exact⟨((E1.trans X1).trans X2).put (by omega) _,p2.aa ((aK.refl _).put kg _)⟩
def lM {d:Nat} (hd:d<W8):wdI d=0↔d=0:=by
 have h2:=eP
 have h3:=iJ
 unfold wdI
 split<;>omega
def Cz (n d:Nat) (hn:n<W8) (hd:d<W8) (d0:d≠0):WV prog (.func (.func 189) #[] #[]) [wdV n,wdV d] h fun r h'=>Ext h h'∧r=(open Classical in if QW (Rat.divInt (wdI n) (wdI d)) then .tuple #[gU (Rat.divInt (wdI n) (wdI d)),KI 0] else .tuple #[shV 0 0,KI 6]):=by
 refine enter (nt:=18) (rs:=[.cell 4 32,.tmp 5]) Proofs.Tryz.func189 rfl rfl rfl (by simp) ?_
 simp -dsimp (disch:=try exact dx) only[wpS,wpT,zE,zL,zA,fR,fh,FL,cM,aA]
 obtain⟨H0,hH0,n0,E0,g0,g1,g2⟩:=gG h (wdC n) (wdC d) Z16
 rw[←hH0]
 clear hH0
 have X0:=Ext.refl H0
 have L2:load prog H0 30 (ptr (2*(h.n+1)) 0)=some (wdV d):=by
  simp -dsimp (disch:=try exact dx) only[wpS,zL,fh,aj g1,aA,bZ]
  rfl
 have hz:binop prog .eql 30 (.tmp 6) (.tmp 7) (.agg (wdC d).toArray) (.agg #[ZW,ZW,ZW,ZW,ZW,ZW,ZW,ZW])=some (.bool false):=by
  rw[nk,wdV,Qi hd (by have:=eP;have:=iJ;omega)]
  rw[decide_eq_false d0]
 have hdI:wdI d≠0:=fun h=>d0 ((lM hd).1 h)
 simp -dsimp (disch:=try exact dx) only[wpS,zE,bZ,hz]
 refine drawn [(2,[1])] (by kernel_rfl) (by kernel_rfl) rfl ?_
 simp -dsimp (disch:=omega) only[wpS,zE,zL,fh,aj g0,aA,bZ]
 refine call (jt n hn) ?_
 rintro r1 h1 ⟨X1,p1⟩
 have m1:=X1.n
 simp -dsimp (disch:=omega) only[wpS,zE,zL,fh,aj (X1.kept (by omega) g1),aA,bZ]
 refine call (jt d hd) ?_
 rintro r2 h2 ⟨hE2,p2⟩
 have X2:=X1.trans hE2
 have m2:=hE2.n
 simp -dsimp (disch:=omega) only[wpS,zE]
 refine call (sM (p1.aa hE2.aa) p2 (gC hn) (gC hd) hdI) ?_
 rintro r3 h3 ⟨hE3,p3⟩
 have X3:=X2.trans hE3
 have m3:=hE3.n
 simp -dsimp (disch:=omega) only[wpS,zE]
 refine call (vh p3) ?_
 rintro _ h4 ⟨hE4,rfl⟩
 have X4:=X3.trans hE4
 have m4:=hE4.n
 have kg:=X4.kept (by omega) g2
 by_cases hq:QW (Rat.divInt (wdI n) (wdI d))
 ·rw[if_pos hq]
  simp -dsimp (disch:=omega) only[wpS,wpT,zE,zL,zA,dF,kg,aD,ax,aV,bg]
  refine⟨by repeat' first|refine aw ?_ ?_|refine aC ?_ ?_|exact ad rfl rfl rfl rfl (aW (H0:=H0) rfl (by omega) (by assumption) (by assumption) (by with_reducible assumption)),?_⟩
  simp -dsimp (disch:=omega) only[wpS,wpT,zE,zL,zA,cq,ax,aS]
  exact⟨(E0.trans X4).put (by omega) _,rfl⟩
 ·rw[if_neg hq]
  simp -dsimp (disch:=omega) only[wpS,wpT,zE,zL,zA,dF,kg,aD,ax,aV,bg]
  refine⟨by repeat' first|refine aw ?_ ?_|refine aC ?_ ?_|exact ad rfl rfl rfl rfl (aW (H0:=H0) rfl (by omega) (by assumption) (by assumption) (by with_reducible assumption)),?_⟩
  simp -dsimp (disch:=omega) only[wpS,wpT,zE,zL,zA,cq,ax,aS]
  exact⟨(E0.trans X4).put (by omega) _,rfl⟩
theorem gX {d:Int} (hn:fZ n) (hd:fZ d) (d0:d≠0):QW (Rat.divInt n d):=by
 have h3:=se
 have q:=QB.divInt (k:=63) d0 (n:=n) (by have:=hn.1;have:=hn.2;omega) (by have:=hd.1;have:=hd.2;omega)
 obtain⟨q1,q2⟩:=q
 have e:2 ^ 63=9223372036854775808:=by decide
 rw[e] at q1 q2
 exact⟨⟨by omega,by omega⟩,⟨by omega,by omega⟩⟩
theorem jL (hn:fZ n):InW n:=by
 have h3:=se
 exact⟨by have:=hn.1;omega,by have:=hn.2;omega⟩
def Xy (hn:fZ n) (h0:n≠0):aY n≠0:=by
 have hw:=jL hn
 have:=cB hw
 intro h
 rw[h] at this
 have h2:=iJ
 unfold wdI at this
 rw[if_pos h2] at this
 omega
def LK (n d:Int) (hn:fZ n) (hd:fZ d) (d0:d≠0):WV prog (.func (.func 88) #[] #[]) [KI n,KI d] h fun r h'=>Ext h h'∧r=.tuple #[gU (Rat.divInt n d),KI 0]:=by
 refine enter (nt:=13) (rs:=[.cell 4 32,.tmp 5]) Proofs.Tryz.func88 rfl rfl rfl (by simp) ?_
 simp -dsimp (disch:=omega) only[wpS,zE,zA,fR]
 have E1:Ext h (h.new (.cells Z16 0 none)):=(Ext.refl h).new _
 have g1:(h.new (.cells Z16 0 none)).ext.get h.n=some (.cells Z16 0 none):=by simp (disch:=omega) only[ah]
 refine call (oB n hn) ?_
 rintro _ h1 ⟨X1,rfl⟩
 simp -dsimp (disch:=omega) only[wpS,zE]
 refine call (oB d hd) ?_
 rintro _ h2 ⟨X2,rfl⟩
 simp -dsimp (disch:=omega) only[wpS,zE]
 refine call (Cz (aY n) (aY d) (ec (jL hn)) (ec (jL hd)) (Xy hd d0)) ?_
 rintro _ h3 ⟨X3,rfl⟩
 rw[cB (jL hn),cB (jL hd),if_pos (gX hn hd d0)]
 have m1:=X1.n
 have m2:=X2.n
 have m3:=X3.n
 simp only[aH] at m1
 have kg:=X3.kept (by omega) (X2.kept (by omega) (X1.kept (by simp) g1))
 simp -dsimp (disch:=omega) only[wpS,wpT,zE,zL,zA,dF,cq,kg,aD,ax,aV,bg,aS]
 exact⟨(((E1.trans X1).trans X2).trans X3).put (by omega) _,rfl⟩
end Go.Id
namespace Go.Id
open Go
def hI:Kept bt:=fun _ _ _ _ r e=>r.aa e
def rOf (p:Nat×Nat):Rat:=Rat.divInt (wdI p.1) (wdI p.2)
variable {p:Nat×Nat}
theorem cZ (h:okS p.1 p.2):(rOf p).num=wdI p.1∧((rOf p).den:Int)=wdI p.2:=by
 obtain⟨h1,h2⟩:=h
 obtain⟨a,b⟩:=nD (n:=wdI p.1) h1
 rw[h2] at a b
 simp only[Int.natCast_one,Int.ediv_one] at a b
 exact⟨a.symm,b.symm⟩
abbrev TH (l:List (Nat×Nat)):Prop:=∀p∈l,okS p.1 p.2
noncomputable def gN (q:Rat):Value:=open Classical in if QW q then .tuple #[gU q,KI 0] else .tuple #[shV 0 0,KI 6]
def jT (q:Rat) : ∃n d e,gN q=.tuple #[shV n d,KI e]:=by
 unfold gN
 by_cases h:QW q
 ·exact⟨_,_,0,by rw[if_pos h]⟩
 ·exact⟨0,0,6,by rw[if_neg h]⟩
def iO (h1:p.1<W8) (h2:p.2<W8) (ok:okS p.1 p.2):QB 512 (rOf p):=by
 obtain⟨e1,e2⟩:=cZ ok
 have hw:W8=2 ^ 512:=by decide +kernel
 have a1:=gC h1
 unfold QB
 have k1:(wdI p.1).natAbs≤2 ^ 512:=by
  rw[←hw]
  unfold wdI
  have:=eP
  split<;>omega
 have k2:wdI p.2≤((2 ^ 512:Nat):Int):=by
  rw[←hw]
  unfold wdI
  have:=eP
  split<;>omega
 generalize (2 ^ 512:Nat)=B at *
 refine⟨by rw[e1];exact k1,by omega⟩
def shq (q:Rat):Nat×Nat:=(aY q.num,aY q.den)
variable {q:Rat}
def gT (h:QW q):(shq q).1<W8∧(shq q).2<W8:=⟨ec h.1,ec h.2⟩
theorem bK (q:Rat):gU q=shV (shq q).1 (shq q).2:=rfl
theorem bX (h:QW q):rOf (shq q)=q∧okS (shq q).1 (shq q).2:=by
 have e1:wdI (shq q).1=q.num:=cB h.1
 have e2:wdI (shq q).2=(q.den:Int):=cB h.2
 refine⟨?_,?_,?_⟩
 ·unfold rOf;rw[e1,e2,Rat.num_divInt_den]
 ·rw[e2];have:=q.den_pos;omega
 ·rw[e1,e2];have:=q.reduced;exact this
def Ts {h:IH} (a b c d:Nat):buildSlice Proofs.Tryz.prog h 61 2 [(0,shV a b),(1,shV c d)]=some (.slice (some ⟨2*h.n,0,none⟩) 2 5,h.new (.cells (shL [(a,b),(c,d)]) 16 none)):=by
 rw[B9 h 2 _ (by decide)]
 have e:ck (fun i=>some (i*16,16)) (bB 2 [.int .u64 0,.int .u64 0,.int .u64 0,.int .u64 0,.int .u64 0,.int .u64 0,.int .u64 0,.int .u64 0,.int .u64 0,.int .u64 0,.int .u64 0,.int .u64 0,.int .u64 0,.int .u64 0,.int .u64 0,.int .u64 0]) [(0,shV a b),(1,shV c d)]=some (shL [(a,b),(c,d)]):=by kernel_rfl
 rw[e];rfl
def Q6 {P:Program} {t:TypeId} {bytes:Nat} (hT:jh P t=some (4,bytes)) (hb:bytes≤1000) {R:IH→Value→Rat→Prop} (kR:Kept R) {h:IH} {n0:Nat} {v:Value} {l:List Rat} {cs:List Value} (a:Acc h n0 4 v l.length cs) (hc:ku R h l cs) {x1 x2 x3 x4:Value} {q:Rat} (r:R h (.agg #[x1,x2,x3,x4]) q) (o:([x1,x2,x3,x4]:List Value).all aB=true) (hl:l.length<100000) (h0:n0≤h.n) {h0':IH} (e0:Ext h0' h) (hn0:h0'.n≤n0) :
  ∃v' h',append P (h.new (.cells [x1,x2,x3,x4] 4 none)) t v (.slice (some ⟨2*h.n,0,none⟩) 1 3)=some (v',h')∧Acc h' n0 4 v' (l ++ [q]).length (cs ++ [x1,x2,x3,x4])∧ku R h' (l ++ [q]) (cs ++ [x1,x2,x3,x4])∧Grow h h'∧Ext h0' h':=by
 have hsz:(l.length+1)*(bytes+1)≤1099511627776:=by
  have:(l.length+1)*(bytes+1)≤100000*1001:=Nat.mul_le_mul (by omega) (by omega)
  omega
 obtain⟨v',h',b1,b2,b3,b4⟩:=a.tq hT (m:=1) (new:=[x1,x2,x3,x4]) (by omega) rfl o hsz h0 e0 hn0
 exact⟨v',h',b1,by simpa using b2,(hc.snoc r).aa kR b3.aa,b3,b4⟩


def Ds (r:ir) (c:Code):ir:={ r with state:=.done,pending:=some c }
@[reducible] def Zcw (k:Nat) (r:ir) (K:Value→IH→Prop) (e:bN) (_:Fr) (h:IH):Prop :=
 h.ext.get k=some (.loop (BD r))∧match e with
  | .normal=>K (.bool true) (h.put k (.loop r))
  | .exit i=>K (.bool false) (h.put k (.loop (Ds r (.exit i))))
  | .ret=>K (.bool false) (h.put k (.loop (Ds r .ret)))
@[reducible] def asgK (P:Program) (k:Nat) (r:ir) (K:Value→IH→Prop) (e:bN) (fr:Fr) (h:IH):Prop :=
 e=.normal∧h.ext.get k=some (.loop r)∧Do (wpC P r.fn r.nt (some k) r.body fr (h.put k (.loop (BD r)))) (Zcw k r K) nx
def TM (k:Nat) (r:ir) (fr:Fr) (Q:bN→Fr→IH→Prop) (h1:IH):Prop :=
 (h1.ext.get k=some (.loop r)∧Q .normal fr (h1.put k .dead))∨(∃i,h1.ext.get k=some (.loop (Ds r (.exit i)))∧Q (.exit i) fr (h1.put k .dead))∨(h1.ext.get k=some (.loop (Ds r .ret))∧Q .ret fr (h1.put k .dead))
def aK.JB {a b:IH} (g:aK a b) {k:Nat} (hk : ∀c e f,b.ext.get k=some (.cells c e f)→e=0) (o:bI):aK a (b.put k o):=⟨g.n,g.base,fun j c e f1 hj hg he=>by
 obtain⟨f2,h2⟩:=g.get j c e f1 hj hg he
 refine⟨f2,?_⟩
 rw[iT,if_neg]
 ·exact h2
 ·rintro rfl;exact he (hk _ _ _ h2)⟩


abbrev errV (e:Int):Value:=.tuple #[shV 0 0,KI e]
theorem Ac (l:List (Nat×Nat)) (p:Nat×Nat):shL (l ++ [p])=shL l ++ shC p.1 p.2:=by simp[shL]
open Nat renaming reduceAdd→zA,reduceEqDiff→zE,reduceLeDiff→zL
set_option maxHeartbeats 16000000
def yE (h:IH) (v:Value) (n d:Int):Prop:=∃a s b t,v=.agg #[a,s,b,t]∧bd h (.agg #[a,s]) n∧bd h (.agg #[b,t]) d
variable {v:Value}{h:IH}{n:Int}{h':IH}{d:Int}
def yE.aa (p:yE h v n d) (e:aK h h'):yE h' v n d:=let ⟨a,s,b,t,h1,h2,h3⟩:=p;⟨a,s,b,t,h1,h2.aa e,h3.aa e⟩
def fD (h:IH) (v:Value) (q:Rat):Prop:=yE h v q.num q.den
def fD.aa {q:Rat} (p:fD h v q) (e:aK h h'):fD h' v q:=yE.aa p e
variable {z:Int}
def bd.ct (d:bd h v z) : ∃s,v=.agg #[.bool (decide (z<0)),s]∧s.cells = #[s]∧aB s=true:=let ⟨s,n,a,b,c,_⟩:=d.form;⟨s,a,b,c⟩
def bd.co {a s:Value} (d:bd h (.agg #[a,s]) z):a=.bool (decide (z<0))∧s.cells = #[s]∧aB s=true:=by
 obtain⟨s',h1,h2,h3⟩:=d.ct
 cases h1
 exact⟨rfl,h2,h3⟩
def RQ (hd:d<0):n / (-(Int.gcd n d:Int))=(Rat.divInt n d).num∧d / (-(Int.gcd n d:Int))=(Rat.divInt n d).den:=by
 obtain⟨a,b⟩:=zd (n:=n) hd
 rw[Int.ediv_neg,Int.ediv_neg]
 exact⟨a,b⟩
def mC {w:Value} (hv:bd h v n) (hw:bd h w d) (sn:aX n) (sd:aX d) (d0:d≠0) :
  WV Proofs.Tryz.prog (.func (.func 184) #[] #[]) [v,w] h fun r h'=>Ext h h'∧fD h' r (Rat.divInt n d):=by
 obtain⟨s,rfl,c1,o1⟩:=hv.ct
 obtain⟨t,rfl,c2,o2⟩:=hw.ct
 have sg:aX (Int.gcd n d:Int):=by
  have h1:Int.gcd n d≤d.natAbs:=Nat.le_of_dvd (by omega) (Nat.gcd_dvd_right _ _)
  exact jm (sd.le h1)
 refine enter (nt:=32) (rs:=[.cell 4 177]) Proofs.Tryz.func184 rfl rfl rfl (by simp) ?_
 simp -dsimp (disch:=try exact dx) only[wpS,wpT,zE,zL,zA,kQ,cg]
 obtain⟨H0,hH0,n0,E0,g0,g1,g2⟩:=gG h [.bool (decide (n<0)),s] [.bool (decide (d<0)),t] ZR
 rw[←hH0]
 clear hH0
 refine call (Bk (hv.aa E0.aa) (hw.aa E0.aa) sn sd) ?_
 rintro _ h1 ⟨hE1,hg⟩
 obtain⟨sg1,rfl,c3,o3⟩:=hg.ct
 have hng:decide ((Int.gcd n d:Int)<0)=false:=decide_eq_false (by omega)
 rw[hng] at hg ⊢
 have x1:=E0.trans hE1
 have n1:=(hE1).n;try simp only[aH,aM] at n1
 simp -dsimp (disch:=try exact dx) only[wpS,wpT,zE,zL,zA,lD,gR,dT,ld4,o3,aj (hE1.kept (by omega) g1),qL]
 obtain⟨H2,hH2⟩:=aT ((h1.new (.cells ZL 0 none)).put h1.n (.cells [.bool false,sg1] 0 none))
 have e2:Ext h1 H2:=by rw[hH2];exact((Ext.refl _).new _).put (Nat.le_refl _) _
 have n2:H2.n=h1.n+1:=by rw[hH2];rfl
 have gg:H2.ext.get h1.n=some (.cells [.bool false,sg1] 0 none):=by rw[hH2];simp (disch:=try exact dx) only[ae]
 rw[←hH2]
 clear hH2
 have x2:=x1.trans e2
 have kk0:=e2.kept (by omega) (hE1.kept (by omega) g0)
 have kk1:=e2.kept (by omega) (hE1.kept (by omega) g1)
 have kk2:=e2.kept (by omega) (hE1.kept (by omega) g2)
 refine fB (fun fr2 H3 => ∃(g:Int) (ag sg2:Value),Ext h H3∧h1.n+1≤H3.n∧H3.ext.get h.n=some (.cells [.bool (decide (n<0)),s] 0 none)∧H3.ext.get (h.n+1)=some (.cells [.bool (decide (d<0)),t] 0 none)∧H3.ext.get (h.n+1+1)=some (.cells ZR 0 none)∧H3.ext.get h1.n=some (.cells [ag,sg2] 0 none)∧bd H3 (.agg #[ag,sg2]) g∧aX g∧g≠0∧n / g=(Rat.divInt n d).num∧d / g=(Rat.divInt n d).den ∧
  bd H3 (.agg #[.bool (decide (n<0)),s]) n∧bd H3 (.agg #[.bool (decide (d<0)),t]) d∧ab fr2 2=some (ptr (2*h.n) 0)∧ab fr2 3=some (ptr (2*(h.n+1)) 0)∧ab fr2 4=some (ptr (2*(h.n+1+1)) 0)∧ab fr2 5=some (ptr (2*h1.n) 0)) (fun hb=>?_) (fun hb=>?_) ?_
 ·have hd:d<0:=by simpa using hb
  obtain⟨b1,b2⟩:=RQ (n:=n) hd
  simp -dsimp (disch:=try exact dx) only[wpS,wpT,zE,zL,zA,cg,aj gg,qL]
  refine call (D4 (hg.aa e2.aa)) ?_
  rintro _ h3 ⟨hE3,hT⟩
  obtain⟨sT,rfl,c4,o4⟩:=hT.ct
  have n3:=(hE3).n;try simp only[aH,aM] at n3
  have kg:=hE3.kept (by omega) gg
  simp -dsimp (disch:=try exact dx) only[wpS,wpT,zE,zL,zA,gR,kg,o4]
  have kp:=(aK.refl h3).put kg (.cells [.bool (decide (-(Int.gcd n d:Int)<0)),sT] 0 none)
  have x3:=x2.trans hE3
  have hng:=AZ (n:=n) (d:=d) (by omega)
  refine⟨-(Int.gcd n d:Int),_,sT,x3.put (by omega) _,by simp only[aM];omega,by simp (disch:=try exact dx) only[ak];exact hE3.kept (by omega) kk0,by simp (disch:=try exact dx) only[ak];exact hE3.kept (by omega) kk1,by simp (disch:=try exact dx) only[ak];exact hE3.kept (by omega) kk2,ae _ _ rfl,hT.aa kp,by rw[aX,Int.natAbs_neg];exact sg,by omega,b1,b2,hv.aa (x3.aa.trans kp),hw.aa (x3.aa.trans kp),by simp,by simp,by simp,by simp⟩
 ·have hd:0<d:=by
   have : ¬d<0:=by simpa using hb
   omega
  obtain⟨b1,b2⟩:=nD (n:=n) hd
  simp -dsimp (disch:=try exact dx) only[wpS,wpT]
  exact⟨Int.gcd n d,_,sg1,x2,by omega,kk0,kk1,kk2,gg,hg.aa e2.aa,sg,AZ d0,b1,b2,hv.aa x2.aa,hw.aa x2.aa,by simp,by simp,by simp,by simp⟩
 clear hg kk0 kk1 kk2 gg x2 e2
 rintro fr2 H3 ⟨g,ag,sg2,x3,n3,k0,k1,k2,kg,hg,sgg,g0',b1,b2,hv3,hw3,f2,f3,f4,f5⟩
 rw[kX]
 simp -dsimp (disch:=try exact dx) only[wpS,wpT,zE,zL,zA,cg,f2,f5,aj k0,aj kg,qL]
 refine call (CZ hv3 hg sn sgg g0') ?_
 rintro _ h4 ⟨hE4,q,u,rfl,hq,hu⟩
 rw[b1] at hq
 obtain⟨sq,rfl,c4,o4⟩:=hq.ct
 obtain⟨su,rfl,c5,o5⟩:=hu.ct
 have n4:=(hE4).n;try simp only[aH,aM] at n4
 have x4:=x3.trans hE4
 simp -dsimp (disch:=try exact dx) only[wpS,wpT,zE,zL,zA,cg,lD,gR,o4,o5,f3,f5,aj (hE4.kept (by omega) k1),aj (hE4.kept (by omega) kg),qL]
 obtain⟨H5,hH5⟩ : ∃H4,H4=((((h4.new (.cells ZL 0 none)).new (.cells ZL 0 none)).put h4.n (.cells [.bool (decide ((Rat.divInt n d).num<0)),sq] 0 none)).put (h4.n+1) (.cells [.bool (decide (n % g<0)),su] 0 none)):=⟨_,rfl⟩
 have e5:Ext h4 H5:=by rw[hH5];exact((((Ext.refl _).new _).new _).put (Nat.le_refl _) _).put (by omega) _
 have n5:H5.n=h4.n+2:=by rw[hH5];rfl
 have gq:H5.ext.get h4.n=some (.cells [.bool (decide ((Rat.divInt n d).num<0)),sq] 0 none):=by rw[hH5];simp (disch:=try exact dx) only[ae,ak]
 rw[←hH5]
 clear hH5
 refine call (CZ (hw3.aa (hE4.trans e5).aa) (hg.aa (hE4.trans e5).aa) sd sgg g0') ?_
 rintro _ h6 ⟨hE6,q2,u2,rfl,hq2,hu2⟩
 rw[b2] at hq2
 obtain⟨sq2,rfl,c6,o6⟩:=hq2.ct
 obtain⟨su2,rfl,c7,o7⟩:=hu2.ct
 have n6:=(hE6).n;try simp only[aH,aM] at n6
 have hdf:decide (((Rat.divInt n d).den:Int)<0)=false:=decide_eq_false (by omega)
 rw[hdf] at hq2 ⊢
 have x6:=(x4.trans e5).trans hE6
 have kq:=hE6.kept (by omega) gq
 have kr:=hE6.kept (by omega) (e5.kept (by omega) (hE4.kept (by omega) k2))
 simp -dsimp (disch:=try exact dx) only[wpS,wpT,zE,zL,zA,cg,lD,gR,Nr,yZ,yY,jl,jK,o6,o7,f4,aj kq,kr,o4,qL,fF]
 refine⟨?_,_,_,_,_,rfl,hq.aa ((e5.trans hE6).aa.trans ?_),hq2.aa ?_⟩
 ·exact((((x6.new _).new _).put (by omega) _).put (by omega) _).put (by omega) _
 ·exact(((((aK.refl h6).new _).new _).put (cs:=ZL) (f:=none) (by simp (disch:=try exact dx) only[ah,aq]) _).put (cs:=ZL) (f:=none) (by simp (disch:=try exact dx) only[ah,ak]) _).put (cs:=ZR) (f:=none) (by simp (disch:=try exact dx) only[aq,ak];exact kr) _
 ·exact(((((aK.refl h6).new _).new _).put (cs:=ZL) (f:=none) (by simp (disch:=try exact dx) only[ah,aq]) _).put (cs:=ZL) (f:=none) (by simp (disch:=try exact dx) only[ah,ak]) _).put (cs:=ZR) (f:=none) (by simp (disch:=try exact dx) only[aq,ak];exact kr) _
open Go.Proofs.Tryz (prog)
variable {v:Value}{h:IH}
def fD.parts {q:Rat} (p:fD h v q) : ∃a s b t,v=.agg #[a,s,b,t]∧bd h (.agg #[a,s]) q.num∧bd h (.agg #[b,t]) q.den∧s.cells = #[s]∧aB s=true∧t.cells = #[t]∧aB t=true∧aB a=true∧aB b=true:=by
 obtain⟨a,s,b,t,rfl,h1,h2⟩:=p
 obtain⟨rfl,c1,o1⟩:=h1.co
 obtain⟨rfl,c2,o2⟩:=h2.co
 exact⟨_,s,_,t,rfl,h1,h2,c1,o1,c2,o2,rfl,rfl⟩
def ql4 {H:IH} {k:Nat} {a s b t:Value} (g:H.ext.get k=some (.cells [a,s,b,t] 0 none)):load prog H 175 (ptr (2*k) 0)=some (.agg #[a,s])∧load prog H 175 (ptr (2*k) 2)=some (.agg #[b,t])∧load prog H 177 (ptr (2*k) 0)=some (.agg #[a,s,b,t]):=by
 have r:=aj g
 refine⟨?_,?_,?_⟩
 ·simp -dsimp (disch:=omega) only[wpS,wpT,zL,zA,cg,r]
  rfl
 ·simp -dsimp (disch:=omega) only[wpS,wpT,zL,zA,cg,r]
  rfl
 ·rw[fg IP zS,tH r]
  rfl
variable {a:Nat}{y:Rat}{b:Nat}{x:Rat}{w:Value}
def Ap (hv:fD h v x) (hw:fD h w y) (qx:QB a x) (qy:QB b y) (hk:a+b+1<16000000) :
  WV prog (.func (.func 168) #[] #[]) [v,w] h fun r h'=>Ext h h'∧fD h' r (x+y):=by
 obtain⟨a1,s1,b1,t1,rfl,hn1,hd1,c1,o1,c2,o2,o3,o4⟩:=hv.parts
 obtain⟨a2,s2,b2,t2,rfl,hn2,hd2,c5,o5,c6,o6,o7,o8⟩:=hw.parts
 refine enter (nt:=22) (rs:=[.cell 4 177]) Proofs.Tryz.func168 rfl rfl rfl (by simp) ?_
 simp -dsimp (disch:=omega) only[wpS,zE,zA,kQ]
 obtain⟨H0,hH0,n0,E0,g0,g1,g2⟩:=gG h [a1,s1,b1,t1] [a2,s2,b2,t2] ZR
 rw[←hH0]
 clear hH0
 have X0:=Ext.refl H0
 obtain⟨L1,L2,_⟩:=ql4 g0
 obtain⟨L3,L4,_⟩:=ql4 g1
 refine drawn [(6,[4]),(8,[4]),(12,[4,9,10]),(14,[4,9,10])] (by kernel_rfl) (by kernel_rfl) rfl ?_
 simp -dsimp (disch:=omega) only[wpS,wpT,zE,zL,zA,jG,cg,kM,aj g0,aj g1,tkA,tkB]
 refine call (jA (hn1.aa E0.aa) (hd2.aa E0.aa) (aU qx.1 (by omega)) (aU qy.dU (by omega))) ?_
 rintro r1 h1 ⟨X1,p1⟩
 have m1:=X1.n
 simp -dsimp (disch:=omega) only[wpS,wpT,zE,zL,zA,jG,cg,kM,aj (X1.kept (by omega) g0),aj (X1.kept (by omega) g1),tkA,tkB]
 refine call (jA (hn2.aa (E0.trans X1).aa) (hd1.aa (E0.trans X1).aa) (aU qy.1 (by omega)) (aU qx.dU (by omega))) ?_
 rintro r2 h2 ⟨hE2,p2⟩
 have m2:=hE2.n
 have X2:=X1.trans hE2
 simp -dsimp (disch:=omega) only[wpS,zE]
 have b1':=bW qx.1 qy.dU
 have b2':=bW qy.1 qx.dU
 have b3':=qx.ZI qy
 have b4':=bW qx.dU qy.dU
 have sb1:aX (x.num*y.den):=bC b1' (by omega)
 have sb2:aX (y.num*x.den):=bC b2' (by omega)
 have sb3:aX (x.num*y.den+y.num*x.den):=bC b3' hk
 have sb4:aX ((x.den:Int)*y.den):=bC b4' (by omega)
 refine call (yX (p1.aa hE2.aa) p2 sb1 sb2) ?_
 rintro r3 h3 ⟨hE3,p3⟩
 have m3:=hE3.n
 have X3:=X2.trans hE3
 simp -dsimp (disch:=omega) only[wpS,wpT,zE,zL,zA,cg,kM,aj (X3.kept (by omega) g0),aj (X3.kept (by omega) g1),tkB]
 refine call (jA (hd1.aa (E0.trans X3).aa) (hd2.aa (E0.trans X3).aa) (aU qx.dU (by omega)) (aU qy.dU (by omega))) ?_
 rintro r4 h4 ⟨hE4,p4⟩
 have m4:=hE4.n
 have X4:=X3.trans hE4
 simp -dsimp (disch:=omega) only[wpS,zE]
 refine call (mC (p3.aa hE4.aa) p4 sb3 sb4 (Dx x y)) ?_
 rintro r5 h5 ⟨hE5,p5⟩
 have m5:=hE5.n
 have X5:=X4.trans hE5
 rw[←vo] at p5
 obtain⟨a3,s3,b3,t3,rfl,_,_,d1,o1,d2,o2,o3,o4⟩:=p5.parts
 have kg:=X5.kept (by omega) g2
 simp -dsimp (disch:=omega) only[wpS,wpT,zE,zL,zA,jl,kg,o1,o2,o3,o4]
 refine⟨by repeat' first|refine aw ?_ ?_|refine aC ?_ ?_|exact ad rfl rfl rfl rfl (aW (H0:=H0) rfl (by omega) (by assumption) (by assumption) (by with_reducible assumption)),?_⟩
 simp -dsimp (disch:=omega) only[wpS,wpT,zE,zL,zA,jK,fF]
 exact⟨(E0.trans X5).put (by omega) _,p5.aa ((aK.refl _).put kg _)⟩
def Ow (hv:fD h v x) (hw:fD h w y) (qx:QB a x) (qy:QB b y) (hk:a+b<16000000) :
  WV prog (.func (.func 166) #[] #[]) [v,w] h fun r h'=>Ext h h'∧fD h' r (x*y):=by
 obtain⟨a1,s1,b1,t1,rfl,hn1,hd1,c1,o1,c2,o2,o3,o4⟩:=hv.parts
 obtain⟨a2,s2,b2,t2,rfl,hn2,hd2,c5,o5,c6,o6,o7,o8⟩:=hw.parts
 refine enter (nt:=16) (rs:=[.cell 4 177]) Proofs.Tryz.func166 rfl rfl rfl (by simp) ?_
 simp -dsimp (disch:=omega) only[wpS,zE,zA,kQ]
 obtain⟨H0,hH0,n0,E0,g0,g1,g2⟩:=gG h [a1,s1,b1,t1] [a2,s2,b2,t2] ZR
 rw[←hH0]
 clear hH0
 have X0:=Ext.refl H0
 obtain⟨L1,L2,_⟩:=ql4 g0
 obtain⟨L3,L4,_⟩:=ql4 g1
 have sb1:aX (x.num*y.num):=bC (bW qx.1 qy.1) hk
 have sb2:aX ((x.den:Int)*y.den):=bC (bW qx.dU qy.dU) hk
 refine drawn [(6,[4]),(8,[4])] (by kernel_rfl) (by kernel_rfl) rfl ?_
 simp -dsimp (disch:=omega) only[wpS,wpT,zE,zL,zA,jG,cg,aj g0,aj g1,tkA]
 refine call (jA (hn1.aa E0.aa) (hn2.aa E0.aa) (aU qx.1 (by omega)) (aU qy.1 (by omega))) ?_
 rintro r1 h1 ⟨X1,p1⟩
 have m1:=X1.n
 simp -dsimp (disch:=omega) only[wpS,wpT,zE,zL,zA,cg,kM,aj (X1.kept (by omega) g0),aj (X1.kept (by omega) g1),tkB]
 refine call (jA (hd1.aa (E0.trans X1).aa) (hd2.aa (E0.trans X1).aa) (aU qx.dU (by omega)) (aU qy.dU (by omega))) ?_
 rintro r2 h2 ⟨hE2,p2⟩
 have m2:=hE2.n
 have X2:=X1.trans hE2
 simp -dsimp (disch:=omega) only[wpS,zE]
 refine call (mC (p1.aa hE2.aa) p2 sb1 sb2 (Dx x y)) ?_
 rintro r5 h5 ⟨hE5,p5⟩
 have m5:=hE5.n
 have X5:=X2.trans hE5
 rw[←yV] at p5
 obtain⟨a3,s3,b3,t3,rfl,_,_,d1,o1,d2,o2,o3,o4⟩:=p5.parts
 have kg:=X5.kept (by omega) g2
 simp -dsimp (disch:=omega) only[wpS,wpT,zE,zL,zA,jl,kg,o1,o2,o3,o4]
 refine⟨by repeat' first|refine aw ?_ ?_|refine aC ?_ ?_|exact ad rfl rfl rfl rfl (aW (H0:=H0) rfl (by omega) (by assumption) (by assumption) (by with_reducible assumption)),?_⟩
 simp -dsimp (disch:=omega) only[wpS,wpT,zE,zL,zA,jK,fF]
 exact⟨(E0.trans X5).put (by omega) _,p5.aa ((aK.refl _).put kg _)⟩
def Re (hv:fD h v x) (hw:fD h w y) (qx:QB a x) (qy:QB b y) (hk:a+b<16000000) (y0:y≠0) :
  WV prog (.func (.func 165) #[] #[]) [v,w] h fun r h'=>Ext h h'∧fD h' r (x / y):=by
 obtain⟨a1,s1,b1,t1,rfl,hn1,hd1,c1,o1,c2,o2,o3,o4⟩:=hv.parts
 obtain⟨a2,s2,b2,t2,rfl,hn2,hd2,c5,o5,c6,o6,o7,o8⟩:=hw.parts
 refine enter (nt:=16) (rs:=[.cell 4 177]) Proofs.Tryz.func165 rfl rfl rfl (by simp) ?_
 simp -dsimp (disch:=omega) only[wpS,zE,zA,kQ]
 obtain⟨H0,hH0,n0,E0,g0,g1,g2⟩:=gG h [a1,s1,b1,t1] [a2,s2,b2,t2] ZR
 rw[←hH0]
 clear hH0
 have X0:=Ext.refl H0
 obtain⟨L1,L2,_⟩:=ql4 g0
 obtain⟨L3,L4,_⟩:=ql4 g1
 have sb1:aX (x.num*y.den):=bC (bW qx.1 qy.dU) hk
 have sb2:aX ((x.den:Int)*y.num):=bC (bW qx.dU qy.1) hk
 refine drawn [(6,[4]),(8,[4])] (by kernel_rfl) (by kernel_rfl) rfl ?_
 simp -dsimp (disch:=omega) only[wpS,wpT,zE,zL,zA,jG,cg,kM,aj g0,aj g1,tkA,tkB]
 refine call (jA (hn1.aa E0.aa) (hd2.aa E0.aa) (aU qx.1 (by omega)) (aU qy.dU (by omega))) ?_
 rintro r1 h1 ⟨X1,p1⟩
 have m1:=X1.n
 simp -dsimp (disch:=omega) only[wpS,wpT,zE,zL,zA,jG,cg,kM,aj (X1.kept (by omega) g0),aj (X1.kept (by omega) g1),tkA,tkB]
 refine call (jA (hd1.aa (E0.trans X1).aa) (hn2.aa (E0.trans X1).aa) (aU qx.dU (by omega)) (aU qy.1 (by omega))) ?_
 rintro r2 h2 ⟨hE2,p2⟩
 have m2:=hE2.n
 have X2:=X1.trans hE2
 simp -dsimp (disch:=omega) only[wpS,zE]
 refine call (mC (p1.aa hE2.aa) p2 sb1 sb2 (Int.mul_ne_zero (Bo x) (JZ y0))) ?_
 rintro r5 h5 ⟨hE5,p5⟩
 have m5:=hE5.n
 have X5:=X2.trans hE5
 rw[←yW] at p5
 obtain⟨a3,s3,b3,t3,rfl,_,_,d1,o1,d2,o2,o3,o4⟩:=p5.parts
 have kg:=X5.kept (by omega) g2
 simp -dsimp (disch:=omega) only[wpS,wpT,zE,zL,zA,jl,kg,o1,o2,o3,o4]
 refine⟨by repeat' first|refine aw ?_ ?_|refine aC ?_ ?_|exact ad rfl rfl rfl rfl (aW (H0:=H0) rfl (by omega) (by assumption) (by assumption) (by with_reducible assumption)),?_⟩
 simp -dsimp (disch:=omega) only[wpS,wpT,zE,zL,zA,jK,fF]
 exact⟨(E0.trans X5).put (by omega) _,p5.aa ((aK.refl _).put kg _)⟩
theorem UP (x y:Rat):(if x.num*y.den<y.num*x.den then (-1:Int) else if y.num*x.den<x.num*y.den then 1 else 0)=if x<y then -1 else if x=y then 0 else 1:=by
 simp only[Rat.lt_iff,Rat.eq_iff_mul_eq_mul]
 split
 ·rfl
 ·split<;>split<;>first|rfl|omega
def CE (hv:fD h v x) (hw:fD h w y) (qx:QB a x) (qy:QB b y) (hk:a+b<16000000) :
  WV prog (.func (.func 167) #[] #[]) [v,w] h fun r h'=>Ext h h'∧r=KI (if x<y then -1 else if x=y then 0 else 1):=by
 obtain⟨a1,s1,b1,t1,rfl,hn1,hd1,c1,o1,c2,o2,o3,o4⟩:=hv.parts
 obtain⟨a2,s2,b2,t2,rfl,hn2,hd2,c5,o5,c6,o6,o7,o8⟩:=hw.parts
 refine enter (nt:=16) (rs:=[.tmp 4]) Proofs.Tryz.func167 rfl rfl rfl (by simp) ?_
 simp -dsimp (disch:=omega) only[wpS,zE,zA]
 obtain⟨H0,hH0,n0,E0,g0,g1⟩:=ev h [a1,s1,b1,t1] [a2,s2,b2,t2]
 rw[←hH0]
 clear hH0
 have X0:=Ext.refl H0
 obtain⟨L1,L2,_⟩:=ql4 g0
 obtain⟨L3,L4,_⟩:=ql4 g1
 have sb1:aX (x.num*y.den):=bC (bW qx.1 qy.dU) hk
 have sb2:aX (y.num*x.den):=bC (by rw[Nat.add_comm];exact bW qy.1 qx.dU) hk
 refine drawn [(6,[4]),(8,[4])] (by kernel_rfl) (by kernel_rfl) rfl ?_
 simp -dsimp (disch:=omega) only[wpS,wpT,zE,zL,zA,jG,cg,kM,aj g0,aj g1,tkA,tkB]
 refine call (jA (hn1.aa E0.aa) (hd2.aa E0.aa) (aU qx.1 (by omega)) (aU qy.dU (by omega))) ?_
 rintro r1 h1 ⟨X1,p1⟩
 have m1:=X1.n
 simp -dsimp (disch:=omega) only[wpS,wpT,zE,zL,zA,jG,cg,kM,aj (X1.kept (by omega) g0),aj (X1.kept (by omega) g1),tkA,tkB]
 refine call (jA (hn2.aa (E0.trans X1).aa) (hd1.aa (E0.trans X1).aa) (aU qy.1 (by omega)) (aU qx.dU (by omega))) ?_
 rintro r2 h2 ⟨hE2,p2⟩
 have m2:=hE2.n
 have X2:=X1.trans hE2
 simp -dsimp (disch:=omega) only[wpS,zE]
 refine call (C0 (p1.aa hE2.aa) p2 sb1 sb2) ?_
 rintro _ h5 ⟨hE5,rfl⟩
 have X5:=X2.trans hE5
 rw[UP]
 simp -dsimp (disch:=omega) only[wpS,zE]
 refine⟨by repeat' first|refine aw ?_ ?_|refine aC ?_ ?_|exact ad rfl rfl rfl rfl (aW (H0:=H0) rfl (by omega) (by assumption) (by assumption) (by with_reducible assumption)),?_⟩
 simp -dsimp (disch:=omega) only[wpS,wpT,zE,zA]
 exact E0.trans X5
def Rc (hv:fD h v x) :
  WV prog (.func (.func 227) #[] #[]) [v] h fun r h'=>Ext h h'∧fD h' r (-x):=by
 obtain⟨a1,s1,b1,t1,rfl,hn1,hd1,c1,o1,c2,o2,o3,o4⟩:=hv.parts
 refine enter (nt:=9) (rs:=[.cell 2 177]) Proofs.Tryz.func227 rfl rfl rfl (by simp) ?_
 simp -dsimp (disch:=omega) only[wpS,kQ]
 obtain⟨H0,hH0,n0,E0,g0,g1⟩:=ev h [a1,s1,b1,t1] ZR
 rw[←hH0]
 clear hH0
 have X0:=Ext.refl H0
 obtain⟨L1,L2,_⟩:=ql4 g0
 refine drawn [(4,[2])] (by kernel_rfl) (by kernel_rfl) rfl ?_
 simp -dsimp (disch:=omega) only[wpS,wpT,zE,zL,zA,jG,cg,aj g0,tkA]
 refine call (D4 (hn1.aa E0.aa)) ?_
 rintro r1 h1 ⟨X1,p1⟩
 have m1:=X1.n
 obtain⟨s3,rfl,c5,o5⟩:=p1.ct
 have kg:=X1.kept (by omega) g1
 simp -dsimp (disch:=omega) only[wpS,wpT,zE,zL,zA,cg,kM,Nr,yZ,yY,jl,aj (X1.kept (by omega) g0),kg,tkB,o5,o2,o4]
 refine⟨by repeat' first|refine aw ?_ ?_|refine aC ?_ ?_|exact ad rfl rfl rfl rfl (aW (H0:=H0) rfl (by omega) (by assumption) (by assumption) (by with_reducible assumption)),?_⟩
 simp -dsimp (disch:=omega) only[wpS,wpT,zE,zL,zA,jK,fF]
 have kp:=(aK.refl h1).put kg (.cells [.bool (decide (-x.num<0)),s3,b1,t1] 0 none)
 exact⟨(E0.trans X1).put (by omega) _,_,_,_,_,rfl,p1.aa kp,hd1.aa ((E0.trans X1).aa.trans kp)⟩
def Oy (hv:fD h v x) (hw:fD h w y) (qx:QB a x) (qy:QB b y) (hk:a+b+1<16000000) :
  WV prog (.func (.func 169) #[] #[]) [v,w] h fun r h'=>Ext h h'∧fD h' r (x - y):=by
 obtain⟨a1,s1,b1,t1,rfl,hn1,hd1,c1,o1,c2,o2,o3,o4⟩:=hv.parts
 obtain⟨a2,s2,b2,t2,rfl,hn2,hd2,c5,o5,c6,o6,o7,o8⟩:=hw.parts
 refine enter (nt:=9) (rs:=[.cell 4 177]) Proofs.Tryz.func169 rfl rfl rfl (by simp) ?_
 simp -dsimp (disch:=omega) only[wpS,zE,zA,kQ]
 obtain⟨H0,hH0,n0,E0,g0,g1,g2⟩:=gG h [a1,s1,b1,t1] [a2,s2,b2,t2] ZR
 rw[←hH0]
 clear hH0
 have X0:=Ext.refl H0
 obtain⟨_,_,L1⟩:=ql4 g0
 obtain⟨_,_,L2⟩:=ql4 g1
 refine drawn [(0,[3])] (by kernel_rfl) (by kernel_rfl) rfl ?_
 simp -dsimp (disch:=omega) only[wpS,wpT,zE,zL,zA,jK,aj g0,aj g1,fF]
 refine call (Rc (hw.aa E0.aa)) ?_
 rintro r1 h1 ⟨X1,p1⟩
 have m1:=X1.n
 simp -dsimp (disch:=omega) only[wpS,zE]
 refine call (Ap (hv.aa (E0.trans X1).aa) p1 qx qy.neg hk) ?_
 rintro r2 h2 ⟨hE2,p2⟩
 have X2:=X1.trans hE2
 have m2:=hE2.n
 rw[←Rat.sub_eq_add_neg] at p2
 obtain⟨a3,s3,b3,t3,rfl,_,_,d1,o1,d2,o2,o3,o4⟩:=p2.parts
 have kg:=X2.kept (by omega) g2
 simp -dsimp (disch:=omega) only[wpS,wpT,zE,zL,zA,jl,kg,o1,o2,o3,o4]
 refine⟨by repeat' first|refine aw ?_ ?_|refine aC ?_ ?_|exact ad rfl rfl rfl rfl (aW (H0:=H0) rfl (by omega) (by assumption) (by assumption) (by with_reducible assumption)),?_⟩
 simp -dsimp (disch:=omega) only[wpS,wpT,zE,zL,zA,jK,fF]
 exact⟨(E0.trans X2).put (by omega) _,p2.aa ((aK.refl _).put kg _)⟩
end Go.Id
