/-
  Contracts: the program's fractions: lowest terms, sums, products, quotients.
-/
import Derived.Test.YtnnmjocmapilaaaGreatOutlierOddsAn
set_option linter.unusedVariables false
set_option linter.unusedSimpArgs false
set_option linter.defProp false
set_option linter.deprecated false
namespace Go.Id
open Go
open Go renaming Operand→QY,Program→QX,TypeId→QZ,Value→QQ
open Nat renaming reduceAdd→zA,reduceEqDiff→zE,reduceLeDiff→zL
open Nat (reduceMul)
set_option maxHeartbeats 16000000
open Go.Proofs.Tryz (prog)
abbrev ZR:List QQ:=[.bool false,.slice none 0 0,.bool false,.slice none 0 0]
def wC (h:IH) (v:QQ) (n d:Int):Prop:=∃a s b t,v=.agg #[a,s,b,t]∧bW h (.agg #[a,s]) n∧bW h (.agg #[b,t]) d
variable {h:IH}{n:Int}{v:QQ}{h':IH}{d:Int}
def wC.ae (p:wC h v n d) (e:aX h h'):wC h' v n d:=let ⟨a,s,b,t,h1,h2,h3⟩:=p;⟨a,s,b,t,h1,h2.ae e,h3.ae e⟩
def ch (h:IH) (v:QQ) (q:Rat):Prop:=wC h v q.num q.den
def ch.ae {q:Rat} (p:ch h v q) (e:aX h h'):ch h' v q:=wC.ae p e
variable {z:Int}
def bW.dJ (d:bW h v z) : ∃s,v=.agg #[.bool (decide (z<0)),s]∧s.cells = #[s]∧aM s=true:=let ⟨s,n,a,b,c,_⟩:=d.form;⟨s,a,b,c⟩
def bW.co {a s:QQ} (d:bW h (.agg #[a,s]) z):a=.bool (decide (z<0))∧s.cells = #[s]∧aM s=true:=by obtain⟨s',h1,h2,h3⟩:=d.dJ;cases h1;exact⟨rfl,h2,h3⟩
variable {k x:Nat}
def bB (h:x≤2 ^ k) (hk:k<16000000):yL x:=by refine .mk (kh h ?_);rw[V8 4294967296 2 500000 32 16000000 aP aP];exact ZE 2 k 16000000 aP hk
def bV (h:x≤2 ^ k) (hk:k<16000000):Small x:=(bB h hk).small
def wV {w:QQ} (hv:bW h v n) (hw:bW h w d) (sn:bE n) (sd:bE d) (d0:d≠0) :WV Proofs.Tryz.prog (.func (.func 186) #[] #[]) [v,w] h fun r h'=>Ext h h'∧ch h' r (Rat.divInt n d):=by
 obtain⟨s,rfl,c1,o1⟩:=hv.dJ;obtain⟨t,rfl,c2,o2⟩:=hw.dJ;have sg:bE (Int.gcd n d:Int):=by have h1:Int.gcd n d≤d.natAbs:=CW byOmega (Iy _ _);exact mi (sd.le h1)
 refine enter (nt:=34) (rs:=[.cell 4 137]) Proofs.Tryz.func186 rfl rfl rfl aa ?_;simp -dsimp (disch:=try exact dx) only[wpS,wpT,zE,zL,zA,gY,cK];obtain⟨H0,hH0,n0,E0,g0,g1,g2⟩:=kK h [.bool (decide (n<0)),s] [.bool (decide (d<0)),t] ZR;rw[←hH0];refine call (yl (hv.ae E0.ae) (hw.ae E0.ae) sn sd) ?_;rintro _ h1 ⟨hE1,hg⟩;obtain⟨sg1,rfl,c3,o3⟩:=hg.dJ;have hng:decide ((Int.gcd n d:Int)<0)=false:=aY byOmega;rw[hng] at hg;have x1:=E0.trans hE1;have n1:=(hE1).n;try simp only[bj,bd] at n1
 have r0:=aw (hE1.kept byOmega g0);simp -dsimp (disch:=try exact dx) only[wpS,wpT,zE,zL,zA,cK,mT,jX,o3,r0,vk];obtain⟨H2,hH2⟩ : ∃H2,H2=(h1.new (.cells ZL 0 none)).put h1.n (.cells [.bool false,sg1] 0 none):=⟨_,rfl⟩;have e2:Ext h1 H2:=by rw[hH2];exact((Ext.refl _).new _).put (ar _) _
 have n2:H2.n=h1.n+1:=by rw[hH2];rfl
 have gg:H2.ext.get h1.n=some (.cells [.bool false,sg1] 0 none):=by rw[hH2];simp (disch:=try exact dx) only[ak]
 rw[←hH2];have x2:=x1.trans e2;refine call (wS (hv.ae x2.ae) (hg.ae e2.ae) sn sg (EM d0)) ?_;rintro _ h3 ⟨hE3,q,u,rfl,hq,hu⟩;obtain⟨sq,rfl,c4,o4⟩:=hq.dJ;obtain⟨su,rfl,c5,o5⟩:=hu.dJ;have n3:=(hE3).n;try simp only[bj,bd] at n3
 have x3:=x2.trans hE3;have r1:=aw (hE3.kept byOmega (e2.kept byOmega (hE1.kept byOmega g1)));have r3:=aw (hE3.kept byOmega gg);simp -dsimp (disch:=try exact dx) only[wpS,wpT,zE,zL,zA,cK,mT,jX,o4,o5,r1,r3,vk];obtain⟨H4,hH4⟩ : ∃H4,H4=((((h3.new (.cells ZL 0 none)).new (.cells ZL 0 none)).put h3.n (.cells [.bool (decide (n / (Int.gcd n d:Int)<0)),sq] 0 none)).put (h3.n+1) (.cells [.bool (decide (n % (Int.gcd n d:Int)<0)),su] 0 none)):=⟨_,rfl⟩;have e4:Ext h3 H4:=by rw[hH4];exact((((Ext.refl _).new _).new _).put (ar _) _).put byOmega _
 have n4:H4.n=h3.n+2:=by rw[hH4];rfl
 have gq:H4.ext.get h3.n=some (.cells [.bool (decide (n / (Int.gcd n d:Int)<0)),sq] 0 none):=by rw[hH4];simp (disch:=try exact dx) only[ak,ax]
 rw[←hH4];have x4:=x3.trans e4;refine call (wS (hw.ae x4.ae) (hg.ae ((e2.trans hE3).trans e4).ae) sd sg (EM d0)) ?_;rintro _ h5 ⟨hE5,q2,u2,rfl,hq2,hu2⟩;obtain⟨sq2,rfl,c6,o6⟩:=hq2.dJ;obtain⟨su2,rfl,c7,o7⟩:=hu2.dJ;have n5:=(hE5).n;try simp only[bj,bd] at n5
 have x5:=x4.trans hE5;simp -dsimp (disch:=try exact dx) only[wpS,wpT,zE,zL,zA,mT,jX,lM,ld4,o6,o7];obtain⟨H6,hH6⟩ : ∃H6,H6=((((h5.new (.cells ZL 0 none)).new (.cells ZL 0 none)).put h5.n (.cells [.bool (decide (d / (Int.gcd n d:Int)<0)),sq2] 0 none)).put (h5.n+1) (.cells [.bool (decide (d % (Int.gcd n d:Int)<0)),su2] 0 none)):=⟨_,rfl⟩;have e6:Ext h5 H6:=by rw[hH6];exact((((Ext.refl _).new _).new _).put (ar _) _).put byOmega _
 have n6:H6.n=h5.n+2:=by rw[hH6];rfl
 have gd:H6.ext.get h5.n=some (.cells [.bool (decide (d / (Int.gcd n d:Int)<0)),sq2] 0 none):=by rw[hH6];simp (disch:=try exact dx) only[ak,ax]
 have x6:=x5.trans e6;have gn:=e6.kept byOmega (hE5.kept byOmega gq);have gr:=e6.kept byOmega (hE5.kept byOmega (e4.kept byOmega (hE3.kept byOmega (e2.kept byOmega (hE1.kept byOmega g2)))));have hqA:=hq.ae ((e4.trans hE5).trans e6).ae;have hqB:=hq2.ae e6.ae;rw[←hH6];clear hH0 hH2 hH4 hH6;have rn:=aw gn;have rd:=aw gd;have hls:=WE (n:=n) d0;refine jm (fun fr2 h7 => ∃sa sb,Ext h h7∧h7.ext.get h3.n=some (.cells [.bool (decide ((Rat.divInt n d).num<0)),sa] 0 none)∧h7.ext.get h5.n=some (.cells [.bool (decide (((Rat.divInt n d).den:Int)<0)),sb] 0 none)∧h7.ext.get (h.n+1+1)=some (.cells ZR 0 none)∧bW h7 (.agg #[.bool (decide ((Rat.divInt n d).num<0)),sa]) (Rat.divInt n d).num∧bW h7 (.agg #[.bool (decide (((Rat.divInt n d).den:Int)<0)),sb]) (Rat.divInt n d).den ∧aj fr2 4=some (ptr (2*(h.n+1+1)) 0)∧aj fr2 6=some (ptr (2*h3.n) 0)∧aj fr2 8=some (ptr (2*h5.n) 0)) (fun hb=>?_) (fun hb=>?_) ?_
 ·have hd:d<0:=hls.1 (by simpa using hb);obtain⟨b1,b2⟩:=CB (n:=n) hd;rw[hb] at hqB gd rd;refine drawn [(2,[1])] ab ab rfl ?_;simp -dsimp (disch:=omega) only[wpS,wpT,zE,zL,zA,cK,rn,cp,hI];refine call (qh hqA) ?_;rintro _ h7 ⟨hE7,hA⟩;rw[b1] at hA;obtain⟨sa,rfl,c8,o8⟩:=hA.dJ;have n7:=(hE7).n;try simp only[bj,bd] at n7
  have kd:=hE7.kept byOmega gd;have rd7:=aw kd;simp -dsimp (disch:=omega) only[wpS,wpT,zE,zL,zA,cK,rd7,cp,hI];refine call (qh (hqB.ae hE7.ae)) ?_;rintro _ h8 ⟨hE8,hB⟩;rw[b2] at hB;obtain⟨sb,rfl,c9,o9⟩:=hB.dJ;have n8:=(hE8).n;try simp only[bj,bd] at n8
  have kn8:=hE8.kept byOmega (hE7.kept byOmega gn);have kd8:=hE8.kept byOmega kd;have kr8:=hE8.kept byOmega (hE7.kept byOmega gr);simp -dsimp (disch:=omega) only[wpS,wpT,zE,zL,zA,jX,kn8,kd8,o8,o9];refine⟨ai rfl rfl rfl rfl (au (av:=ptr (2*h5.n) 0) (v:=.agg #[.bool true,sq2]) rfl ?_ ?_),?_⟩
  ·simp -dsimp (disch:=omega) only[wpS,wpT,zL,zA,cK,rd7,cp,hI];try rfl
  ·simp -dsimp (disch:=omega) only[wpS,wpT,zL,zA,cK,rd,cp,hI];try rfl
  simp -dsimp (disch:=omega) only[wpS,wpT,zA];have kpA:=(aX.refl h8).put kn8 (.cells [.bool (decide ((Rat.divInt n d).num<0)),sa] 0 none);have gB:(h8.put h3.n (.cells [.bool (decide ((Rat.divInt n d).num<0)),sa] 0 none)).ext.get h5.n=some (.cells [.bool true,sq2] 0 none):=by rw[ax _ _ byOmega];exact kd8
  have kpB:=kpA.put gB (.cells [.bool (decide (((Rat.divInt n d).den:Int)<0)),sb] 0 none);have hdf:decide (((Rat.divInt n d).den:Int)<0)=false:=aY byOmega;rw[hdf] at kpB hB ⊢;refine⟨sa,sb,(((x6.trans hE7).trans hE8).put byOmega _).put byOmega _,by simp (disch:=omega) only[ak,ax],ak _ _ rfl,by simp (disch:=omega) only[ax];exact kr8,hA.ae (hE8.ae.trans kpB),hB.ae kpB,aa⟩
 ·have hd:0<d:=by
   have : ¬d<0:=fun h=>by have:=hls.2 h;simp at hb;omega
   omega
  obtain⟨b1,b2⟩:=rq (n:=n) hd;simp -dsimp (disch:=omega) only[wpS,wpT];rw[b1] at gn hqA;rw[b2] at gd hqB;exact⟨sq,sq2,x6,gn,gd,gr,hqA,hqB,aa⟩
 rintro fr2 h7 ⟨sa,sb,x7,k1,k2,k3,hA,hB,f4,f6,f8⟩;have q1:=aw k1;have q2:=aw k2;obtain⟨_,c8,o8⟩:=hA.co;obtain⟨_,c9,o9⟩:=hB.co;rw[mY];simp -dsimp (disch:=omega) only[wpS,wpT,zE,zL,zA,cK,Se,Cy,Cx,fK,jZ,f4,f6,f8,q1,q2,k3,o8,o9,cp,hI];have hdf:decide (((Rat.divInt n d).den:Int)<0)=false:=aY byOmega;rw[hdf] at hB;have kp:=(aX.refl h7).put k3 (.cells [.bool (decide ((Rat.divInt n d).num<0)),sa,.bool false,sb] 0 none);exact⟨x7.put byOmega _,_,_,_,_,rfl,hA.ae kp,hB.ae kp⟩
variable {h:IH}{v:QQ}
def ch.parts {q:Rat} (p:ch h v q) : ∃a s b t,v=.agg #[a,s,b,t]∧bW h (.agg #[a,s]) q.num∧bW h (.agg #[b,t]) q.den∧s.cells = #[s]∧aM s=true∧t.cells = #[t]∧aM t=true∧aM a=true∧aM b=true:=by obtain⟨a,s,b,t,rfl,h1,h2⟩:=p;obtain⟨rfl,c1,o1⟩:=h1.co;obtain⟨rfl,c2,o2⟩:=h2.co;exact⟨_,s,_,t,rfl,h1,h2,c1,o1,c2,o2,rfl,rfl⟩
variable {s:QQ}{k:Nat}{H:IH}
def pl4 {a b t:QQ} (g:H.ext.get k=some (.cells [a,s,b,t] 0 none)):load prog H 135 (ptr (2*k) 0)=some (.agg #[a,s])∧load prog H 135 (ptr (2*k) 2)=some (.agg #[b,t])∧load prog H 137 (ptr (2*k) 0)=some (.agg #[a,s,b,t]):=by
 have r:=aw g;refine⟨?_,?_,?_⟩;·simp -dsimp (disch:=omega) only[wpS,wpT,zL,zA,cK,r];rfl
 ·simp -dsimp (disch:=omega) only[wpS,wpT,zL,zA,cK,r]
  rfl
 ·simp -dsimp (disch:=omega) only[wpS,wpT,zL,zA,jZ,r];rfl
def pl2 {a:QQ} (g:H.ext.get k=some (.cells [a,s] 0 none)):load prog H 135 (ptr (2*k) 0)=some (.agg #[a,s]):=by have r:=aw g;simp -dsimp (disch:=omega) only[wpS,wpT,zL,zA,cK,r];rfl
variable {w:QQ}{y x:Rat}{a b:Nat}
def mH (hv:ch h v x) (hw:ch h w y) (qx:QB a x) (qy:QB b y) (hk:a+b+1<16000000) :WV prog (.func (.func 83) #[] #[]) [v,w] h fun r h'=>Ext h h'∧ch h' r (x+y):=by obtain⟨a1,s1,b1,t1,rfl,hn1,hd1,c1,o1,c2,o2,o3,o4⟩:=hv.parts;obtain⟨a2,s2,b2,t2,rfl,hn2,hd2,c5,o5,c6,o6,o7,o8⟩:=hw.parts;refine enter (nt:=22) (rs:=[.cell 4 137]) Proofs.Tryz.func83 rfl rfl rfl aa ?_;simp -dsimp (disch:=omega) only[wpS,zE,zA,gY];obtain⟨H0,hH0,n0,E0,g0,g1,g2⟩:=kK h [a1,s1,b1,t1] [a2,s2,b2,t2] ZR;rw[←hH0];clear hH0;have X0:=Ext.refl H0;obtain⟨L1,L2,_⟩:=pl4 g0;obtain⟨L3,L4,_⟩:=pl4 g1;refine drawn [(6,[4]),(8,[4]),(12,[4,9,10]),(14,[4,9,10])] ab ab rfl ?_;simp -dsimp (disch:=omega) only[wpS,wpT,zE,zL,zA,j4,cK,kS,aw g0,aw g1,tkA,tkB];refine call (jP (hn1.ae E0.ae) (hd2.ae E0.ae) (bB qx.1 byOmega) (bB qy.gM byOmega)) ?_;rintro r1 h1 ⟨X1,p1⟩;have m1:=X1.n;simp -dsimp (disch:=omega) only[wpS,wpT,zE,zL,zA,j4,cK,kS,aw (X1.kept byOmega g0),aw (X1.kept byOmega g1),tkA,tkB];refine call (jP (hn2.ae (E0.trans X1).ae) (hd1.ae (E0.trans X1).ae) (bB qy.1 byOmega) (bB qx.gM byOmega)) ?_;rintro r2 h2 ⟨hE2,p2⟩;have m2:=hE2.n;have X2:=X1.trans hE2;simp -dsimp (disch:=omega) only[wpS,zE];have b1':=dc qx.1 qy.gM;have b2':=dc qy.1 qx.gM;have b3':=qx.Zeo qy;have b4':=dc qx.gM qy.gM;have sb1:bE (x.num*y.den):=bV b1' byOmega;have sb2:bE (y.num*x.den):=bV b2' byOmega;have sb3:bE (x.num*y.den+y.num*x.den):=bV b3' hk;have sb4:bE ((x.den:Int)*y.den):=bV b4' byOmega;refine call (vG (p1.ae hE2.ae) p2 sb1 sb2) ?_;rintro r3 h3 ⟨hE3,p3⟩;have m3:=hE3.n;have X3:=X2.trans hE3;simp -dsimp (disch:=omega) only[wpS,wpT,zE,zL,zA,cK,kS,aw (X3.kept byOmega g0),aw (X3.kept byOmega g1),tkB];refine call (jP (hd1.ae (E0.trans X3).ae) (hd2.ae (E0.trans X3).ae) (bB qx.gM byOmega) (bB qy.gM byOmega)) ?_;rintro r4 h4 ⟨hE4,p4⟩;have m4:=hE4.n;have X4:=X3.trans hE4;simp -dsimp (disch:=omega) only[wpS,zE];refine call (wV (p3.ae hE4.ae) p4 sb3 sb4 (HQ x y)) ?_;rintro r5 h5 ⟨hE5,p5⟩;have m5:=hE5.n;have X5:=X4.trans hE5;rw[←zw] at p5;obtain⟨a3,s3,b3,t3,rfl,_,_,d1,o1,d2,o2,o3,o4⟩:=p5.parts;have kg:=X5.kept byOmega g2;simp -dsimp (disch:=omega) only[wpS,wpT,zE,zL,zA,fK,kg,o1,o2,o3,o4];refine⟨by repeat' first|refine aB ?_ ?_|refine aA ?_ ?_|exact ai rfl rfl rfl rfl (aO (H0:=H0) rfl byOmega aG aG cS),?_⟩;simp -dsimp (disch:=omega) only[wpS,wpT,zE,zL,zA,jZ,fm];exact⟨(E0.trans X5).put byOmega _,p5.ae ((aX.refl _).put kg _)⟩
def nu (hv:ch h v x) (hw:ch h w y) (qx:QB a x) (qy:QB b y) (hk:a+b<16000000) :WV prog (.func (.func 87) #[] #[]) [v,w] h fun r h'=>Ext h h'∧ch h' r (x*y):=by obtain⟨a1,s1,b1,t1,rfl,hn1,hd1,c1,o1,c2,o2,o3,o4⟩:=hv.parts;obtain⟨a2,s2,b2,t2,rfl,hn2,hd2,c5,o5,c6,o6,o7,o8⟩:=hw.parts;refine enter (nt:=16) (rs:=[.cell 4 137]) Proofs.Tryz.func87 rfl rfl rfl aa ?_;simp -dsimp (disch:=omega) only[wpS,zE,zA,gY];obtain⟨H0,hH0,n0,E0,g0,g1,g2⟩:=kK h [a1,s1,b1,t1] [a2,s2,b2,t2] ZR;rw[←hH0];clear hH0;have X0:=Ext.refl H0;obtain⟨L1,L2,_⟩:=pl4 g0;obtain⟨L3,L4,_⟩:=pl4 g1;have sb1:bE (x.num*y.num):=bV (dc qx.1 qy.1) hk;have sb2:bE ((x.den:Int)*y.den):=bV (dc qx.gM qy.gM) hk;refine drawn [(6,[4]),(8,[4])] ab ab rfl ?_;simp -dsimp (disch:=omega) only[wpS,wpT,zE,zL,zA,j4,cK,aw g0,aw g1,tkA];refine call (jP (hn1.ae E0.ae) (hn2.ae E0.ae) (bB qx.1 byOmega) (bB qy.1 byOmega)) ?_;rintro r1 h1 ⟨X1,p1⟩;have m1:=X1.n;simp -dsimp (disch:=omega) only[wpS,wpT,zE,zL,zA,cK,kS,aw (X1.kept byOmega g0),aw (X1.kept byOmega g1),tkB];refine call (jP (hd1.ae (E0.trans X1).ae) (hd2.ae (E0.trans X1).ae) (bB qx.gM byOmega) (bB qy.gM byOmega)) ?_;rintro r2 h2 ⟨hE2,p2⟩;have m2:=hE2.n;have X2:=X1.trans hE2;simp -dsimp (disch:=omega) only[wpS,zE];refine call (wV (p1.ae hE2.ae) p2 sb1 sb2 (HQ x y)) ?_;rintro r5 h5 ⟨hE5,p5⟩;have m5:=hE5.n;have X5:=X2.trans hE5;rw[←Ct] at p5;obtain⟨a3,s3,b3,t3,rfl,_,_,d1,o1,d2,o2,o3,o4⟩:=p5.parts;have kg:=X5.kept byOmega g2;simp -dsimp (disch:=omega) only[wpS,wpT,zE,zL,zA,fK,kg,o1,o2,o3,o4];refine⟨by repeat' first|refine aB ?_ ?_|refine aA ?_ ?_|exact ai rfl rfl rfl rfl (aO (H0:=H0) rfl byOmega aG aG cS),?_⟩;simp -dsimp (disch:=omega) only[wpS,wpT,zE,zL,zA,jZ,fm];exact⟨(E0.trans X5).put byOmega _,p5.ae ((aX.refl _).put kg _)⟩
def DU (hv:ch h v x) (hw:ch h w y) (qx:QB a x) (qy:QB b y) (hk:a+b<16000000) (y0:y≠0) :WV prog (.func (.func 84) #[] #[]) [v,w] h fun r h'=>Ext h h'∧ch h' r (x / y):=by obtain⟨a1,s1,b1,t1,rfl,hn1,hd1,c1,o1,c2,o2,o3,o4⟩:=hv.parts;obtain⟨a2,s2,b2,t2,rfl,hn2,hd2,c5,o5,c6,o6,o7,o8⟩:=hw.parts;refine enter (nt:=16) (rs:=[.cell 4 137]) Proofs.Tryz.func84 rfl rfl rfl aa ?_;simp -dsimp (disch:=omega) only[wpS,zE,zA,gY];obtain⟨H0,hH0,n0,E0,g0,g1,g2⟩:=kK h [a1,s1,b1,t1] [a2,s2,b2,t2] ZR;rw[←hH0];clear hH0;have X0:=Ext.refl H0;obtain⟨L1,L2,_⟩:=pl4 g0;obtain⟨L3,L4,_⟩:=pl4 g1;have sb1:bE (x.num*y.den):=bV (dc qx.1 qy.gM) hk;have sb2:bE ((x.den:Int)*y.num):=bV (dc qx.gM qy.1) hk;refine drawn [(6,[4]),(8,[4])] ab ab rfl ?_;simp -dsimp (disch:=omega) only[wpS,wpT,zE,zL,zA,j4,cK,kS,aw g0,aw g1,tkA,tkB];refine call (jP (hn1.ae E0.ae) (hd2.ae E0.ae) (bB qx.1 byOmega) (bB qy.gM byOmega)) ?_;rintro r1 h1 ⟨X1,p1⟩;have m1:=X1.n;simp -dsimp (disch:=omega) only[wpS,wpT,zE,zL,zA,j4,cK,kS,aw (X1.kept byOmega g0),aw (X1.kept byOmega g1),tkA,tkB];refine call (jP (hd1.ae (E0.trans X1).ae) (hn2.ae (E0.trans X1).ae) (bB qx.gM byOmega) (bB qy.1 byOmega)) ?_;rintro r2 h2 ⟨hE2,p2⟩;have m2:=hE2.n;have X2:=X1.trans hE2;simp -dsimp (disch:=omega) only[wpS,zE];refine call (wV (p1.ae hE2.ae) p2 sb1 sb2 (Int.mul_ne_zero (Fh x) (O9 y0))) ?_;rintro r5 h5 ⟨hE5,p5⟩;have m5:=hE5.n;have X5:=X2.trans hE5;rw[←zu] at p5;obtain⟨a3,s3,b3,t3,rfl,_,_,d1,o1,d2,o2,o3,o4⟩:=p5.parts;have kg:=X5.kept byOmega g2;simp -dsimp (disch:=omega) only[wpS,wpT,zE,zL,zA,fK,kg,o1,o2,o3,o4];refine⟨by repeat' first|refine aB ?_ ?_|refine aA ?_ ?_|exact ai rfl rfl rfl rfl (aO (H0:=H0) rfl byOmega aG aG cS),?_⟩;simp -dsimp (disch:=omega) only[wpS,wpT,zE,zL,zA,jZ,fm];exact⟨(E0.trans X5).put byOmega _,p5.ae ((aX.refl _).put kg _)⟩
theorem Ku (x y:Rat):(if x.num*y.den<y.num*x.den then (-1:Int) else if x.num*y.den=y.num*x.den then 0 else 1)=if x<y then -1 else if x=y then 0 else 1:=by simp only[Rat.lt_iff,Rat.eq_iff_mul_eq_mul]
def wR (hv:ch h v x) (hw:ch h w y) (qx:QB a x) (qy:QB b y) (hk:a+b<16000000) :WV prog (.func (.func 90) #[] #[]) [v,w] h fun r h'=>Ext h h'∧r=KI (if x<y then -1 else if x=y then 0 else 1):=by obtain⟨a1,s1,b1,t1,rfl,hn1,hd1,c1,o1,c2,o2,o3,o4⟩:=hv.parts;obtain⟨a2,s2,b2,t2,rfl,hn2,hd2,c5,o5,c6,o6,o7,o8⟩:=hw.parts;refine enter (nt:=16) (rs:=[.tmp 4]) Proofs.Tryz.func90 rfl rfl rfl aa ?_;simp -dsimp (disch:=omega) only[wpS,zE,zA];obtain⟨H0,hH0,n0,E0,g0,g1⟩:=gN h [a1,s1,b1,t1] [a2,s2,b2,t2];rw[←hH0];clear hH0;have X0:=Ext.refl H0;obtain⟨L1,L2,_⟩:=pl4 g0;obtain⟨L3,L4,_⟩:=pl4 g1;have sb1:bE (x.num*y.den):=bV (dc qx.1 qy.gM) hk;have sb2:bE (y.num*x.den):=bV (by rw[xW];exact dc qy.1 qx.gM) hk;refine drawn [(6,[4]),(8,[4])] ab ab rfl ?_;simp -dsimp (disch:=omega) only[wpS,wpT,zE,zL,zA,j4,cK,kS,aw g0,aw g1,tkA,tkB];refine call (jP (hn1.ae E0.ae) (hd2.ae E0.ae) (bB qx.1 byOmega) (bB qy.gM byOmega)) ?_;rintro r1 h1 ⟨X1,p1⟩;have m1:=X1.n;simp -dsimp (disch:=omega) only[wpS,wpT,zE,zL,zA,j4,cK,kS,aw (X1.kept byOmega g0),aw (X1.kept byOmega g1),tkA,tkB];refine call (jP (hn2.ae (E0.trans X1).ae) (hd1.ae (E0.trans X1).ae) (bB qy.1 byOmega) (bB qx.gM byOmega)) ?_;rintro r2 h2 ⟨hE2,p2⟩;have m2:=hE2.n;have X2:=X1.trans hE2;simp -dsimp (disch:=omega) only[wpS,zE];refine call (Jz (p1.ae hE2.ae) p2 sb1 sb2) ?_;rintro _ h5 ⟨hE5,rfl⟩;have X5:=X2.trans hE5;rw[Ku];simp -dsimp (disch:=omega) only[wpS,zE];refine⟨by repeat' first|refine aB ?_ ?_|refine aA ?_ ?_|exact ai rfl rfl rfl rfl (aO (H0:=H0) rfl byOmega aG aG cS),?_⟩;simp -dsimp (disch:=omega) only[wpS,wpT,zE,zA];exact E0.trans X5
def DS (hv:ch h v x) :WV prog (.func (.func 247) #[] #[]) [v] h fun r h'=>Ext h h'∧ch h' r (-x):=by obtain⟨a1,s1,b1,t1,rfl,hn1,hd1,c1,o1,c2,o2,o3,o4⟩:=hv.parts;refine enter (nt:=9) (rs:=[.cell 2 137]) Proofs.Tryz.func247 rfl rfl rfl aa ?_;simp -dsimp (disch:=omega) only[wpS,gY];obtain⟨H0,hH0,n0,E0,g0,g1⟩:=gN h [a1,s1,b1,t1] ZR;rw[←hH0];clear hH0;have X0:=Ext.refl H0;obtain⟨L1,L2,_⟩:=pl4 g0;refine drawn [(4,[2])] ab ab rfl ?_;simp -dsimp (disch:=omega) only[wpS,wpT,zE,zL,zA,j4,cK,aw g0,tkA];refine call (qh (hn1.ae E0.ae)) ?_;rintro r1 h1 ⟨X1,p1⟩;have m1:=X1.n;obtain⟨s3,rfl,c5,o5⟩:=p1.dJ;have kg:=X1.kept byOmega g1;simp -dsimp (disch:=omega) only[wpS,wpT,zE,zL,zA,cK,kS,Se,Cy,Cx,fK,aw (X1.kept byOmega g0),kg,tkB,o5,o2,o4];refine⟨by repeat' first|refine aB ?_ ?_|refine aA ?_ ?_|exact ai rfl rfl rfl rfl (aO (H0:=H0) rfl byOmega aG aG cS),?_⟩;simp -dsimp (disch:=omega) only[wpS,wpT,zE,zL,zA,jZ,fm];have kp:=(aX.refl h1).put kg (.cells [.bool (decide (-x.num<0)),s3,b1,t1] 0 none);exact⟨(E0.trans X1).put byOmega _,_,_,_,_,rfl,p1.ae kp,hd1.ae ((E0.trans X1).ae.trans kp)⟩
def S9 (hv:ch h v x) (hw:ch h w y) (qx:QB a x) (qy:QB b y) (hk:a+b+1<16000000) :WV prog (.func (.func 198) #[] #[]) [v,w] h fun r h'=>Ext h h'∧ch h' r (x - y):=by obtain⟨a1,s1,b1,t1,rfl,hn1,hd1,c1,o1,c2,o2,o3,o4⟩:=hv.parts;obtain⟨a2,s2,b2,t2,rfl,hn2,hd2,c5,o5,c6,o6,o7,o8⟩:=hw.parts;refine enter (nt:=9) (rs:=[.cell 4 137]) Proofs.Tryz.func198 rfl rfl rfl aa ?_;simp -dsimp (disch:=omega) only[wpS,zE,zA,gY];obtain⟨H0,hH0,n0,E0,g0,g1,g2⟩:=kK h [a1,s1,b1,t1] [a2,s2,b2,t2] ZR;rw[←hH0];clear hH0;have X0:=Ext.refl H0;obtain⟨_,_,L1⟩:=pl4 g0;obtain⟨_,_,L2⟩:=pl4 g1;refine drawn [(0,[3])] ab ab rfl ?_;simp -dsimp (disch:=omega) only[wpS,wpT,zE,zL,zA,jZ,aw g0,aw g1,fm];refine call (DS (hw.ae E0.ae)) ?_;rintro r1 h1 ⟨X1,p1⟩;have m1:=X1.n;simp -dsimp (disch:=omega) only[wpS,zE];refine call (mH (hv.ae (E0.trans X1).ae) p1 qx qy.neg hk) ?_;rintro r2 h2 ⟨hE2,p2⟩;have X2:=X1.trans hE2;have m2:=hE2.n;rw[←Rat.sub_eq_add_neg] at p2;obtain⟨a3,s3,b3,t3,rfl,_,_,d1,o1,d2,o2,o3,o4⟩:=p2.parts;have kg:=X2.kept byOmega g2;simp -dsimp (disch:=omega) only[wpS,wpT,zE,zL,zA,fK,kg,o1,o2,o3,o4];refine⟨by repeat' first|refine aB ?_ ?_|refine aA ?_ ?_|exact ai rfl rfl rfl rfl (aO (H0:=H0) rfl byOmega aG aG cS),?_⟩;simp -dsimp (disch:=omega) only[wpS,wpT,zE,zL,zA,jZ,fm];exact⟨(E0.trans X2).put byOmega _,p2.ae ((aX.refl _).put kg _)⟩
def shC (n d:Nat):List QQ:=wdC n ++ wdC d
def shV (n d:Nat):QQ:=.agg (shC n d).toArray
theorem aC (n d:Nat):(shC n d).length=16:=by simp[shC,aH]
theorem bH (n d:Nat):(shC n d).all aM=true:=by simp only[shC,List.all_append,dH,uY]
def aU (n d:Nat):(shV n d).cells.toList=shC n d:=rfl
theorem bF (n d:Nat):List.take 16 (List.drop 0 (shC n d))=shC n d:=by rw[cp,dr (by rw[aC];omega)]
theorem vx (n d:Nat):List.take 8 (List.drop 0 (shC n d))=wdC n:=by rw[cp,shC,rP (by rw[aH];omega),dr (by rw[aH];omega)]
theorem vv (n d:Nat):List.take 8 (List.drop 8 (shC n d))=wdC d:=by rw[shC,List.drop_append_of_le_length (by rw[aH];omega),uX (by rw[aH];omega),mz,dr (by rw[aH];omega)]
abbrev Z16:List QQ:=[ZW,ZW,ZW,ZW,ZW,ZW,ZW,ZW,ZW,ZW,ZW,ZW,ZW,ZW,ZW,ZW]
def VF (n:Nat):IH.aI Z16 0 (wdC n)=shC n 0:=by rw[IH.aI,C8,mz,aH,shC,pV];rfl
def VE (n d:Nat):IH.aI (shC n 0) 8 (wdC d)=shC n d:=by rw[IH.aI,aH,shC,rP (by rw[aH];omega),dr (by rw[aH];omega),uX (by simp[aH]),x8];rfl
def cD (n d:Nat):IH.aI Z16 0 (shC n d)=shC n d:=jA (by rw[aC];rfl)
theorem Zr:Z16=shC 0 0:=by rw[shC,pV];rfl
theorem zk:QQ.agg #[ZW,ZW,ZW,ZW,ZW,ZW,ZW,ZW,ZW,ZW,ZW,ZW,ZW,ZW,ZW,ZW]=shV 0 0:=by rw[shV,←Zr]
def QI:List.take 16 (List.drop 0 Z16)=Z16:=rfl
abbrev mG (q:Rat):QQ:=shV (bJ q.num) (bJ q.den)
def QW (q:Rat):Prop:=InW q.num∧InW (q.den:Int)
variable {k:Nat}{v:QQ}
def JR {P:Program} {H0 hi:IH} {t:TypeId} {o:Nat} (hv:load P H0 t (ptr (2*k) o)=some v) (hb:k<H0.n) (e:Ext H0 hi):load P hi t (ptr (2*k) o)=some v:=(Es byOmega e).trans hv
variable {n:Nat}
def psh {H:IH} {d:Nat} (g:H.ext.get k=some (.cells (shC n d) 0 none)):load prog H 30 (ptr (2*k) 0)=some (wdV n)∧load prog H 30 (ptr (2*k) 8)=some (wdV d)∧load prog H 32 (ptr (2*k) 0)=some (shV n d):=by
 have r:=aw g;refine⟨?_,?_,?_⟩;·simp -dsimp (disch:=omega) only[wpS,zL,iO,r,aC,vx];rfl
 ·simp -dsimp (disch:=omega) only[wpS,zL,zA,iO,r,aC,vv]
  rfl
 ·simp -dsimp (disch:=omega) only[wpS,zL,r,aC,bF,dX];rfl
variable {h:IH}
def gS (n d:Nat) (hn:n<W8) (hd:d<W8):WV prog (.func (.func 156) #[] #[]) [shV n d] h fun r h'=>Ext h h'∧wC h' r (wdI n) (wdI d):=by refine enter (nt:=10) (rs:=[.cell 2 137]) Proofs.Tryz.func156 rfl rfl rfl aa ?_;simp -dsimp (disch:=omega) only[wpS,gY,aU];obtain⟨H0,hH0,n0,E0,g0,g1⟩:=gN h (shC n d) ZR;rw[←hH0];clear hH0;have X0:=Ext.refl H0;obtain⟨L1,L2,_⟩:=psh g0;refine drawn [(4,[2])] ab ab rfl ?_;simp -dsimp (disch:=omega) only[wpS,zE,zL,PL,iO,aw g0,aC,vx];refine call (mn n hn) ?_;rintro r1 h1 ⟨X1,p1⟩;have m1:=X1.n;simp -dsimp (disch:=omega) only[wpS,zE,zL,zA,iO,PK,aw (X1.kept byOmega g0),aC,vv];refine call (mn d hd) ?_;rintro r2 h2 ⟨hE2,p2⟩;have m2:=hE2.n;have X2:=X1.trans hE2;obtain⟨s1,rfl,c1,o1⟩:=p1.dJ;obtain⟨s2,rfl,c2,o2⟩:=p2.dJ;have kg:=X2.kept byOmega g1;simp -dsimp (disch:=omega) only[wpS,wpT,zE,zL,zA,Se,Cy,Cx,fK,kg,o1,o2];refine⟨by repeat' first|refine aB ?_ ?_|refine aA ?_ ?_|exact ai rfl rfl rfl rfl (aO (H0:=H0) rfl byOmega aG aG cS),?_⟩;simp -dsimp (disch:=try exact dx) only[wpS,wpT,zE,zL,zA,jZ,fm];have kp:=(aX.refl h2).put kg (.cells [.bool (decide (wdI n<0)),s1,.bool (decide (wdI d<0)),s2] 0 none);exact⟨(E0.trans X2).put byOmega _,_,_,_,_,rfl,p1.ae (hE2.ae.trans kp),p2.ae kp⟩
def DT {q:Rat} (hv:ch h v q):WV prog (.func (.func 132) #[] #[]) [v] h fun r h'=>Ext h h'∧r=(open Classical in if QW q then .tuple #[mG q,KI 0] else .tuple #[shV 0 0,KI 6]):=by
 obtain⟨a1,s1,b1,t1,rfl,hn1,hd1,c1,o1,c2,o2,o3,o4⟩:=hv.parts;refine enter (nt:=30) (rs:=[.cell 2 32,.tmp 3]) Proofs.Tryz.func132 rfl rfl rfl aa ?_;simp -dsimp (disch:=try exact dx) only[wpS,wpT,zE,zL,zA,lX,j4,cK];obtain⟨H0,hH0,n0,E0,g0,g1⟩:=gN h [a1,s1,b1,t1] Z16;rw[←hH0];clear hH0;simp -dsimp (disch:=try exact dx) only[tkA];refine call (vE (hn1.ae E0.ae)) ?_;rintro _ h1 ⟨X1,rfl⟩;have m1:=X1.n
 obtain⟨w1,e1,hw⟩ : ∃w1 e1,(if InW q.num then QQ.tuple #[uF q.num,KI 0] else .tuple #[wdV 0,KI 6])=.tuple #[wdV w1,KI e1]∧(InW q.num∧w1=bJ q.num∧e1=0 ∨ ¬InW q.num∧e1=6):=by
  by_cases hi:InW q.num;·exact⟨_,0,by rw[ah hi],.inl ⟨hi,rfl,rfl⟩⟩
  ·exact⟨0,6,by rw[ad hi],.inr ⟨hi,rfl⟩⟩
 rw[hw.1];have k0:=X1.kept byOmega g0;have k1:=X1.kept byOmega g1;simp -dsimp (disch:=omega) only[wpS,wpT,zE,zL,zA,cK,rR,oV,kS,eG,aH,dH,iF,aw k0,tkA,tkB];obtain⟨H2,hH2⟩:=bm ((h1.new (.cells [ZW,ZW,ZW,ZW,ZW,ZW,ZW,ZW] 0 none)).put h1.n (.cells (wdC w1) 0 none));have e2:Ext h1 H2:=by rw[hH2];exact((Ext.refl _).new _).put (ar _) _
 have n2:H2.n=h1.n+1:=by rw[hH2];rfl
 have ga:H2.ext.get h1.n=some (.cells (wdC w1) 0 none):=by rw[hH2];simp (disch:=omega) only[ak]
 have k1':=e2.kept byOmega k1;rw[←hH2];clear hH2;refine call (vE (hd1.ae ((E0.trans X1).trans e2).ae)) ?_;rintro _ h3 ⟨X3,rfl⟩;have m3:=X3.n
 obtain⟨w2,f2,hw2⟩ : ∃w1 e1,(if InW (q.den:Int) then QQ.tuple #[uF q.den,KI 0] else .tuple #[wdV 0,KI 6])=.tuple #[wdV w1,KI e1]∧(InW (q.den:Int)∧w1=bJ q.den∧e1=0 ∨ ¬InW (q.den:Int)∧e1=6):=by
  by_cases hi:InW (q.den:Int);·exact⟨_,0,by rw[ah hi],.inl ⟨hi,rfl,rfl⟩⟩
  ·exact⟨0,6,by rw[ad hi],.inr ⟨hi,rfl⟩⟩
 rw[hw2.1];have ga3:=X3.kept byOmega ga;have k3:=X3.kept byOmega k1';have xx:=((E0.trans X1).trans e2).trans X3;rcases hw.2 with⟨i1,rfl,rfl⟩|⟨i1,rfl⟩
 ·rcases hw2.2 with⟨i2,rfl,rfl⟩|⟨i2,rfl⟩
  ·rw[ah (show QW q from⟨i1,i2⟩)];simp -dsimp (disch:=omega) only[wpS,wpT,zE,zL,zA,rR,oV,Ky,iJ,iO,We,Wd,dX,eG,aH,dH,iF,aw ga3,k3,di,VF,VE,cD,aC,bH,bF];exact⟨(((xx.new _).put byOmega _).put byOmega _),rfl⟩
  ·rw[ad (show ¬QW q from fun h=>i2 h.2)];simp -dsimp (disch:=omega) only[wpS,wpT,zE,zL,zA,rR,oV,Ky,iJ,dX,eG,aH,dH,iF,k3,QI];exact⟨(((xx.new _).put byOmega _).put byOmega _),by rw[zk]⟩
 ·rw[ad (show ¬QW q from fun h=>i1 h.1)];simp -dsimp (disch:=omega) only[wpS,wpT,zE,zL,zA,rR,oV,Ky,iJ,dX,eG,aH,dH,iF,k3,QI];exact⟨(((xx.new _).put byOmega _).put byOmega _),by rw[zk]⟩
def okS (n d:Nat):Prop:=0<wdI d∧Int.gcd (wdI n) (wdI d)=1
instance (n d:Nat):Decidable (okS n d):=by unfold okS;infer_instance
def jO (hn:n<W8):bE (wdI n):=by refine ZcP ?_;have h2:=jE;unfold wdI InW;split<;>constructor<;>omega
def tZ (n d:Nat) (hn:n<W8) (hd:d<W8):WV prog (.func (.func 128) #[] #[]) [shV n d] h fun r h'=>Ext h h'∧r=KI (if okS n d then 0 else 20):=by
 refine enter (nt:=22) (rs:=[.tmp 2]) Proofs.Tryz.func128 rfl rfl rfl aa ?_;simp -dsimp (disch:=omega) only[wpS,aU];have E1:Ext h (h.new (.cells (shC n d) 0 none)):=(Ext.refl h).new _;have gs:(h.new (.cells (shC n d) 0 none)).ext.get h.n=some (.cells (shC n d) 0 none):=by simp (disch:=omega) only[aq]
 refine call (zG 1 ⟨byOmega,byOmega⟩) ?_;rintro _ h1 ⟨X1,p1⟩;have m1:=X1.n;simp only[bj] at m1;obtain⟨s1,rfl,c1,o1⟩:=p1.dJ;have gs1:=X1.kept aa gs;have e10:decide ((1:Int)<0)=false:=rfl;rw[e10] at p1 ⊢;simp -dsimp (disch:=omega) only[wpS,wpT,zE,zL,zA,mT,jX,dX,o1,aw gs1,aC,bF];obtain⟨H2,hH2⟩:=bm ((h1.new (.cells ZL 0 none)).put h1.n (.cells [.bool false,s1] 0 none));have e2:Ext h1 H2:=by rw[hH2];exact((Ext.refl _).new _).put (ar _) _
 have n2:H2.n=h1.n+1:=by rw[hH2];rfl
 have ga:H2.ext.get h1.n=some (.cells [.bool false,s1] 0 none):=by rw[hH2];simp (disch:=omega) only[ak]
 rw[←hH2];clear hH2;refine call (gS n d hn hd) ?_;rintro _ h3 ⟨X3,a2,s2,b2,t2,rfl,hN,hD⟩;have m3:=X3.n;obtain⟨e3,c3,o3⟩:=hN.co;obtain⟨e4,c4,o4⟩:=hD.co;subst e3 e4;simp -dsimp (disch:=omega) only[wpS,wpT,zE,zL,zA,gY,fK,o3,o4];obtain⟨H0,hH0⟩:=bm ((h3.new (.cells ZR 0 none)).put h3.n (.cells [.bool (decide (wdI n<0)),s2,.bool (decide (wdI d<0)),t2] 0 none));have e5:Ext h3 H0:=by rw[hH0];exact((Ext.refl _).new _).put (ar _) _
 have n5:H0.n=h3.n+1:=by rw[hH0];rfl
 have gb:H0.ext.get h3.n=some (.cells [.bool (decide (wdI n<0)),s2,.bool (decide (wdI d<0)),t2] 0 none):=by rw[hH0];simp (disch:=omega) only[ak]
 have gc:=e5.kept byOmega (X3.kept byOmega ga);rw[←hH0];clear hH0;have hN0:=hN.ae e5.ae;have hD0:=hD.ae e5.ae;have p10:=p1.ae ((e2.trans X3).trans e5).ae;have X0:=Ext.refl H0;obtain⟨L1,L2,_⟩:=pl4 gb;have L3:=pl2 gc;have E0:=((((E1.trans X1).trans e2).trans X3).trans e5);refine drawn [(10,[9])] ab ab rfl ?_;simp -dsimp (disch:=omega) only[wpS,wpT,zE,zL,zA,kS,cK,aw gb,tkB];refine call (qi hD0) ?_;rintro _ h6 ⟨X6,rfl⟩;have m6:=X6.n;by_cases hd0:0<wdI d
 ·have hdn:decide (wdI d<0)=false:=aY byOmega;rw[hdn] at hD0 gb L2;rw[ad byOmega,ad byOmega];simp -dsimp (disch:=omega) only[wpS,wpT,zE,zL,zA,kS,cK,j4,aw (X6.kept byOmega gb),tkA,tkB];refine call (yl (hN0.ae X6.ae) (hD0.ae X6.ae) (jO hn) (jO hd)) ?_;rintro g h7 ⟨X7,hg⟩;have m7:=X7.n;have X67:=X6.trans X7;have sg:bE (Int.gcd (wdI n) (wdI d):Int):=mi ((jO hd).le (CW byOmega (Iy _ _)));simp -dsimp (disch:=omega) only[wpS,wpT,zE,zL,zA,cK,aw (X67.kept byOmega gc),vk];refine call (Jz hg (p10.ae X67.ae) sg (mi Jd)) ?_;rintro _ h8 ⟨X8,rfl⟩;have X68:=X67.trans X8;have E8:=E0.trans X68;by_cases hgc:Int.gcd (wdI n) (wdI d)=1
  ·rw[ad byOmega,ah byOmega,ah (show okS n d from⟨hd0,hgc⟩)];simp -dsimp (disch:=omega) only[wpS,wpT,zE];refine⟨by repeat' first|refine aB ?_ ?_|refine aA ?_ ?_|exact ai rfl rfl rfl rfl (aO (H0:=H0) rfl byOmega aG aG cS),?_⟩;simp -dsimp (disch:=omega) only[wpS,wpT,zE,zA];exact E8
  ·rw[ad (show ¬okS n d from fun h=>hgc h.2)];have hg1 : ¬((Int.gcd (wdI n) (wdI d):Int)<1):=by have:=EM (n:=wdI n) (d:=wdI d) byOmega;omega
   rw[ad hg1,ad byOmega];simp -dsimp (disch:=omega) only[wpS,wpT,zE];refine⟨by repeat' first|refine aB ?_ ?_|refine aA ?_ ?_|exact ai rfl rfl rfl rfl (aO (H0:=H0) rfl byOmega aG aG cS),?_⟩;simp -dsimp (disch:=omega) only[wpS,wpT,zE,zA];exact E8
 ·rw[ad (show ¬okS n d from fun h=>hd0 h.1)];have E6:=E0.trans X6;obtain⟨c,hc,hc0⟩ : ∃c:Int,(if wdI d<0 then (-1:Int) else if wdI d=0 then 0 else 1)=c∧c≤0:=⟨_,rfl,by split<;>(try split)<;>omega⟩;rw[hc];simp -dsimp (disch:=omega) only[wpS,wpT,zE,show decide (c≤0)=true from bf hc0];refine⟨gI rfl rfl rfl,?_⟩;simp -dsimp (disch:=omega) only[wpS,wpT,zE,zA];exact E6
def LM (n d:Nat) (hn:n<W8) (hd:d<W8):WV prog (.func (.func 240) #[] #[]) [shV n d] h fun r h'=>Ext h h'∧r=.bool (decide (okS n d)):=by
 refine enter (nt:=6) (rs:=[.tmp 2]) Proofs.Tryz.func240 rfl rfl rfl aa ?_;simp -dsimp (disch:=omega) only[wpS,zE,zL,dX,aU,aC,bF];refine call (tZ n d hn hd) ?_;rintro _ h1 ⟨hE,rfl⟩;have E1:=((Ext.refl h).new (.cells (shC n d) 0 none)).trans hE;by_cases hok:okS n d;·rw[ah hok];simp -dsimp (disch:=omega) only[wpS,wpT,zE];exact⟨E1,by rw[bf hok]⟩
 ·rw[ad hok]
  simp -dsimp (disch:=omega) only[wpS,wpT,zE];exact⟨E1,by rw[aY hok]⟩
def shL (l:List (Nat×Nat)):List QQ:=l.flatMap fun p=>shC p.1 p.2
theorem ua (l:List (Nat×Nat)):(shL l).length=l.length*16:=by
 induction l with
 | nil=>rfl
 | cons a l ih=>rw[shL,AD,du,aC,←shL,ih,gX];omega
variable {p:Nat×Nat}{i:Nat}{l:List (Nat×Nat)}
def ZcT (h:l[i]?=some p):((shL l).drop (i*16)).take 16=shC p.1 p.2:=by
 induction l generalizing i with
 | nil=>simp at h
 | cons a l ih =>
  rw[shL,AD,←shL];cases i with
  | zero =>
   simp at h;subst h;rw[iC,cp,rP (by rw[aC];omega),dr (by rw[aC];omega)]
  | succ i =>
   simp at h;rw[show(i+1)*16=(shC a.1 a.2).length+i*16 by rw[aC];omega,List.drop_length_add_append];exact ih h
def QJ (l:List (Nat×Nat)):(shL l).all aM=true:=by
 induction l with
 | nil=>rfl
 | cons a l ih=>rw[shL,AD,List.all_append,bH,←shL,ih];rfl
def iS (h:IH) (v:QQ) (l:List (Nat×Nat)):Prop:=cA h 16 v l.length (shL l)∧l.length<1152921504606846976 ∧ ∀p∈l,p.1<W8∧p.2<W8
variable {h':IH}
def iS.ae (s:iS h v l) (e:aX h h'):iS h' v l:=⟨s.1.ae e,s.2⟩
def iS.ld (s:iS h v l) (e:aX h h') (hi:l[i]?=some p):load prog h' 32 (a9 v (i*16))=some (shV p.1 p.2):=by have hl:i<l.length:=(bZ.1 hi).1;rw[s.1.Ev e (by rw[ua];omega) byOmega ag32 SL,ZcT hi];rfl
def VD (hv:iS h v l):WV prog (.func (.func 241) #[] #[]) [(.func (.func 240) #[] #[]),v] h fun r h'=>Ext h h'∧r=.bool (decide (∀p∈l,okS p.1 p.2)):=by
 refine enter (nt:=18) (rs:=[.tmp 4]) Proofs.Tryz.func241 rfl rfl rfl aa ?_;simp -dsimp (disch:=omega) only[wpS,zE,zA,hv.1.len tX];refine loop (fun m fr h1 => ∃i:Nat,i+m=l.length∧Ext h h1∧(∀j p,j<i→l[j]?=some p→okS p.1 p.2)∧aj fr 0=some (.func (.func 240) #[] #[])∧aj fr 7=some v∧aj fr 8=some (KN l.length)∧aj fr 9=some (KN i)) l.length ⟨0,byOmega,Ext.refl _,fun j p hj=>byOmega,aa⟩ ?_;rintro m fr h1 ⟨i,him,hE,hok,f0,f7,f8,f9⟩;simp -dsimp (disch:=omega) only[wpS,f8,f9];refine az ?_ ?_<;>intro hc<;>simp only[aJ,aV] at hc
 ·have hi:i<l.length:=byOmega;obtain⟨p,hp⟩:=fJ (l:=l) (i:=i) hi;have hpm:=bN hp;obtain⟨w1,w2⟩:=hv.2.2 p hpm;have hlb:=hv.2.1;simp -dsimp (disch:=omega) only[wpS,wpT,zE,zL,zA,dX,lX,iJ,f0,f7,f9,hv.1.idx qU hi,hv.ld hE.ae hp,aU,aC,bH,cD,bF];refine call (LM p.1 p.2 w1 w2) ?_;rintro _ h2 ⟨hE2,rfl⟩;have E2:=((hE.new (.cells Z16 0 none)).put hE.n (.cells (shC p.1 p.2) 0 none)).trans hE2;by_cases hk:okS p.1 p.2
  ·rw[bf hk];simp -dsimp (disch:=omega) only[wpS,wpT,zE,f9];refine⟨m - 1,byOmega,i+1,byOmega,E2,?_,by simp[f0,f7,f8]⟩;intro j q hj hq;by_cases hji:j=i
   ·subst hji;rw[hp] at hq;cases hq;exact hk
   ·exact hok j q byOmega hq
  ·rw[aY hk];simp -dsimp (disch:=omega) only[wpS,wpT,zE];refine⟨E2,?_⟩;rw[aY fun iv=>hk (iv p hpm)]
 ·simp -dsimp (disch:=omega) only[wpS,wpT];refine⟨hE,?_⟩;rw[bf];intro p hp;obtain⟨j,hj⟩:=lV hp;have:=(bZ.1 hj).1;exact hok j p byOmega hj
def Ov (hv:iS h v l):WV prog (.func (.func 188) #[] #[]) [v] h fun r h'=>Ext h h'∧r=.bool (decide (∀p∈l,okS p.1 p.2)):=by refine enter (nt:=7) (rs:=[.tmp 2]) Proofs.Tryz.func188 rfl rfl rfl aa ?_;simp -dsimp (disch:=omega) only[wpS,zE];refine call (VD hv) ?_;rintro _ h1 ⟨hE,rfl⟩;simp -dsimp (disch:=omega) only[wpS,wpT,zE];exact hE
variable {h:IH}{n:Int}
def yQ {v:Value} (hv:bW h v n):WV prog (.func (.func 131) #[] #[]) [v] h fun r h'=>Ext h h'∧ch h' r (n:Rat):=by obtain⟨s,rfl,c1,o1⟩:=hv.dJ;refine enter (nt:=6) (rs:=[.cell 2 137]) Proofs.Tryz.func131 rfl rfl rfl aa ?_;simp -dsimp (disch:=omega) only[wpS,gY];obtain⟨H0,hH0,n0,E0,g0,g1⟩:=gN h [.bool (decide (n<0)),s] ZR;rw[←hH0];clear hH0;have X0:=Ext.refl H0;have L1:=pl2 g0;refine drawn [(0,[3])] ab ab rfl ?_;simp -dsimp (disch:=omega) only[wpS,wpT,zE,zL,zA,cK,aw g0,vk];refine call (zG 1 ⟨byOmega,byOmega⟩) ?_;rintro _ h1 ⟨X1,p1⟩;have m1:=X1.n;obtain⟨s1,rfl,c2,o2⟩:=p1.dJ;have kg:=X1.kept byOmega g1;simp -dsimp (disch:=omega) only[wpS,wpT,zE,zL,zA,Se,Cy,Cx,fK,kg,o1,o2];refine⟨by repeat' first|refine aB ?_ ?_|refine aA ?_ ?_|exact ai rfl rfl rfl rfl (aO (H0:=H0) rfl byOmega aG aG cS),?_⟩;simp -dsimp (disch:=omega) only[wpS,wpT,zE,zL,zA,jZ,fm];have kp:=(aX.refl h1).put kg (.cells [.bool (decide (n<0)),s,.bool false,s1] 0 none);exact⟨(E0.trans X1).put byOmega _,_,_,_,_,rfl,hv.ae ((E0.trans X1).ae.trans kp),p1.ae kp⟩
def iL (n:Int) (hn:gV n):WV prog (.func (.func 75) #[] #[]) [KI n] h fun r h'=>Ext h h'∧ch h' r (n:Rat):=by
 refine enter (nt:=6) (rs:=[.cell 2 137]) Proofs.Tryz.func75 rfl rfl rfl aa ?_;simp -dsimp (disch:=omega) only[wpS,zE,gY];have E1:Ext h (h.new (.cells ZR 0 none)):=(Ext.refl h).new _;have g1:(h.new (.cells ZR 0 none)).ext.get h.n=some (.cells ZR 0 none):=by simp (disch:=omega) only[aq]
 refine call (zG n hn) ?_;rintro _ h1 ⟨X1,p1⟩;simp -dsimp (disch:=omega) only[wpS,zE];refine call (yQ p1) ?_;rintro _ h2 ⟨X2,p2⟩;have m1:=X1.n;have m2:=X2.n;simp only[bj] at m1;obtain⟨a3,s3,b3,t3,rfl,_,_,d1,o1,d2,o2,o3,o4⟩:=p2.parts;have kg:=X2.kept byOmega (X1.kept aa g1);simp -dsimp (disch:=omega) only[wpS,wpT,zE,zL,zA,fK,jZ,kg,o1,o2,o3,o4,fm];exact⟨((E1.trans X1).trans X2).put byOmega _,p2.ae ((aX.refl _).put kg _)⟩
def pg {d:Nat} (hd:d<W8):wdI d=0↔d=0:=by have h2:=jE;have h3:=nM;unfold wdI;split<;>omega
def GK (n d:Nat) (hn:n<W8) (hd:d<W8) (d0:d≠0):WV prog (.func (.func 189) #[] #[]) [wdV n,wdV d] h fun r h'=>Ext h h'∧r=(open Classical in if QW (Rat.divInt (wdI n) (wdI d)) then .tuple #[mG (Rat.divInt (wdI n) (wdI d)),KI 0] else .tuple #[shV 0 0,KI 6]):=by
 refine enter (nt:=18) (rs:=[.cell 4 32,.tmp 5]) Proofs.Tryz.func189 rfl rfl rfl aa ?_;simp -dsimp (disch:=try exact dx) only[wpS,wpT,zE,zL,zA,lX,iO,Gj,eG,aH];obtain⟨H0,hH0,n0,E0,g0,g1,g2⟩:=kK h (wdC n) (wdC d) Z16;rw[←hH0];clear hH0;have X0:=Ext.refl H0;have L2:load prog H0 30 (ptr (2*(h.n+1)) 0)=some (wdV d):=by simp -dsimp (disch:=try exact dx) only[wpS,zL,iO,aw g1,aH,di];rfl
 have hz:binop prog .eql 30 (.tmp 6) (.tmp 7) (.agg (wdC d).toArray) (.agg #[ZW,ZW,ZW,ZW,ZW,ZW,ZW,ZW])=some (.bool false):=by rw[qW,wdV,Va hd (by have:=jE;have:=nM;omega)];rw[aY d0]
 have hdI:wdI d≠0:=fun h=>d0 ((pg hd).1 h);simp -dsimp (disch:=try exact dx) only[wpS,zE,di,hz];refine drawn [(2,[1])] ab ab rfl ?_;simp -dsimp (disch:=omega) only[wpS,zE,zL,iO,aw g0,aH,di];refine call (mn n hn) ?_;rintro r1 h1 ⟨X1,p1⟩;have m1:=X1.n;simp -dsimp (disch:=omega) only[wpS,zE,zL,iO,aw (X1.kept byOmega g1),aH,di];refine call (mn d hd) ?_;rintro r2 h2 ⟨hE2,p2⟩;have X2:=X1.trans hE2;have m2:=hE2.n;simp -dsimp (disch:=omega) only[wpS,zE];refine call (wV (p1.ae hE2.ae) p2 (jO hn) (jO hd) hdI) ?_;rintro r3 h3 ⟨hE3,p3⟩;have X3:=X2.trans hE3;have m3:=hE3.n;simp -dsimp (disch:=omega) only[wpS,zE];refine call (DT p3) ?_;rintro _ h4 ⟨hE4,rfl⟩;have X4:=X3.trans hE4;have m4:=hE4.n;have kg:=X4.kept byOmega g2;by_cases hq:QW (Rat.divInt (wdI n) (wdI d))
 ·rw[ah hq];simp -dsimp (disch:=omega) only[wpS,wpT,zE,zL,zA,iJ,kg,aU,aC,bH,cD];refine⟨by repeat' first|refine aB ?_ ?_|refine aA ?_ ?_|exact ai rfl rfl rfl rfl (aO (H0:=H0) rfl byOmega aG aG cS),?_⟩;simp -dsimp (disch:=omega) only[wpS,wpT,zE,zL,zA,dX,aC,bF];exact⟨(E0.trans X4).put byOmega _,rfl⟩
 ·rw[ad hq];simp -dsimp (disch:=omega) only[wpS,wpT,zE,zL,zA,iJ,kg,aU,aC,bH,cD];refine⟨by repeat' first|refine aB ?_ ?_|refine aA ?_ ?_|exact ai rfl rfl rfl rfl (aO (H0:=H0) rfl byOmega aG aG cS),?_⟩;simp -dsimp (disch:=omega) only[wpS,wpT,zE,zL,zA,dX,aC,bF];exact⟨(E0.trans X4).put byOmega _,rfl⟩
theorem uh {d:Int} (hn:gV n) (hd:gV d) (d0:d≠0):QW (Rat.divInt n d):=by have h3:=yM;have q:=QB.divInt (k:=63) d0 (n:=n) (by have:=hn.1;have:=hn.2;omega) (by have:=hd.1;have:=hd.2;omega);obtain⟨q1,q2⟩:=q;have e:2 ^ 63=9223372036854775808:=aP;rw[e] at q1 q2;exact⟨⟨byOmega,byOmega⟩,⟨byOmega,byOmega⟩⟩
theorem mW (hn:gV n):InW n:=by have h3:=yM;exact⟨by have:=hn.1;omega,by have:=hn.2;omega⟩
def Zcn (hn:gV n) (h0:n≠0):bJ n≠0:=by have hw:=mW hn;have:=dQ hw;intro h;rw[h] at this;have h2:=nM;unfold wdI at this;rw[ah h2] at this;omega
def Zp (n d:Int) (hn:gV n) (hd:gV d) (d0:d≠0):WV prog (.func (.func 88) #[] #[]) [KI n,KI d] h fun r h'=>Ext h h'∧r=.tuple #[mG (Rat.divInt n d),KI 0]:=by
 refine enter (nt:=13) (rs:=[.cell 4 32,.tmp 5]) Proofs.Tryz.func88 rfl rfl rfl aa ?_;simp -dsimp (disch:=omega) only[wpS,zE,zA,lX];have E1:Ext h (h.new (.cells Z16 0 none)):=(Ext.refl h).new _;have g1:(h.new (.cells Z16 0 none)).ext.get h.n=some (.cells Z16 0 none):=by simp (disch:=omega) only[aq]
 refine call (sB n hn) ?_;rintro _ h1 ⟨X1,rfl⟩;simp -dsimp (disch:=omega) only[wpS,zE];refine call (sB d hd) ?_;rintro _ h2 ⟨X2,rfl⟩;simp -dsimp (disch:=omega) only[wpS,zE];refine call (GK (bJ n) (bJ d) (gZ (mW hn)) (gZ (mW hd)) (Zcn hd d0)) ?_;rintro _ h3 ⟨X3,rfl⟩;rw[dQ (mW hn),dQ (mW hd),ah (uh hn hd d0)];have m1:=X1.n;have m2:=X2.n;have m3:=X3.n;simp only[bj] at m1;have kg:=X3.kept byOmega (X2.kept byOmega (X1.kept aa g1));simp -dsimp (disch:=omega) only[wpS,wpT,zE,zL,zA,iJ,dX,kg,aU,aC,bH,cD,bF];exact⟨(((E1.trans X1).trans X2).trans X3).put byOmega _,rfl⟩
def kF:Kept ch:=fun _ _ _ _ r e=>r.ae e
def rOf (p:Nat×Nat):Rat:=Rat.divInt (wdI p.1) (wdI p.2)
variable {p:Nat×Nat}
theorem fi (h:okS p.1 p.2):(rOf p).num=wdI p.1∧((rOf p).den:Int)=wdI p.2:=by obtain⟨h1,h2⟩:=h;obtain⟨a,b⟩:=rq (n:=wdI p.1) h1;rw[h2] at a b;simp only[Int.natCast_one,Int.ediv_one] at a b;exact⟨a.symm,b.symm⟩
abbrev xK (l:List (Nat×Nat)):Prop:=∀p∈l,okS p.1 p.2
noncomputable def mU (q:Rat):Value:=open Classical in if QW q then .tuple #[mG q,KI 0] else .tuple #[shV 0 0,KI 6]
def pZ (q:Rat) : ∃n d e,mU q=.tuple #[shV n d,KI e]:=by
 unfold mU;by_cases h:QW q;·exact⟨_,_,0,by rw[ah h]⟩
 ·exact⟨0,0,6,by rw[ad h]⟩
def jY (h1:p.1<W8) (h2:p.2<W8) (ok:okS p.1 p.2):QB 512 (rOf p):=by
 obtain⟨e1,e2⟩:=fi ok;have hw:W8=2 ^ 512:=mQ;have a1:=jO h1;unfold QB;have k1:(wdI p.1).natAbs≤2 ^ 512:=by rw[←hw];unfold wdI;have:=jE;split<;>omega
 have k2:wdI p.2≤((2 ^ 512:Nat):Int):=by rw[←hw];unfold wdI;have:=jE;split<;>omega
 generalize (2 ^ 512:Nat)=B at *;refine⟨by rw[e1];exact k1,byOmega⟩
def shq (q:Rat):Nat×Nat:=(bJ q.num,bJ q.den)
variable {q:Rat}
def rT (h:QW q):(shq q).1<W8∧(shq q).2<W8:=⟨gZ h.1,gZ h.2⟩
theorem iW (q:Rat):mG q=shV (shq q).1 (shq q).2:=rfl
def zj (h:QW q):rOf (shq q)=q∧okS (shq q).1 (shq q).2:=by
 have e1:wdI (shq q).1=q.num:=dQ h.1;have e2:wdI (shq q).2=(q.den:Int):=dQ h.2;refine⟨?_,?_,?_⟩;·unfold rOf;rw[e1,e2,uS]
 ·rw[e2];have:=q.den_pos;omega
 ·rw[e1,e2];have:=q.reduced;exact this
def Zee {h:IH} (a b c d:Nat):buildSlice Proofs.Tryz.prog h 61 2 [(0,shV a b),(1,shV c d)]=some (.slice (some ⟨2*h.n,0,none⟩) 2 5,h.new (.cells (shL [(a,b),(c,d)]) 16 none)):=by rw[Cl h 2 _ aP];have e:dF (fun i=>some (i*16,16)) (cj 2 [.int .u64 0,.int .u64 0,.int .u64 0,.int .u64 0,.int .u64 0,.int .u64 0,.int .u64 0,.int .u64 0,.int .u64 0,.int .u64 0,.int .u64 0,.int .u64 0,.int .u64 0,.int .u64 0,.int .u64 0,.int .u64 0]) [(0,shV a b),(1,shV c d)]=some (shL [(a,b),(c,d)]):=ab;rw[e];rfl
def VT {P:Program} {t:TypeId} {bytes:Nat} (hT:mR P t=some (4,bytes)) (hb:bytes≤1000) {R:IH→QQ→Rat→Prop} (kR:Kept R) {h:IH} {n0:Nat} {v:QQ} {l:List Rat} {cs:List QQ} (a:Acc h n0 4 v l.length cs) (hc:nN R h l cs) {x1 x2 x3 x4:QQ} {q:Rat} (r:R h (.agg #[x1,x2,x3,x4]) q) (o:([x1,x2,x3,x4]:List QQ).all aM=true) (hl:l.length<100000) (h0:n0≤h.n) {h0':IH} (e0:Ext h0' h) (hn0:h0'.n≤n0) :∃v' h',append P (h.new (.cells [x1,x2,x3,x4] 4 none)) t v (.slice (some ⟨2*h.n,0,none⟩) 1 3)=some (v',h')∧Acc h' n0 4 v' (l ++ [q]).length (cs ++ [x1,x2,x3,x4])∧nN R h' (l ++ [q]) (cs ++ [x1,x2,x3,x4])∧Grow h h'∧Ext h0' h':=by
 have hsz:(l.length+1)*(bytes+1)≤1099511627776:=by have:(l.length+1)*(bytes+1)≤100000*1001:=fB byOmega byOmega;omega
 obtain⟨v',h',b1,b2,b3,b4⟩:=a.uR hT (m:=1) (new:=[x1,x2,x3,x4]) byOmega rfl o hsz h0 e0 hn0;exact⟨v',h',b1,by simpa using b2,(hc.snoc r).ae kR b3.ae,b3,b4⟩


end Go.Id
namespace Go.Id
open Go
open Go renaming Operand→QY,Program→QX,TypeId→QZ,Value→QQ
open Nat renaming reduceAdd→zA,reduceEqDiff→zE,reduceLeDiff→zL
open Nat (reduceMul)
set_option maxHeartbeats 16000000
def HL (r:kN) (c:Code):kN:={ r with state:=.done,pending:=some c }
@[reducible] def Zgw (k:Nat) (r:kN) (K:Value→IH→Prop) (e:cL) (_:Fr) (h:IH):Prop :=
 h.ext.get k=some (.loop (Fx r))∧match e with
  | .normal=>K (.bool true) (h.put k (.loop r))
  | .exit i=>K (.bool false) (h.put k (.loop (HL r (.exit i))))
  | .ret=>K (.bool false) (h.put k (.loop (HL r .ret)))
@[reducible] def asgK (P:Program) (k:Nat) (r:kN) (K:Value→IH→Prop) (e:cL) (fr:Fr) (h:IH):Prop :=
 e=.normal∧h.ext.get k=some (.loop r)∧Do (wpC P r.fn r.nt (some k) r.body fr (h.put k (.loop (Fx r)))) (Zgw k r K) nx
def YH (k:Nat) (r:kN) (fr:Fr) (Q:cL→Fr→IH→Prop) (h1:IH):Prop :=
 (h1.ext.get k=some (.loop r)∧Q .normal fr (h1.put k .dead))∨(∃i,h1.ext.get k=some (.loop (HL r (.exit i)))∧Q (.exit i) fr (h1.put k .dead))∨(h1.ext.get k=some (.loop (HL r .ret))∧Q .ret fr (h1.put k .dead))
open Go.Proofs.Tryz (prog)
def aX.OK {a b:IH} (g:aX a b) {k:Nat} (hk : ∀c e f,b.ext.get k=some (.cells c e f)→e=0) (o:cB):aX a (b.put k o):=⟨g.n,g.base,fun j c e f1 hj hg he=>by
 obtain⟨f2,h2⟩:=g.get j c e f1 hj hg he;refine⟨f2,?_⟩;rw[lK,ad];·exact h2
 ·rintro rfl;exact he (hk _ _ _ h2)⟩
end Go.Id
namespace Go.Id
open Go
open Go renaming Operand→QY,Program→QX,TypeId→QZ,Value→QQ
open Nat renaming reduceAdd→zA,reduceEqDiff→zE,reduceLeDiff→zL
open Nat (reduceMul)
set_option maxHeartbeats 16000000
def Pf (P:Program) (h:IH) (ts:Array TypeId) (k:IntKind) (a b:Int):builtin P h .min ts [.int k a,.int k b]=some (.int k (if b<a then b else a),h):=by
 have h1:aD P (Builtin.min_ ts 0 #[.int k a,.int k b])=some (.int k (if b<a then b else a)):=by unfold Builtin.min_;simp;rfl
 show(bif [Value.int k a,Value.int k b].all plain then (dO P (Builtin.min_ ts 0 #[.int k a,.int k b])).map (·,h) else none)=_;simp only[dO,h1];rfl
open Go.Proofs.Tryz (prog)

abbrev ZdT (e:Int):Value:=.tuple #[shV 0 0,KI e]
theorem LP (l:List (Nat×Nat)) (p:Nat×Nat):shL (l ++ [p])=shL l ++ shC p.1 p.2:=by simp[shL]
def xL (h:IH) (v:QQ) (n d:Int):Prop:=∃a s b t,v=.agg #[a,s,b,t]∧bU h (.agg #[a,s]) n∧bU h (.agg #[b,t]) d
variable {h:IH}{n:Int}{v:QQ}{h':IH}{d:Int}
def xL.ae (p:xL h v n d) (e:aX h h'):xL h' v n d:=let ⟨a,s,b,t,h1,h2,h3⟩:=p;⟨a,s,b,t,h1,h2.ae e,h3.ae e⟩
def fX (h:IH) (v:QQ) (q:Rat):Prop:=xL h v q.num q.den
def fX.ae {q:Rat} (p:fX h v q) (e:aX h h'):fX h' v q:=xL.ae p e
variable {z:Int}
def bU.dJ (d:bU h v z) : ∃s,v=.agg #[.bool (decide (z<0)),s]∧s.cells = #[s]∧aM s=true:=let ⟨s,n,a,b,c,_⟩:=d.form;⟨s,a,b,c⟩
def bU.co {a s:QQ} (d:bU h (.agg #[a,s]) z):a=.bool (decide (z<0))∧s.cells = #[s]∧aM s=true:=by obtain⟨s',h1,h2,h3⟩:=d.dJ;cases h1;exact⟨rfl,h2,h3⟩
def WD (hd:d<0):n / (-(Int.gcd n d:Int))=(Rat.divInt n d).num∧d / (-(Int.gcd n d:Int))=(Rat.divInt n d).den:=by obtain⟨a,b⟩:=CB (n:=n) hd;rw[Dh,Dh];exact⟨a,b⟩
def nw {w:QQ} (hv:bU h v n) (hw:bU h w d) (sn:bE n) (sd:bE d) (d0:d≠0) :WV Proofs.Tryz.prog (.func (.func 184) #[] #[]) [v,w] h fun r h'=>Ext h h'∧fX h' r (Rat.divInt n d):=by
 obtain⟨s,rfl,c1,o1⟩:=hv.dJ;obtain⟨t,rfl,c2,o2⟩:=hw.dJ;have sg:bE (Int.gcd n d:Int):=by have h1:Int.gcd n d≤d.natAbs:=CW byOmega (Iy _ _);exact mi (sd.le h1)
 refine enter (nt:=32) (rs:=[.cell 4 177]) Proofs.Tryz.func184 rfl rfl rfl aa ?_;simp -dsimp (disch:=try exact dx) only[wpS,wpT,zE,zL,zA,jF,de];obtain⟨H0,hH0,n0,E0,g0,g1,g2⟩:=kK h [.bool (decide (n<0)),s] [.bool (decide (d<0)),t] ZR;rw[←hH0];clear hH0;refine call (Fc (hv.ae E0.ae) (hw.ae E0.ae) sn sd) ?_;rintro _ h1 ⟨hE1,hg⟩;obtain⟨sg1,rfl,c3,o3⟩:=hg.dJ;have hng:decide ((Int.gcd n d:Int)<0)=false:=aY byOmega;rw[hng] at hg ⊢;have x1:=E0.trans hE1;have n1:=(hE1).n;try simp only[bj,bd] at n1
 simp -dsimp (disch:=try exact dx) only[wpS,wpT,zE,zL,zA,ou,jI,fM,ld4,o3,aw (hE1.kept byOmega g1),vk];obtain⟨H2,hH2⟩:=bm ((h1.new (.cells ZL 0 none)).put h1.n (.cells [.bool false,sg1] 0 none));have e2:Ext h1 H2:=by rw[hH2];exact((Ext.refl _).new _).put (ar _) _
 have n2:H2.n=h1.n+1:=by rw[hH2];rfl
 have gg:H2.ext.get h1.n=some (.cells [.bool false,sg1] 0 none):=by rw[hH2];simp (disch:=try exact dx) only[ak]
 rw[←hH2];clear hH2;have x2:=x1.trans e2;have kk0:=e2.kept byOmega (hE1.kept byOmega g0);have kk1:=e2.kept byOmega (hE1.kept byOmega g1);have kk2:=e2.kept byOmega (hE1.kept byOmega g2);refine jm (fun fr2 H3 => ∃(g:Int) (ag sg2:QQ),Ext h H3∧h1.n+1≤H3.n∧H3.ext.get h.n=some (.cells [.bool (decide (n<0)),s] 0 none)∧H3.ext.get (h.n+1)=some (.cells [.bool (decide (d<0)),t] 0 none)∧H3.ext.get (h.n+1+1)=some (.cells ZR 0 none)∧H3.ext.get h1.n=some (.cells [ag,sg2] 0 none)∧bU H3 (.agg #[ag,sg2]) g∧bE g∧g≠0∧n / g=(Rat.divInt n d).num∧d / g=(Rat.divInt n d).den ∧bU H3 (.agg #[.bool (decide (n<0)),s]) n∧bU H3 (.agg #[.bool (decide (d<0)),t]) d∧aj fr2 2=some (ptr (2*h.n) 0)∧aj fr2 3=some (ptr (2*(h.n+1)) 0)∧aj fr2 4=some (ptr (2*(h.n+1+1)) 0)∧aj fr2 5=some (ptr (2*h1.n) 0)) (fun hb=>?_) (fun hb=>?_) ?_
 ·have hd:d<0:=by simpa using hb
  obtain⟨b1,b2⟩:=WD (n:=n) hd;simp -dsimp (disch:=try exact dx) only[wpS,wpT,zE,zL,zA,de,aw gg,vk];refine call (IZ (hg.ae e2.ae)) ?_;rintro _ h3 ⟨hE3,hT⟩;obtain⟨sT,rfl,c4,o4⟩:=hT.dJ;have n3:=(hE3).n;try simp only[bj,bd] at n3
  have kg:=hE3.kept byOmega gg;simp -dsimp (disch:=try exact dx) only[wpS,wpT,zE,zL,zA,jI,kg,o4];have kp:=(aX.refl h3).put kg (.cells [.bool (decide (-(Int.gcd n d:Int)<0)),sT] 0 none);have x3:=x2.trans hE3;have hng:=EM (n:=n) (d:=d) byOmega;refine⟨-(Int.gcd n d:Int),_,sT,x3.put byOmega _,by simp only[bd];omega,by simp (disch:=try exact dx) only[ax];exact hE3.kept byOmega kk0,by simp (disch:=try exact dx) only[ax];exact hE3.kept byOmega kk1,by simp (disch:=try exact dx) only[ax];exact hE3.kept byOmega kk2,ak _ _ rfl,hT.ae kp,by rw[bE,Int.natAbs_neg];exact sg,byOmega,b1,b2,hv.ae (x3.ae.trans kp),hw.ae (x3.ae.trans kp),aa,aa,aa,aa⟩
 ·have hd:0<d:=by
   have : ¬d<0:=by simpa using hb
   omega
  obtain⟨b1,b2⟩:=rq (n:=n) hd;simp -dsimp (disch:=try exact dx) only[wpS,wpT];exact⟨Int.gcd n d,_,sg1,x2,byOmega,kk0,kk1,kk2,gg,hg.ae e2.ae,sg,EM d0,b1,b2,hv.ae x2.ae,hw.ae x2.ae,aa,aa,aa,aa⟩
 clear hg kk0 kk1 kk2 gg x2 e2;rintro fr2 H3 ⟨g,ag,sg2,x3,n3,k0,k1,k2,kg,hg,sgg,g0',b1,b2,hv3,hw3,f2,f3,f4,f5⟩;rw[mY];simp -dsimp (disch:=try exact dx) only[wpS,wpT,zE,zL,zA,de,f2,f5,aw k0,aw kg,vk];refine call (Hh hv3 hg sn sgg g0') ?_;rintro _ h4 ⟨hE4,q,u,rfl,hq,hu⟩;rw[b1] at hq;obtain⟨sq,rfl,c4,o4⟩:=hq.dJ;obtain⟨su,rfl,c5,o5⟩:=hu.dJ;have n4:=(hE4).n;try simp only[bj,bd] at n4
 have x4:=x3.trans hE4;simp -dsimp (disch:=try exact dx) only[wpS,wpT,zE,zL,zA,de,ou,jI,o4,o5,f3,f5,aw (hE4.kept byOmega k1),aw (hE4.kept byOmega kg),vk];obtain⟨H5,hH5⟩ : ∃H4,H4=((((h4.new (.cells ZL 0 none)).new (.cells ZL 0 none)).put h4.n (.cells [.bool (decide ((Rat.divInt n d).num<0)),sq] 0 none)).put (h4.n+1) (.cells [.bool (decide (n % g<0)),su] 0 none)):=⟨_,rfl⟩;have e5:Ext h4 H5:=by rw[hH5];exact((((Ext.refl _).new _).new _).put (ar _) _).put byOmega _
 have n5:H5.n=h4.n+2:=by rw[hH5];rfl
 have gq:H5.ext.get h4.n=some (.cells [.bool (decide ((Rat.divInt n d).num<0)),sq] 0 none):=by rw[hH5];simp (disch:=try exact dx) only[ak,ax]
 rw[←hH5];clear hH5;refine call (Hh (hw3.ae (hE4.trans e5).ae) (hg.ae (hE4.trans e5).ae) sd sgg g0') ?_;rintro _ h6 ⟨hE6,q2,u2,rfl,hq2,hu2⟩;rw[b2] at hq2;obtain⟨sq2,rfl,c6,o6⟩:=hq2.dJ;obtain⟨su2,rfl,c7,o7⟩:=hu2.dJ;have n6:=(hE6).n;try simp only[bj,bd] at n6
 have hdf:decide (((Rat.divInt n d).den:Int)<0)=false:=aY byOmega;rw[hdf] at hq2 ⊢;have x6:=(x4.trans e5).trans hE6;have kq:=hE6.kept byOmega gq;have kr:=hE6.kept byOmega (e5.kept byOmega (hE4.kept byOmega k2));simp -dsimp (disch:=try exact dx) only[wpS,wpT,zE,zL,zA,de,ou,jI,Sc,Cv,Cu,fS,fU,o6,o7,f4,aw kq,kr,o4,vk,fm];refine⟨?_,_,_,_,_,rfl,hq.ae ((e5.trans hE6).ae.trans ?_),hq2.ae ?_⟩;·exact((((x6.new _).new _).put byOmega _).put byOmega _).put byOmega _
 ·exact(((((aX.refl h6).new _).new _).put (cs:=ZL) (f:=none) (by simp (disch:=try exact dx) only[aq,aE]) _).put (cs:=ZL) (f:=none) (by simp (disch:=try exact dx) only[aq,ax]) _).put (cs:=ZR) (f:=none) (by simp (disch:=try exact dx) only[aE,ax];exact kr) _
 ·exact(((((aX.refl h6).new _).new _).put (cs:=ZL) (f:=none) (by simp (disch:=try exact dx) only[aq,aE]) _).put (cs:=ZL) (f:=none) (by simp (disch:=try exact dx) only[aq,ax]) _).put (cs:=ZR) (f:=none) (by simp (disch:=try exact dx) only[aE,ax];exact kr) _
end Go.Id
