/-
  Contracts: the reference's long integers, third part: sums, differences, comparisons.
-/
import Derived.Test.YtnnmjocmapilaaaGreatTemperRoundsAj
set_option linter.unusedVariables false
set_option linter.unusedSimpArgs false
set_option linter.defProp false
set_option linter.deprecated false
namespace Go.Id
open Go
open Go renaming Operand→QY,Program→QX,TypeId→QZ,Value→QQ
open Nat renaming reduceAdd→zA,reduceEqDiff→zE,reduceLeDiff→zL
open Nat (reduceMul)
set_option maxHeartbeats 16000000
open Go.Proofs.Tryz (prog)
section
variable {x:Nat}
@[irreducible] def Small (x:Nat):Prop:=x<4294967296 ^ 1000000
theorem Small.lt (h:Small x):x<4294967296 ^ 1000000:=by unfold Small at h;exact h
def Small.mk (h:x<4294967296 ^ 1000000):Small x:=by unfold Small;exact h
theorem Small.le {y:Nat} (h:Small x) (k:y≤x):Small y:=.mk (il k h.lt)
def Norm.small {ds:List Nat} (h:Norm ds) (hs:Small (aM ds)):ds.length≤1000000:=by
 by_cases hne:ds = [];·subst hne;simp
 ·have h1:=h.ge hne
  have h2:4294967296 ^ (ds.length - 1)<4294967296 ^ 1000000:=il h1 hs.lt;have:=(Gm (a:=4294967296) aa).1 h2;omega
abbrev bQ (z:Int):Prop:=Small z.natAbs
variable {h:IH}{v:Value}
def GK {z:Int} (hv:bP h v z):WV Proofs.Tryz.prog (.func (.func 233) #[] #[]) [v] h fun r h'=>Ext h h'∧bP h' r (-z):=by
 obtain⟨s,rfl,ds,hD,hN,hx⟩:=hv;refine enter (nt:=9) (rs:=[.cell 2 175]) Proofs.Tryz.func233 rfl rfl rfl ab ?_;simp -dsimp (disch:=try exact dx) only[wpS,zE,ff,gV,ld4,iZ,jF];refine call (oz (hD.ai (((bj.refl h).new _).new _)) _) ?_;rintro r h1 ⟨hE,s1,rfl,h2⟩;have hg:h1.ext.get (h.n+1)=some (.cells [.bool false,.slice none 0 0] 0 none):=by rw[hE.get _ ab];exact ar _ _ rfl
 obtain⟨ds1,hD1,hr1⟩:=h2;simp -dsimp (disch:=try exact dx) only[wpS,wpT,zE,zL,zA,cZ,cj,hg,hD1.1.cok];refine⟨((((Ext.refl h).new _).new _).trans hE).put aa _,?_⟩;have hz:(if (!decide (z<0))=true then -(aM ds:Int) else aM ds) = -z:=by by_cases h0:z<0<;>simp[h0]<;>omega
 rw[hz] at hr1 ⊢;exact⟨s1,rfl,ds1,hD1.ai ((bj.refl _).put hg _),hr1⟩
def qM {w:Value} {x y:Int} (hv:bP h v x) (hw:bP h w y) (sx:bQ x) (sy:bQ y) :WV Proofs.Tryz.prog (.func (.func 141) #[] #[]) [v,w] h fun r h'=>Ext h h'∧bP h' r (x+y):=by
 obtain⟨s,rfl,a,ha,na,hx⟩:=hv;obtain⟨t,rfl,b,hb,nb,hy⟩:=hw;have la:a.length≤1000000:=na.small (by rw[hx];exact sx);have lb:b.length≤1000000:=nb.small (by rw[hy];exact sy);refine enter (nt:=40) (rs:=[.cell 4 175]) Proofs.Tryz.func141 rfl rfl rfl ab ?_;simp -dsimp (disch:=try exact dx) only[wpS,zE,zA,ff,gV,ld4,be4];have kk : ∀o1 o2 o3,bj h (((h.new o1).new o2).new o3):=fun o1 o2 o3=>(((bj.refl h).new _).new _).new _;have ee : ∀o1 o2 o3,Ext h (((h.new o1).new o2).new o3):=fun o1 o2 o3=>(((Ext.refl h).new _).new _).new _;refine aG (fun hc=>?_) (fun hc=>?_)
 ·have hc:(x<0↔y<0):=by simpa using hc
  simp -dsimp (disch:=try exact dx) only[wpS];refine drawn [(1,[7])] ae ae rfl ?_;simp -dsimp (disch:=try exact dx) only[wpS,zE,gV,ld4,iZ,jF];refine call (Uo (ha.ai (kk _ _ _)) (hb.ai (kk _ _ _)) aa aa) ?_;rintro r h1 ⟨hE,os,hD,tF⟩;simp -dsimp (disch:=try exact dx) only[wpS,zE];refine call (oz hD _) ?_;rintro r2 h2 ⟨hE2,s1,rfl,ds1,hD1,hr1⟩;have hg:h2.ext.get (h.n+1+1)=some (.cells [.bool false,.slice none 0 0] 0 none):=by rw[hE2.get _ (by have:=hE.n;simp at this;omega),hE.get _ ab];exact ar _ _ rfl
  have gO : ∀k',k'≤h.n→True:=fun _ _=>trivial;have hr0:h1.row (2*h.n)=some [.bool (decide (x<0)),s]:=by rw[hE.row bd];simp -dsimp (disch:=try exact dx) only[wpS]
  simp -dsimp (disch:=try exact dx) only[wpS,wpT,zE,zL,zA,cZ,hg,hD1.1.cok];refine⟨az rfl rfl rfl rfl (aO (av:=ptr (2*h.n) 0) (v:=.bool (decide (x<0))) rfl ?_ ?_),?_⟩
  ·simp -dsimp (disch:=try exact dx) only[wpS,ld4]
  ·simp -dsimp (disch:=try exact dx) only[wpS,ld4,hr0]
  ·simp -dsimp (disch:=try exact dx) only[wpS,wpT,zE,zL,zA,cj];refine⟨(((ee _ _ _).trans hE).trans hE2).put aa _,?_⟩;have hz:(if decide (x<0)=true then -(aM os:Int) else aM os)=x+y:=by by_cases h0:x<0<;>simp[h0]<;>omega
   rw[hz] at hr1 ⊢;exact⟨s1,rfl,ds1,hD1.ai ((bj.refl _).put hg _),hr1⟩
 ·have hc : ¬(x<0↔y<0):=by simpa using hc
  simp -dsimp (disch:=try exact dx) only[wpS,zE,iZ,jF];refine call (C6 (ha.ai (kk _ _ _)) (hb.ai (kk _ _ _)) na nb) ?_;rintro r h1 ⟨rfl,c,rfl,hc1,hc2,hc3,hc4⟩;simp -dsimp (disch:=try exact dx) only[wpS,zE];refine aG ?_ ?_<;>intro hc5<;>simp only[aS,aV] at hc5
  ·simp -dsimp (disch:=try exact dx) only[wpS,wpT];refine drawn [(1,[7])] ae ae rfl ?_;simp -dsimp (disch:=try exact dx) only[wpS,zE,gV,ld4,iZ,jF];refine call (BP (ha.ai (kk _ _ _)) (hb.ai (kk _ _ _)) nb aa) ?_;rintro r h1 ⟨hE,os,hD,hN,tF⟩;simp -dsimp (disch:=try exact dx) only[wpS,zE];refine call (oz hD _) ?_;rintro r2 h2 ⟨hE2,s1,rfl,ds1,hD1,hr1⟩;have hg:h2.ext.get (h.n+1+1)=some (.cells [.bool false,.slice none 0 0] 0 none):=by rw[hE2.get _ (by have:=hE.n;simp at this;omega),hE.get _ ab];exact ar _ _ rfl
   have hr0:h1.row (2*h.n)=some [.bool (decide (x<0)),s]:=by rw[hE.row bd];simp -dsimp (disch:=try exact dx) only[wpS]
   simp -dsimp (disch:=try exact dx) only[wpS,wpT,zE,zL,zA,cZ,hg,hD1.1.cok];refine⟨az rfl rfl rfl rfl (aO (av:=ptr (2*h.n) 0) (v:=.bool (decide (x<0))) rfl ?_ ?_),?_⟩
   ·simp -dsimp (disch:=try exact dx) only[wpS,ld4]
   ·simp -dsimp (disch:=try exact dx) only[wpS,ld4,hr0]
   ·simp -dsimp (disch:=try exact dx) only[wpS,wpT,zE,zL,zA,cj];refine⟨(((ee _ _ _).trans hE).trans hE2).put aa _,?_⟩;have hz:(if decide (x<0)=true then -(aM os:Int) else aM os).natAbs=(x+y).natAbs∧((if decide (x<0)=true then -(aM os:Int) else aM os)<0↔x+y<0):=by by_cases h0:x<0<;>simp[h0]<;>omega
    rw[hz.1] at hr1;refine⟨s1,?_,ds1,hD1.ai ((bj.refl _).put hg _),hr1⟩;simp only[hz.2]<;>rfl
  ·simp -dsimp (disch:=try exact dx) only[wpS,wpT];refine drawn [(1,[7])] ae ae rfl ?_;simp -dsimp (disch:=try exact dx) only[wpS,zE,gV,ld4,iZ,jF];refine call (BP (hb.ai (kk _ _ _)) (ha.ai (kk _ _ _)) na aa) ?_;rintro r h1 ⟨hE,os,hD,hN,tF⟩;simp -dsimp (disch:=try exact dx) only[wpS,zE];refine call (oz hD _) ?_;rintro r2 h2 ⟨hE2,s1,rfl,ds1,hD1,hr1⟩;have hg:h2.ext.get (h.n+1+1)=some (.cells [.bool false,.slice none 0 0] 0 none):=by rw[hE2.get _ (by have:=hE.n;simp at this;omega),hE.get _ ab];exact ar _ _ rfl
   have hr0:h1.row (2*(h.n+1))=some [.bool (decide (y<0)),t]:=by rw[hE.row bd];simp -dsimp (disch:=try exact dx) only[wpS]
   simp -dsimp (disch:=try exact dx) only[wpS,wpT,zE,zL,zA,cZ,hg,hD1.1.cok];refine⟨az rfl rfl rfl rfl (aO (av:=ptr (2*(h.n+1)) 0) (v:=.bool (decide (y<0))) rfl ?_ ?_),?_⟩
   ·simp -dsimp (disch:=try exact dx) only[wpS,ld4]
   ·simp -dsimp (disch:=try exact dx) only[wpS,ld4,hr0]
   ·simp -dsimp (disch:=try exact dx) only[wpS,wpT,zE,zL,zA,cj];refine⟨(((ee _ _ _).trans hE).trans hE2).put aa _,?_⟩;have hz:(if decide (y<0)=true then -(aM os:Int) else aM os).natAbs=(x+y).natAbs∧((if decide (y<0)=true then -(aM os:Int) else aM os)<0↔x+y<0):=by by_cases h0:y<0<;>simp[h0]<;>omega
    rw[hz.1] at hr1;refine⟨s1,?_,ds1,hD1.ai ((bj.refl _).put hg _),hr1⟩;simp only[hz.2]<;>rfl
end
section
variable {h:IH}{v:Value}
def bP.form {z:Int} (d:bP h v z) : ∃s n,v=.agg #[.bool (decide (z<0)),s]∧s.cells = #[s]∧bB s=true∧(∀{P:Program} {t:TypeId} (_:fm P (some t)=true) (h':IH),tE P h' t s=some (.int .i64 ((n:Nat):Int)))∧(n=0↔z=0):=by obtain⟨s,rfl,ds,hD,hN,hx⟩:=d;refine⟨s,ds.length,rfl,hD.1.cells,hD.1.cok,fun hT h'=>hD.1.len hT h',?_⟩;have:=hN.ow;rw[hx] at this;rw[jK,←this];omega
variable {x y:Int}{w:Value}
def Dg (hv:bP h v x) (hw:bP h w y) (sx:bQ x) (sy:bQ y) :WV Proofs.Tryz.prog (.func (.func 220) #[] #[]) [v,w] h fun r h'=>Ext h h'∧bP h' r (x - y):=by
 obtain⟨s,n1,rfl,c1,o1,l1,z1⟩:=hv.form;obtain⟨t,n2,rfl,c2,o2,l2,z2⟩:=hw.form;refine enter (nt:=9) (rs:=[.cell 4 175]) Proofs.Tryz.func220 rfl rfl rfl ab ?_;simp -dsimp (disch:=try exact dx) only[wpS,zE,zA,ff];have kk : ∀o1 o2 o3,bj h (((h.new o1).new o2).new o3):=fun o1 o2 o3=>(((bj.refl h).new _).new _).new _;have ee : ∀o1 o2 o3,Ext h (((h.new o1).new o2).new o3):=fun o1 o2 o3=>(((Ext.refl h).new _).new _).new _;refine drawn [(0,[3])] ae ae rfl ?_;simp -dsimp (disch:=try exact dx) only[wpS,wpT,zE,zL,zA,cj];refine call (GK (hw.ai (kk _ _ _))) ?_;rintro r h1 ⟨hE,hT⟩;simp -dsimp (disch:=try exact dx) only[wpS,zE];refine call (qM (hv.ai ((kk _ _ _).trans hE.ai)) hT sx (by rw[bQ,Int.natAbs_neg];exact sy)) ?_;rintro r2 h2 ⟨hE2,hr⟩;obtain⟨s1,n3,rfl,c3,o3,l3,z3⟩:=hr.form;have hg:h2.ext.get (h.n+1+1)=some (.cells [.bool false,.slice none 0 0] 0 none):=by rw[hE2.get _ (by have:=hE.n;simp at this;omega),hE.get _ ab];exact ar _ _ rfl
 have hr0:h1.row (2*h.n)=some [.bool (decide (x<0)),s]:=by rw[hE.row bd];simp -dsimp (disch:=try exact dx) only[wpS]
 simp -dsimp (disch:=try exact dx) only[wpS,wpT,zE,zL,zA,cZ,hg,o3];refine⟨az rfl rfl rfl rfl (aO (av:=ptr (2*h.n) 0) (v:=.agg #[.bool (decide (x<0)),s]) rfl ?_ ?_),?_⟩
 ·simp -dsimp (disch:=try exact dx) only[wpS,wpT,zL,zA,cj];rfl
 ·simp -dsimp (disch:=try exact dx) only[wpS,wpT,zL,zA,cj,hr0];rfl
 ·simp -dsimp (disch:=try exact dx) only[wpS,wpT,zE,zL,zA,cj];refine⟨(((ee _ _ _).trans hE).trans hE2).put aa _,?_⟩;have:x + -y=x - y:=aa;rw[this] at hr ⊢;exact hr.ai ((bj.refl _).put hg _)
def nZ (hv:bP h v x) (hw:bP h w y) (sx:bQ x) (sy:bQ y) :WV Proofs.Tryz.prog (.func (.func 143) #[] #[]) [v,w] h fun r h'=>Ext h h'∧r=KI (if x<y then -1 else if y<x then 1 else 0):=by
 obtain⟨s,n1,rfl,c1,o1,l1,z1⟩:=hv.form;obtain⟨t,n2,rfl,c2,o2,l2,z2⟩:=hw.form;refine enter (nt:=15) (rs:=[.tmp 4]) Proofs.Tryz.func143 rfl rfl rfl ab ?_;simp -dsimp (disch:=try exact dx) only[wpS,wpT,zE,zL,zA,cj];refine call (Dg (hv.ai (((bj.refl h).new _).new _)) (hw.ai (((bj.refl h).new _).new _)) sx sy) ?_;rintro r h1 ⟨hE,hr⟩;obtain⟨s1,n3,rfl,c3,o3,l3,z3⟩:=hr.form;have hE2:Ext h h1:=(((Ext.refl h).new _).new _).trans hE;simp -dsimp (disch:=try exact dx) only[wpS,wpT,zE,zL,zA,ff,cZ,gV,ld4,o3];refine aG ?_ ?_<;>intro hc<;>simp only[aS,aV] at hc
 ·simp -dsimp (disch:=try exact dx) only[wpS,wpT,zE];refine⟨(hE2.new _).put hE2.n _,?_⟩;rw[aq aa]
 ·simp -dsimp (disch:=try exact dx) only[wpS,wpT,zE,iZ,jF,l3 dY];refine aG ?_ ?_<;>intro hc2<;>simp only[aS,aV] at hc2
  ·simp -dsimp (disch:=try exact dx) only[wpS,wpT,zE];refine⟨(hE2.new _).put hE2.n _,?_⟩;rw[ah aa,aq aa]
  ·simp -dsimp (disch:=try exact dx) only[wpS,wpT];refine⟨(hE2.new _).put hE2.n _,?_⟩;rw[ah aa,ah aa]
end
end Go.Id
namespace Go.Id
section
def wrd (n i:Nat):Nat:=n / 18446744073709551616 ^ i % 18446744073709551616
def xk (n i:Nat):wrd n i<18446744073709551616:=ec _ aa
theorem BN (n i:Nat):n % 18446744073709551616 ^ (i+1)=n % 18446744073709551616 ^ i+18446744073709551616 ^ i*wrd n i:=Nat.mod_pow_succ
theorem pow_two (i:Nat):4294967296 ^ (2*i)=18446744073709551616 ^ i:=by rw[wY]
theorem G7 (i:Nat):4294967296 ^ (2*i+1)=4294967296*18446744073709551616 ^ i:=by rw[eH,pow_two,gE]
variable {j i n:Nat}
theorem lI (h:n<18446744073709551616 ^ i) (hj:i≤j):wrd n j=0:=by have:n<18446744073709551616 ^ j:=cB h (fA aa hj);rw[wrd,mM this]
variable {x:Nat}
theorem um (hj:j<i):wrd (n+x*18446744073709551616 ^ i) j=wrd n j:=by
 obtain⟨d,rfl⟩ : ∃d,i=j+1+d:=⟨i - j - 1,aa⟩;rw[wrd,wrd,show x*18446744073709551616 ^ (j+1+d)=18446744073709551616 ^ j*(18446744073709551616*(x*18446744073709551616 ^ d)) from by
  rw[dT,dT];grind]
 rw[Nat.add_mul_div_left _ _ (gM aa),Cd]
theorem xo (h:n<18446744073709551616 ^ (i+1)) (hx:wrd n i+x<18446744073709551616):wrd (n+x*18446744073709551616 ^ i) i=wrd n i+x:=by
 have h1:n / 18446744073709551616 ^ i<18446744073709551616:=by rw[oT (gM aa)];rw[eH] at h;rw[gE];exact h
 have h2:wrd n i=n / 18446744073709551616 ^ i:=dR h1;rw[wrd,Nat.add_mul_div_right _ _ (gM aa),←h2,dR hx]
theorem Gf (h:n<18446744073709551616 ^ (i+1)) (hx:wrd n i+x<18446744073709551616):n+x*18446744073709551616 ^ i<18446744073709551616 ^ (i+1):=by
 have h1:n / 18446744073709551616 ^ i<18446744073709551616:=by rw[oT (gM aa)];rw[eH] at h;rw[gE];exact h
 have h2:wrd n i=n / 18446744073709551616 ^ i:=dR h1;have hp:0<18446744073709551616 ^ i:=gM aa;have h3:=mN n (18446744073709551616 ^ i);have h4:=ec n hp;rw[h2] at hx;have h5:(n / 18446744073709551616 ^ i+x+1)*18446744073709551616 ^ i≤18446744073709551616*18446744073709551616 ^ i:=dU _ aa;rw[eH];generalize 18446744073709551616 ^ i=p at *;have h6:(n / p+x+1)*p=p*(n / p)+x*p+p:=gh;rw[gE 18446744073709551616 p] at h5;omega
@[irreducible] def W8:Nat:=18446744073709551616 ^ 8
@[irreducible] def H8:Nat:=9223372036854775808*18446744073709551616 ^ 7
theorem Gg:W8=18446744073709551616 ^ 8:=by unfold W8;rfl
def HM:W8=2*H8:=by unfold W8 H8;rfl
theorem D5:W8=4294967296 ^ 16:=by unfold W8;rfl
theorem Ye:H8=2147483648*4294967296 ^ 15:=by unfold H8;rfl
def AB:9223372036854775808<H8:=by unfold H8;decide
def wdI (n:Nat):Int:=if n<H8 then (n:Int) else (n:Int) - W8
def Wo (h:n<W8):wrd n 7<9223372036854775808↔n<H8:=by
 rw[Gg] at h;unfold H8;have h1:n / 18446744073709551616 ^ 7<18446744073709551616:=by rw[oT (gM aC)];exact h
 rw[wrd,dR h1,oT (gM aC)]
end
open Go
open Go renaming Operand→QY,Program→QX,TypeId→QZ,Value→QQ
open Nat renaming reduceAdd→zA,reduceEqDiff→zE,reduceLeDiff→zL
open Nat (reduceMul)
set_option maxHeartbeats 16000000
open Go.Proofs.Tryz (prog)
def wdC (n:Nat):List Value:=(List.range 8).map fun i=>K64 (wrd n i)
def wdV (n:Nat):Value:=.agg (wdC n).toArray
theorem aD (n:Nat):(wdC n).length=8:=by simp[wdC]
theorem dI (n i:Nat) (hi:i<8):(wdC n)[i]?=some (K64 (wrd n i)):=by simp[wdC,hi]
def EK (n:Nat):(wdV n).cells.toList=wdC n:=rfl
def aW (n:Nat):(wdC n).all bB=true:=by simp[wdC,bB]
def Ph {h:IH} (n:Nat):WV Proofs.Tryz.prog (.func (.func 217) #[] #[]) [wdV n] h fun r h'=>Ext h h' ∧ ∃os,kW h' r os∧os.length=16∧aM os=n % W8:=by
 refine enter (nt:=23) (rs:=[.tmp 2]) Proofs.Tryz.func217 rfl rfl rfl ab ?_;simp -dsimp (disch:=try exact dx) only[wpS,EK];refine loop (fun m fr h1 => ∃(i:Nat) (os:List Nat) (out:Value),i+m=8∧ax fr 1=some (ptr (2*h.n) 0)∧ax fr 3=some out∧ax fr 4=some (KN i)∧os.length=2*i∧dh os∧aM os=n % 18446744073709551616 ^ i ∧Acc h1 (h.n+1) 1 out (2*i) (os.map KN)∧Ext (h.new (.cells (wdC n) 0 none)) h1) 8 ⟨0,[],.slice none 0 0,ab,ab,ab,ab,rfl,fun d hd=>(by cases hd),by simp[aM,bm,Nat.mod_one],Acc.nil _ _ aa,Ext.refl _⟩ ?_;rintro m fr h1 ⟨i,os,out,him,f1,f3,f4,hos,hd,hv,hA,hE⟩;have hr:h1.row (2*h.n)=some (wdC n):=by rw[hE.row ab];exact pF _ _ _ _ rfl
 simp -dsimp (disch:=try exact dx) only[wpS,Nat.reduceEqDiff,f4];refine aG ?_ ?_<;>intro hc<;>simp only[aS,aV] at hc
 ·have hi:i<8:=aa;have hw:=xk n i;have e1:((wrd n i:Int) % 4294967296)=((wrd n i % 4294967296:Nat):Int):=aa;have e2:((wrd n i:Int) / 4294967296)=((wrd n i / 4294967296:Nat):Int):=aa;simp -dsimp (disch:=try exact dx) only[wpS,wpT];refine drawn [(3,[12]),(8,[12])] ae ae rfl ?_;obtain⟨cV,h',hap,hA',hG,hE'⟩:=hA.app2 (P:=Proofs.Tryz.prog) (t:=25) wg (x:=KN (wrd n i % 4294967296)) (y:=KN (wrd n i / 4294967296)) rfl rfl aa hE.n hE ab;simp -dsimp (disch:=try exact dx) only[wpS,wpT,Nat.reduceEqDiff,Nat.reduceLeDiff,Nat.reduceAdd,Nat.reduceMul,pN,oa,Ao,kS,ju,f1,f3,f4,hr,pN,dI n i hi,e1,e2,hap];refine⟨oj (az rfl rfl rfl rfl (aO (av:=ptr (2*h.n) (0+i)) (v:=K64 (wrd n i)) ab ?_ ?_)) (az rfl rfl rfl rfl (aO (av:=ptr (2*h.n) (0+i)) (v:=K64 (wrd n i)) ab ?_ ?_)),?_⟩
  ·simp -dsimp (disch:=try exact dx) only[wpS,oa,hr,dI n i hi]
  ·have:=hE.n;simp at this;simp -dsimp (disch:=try exact dx) only[wpS,oa,hr,dI n i hi]
  ·simp -dsimp (disch:=try exact dx) only[wpS,oa,hr,dI n i hi]
  ·have:=hE.n;simp at this;simp -dsimp (disch:=try exact dx) only[wpS,oa,hr,dI n i hi]
  ·simp -dsimp (disch:=try exact dx) only[wpS,wpT,Nat.reduceEqDiff,Nat.reduceAdd,f4];refine⟨m - 1,aa,i+1,os ++ [wrd n i % 4294967296] ++ [wrd n i / 4294967296],cV,aa,by simp[f1],ab,ab,by simp[hos];omega,(hd.append aa).append aa,?_,?_,hE'⟩
   ·rw[mq,mq,hv,BN];have h1:(os ++ [wrd n i % 4294967296]).length=2*i+1:=by simp[hos]
    rw[h1,hos,pow_two,G7];have h2:wrd n i % 4294967296+4294967296*(wrd n i / 4294967296)=wrd n i:=Nat.mod_add_div _ _;generalize hx:wrd n i % 4294967296=x at *;generalize hy:wrd n i / 4294967296=y at *;rw[←h2];grind
   ·have:List.map KN os ++ [KN (wrd n i % 4294967296),KN (wrd n i / 4294967296)]=(os ++ [wrd n i % 4294967296] ++ [wrd n i / 4294967296]).map KN:=ab;rw[←this];exact hA'
 ·obtain rfl:i=8:=aa;simp -dsimp (disch:=try exact dx) only[wpS,wpT,Nat.reduceEqDiff,f3];exact⟨((Ext.refl h).new _).trans hE,os,⟨by rw[hos];exact hA.sl,hd,aa⟩,hos,by rw[Gg];exact hv⟩
def fW (n:Nat):List.take 8 (List.drop 0 (wdC n))=wdC n:=by rw[cC,fB (by rw[aD];omega)]
set_option maxRecDepth 100000 in
def lT {h:IH} (n:Nat) (hn:n<W8):WV Proofs.Tryz.prog (.func (.func 136) #[] #[]) [wdV n] h fun r h'=>Ext h h'∧bP h' r (wdI n):=by
 refine enter (nt:=20) (rs:=[.cell 2 175]) Proofs.Tryz.func136 rfl rfl rfl ab ?_;simp -dsimp (disch:=try exact dx) only[wpS,zE,zL,ff,bY,EK,aD,fW];refine call (Ph n) ?_;rintro d h1 ⟨hE,os,hD,hos,tF⟩;rw[dR hn] at tF;have hE1:Ext h h1:=(((Ext.refl h).new _).new _).trans hE;have hr:h1.row (2*h.n)=some (wdC n):=by rw[hE.row bd];simp -dsimp (disch:=try exact dx) only[wpS]
 have h7:=Wo hn;simp -dsimp (disch:=try exact dx) only[wpS,wpT,zE,zA,reduceMul,Int.reduceToNat,pN,oa,Ls,gl,hr,pN,dI n 7 aa,show ua 7 8=some 7 from rfl];refine aG ?_ ?_<;>intro hc<;>simp only[aS,aV] at hc
 ·simp -dsimp (disch:=try exact dx) only[wpS,wpT,zE];refine call (oz hD false) ?_;rintro r h2 ⟨hE2,hr2⟩;have hg:h2.ext.get (h.n+1)=some (.cells [.bool false,.slice none 0 0] 0 none):=by rw[hE2.get _ (by have:=hE.n;simp at this;omega),hE.get _ ab];exact ar _ _ rfl
  obtain⟨s1,n3,rfl,c3,o3,l3,z3⟩:=hr2.form;simp -dsimp (disch:=try exact dx) only[wpS,wpT,zE,zL,zA,reduceMul,Int.reduceToNat,cZ,Ls,gl,cj,hg,o3];refine⟨(hE1.trans hE2).put aa _,?_⟩;have:(if false=true then -(aM os:Int) else aM os)=wdI n:=by rw[wdI,aq (h7.1 aa),tF];rfl
  rw[this] at hr2 ⊢;exact hr2.ai ((bj.refl _).put hg _)
 ·simp -dsimp (disch:=try exact dx) only[wpS,wpT,zE,zA,reduceMul,Int.reduceToNat,Ls,gl];simp -dsimp (disch:=try exact dx) only[wpS,wpT,zE,zL,zA,st3,show ua 16 17=some 16 from rfl];have hE3 : ∀a b:cX,Ext h1 ((h1.new a).put h1.n b):=fun a b=>((Ext.refl h1).new _).put (aA _) _;refine call (Ap (hD.ai (hE3 _ _).ai)) ?_;rintro c h2 ⟨rfl,ds,hDs,hNs,hvs⟩;have hW:kW ((h1.new (.cells (List.map KN [0,0,0,0,0,0,0,0,0,0,0,0,0,0,0,0,0]) 1 none)).put h1.n (.cells (List.map KN [0,0,0,0,0,0,0,0,0,0,0,0,0,0,0,0,1]) 1 none)) (.slice (some ⟨2*h1.n,0,none⟩) 17 35) [0,0,0,0,0,0,0,0,0,0,0,0,0,0,0,0,1] :=
   ⟨fX (f:=none) (aj _ _ rfl) ab aa rfl aa ab,by intro d hd;simp at hd;omega,ab⟩
  have hWv:aM [0,0,0,0,0,0,0,0,0,0,0,0,0,0,0,0,1]=W8:=by rw[D5];simp[aM,bm]
  simp -dsimp (disch:=try exact dx) only[wpS,zE];refine call (BP hW hDs hNs (by rw[hWv,hvs,tF];omega)) ?_;rintro e h3 ⟨hE4,es,hDe,hNe,hve⟩;rw[hWv,hvs,tF] at hve;simp -dsimp (disch:=try exact dx) only[wpS,zE];refine call (oz hDe true) ?_;rintro r h4 ⟨hE5,hr2⟩;have hz:(if true=true then -(aM es:Int) else aM es)=wdI n:=by
   have UB : ¬n<H8:=by rw[←h7];omega
   rw[aq rfl,wdI,ah UB,hve];omega
  rw[hz] at hr2;have hE6:=(hE3 _ _).trans (hE4.trans hE5);have hg:h4.ext.get (h.n+1)=some (.cells [.bool false,.slice none 0 0] 0 none):=by rw[hE6.get _ (by have:=hE.n;simp at this;omega),hE.get _ ab];exact ar _ _ rfl
  obtain⟨s1,n3,rfl,c3,o3,l3,z3⟩:=hr2.form;simp -dsimp (disch:=try exact dx) only[wpS,wpT,zE,zL,zA,cZ,cj,hg,o3];refine⟨(hE1.trans hE6).put aa _,?_⟩;exact hr2.ai ((bj.refl _).put hg _)
section
def InW (z:Int):Prop:=-(H8:Int)≤z∧z<H8
instance (z:Int):Decidable (InW z):=inferInstanceAs (Decidable (_∧_))
def bN (z:Int):Nat:=if 0≤z then z.toNat else W8 - z.natAbs
variable {z:Int}
def gJ (h:InW z):bN z<W8:=by have:=HM;unfold InW at h;unfold bN;split<;>omega
theorem eE (h:InW z):wdI (bN z)=z:=by
 have:=HM;unfold InW at h;unfold wdI bN;split;·rw[aq aa];omega
 ·rw[ah aa];omega
abbrev pf (z:Int):Value:=wdV (bN z)
abbrev ZW:Value:=.int .u64 0
theorem lJ:wdC 0 = [ZW,ZW,ZW,ZW,ZW,ZW,ZW,ZW]:=by simp[wdC,wrd,sM]
theorem Ut:aM [0,0,0,0,0,0,0,0,0,0,0,0,0,0,0,2147483648]=H8:=by rw[Ye];simp[aM,bm]
theorem N7:aM [0,0,0,0,0,0,0,0,0,0,0,0,0,0,0,0,1]=W8:=by rw[D5];simp[aM,bm]
def TE {n i x:Nat} (hi:i<8) (hn:n<18446744073709551616 ^ (i+1)) (hx:wrd n i+x<18446744073709551616):(wdC n).set i (K64 (wrd n i+x))=wdC (n+x*18446744073709551616 ^ i):=by
 apply iO;intro j;rw[re];by_cases hij:i=j;·subst hij;rw[aq rfl,dI _ _ hi,aD,aq hi,xo hn hx]
 ·rw[ah hij];by_cases hj:j<8
  ·rw[dI _ _ hj,dI _ _ hj];by_cases hlt:j<i
   ·rw[um hlt]
   ·rw[lI hn aa,lI (Gf hn hx) aa]
  ·rw[cy (by rw[aD];omega),cy (by rw[aD];omega)]
set_option maxRecDepth 100000 in
def tw {h:IH} {v:Value} (hv:bP h v z) :WV Proofs.Tryz.prog (.func (.func 116) #[] #[]) [v] h fun r h'=>Ext h h'∧r=if InW z then .tuple #[pf z,KI 0] else .tuple #[wdV 0,KI 6]:=by
 obtain⟨s,rfl,ds,hD,hN,hx⟩:=hv;have hl:=hD.2.2;refine enter (nt:=63) (rs:=[.cell 2 30,.tmp 3]) Proofs.Tryz.func116 rfl rfl rfl ab ?_;simp -dsimp (disch:=try exact dx) only[wpS,wpT,zE,zL,zA,reduceMul,Int.reduceToNat,fa,Ls,gl,st3,iZ,jF,show ua 15 16=some 15 from rfl];have hL:kW ((((h.new (.cells [.bool (decide (z<0)),s] 0 none)).new (.cells [ZW,ZW,ZW,ZW,ZW,ZW,ZW,ZW] 0 none)).new (.cells (List.map KN [0,0,0,0,0,0,0,0,0,0,0,0,0,0,0,0]) 1 none)).put (h.n+1+1) (.cells (List.map KN [0,0,0,0,0,0,0,0,0,0,0,0,0,0,0,2147483648]) 1 none)) (.slice (some ⟨2*(h.n+1+1),0,none⟩) 16 33) [0,0,0,0,0,0,0,0,0,0,0,0,0,0,0,2147483648] :=
  ⟨fX (f:=none) (aj _ _ rfl) ab aa rfl aa ab,by intro d hd;simp at hd;omega,ab⟩
 have hE : ∀a b c d:cX,Ext h ((((h.new a).new b).new c).put (h.n+1+1) d):=fun a b c d=>((((Ext.refl h).new _).new _).new _).put aa _;refine call (C6 (hD.ai (hE _ _ _ _).ai) hL hN (.inr ab)) ?_;rintro r h1 ⟨e1,c,rfl,hc1,hc2,hc3,hc4⟩;have g1:h1.row (2*h.n)=some [.bool (decide (z<0)),s]:=by rw[e1];simp -dsimp (disch:=try exact dx) only[wpS]
 have g2:h1.ext.get (h.n+1)=some (.cells [ZW,ZW,ZW,ZW,ZW,ZW,ZW,ZW] 0 none):=by rw[e1];simp -dsimp (disch:=try exact dx) only[wpS]
 have g3:Ext h h1:=by rw[e1];exact hE _ _ _ _
 have g4:h.n+1<h1.n:=by rw[e1];simp
 clear e1 hL hE;rw[Ut,hx] at hc1 hc2;have hW8:=HM;by_cases hW:InW z
 ·have hc:c<0∨c=0∧z<0:=by unfold InW at hW;omega
  simp -dsimp (disch:=try exact dx) only[wpR,zE];rw[mE];refine cut (fun fr2 h2=>h2=h1∧ax fr2 2=some (ptr (2*(h.n+1)) 0)∧ax fr2 1=some (ptr (2*h.n) 0)) ?_ ?_
  ·rcases hc with hc|⟨rfl,hz⟩
   ·simp -dsimp (disch:=try exact dx) only[wpS,wpT,zE];exact⟨rfl,ab,ab⟩
   ·simp -dsimp (disch:=try exact dx) only[wpS,wpT,zE,gV,ld4,g1,zb hz];exact⟨rfl,ab,ab⟩
  ·rintro fr2 h2 ⟨rfl,f2,f1⟩;simp -dsimp (disch:=try exact dx) only[wpS,zE,fa,iZ,jF,gV,ld4,g1,f1];refine jQ (fun fr3 h3=>ax fr3 2=some (ptr (2*(h.n+1)) 0)∧Ext h2 h3 ∧ ∃d ds2,ax fr3 6=some d∧kW h3 d ds2∧aM ds2=bN z∧ds2.length≤16) (fun hz=>?_) (fun hz=>?_) ?_
   ·simp only[aS] at hz
    simp -dsimp (disch:=try exact dx) only[wpS,wpT,zE,zL,zA,reduceMul,Int.reduceToNat,Ls,gl,st3,show ua 16 17=some 16 from rfl];have hE3 : ∀a b:cX,Ext h2 ((h2.new a).put h2.n b):=fun a b=>((Ext.refl h2).new _).put (aA _) _;have hWW:kW ((h2.new (.cells (List.map KN [0,0,0,0,0,0,0,0,0,0,0,0,0,0,0,0,0]) 1 none)).put h2.n (.cells (List.map KN [0,0,0,0,0,0,0,0,0,0,0,0,0,0,0,0,1]) 1 none)) (.slice (some ⟨2*h2.n,0,none⟩) 17 35) [0,0,0,0,0,0,0,0,0,0,0,0,0,0,0,0,1] :=
     ⟨fX (f:=none) (aj _ _ rfl) ab aa rfl aa ab,by intro d hd;simp at hd;omega,ab⟩
    refine call (BP hWW (hD.ai (g3.trans (hE3 _ _)).ai) hN (by rw[N7,hx];unfold InW at hW;omega)) ?_;rintro e h3 ⟨hE4,es,hDe,hNe,hve⟩;rw[N7,hx] at hve;have hv2:aM es=bN z:=by rw[hve,bN,ah aa]
    simp -dsimp (disch:=try exact dx) only[wpS,zE];refine⟨by simp[f2],(hE3 _ _).trans hE4,e,es,ab,hDe,hv2,?_⟩;have h5:=gJ hW;rw[←hv2,D5] at h5;by_cases hne:es = [];·subst hne;simp
    ·have h6:=hNe.ge hne
     have h7:=(Gm (a:=4294967296) aa).1 (il h6 h5);omega
   ·simp only[aV] at hz
    simp -dsimp (disch:=try exact dx) only[wpS,wpT];have hv2:aM ds=bN z:=by rw[hx,bN,aq aa];omega
    refine⟨by simp[f2],Ext.refl _,s,ds,ab,hD.ai g3.ai,hv2,?_⟩;have h5:=gJ hW;rw[←hv2,D5] at h5;by_cases hne:ds = [];·subst hne;simp
    ·have h6:=hN.ge hne
     have h7:=(Gm (a:=4294967296) aa).1 (il h6 h5);omega
   ·rintro fr3 h3 ⟨f2,hE3,d,ds2,f6,hD2,hv2,hl2⟩;simp -dsimp (disch:=try exact dx) only[wpS,fa];have hlen:=hD2.2.2;refine loop (fun m fr h4 => ∃i:Nat,i+m=ds2.length∧ax fr 2=some (ptr (2*(h.n+1)) 0)∧ax fr 6=some d∧ax fr 8=some (ptr (2*h3.n) 0)∧ax fr 9=some (KN i)∧h3.n<h4.n∧h4.ext.get h3.n=some (.cells (wdC (bm ds2 i)) 0 none)∧Ext h3 h4) ds2.length ⟨0,ab,by simp[f2],by simp[f6],ab,ab,ab,by rw[bm,lJ];exact ar _ _ rfl,(Ext.refl h3).new _⟩ ?_;rintro m fr h4 ⟨i,him,f2,f6,f8,f9,hn4,hg4,hE4⟩;simp -dsimp (disch:=try exact dx) only[wpS,zE,f6,f9,hD2.1.len dY];refine aG ?_ ?_<;>intro hc<;>simp only[aS,aV] at hc
    ·have hi:i<ds2.length:=aa;have dd:=cK hD2.2.1 i;have hvl:=kX hD2.2.1 i;have gO:h4.row (2*h3.n)=some (wdC (bm ds2 i)):=by rw[mW];exact DP hg4
     have e1:((i:Int) / 2)=((i / 2:Nat):Int):=aa;have hi8:i / 2<8:=aa;obtain⟨x,hsh,hx1,hx2⟩ : ∃x:Nat,(∀t o1 o2,binop Proofs.Tryz.prog .shl t o1 o2 (K64 (ds2.getD i 0)) (.int .i64 (32*((i:Int) % 2)))=some (K64 x))∧bm ds2 (i+1)=bm ds2 i+x*18446744073709551616 ^ (i / 2)∧wrd (bm ds2 i) (i / 2)+x<18446744073709551616:=by
      rcases Nat.mod_two_eq_zero_or_one i with hm|hm
      ·obtain⟨k,rfl⟩ : ∃k,i=2*k:=⟨i / 2,aa⟩;have hk:2*k / 2=k:=aa;refine⟨ds2.getD (2*k) 0,fun t o1 o2=>?_,?_,?_⟩
       ·have e2:(32*(((2*k:Nat):Int) % 2))=((0:Nat):Int):=aa;rw[e2,ML _ _ _ _ aa aa];simp
       ·rw[bm,hk,pow_two]
       ·rw[hk,lI (by rw[←pow_two];exact hvl) (aA _)];omega
      ·obtain⟨k,rfl⟩ : ∃k,i=2*k+1:=⟨i / 2,aa⟩;have hk:(2*k+1) / 2=k:=aa;refine⟨ds2.getD (2*k+1) 0*4294967296,fun t o1 o2=>?_,?_,?_⟩
       ·have e2:(32*(((2*k+1:Nat):Int) % 2))=((32:Nat):Int):=aa;rw[e2,ML _ _ _ _ aa aa]
       ·rw[bm,hk,G7];grind
       ·rw[hk];rw[G7] at hvl;have h8:bm ds2 (2*k+1) / 18446744073709551616 ^ k<4294967296:=by rw[oT (gM aa)];exact hvl
        have h9:wrd (bm ds2 (2*k+1)) k≤bm ds2 (2*k+1) / 18446744073709551616 ^ k:=Nat.mod_le _ _;omega
     have hwl:bm ds2 i<18446744073709551616 ^ (i / 2+1):=by have h8:4294967296 ^ i≤4294967296 ^ (2*(i / 2+1)):=fA aa aa;rw[pow_two] at h8;omega
     have LL:=TE hi8 hwl hx2;rw[←hx1] at LL;have LK:IH.bf (wdC (bm ds2 i)) (i / 2) [.int .u64 ((wrd (bm ds2 i) (i / 2):Int)+(x:Int))]=wdC (bm ds2 (i+1)):=by rw[jM (by rw[aD];exact hi8),←LL];rfl
     have hwr:=xk (bm ds2 i) (i / 2);simp -dsimp (disch:=try exact dx) only[wpS,wpT,zE,zL,pN,oa,An,rp,f6,f8,f9,e1,pN,gO,dI _ _ hi8,hD2.1.idx gl hi,hD2.1.ld hE4.ai (P:=Proofs.Tryz.prog) (t:=3) (c:=i) (by simpa using hi) ag3,dF,get_some hi,hsh,hg4,aD,LK];refine⟨m - 1,aa,i+1,aa,by simp[f2],by simp[f6],by simp[f8],ab,by simpa using hn4,aj _ _ rfl,hE4.put (aA _) _⟩
    ·obtain rfl:i=ds2.length:=aa;have hgz:h4.ext.get (h.n+1)=some (.cells [ZW,ZW,ZW,ZW,ZW,ZW,ZW,ZW] 0 none):=by rw[hE4.get _ (by have:=hE3.n;omega),hE3.get _ g4];exact g2
     have gO:h4.row (2*h3.n)=some (wdC (bN z)):=by rw[mW,←hv2];exact DP hg4
     have LK:IH.bf [ZW,ZW,ZW,ZW,ZW,ZW,ZW,ZW] 0 (wdC (bN z))=wdC (bN z):=jN (by rw[aD];rfl);simp -dsimp (disch:=try exact dx) only[wpS,wpT,zE,zL,zA,dw,bY,f2,f8,gO,hgz,aD,fW,aW,LK];refine⟨((g3.trans hE3).trans hE4).put aa _,?_⟩;rw[aq hW];rfl
 ·have hc:0<c∨c=0 ∧ ¬z<0:=by unfold InW at hW;omega
  rcases hc with hc|⟨hc,hz⟩
  ·simp -dsimp (disch:=try exact dx) only[wpS,wpT,zE,zL,zA,kQ,dw,bY,g2];refine⟨g3.put aa _,?_⟩;rw[ah hW,wdV,lJ];rfl
  ·subst hc;simp -dsimp (disch:=try exact dx) only[wpS,wpT,zE,zL,zA,gV,ld4,kQ,dw,bY,g1,g2,zd hz];refine⟨g3.put aa _,?_⟩;rw[ah hW,wdV,lJ];rfl
end
section
theorem wo (n:Int):IntKind.u64.wrap n=n % 18446744073709551616:=by simp[IntKind.wrap,IntKind.bits,IntKind.signed]
def P8 (n:Nat):(wdV n).cells.toList=wdC n:=rfl
abbrev fS (n:Int):Prop:=-9223372036854775808≤n∧n<9223372036854775808
def Li (b:Nat) (hb:0<b) (m k:Nat) (h:m≤k):b ^ m≤b ^ k:=fA hb h
def MJ {n:Int} (h:n.natAbs≤18446744073709551616):bQ n:=by have h1:=Li 4294967296 aC 3 1000000 aC;have h2:(4294967296:Nat) ^ 3=79228162514264337593543950336:=aC;unfold bQ Small;refine cB ?_ h1;omega
def WE {z:Int} (h:InW z):bQ z:=by have h1:=Li 4294967296 aC 16 1000000 aC;rw[←D5] at h1;have h2:=HM;have h3:=AB;unfold InW at h;unfold bQ Small;refine cB ?_ h1;omega
variable {h:IH}
set_option maxRecDepth 100000 in
def fY (n:Int) (hn:fS n):WV Proofs.Tryz.prog (.func (.func 117) #[] #[]) [KI n] h fun r h'=>Ext h h'∧bP h' r n:=by
 have hB : ∃u:Nat,u=n.natAbs:=⟨_,rfl⟩;obtain⟨u,hu⟩:=hB;refine enter (nt:=21) (rs:=[.cell 2 175]) Proofs.Tryz.func117 rfl rfl rfl ab ?_;simp -dsimp (disch:=try exact dx) only[wpR];rw[mE];simp -dsimp (disch:=try exact dx) only[wpR,ff];rw[mE];simp -dsimp (disch:=try exact dx) only[wpR,zE];rw[mE];simp -dsimp (disch:=try exact dx) only[wpR,zE,An];rw[mE];refine cut (fun fr2 h2=>h2=h.new (.cells [.bool false,.slice none 0 0] 0 none)∧ax fr2 2=some (ptr (2*h.n) 0)∧ax fr2 3=some (.bool (decide (n<0)))∧ax fr2 4=some (K64 u)) ?_ ?_
 ·by_cases hz:n<0
  ·have e1:IntKind.u64.wrap n=n+18446744073709551616:=by rw[wo];omega
   have e2:IntKind.u64.wrap (-(n+18446744073709551616))=(u:Int):=by rw[wo];omega
   simp -dsimp (disch:=try exact dx) only[wpS,zE,zb hz,e1,e2];exact⟨rfl,ab,by simp[hz],ab⟩
  ·have e1:n=(u:Int):=aa;simp -dsimp (disch:=try exact dx) only[wpS,zE,zd hz];exact⟨rfl,ab,aT,by simp;exact e1⟩
 ·rintro fr2 h2 ⟨rfl,f2,f3,f4⟩;have e1:((u:Int) % 4294967296)=((u % 4294967296:Nat):Int):=aa;have e2:((u:Int) / 4294967296)=((u / 4294967296:Nat):Int):=aa;simp -dsimp (disch:=try exact dx) only[wpS,wpT,zE,zL,zA,reduceMul,Ao,kS,f3,f4,e1,e2];have hD:kW ((h.new (.cells [.bool false,.slice none 0 0] 0 none)).new (.cells (List.map KN [u % 4294967296,u / 4294967296]) 1 none)) (.slice (some ⟨2*(h.n+1),0,none⟩) 2 5) [u % 4294967296,u / 4294967296] :=
   ⟨fX (f:=none) (ar _ _ rfl) ab aa rfl aa ab,by intro d hd;simp at hd;omega,ab⟩
  refine call (oz hD _) ?_;rintro r h1 ⟨hE,hr⟩;have hz:(if decide (n<0)=true then -(aM [u % 4294967296,u / 4294967296]:Int) else aM [u % 4294967296,u / 4294967296])=n:=by
   have:aM [u % 4294967296,u / 4294967296]=u:=by simp[aM,bm];omega
   rw[this];by_cases h0:n<0<;>simp[h0]<;>omega
  rw[hz] at hr;obtain⟨s1,n3,rfl,c3,o3,l3,z3⟩:=hr.form;have hg:h1.ext.get h.n=some (.cells [.bool false,.slice none 0 0] 0 none):=by rw[hE.get _ bd];simp -dsimp (disch:=try exact dx) only[wpS]
  simp -dsimp (disch:=try exact dx) only[wpS,wpT,zE,zL,zA,cZ,cj,f2,hg,o3];refine⟨((((Ext.refl h).new _).new _).trans hE).put aa _,?_⟩;exact hr.ai ((bj.refl _).put hg _)
def yB (n:Int) (hn:fS n):WV Proofs.Tryz.prog (.func (.func 43) #[] #[]) [KI n] h fun r h'=>Ext h h'∧r=pf n:=by
 refine enter (nt:=12) (rs:=[.cell 2 30]) Proofs.Tryz.func43 rfl rfl rfl ab ?_;simp -dsimp (disch:=try exact dx) only[wpS,zE,fa];refine call (fY n hn) ?_;rintro r h1 ⟨hE,hr⟩;simp -dsimp (disch:=try exact dx) only[wpS,zE];refine call (tw hr) ?_;rintro r2 h2 ⟨hE2,rfl⟩;have hW:InW n:=by have:=AB;unfold InW;omega
 rw[aq hW];have hg:h2.ext.get h.n=some (.cells [ZW,ZW,ZW,ZW,ZW,ZW,ZW,ZW] 0 none):=by rw[hE2.get _ (by have:=hE.n;simp at this;omega),hE.get _ ab];exact ar _ _ rfl
 have LK:IH.bf [ZW,ZW,ZW,ZW,ZW,ZW,ZW,ZW] 0 (wdC (bN n))=wdC (bN n):=jN (by rw[aD];rfl);have hlt:h.n<h2.n:=by have a1:=hE.n;have a2:=hE2.n;simp only[aH] at a1;omega
 simp -dsimp (disch:=try exact dx) only[wpS,wpT,zE,zL,zA,fa,dw,bY,P8,aD,aW,fW,LK,hg];exact⟨((((Ext.refl h).new _).trans hE).trans hE2 |>.new _).put aa _ |>.put aa _,rfl⟩
end
end Go.Id
namespace Go.Id
section
variable {ds:List Nat}{w k:Nat}
theorem fZ (hk:k<ds.length) (j:Nat):(ds.set k w).getD j 0=if j=k then w else ds.getD j 0:=by
 simp only[bH,re];by_cases h:k=j;·subst h;simp[hk]
 ·rw[ah h,ah (fun x=>h x.symm)]
def ux {ds:List Nat} {k w:Nat} (hk:k<ds.length) : ∀n,bm (ds.set k w) n+(if k<n then ds.getD k 0*4294967296 ^ k else 0)=bm ds n+(if k<n then w*4294967296 ^ k else 0)
 | 0=>by simp[bm]
 | n+1=>by
  have ih:=ux (w:=w) hk n;rw[bm,bm,fZ hk];by_cases h1:k<n;·rw[aq h1,aq h1] at ih;rw[aq (show k<n+1 by omega),aq (show k<n+1 by omega),ah (show ¬n=k by omega)];omega
  ·rw[ah h1,ah h1] at ih;by_cases h2:n=k
   ·subst h2;rw[aq (lj n),aq (lj n),aq rfl];omega
   ·rw[ah (show ¬k<n+1 by omega),ah (show ¬k<n+1 by omega),ah h2];omega
def lM (w:Nat) (hk:k<ds.length):aM (ds.set k w)+ds.getD k 0*4294967296 ^ k=aM ds+w*4294967296 ^ k:=by have h:=ux (w:=w) hk ds.length;rw[aq hk,aq hk] at h;rw[aM,aM,dB];exact h
theorem rE (m:Nat) : ∀n,bm (List.replicate m 0) n=0
 | 0=>rfl
 | n+1=>by
  rw[bm,rE m n];have:(List.replicate m 0).getD n 0=0:=by rw[bH,Gv];split<;>rfl
  rw[this];simp
theorem nQ (m:Nat):aM (List.replicate m 0)=0:=rE m _
def oe (m j:Nat):(List.replicate m 0).getD j 0=0:=by rw[bH,Gv];split<;>rfl
def dh.set (h:dh ds) (k:Nat) (hw:w<4294967296):dh (ds.set k w):=by
 intro d hd;rcases xg hd with h1|h1;·exact h d h1
 ·omega
theorem dh.de (m:Nat):dh (List.replicate m 0):=by intro d hd;rw[List.mem_replicate] at hd;omega
def Norm.Nt (h:Norm ds) {m:Nat} (hs:aM ds<4294967296 ^ m):ds.length≤m:=by
 apply di;intro hn;have hne:ds ≠ []:=by intro h0;subst h0;simp at hn
 have h1:=h.ge hne;have h2:4294967296 ^ m≤4294967296 ^ (ds.length - 1):=fA aa aa;omega
end
section
variable {ds:List Nat}
def yh (h:dh ds) : ∀{n k:Nat},n≤k→bm ds k % 4294967296 ^ n=bm ds n
 | n,0,hk=>by obtain rfl:n=0:=aa;simp[bm]
 | n,k+1,hk=>by
  by_cases hn:n=k+1;·subst hn;exact dR (kX h _)
  ·have ih:=yh h (show n≤k by omega)
   rw[bm];have hd:4294967296 ^ n∣ds.getD k 0*4294967296 ^ k:=qV (wZ _ aa) (zx _ _);obtain⟨c,hc⟩:=hd;rw[hc,Cd,ih]
theorem u7 (h:dh ds) (j:Nat):ds.getD j 0=aM ds / 4294967296 ^ j % 4294967296:=by
 have hp:=uI j;by_cases hj:j<ds.length
 ·have e1:bm ds (j+1)=aM ds % 4294967296 ^ (j+1):=(yh h (show j+1≤ds.length by omega)).symm;have e2:bm ds (j+1) / 4294967296 ^ j=ds.getD j 0:=by rw[bm,Nat.add_mul_div_right _ _ hp,mM (kX h j),fy]
  rw[←e2,e1,eH,B6]
 ·rw[fO aa];have h1:=mS h;have h2:4294967296 ^ ds.length≤4294967296 ^ j:=fA aa aa;rw[mM aa]
theorem MW (j:Nat):4294967296 ^ j=2 ^ (32*j):=by rw[wY]
variable {i k:Nat}
def XS (h:dh ds) (hk:k<32):ds.getD i 0 / 2 ^ k % 2=aM ds / 2 ^ (32*i+k) % 2:=by
 rw[u7 h,MW,dT,←Gq];generalize aM ds / 2 ^ (32*i)=x;have e2:4294967296=2 ^ k*2 ^ (32 - k):=by rw[←dT,show k+(32 - k)=32 by omega]
 rw[e2,B6];have:2∣2 ^ (32 - k):=⟨2 ^ (31 - k),by rw[←Nat.pow_succ'];congr 1;omega⟩;exact Nat.mod_mod_of_dvd _ this
def S7 (h:dh ds) (hk:k<32) (hd:2 ^ (32*i+k+1)∣aM ds):ds.getD i 0+2 ^ k<4294967296:=by
 have hd:2 ^ (k+1)∣ds.getD i 0:=by
  rw[u7 h,MW];obtain⟨c,hc⟩:=hd;have e:2 ^ (32*i+k+1)=2 ^ (32*i)*2 ^ (k+1):=by rw[←dT];congr 1
  rw[hc,e,w9,Nat.mul_div_cancel_left _ (gM aa)];have e2:4294967296=2 ^ (k+1)*2 ^ (31 - k):=by rw[←dT,show k+1+(31 - k)=32 by omega]
  rw[show(4294967296:Nat)=2 ^ (k+1)*2 ^ (31 - k) from e2];exact(Nat.dvd_mod_iff (xd _ _)).2 (xd _ _)
 have hlt:2 ^ k<2 ^ (k+1):=sG aa aa;have hw:=cK h i;obtain⟨c,hc⟩:=hd;rw[hc] at hw ⊢;have e2:4294967296=2 ^ (k+1)*2 ^ (31 - k):=by rw[←dT,show k+1+(31 - k)=32 by omega]
 rw[e2] at hw ⊢;have hc2:c<2 ^ (31 - k):=Nat.lt_of_mul_lt_mul_left hw;have:2 ^ (k+1)*(c+1)≤2 ^ (k+1)*2 ^ (31 - k):=Nat.mul_le_mul_left _ hc2;rw[sH,fI] at this;omega
def HP (a b K V r:Nat):Prop:=a=b*V+r*2 ^ K+a % 2 ^ K∧2 ^ K∣V∧r<b
theorem Np (a K:Nat):a % 2 ^ (K+1)=a / 2 ^ K % 2*2 ^ K+a % 2 ^ K:=by rw[eH,Nat.mod_mul,xf,gE]
variable {b K V a r:Nat}
def Sr (h:HP a b (K+1) V r) (hc:b≤2*r+a / 2 ^ K % 2):HP a b K (V+2 ^ K) (2*r+a / 2 ^ K % 2 - b):=by
 obtain⟨h1,h2,h3⟩:=h;rw[Np] at h1;have hb:=ec (a / 2 ^ K) (show 0<2 by omega);generalize a / 2 ^ K % 2=d at *;obtain⟨e,he⟩ : ∃e,2*r+d=b+e:=⟨2*r+d - b,aa⟩;refine⟨?_,?_,aa⟩
 ·rw[he,Nat.add_sub_cancel_left];rw[h1.trans (show _=(b*V+(2*r+d)*2 ^ K)+a % 2 ^ K by rw[eH];grind)];rw[he];have e3:(b*V+(b+e)*2 ^ K+a % 2 ^ K) % 2 ^ K=a % 2 ^ K:=by obtain⟨c,hc⟩:=qV (wZ 2 (jh K)) h2;rw[hc];have:b*(2 ^ K*c)+(b+e)*2 ^ K+a % 2 ^ K=a % 2 ^ K+2 ^ K*(b*c+(b+e)):=gh;rw[this,Cd,Nat.mod_mod]
  rw[e3];grind
 ·exact(Nat.dvd_add_right (qV (wZ _ aa) h2)).2 (Nat.dvd_refl _)
def Pq (h:HP a b (K+1) V r) (hc:2*r+a / 2 ^ K % 2<b):HP a b K V (2*r+a / 2 ^ K % 2):=by obtain⟨h1,h2,h3⟩:=h;rw[Np] at h1;refine⟨?_,qV (wZ _ aa) h2,hc⟩;rw[eH] at h1;generalize a / 2 ^ K % 2=d at *;have e:(2*r+d)*2 ^ K=r*(2 ^ K*2)+d*2 ^ K:=gh;omega
def Me (h:a / 2 ^ K<b):HP a b K 0 (a / 2 ^ K):=by refine⟨?_,Nat.dvd_zero _,h⟩;have:=mN a (2 ^ K);rw[gE (a / 2 ^ K)];omega
def Ss (h:HP a b 0 V r):V=a / b∧r=a % b:=by obtain⟨h1,_,h3⟩:=h;simp only[sF,fI,Nat.mod_one,gN] at h1;have e1:=Nat.mul_add_mod b V r;have e2:=Nat.mul_add_div (show 0<b by omega) V r;rw[←h1,dR h3] at e1;rw[←h1,mM h3,gN] at e2;exact⟨e2.symm,e1.symm⟩
theorem Ot (h:dh ds) (m:Nat):aM (ds.drop m)=aM ds / 4294967296 ^ m:=by
 induction m generalizing ds with
 | zero=>simp
 | succ m ih =>
  cases ds with
  | nil=>simp[aM,bm]
  | cons d ds =>
   have hd:dh ds:=fun x hx=>h x (by simp[hx]);have hd0:d<4294967296:=h d ab;rw[List.drop_succ_cons,ih hd,Ou,eH,gE (4294967296 ^ m),←Gq];congr 1;omega
def Norm.drop (h:Norm ds) (m:Nat):Norm (ds.drop m):=by
 by_cases hm:ds.length≤m;·left;exact List.drop_eq_nil_of_le hm
 ·rcases h with rfl|h
  ·left;simp
  ·right;rw[ra];have:(ds.drop m).getD (ds.length - m - 1) 0=ds.getD (ds.length - 1) 0:=by simp only[bH,kh];rw[show m+(ds.length - m - 1)=ds.length - 1 by omega]
   rw[this];exact h
def dh.drop (h:dh ds) (m:Nat):dh (ds.drop m):=fun d hd=>h d (List.mem_of_mem_drop hd)
end
open Go
open Go renaming Operand→QY,Program→QX,TypeId→QZ,Value→QQ
open Nat renaming reduceAdd→zA,reduceEqDiff→zE,reduceLeDiff→zL
open Nat (reduceMul)
set_option maxHeartbeats 16000000
open Go.Proofs.Tryz (prog)
section
variable {k:Nat}
def KO {os:List Nat} (x:Nat) (hk:k<os.length):IH.bf (os.map KN) k [KN x]=(os.set k x).map KN:=by rw[jM (by simpa using hk),xh]
def RC (l:List Nat):(l.map KN).all bB=true:=by simp[bB]
def MR (n:Nat):de n [KI 0]=(List.replicate n 0).map KN:=by rw[IQ,List.map_replicate];rfl
variable {h:IH}
def cJ {b:Nat} {cs:List QQ} {e:Nat} {f:Option Nat} (hg:h.ext.get b=some (.cells cs e f)):h.row (2*b)=some cs:=by rw[mW];simp only[IH.cells,hg]
variable {b:List Nat}{w v:QQ}{a:List Nat}
def Lg (ha:kW h v a) (hb:kW h w b) (hab:a.length+b.length≤1100000) :WV prog (.func (.func 221) #[] #[]) [v,w] h fun r h'=>Ext h h'∧Dig h' r (aM a*aM b):=by
 have eL:(a.length:Int)+(b.length:Int)=((a.length+b.length:Nat):Int):=aa;refine enter (nt:=68) (rs:=[.tmp 4]) Proofs.Tryz.func221 rfl rfl rfl ab ?_;simp -dsimp (disch:=try exact dx) only[wpS,zE,zA,Ls,ha.1.len dY,hb.1.len dY,eL,MR];refine loop (fun m fr h1 => ∃(i:Nat) (os:List Nat),i+m=a.length∧Ext h h1∧h.n<h1.n∧h1.ext.get h.n=some (.cells (os.map KN) 1 none)∧os.length=a.length+b.length∧dh os∧aM os=bm a i*aM b∧(∀k,i+b.length≤k→os.getD k 0=0) ∧ax fr 0=some v∧ax fr 1=some w∧ax fr 5=some (.slice (some ⟨2*h.n,0,none⟩) (a.length+b.length) (2*(a.length+b.length)+1))∧ax fr 6=some (KN i)) a.length ⟨0,List.replicate (a.length+b.length) 0,aa,(Ext.refl h).new _,ab,ar _ _ rfl,ab,dh.de _,by rw[nQ];simp[bm],fun k _=>oe _ _,ab,ab,ab,ab⟩ ?_;rintro m fr h1 ⟨i,os,him,hE,hn,hg,hol,hod,hov,hoz,f0,f1,f5,f6⟩;simp -dsimp (disch:=try exact dx) only[wpS,zE,f0,f6,ha.1.len dY];refine aG ?_ ?_<;>intro hc<;>simp only[aS,aV] at hc
 ·have hi:i<a.length:=aa;have da:=cK ha.2.1 i;generalize hx:a.getD i 0=x at *;simp -dsimp (disch:=try exact dx) only[wpS,wpT];refine loop (fun m2 fr h2 => ∃(j c:Nat) (os2:List Nat),j+m2=b.length∧Ext h h2∧h.n<h2.n∧h2.ext.get h.n=some (.cells (os2.map KN) 1 none)∧os2.length=a.length+b.length∧dh os2∧c<4294967296∧aM os2+c*4294967296 ^ (i+j)=bm a i*aM b+x*bm b j*4294967296 ^ i∧(∀k,i+b.length≤k→os2.getD k 0=0) ∧ax fr 0=some v∧ax fr 1=some w∧ax fr 5=some (.slice (some ⟨2*h.n,0,none⟩) (a.length+b.length) (2*(a.length+b.length)+1))∧ax fr 6=some (KN i)∧ax fr 7=some (K64 c)∧ax fr 8=some (KN j)) b.length ⟨0,0,os,aa,hE,hn,hg,hol,hod,aa,by rw[hov];simp[bm],hoz,by simp[f0],by simp[f1],by simp[f5],by simp[f6],ab,ab⟩ ?_;clear hE hn hg hol hod hov hoz f0 f1 f5 f6;rintro m2 fr h2 ⟨j,c,os2,hjm,hE,hn,hg,hol,hod,hc4,hov,hoz,f0,f1,f5,f6,f7,f8⟩;simp -dsimp (disch:=try exact dx) only[wpS,zE,f1,f8,hb.1.len dY];refine aG ?_ ?_<;>intro hc2<;>simp only[aS,aV] at hc2
  ·have hj:j<b.length:=aa;have db:=cK hb.2.1 j;have doo:=cK hod (i+j);have hr:h2.row (2*h.n)=some (os2.map KN):=cJ hg;have gx:=get_some hi;rw[hx] at gx;have gy:=get_some hj;have go:=get_some (show i+j<os2.length by omega);generalize hy:b.getD j 0=y at *;generalize ho:os2.getD (i+j) 0=o at *;have hp:x*y≤4294967295*4294967295:=jg aa aa;obtain⟨p,hpp⟩ : ∃p,p=x*y:=⟨_,rfl⟩;rw[←hpp] at hp;have eM:(x:Int)*(y:Int)=(p:Int):=by rw[hpp];simp
   have eI:(i:Int)+(j:Int)=((i+j:Nat):Int):=aa;obtain⟨s,hs⟩ : ∃s,s=c+o+p:=⟨_,rfl⟩;have eS:(c:Int)+(o:Int)+(p:Int)=(s:Int):=aa;have eR:(s:Int) % 4294967296=((s % 4294967296:Nat):Int):=aa;have eQ:(s:Int) / 4294967296=((s / 4294967296:Nat):Int):=aa;have spl:=KO (s % 4294967296) (show i+j<os2.length by omega);have gor:(os2.map KN)[i+j]?=some (KN o):=by rw[dM,go];rfl
   simp -dsimp (maxSteps:=1000000) (disch:=first|omega|(simp only[aH,aJ];omega)|decide +kernel|(repeat first|rw[aH]|rw[aJ])) only[wpS,wpT,zE,gl,ld3,An,Ao,st3,f0,f1,f5,f6,f7,f8,ha.1.idx gl hi,ha.1.ld hE.ai (P:=prog) (t:=3) (c:=i) (by simpa using hi) ag3,hb.1.idx gl hj,hb.1.ld hE.ai (P:=prog) (t:=3) (c:=j) (by simpa using hj) ag3,dF,gx,gy,hr,gor,eM,eI,eS,eR,eQ,hg,spl,cz,hol];refine⟨m2 - 1,aa,j+1,s / 4294967296,os2.set (i+j) (s % 4294967296),aa,hE.put (aA _) _,hn,aj _ _ rfl,by rw[dB,hol],hod.set _ aa,aa,?_,?_,by simp[f0],by simp[f1],by simp[f5],by simp[f6],ab,ab⟩
   ·have hv:=lM (s % 4294967296) (show i+j<os2.length by omega);rw[ho] at hv;have hsd:s % 4294967296+s / 4294967296*4294967296=c+o+x*y:=aa;rw[bm,hy];have e1:4294967296 ^ (i+(j+1))=4294967296 ^ (i+j)*4294967296:=by rw[←ma,eH]
    have e2:4294967296 ^ (i+j)=4294967296 ^ i*4294967296 ^ j:=dT _ _ _;rw[e1];have e3:s % 4294967296*4294967296 ^ (i+j)+s / 4294967296*(4294967296 ^ (i+j)*4294967296)=(c+o+x*y)*4294967296 ^ (i+j):=by rw[←hsd];grind
    have e4:x*(bm b j+y*4294967296 ^ j)*4294967296 ^ i=x*bm b j*4294967296 ^ i+x*y*4294967296 ^ (i+j):=by rw[e2];grind
    have e5:(c+o+x*y)*4294967296 ^ (i+j)=c*4294967296 ^ (i+j)+o*4294967296 ^ (i+j)+x*y*4294967296 ^ (i+j):=gh;omega
   ·intro k hk;rw[fZ aa,ah aa];exact hoz k hk
  ·obtain rfl:j=b.length:=aa;have hz:=hoz (i+b.length) (aA _);have eI:(i:Int)+(b.length:Int)=((i+b.length:Nat):Int):=aa;have spl:=KO c (show i+b.length<os2.length by omega);simp -dsimp (disch:=try exact dx) only[wpS,wpT,zE,gl,Ao,st3,f1,f5,f6,f7,hb.1.len dY,eI,hg,spl,cz,hol];refine⟨m - 1,aa,i+1,os2.set (i+b.length) c,aa,hE.put (aA _) _,hn,aj _ _ rfl,by rw[dB,hol],hod.set _ aa,?_,?_,by simp[f0],by simp[f1],by simp[f5],ab⟩
   ·have hv:=lM c (show i+b.length<os2.length by omega);rw[hz,kf,gN] at hv;rw[hv,hov,bm,hx,show bm b b.length=aM b from rfl];grind
   ·intro k hk;rw[fZ aa,ah aa];exact hoz k aa
 ·obtain rfl:i=a.length:=aa;have hD:kW h1 (.slice (some ⟨2*h.n,0,none⟩) (a.length+b.length) (2*(a.length+b.length)+1)) os:=by refine⟨?_,hod,aa⟩;rw[hol];exact fX hg hn aC (by rw[cz,hol];omega) aa aa
  simp -dsimp (disch:=try exact dx) only[wpS,wpT,zE,f5];refine call (Ap hD) ?_;rintro r h2 ⟨rfl,hr⟩;simp -dsimp (disch:=try exact dx) only[wpS,zE];rw[hov] at hr;exact⟨hE,hr⟩
def Qh {d:Nat} (ha:kW h v a) (la:a.length≤1000001) (hd:d≤1) :WV prog (.func (.func 255) #[] #[]) [v,KI d] h fun r h'=>Ext h h'∧Dig h' r (2*aM a+d):=by
 refine enter (nt:=33) (rs:=[.tmp 4]) Proofs.Tryz.func255 rfl rfl rfl ab ?_;simp -dsimp (disch:=try exact dx) only[wpS,zA];refine loop (fun m fr h1 => ∃(i c:Nat) (os:List Nat) (out:QQ),i+m=a.length∧ax fr 0=some v∧ax fr 1=some (KN c)∧ax fr 5=some out∧ax fr 6=some (KN i)∧c≤1∧os.length=i∧dh os∧aM os+c*4294967296 ^ i=2*bm a i+d∧Acc h1 h.n 1 out i (os.map KN)∧Ext h h1) a.length ⟨0,d,[],.slice none 0 0,ab,ab,ab,ab,ab,hd,rfl,fun d hd=>(by cases hd),by simp[bm,aM],Acc.nil _ _ aa,Ext.refl _⟩ ?_;rintro m fr h1 ⟨i,c,os,out,him,f0,f1,f5,f6,hcc,hos,hdd,hv,hA,hE⟩;simp -dsimp (disch:=try exact dx) only[wpS,zE,f0,f6,ha.1.len dY];refine aG ?_ ?_<;>intro hc<;>simp only[aS,aV] at hc
 ·have hi:i<a.length:=aa;have da:=cK ha.2.1 i;have gx:=get_some hi;generalize hx:a.getD i 0=x at *;obtain⟨s,hs⟩ : ∃s,s=2*x+c:=⟨_,rfl⟩;have eS:2*(x:Int)+(c:Int)=(s:Int):=aa;have eR:(s:Int) % 4294967296=((s % 4294967296:Nat):Int):=aa;have eQ:(s:Int) / 4294967296=((s / 4294967296:Nat):Int):=aa;obtain⟨cV,h',hap,hA',hG,hE'⟩:=hA.xY (P:=prog) (t:=25) wg (x:=KN (s % 4294967296)) rfl aa hE.n hE (aA _);simp -dsimp (disch:=try exact dx) only[wpS,wpT,zE,zL,zA,kS,ju,f0,f1,f5,f6,ha.1.idx gl hi,ha.1.ld hE.ai (P:=prog) (t:=3) (c:=i) (by simpa using hi) ag3,dF,gx,eS,eR,eQ,hap];refine⟨m - 1,aa,i+1,s / 4294967296,os ++ [s % 4294967296],cV,aa,by simp[f0],ab,ab,ab,aa,by simp[hos],hdd.append aa,?_,by rw[←yO];exact hA',hE'⟩;rw[mq,bm,hx,hos,eH];have hsd:s % 4294967296+s / 4294967296*4294967296=2*x+c:=aa;have e3:s % 4294967296*4294967296 ^ i+s / 4294967296*(4294967296 ^ i*4294967296)=(2*x+c)*4294967296 ^ i:=by rw[←hsd];grind
  have e4:(2*x+c)*4294967296 ^ i=2*(x*4294967296 ^ i)+c*4294967296 ^ i:=gh;omega
 ·obtain rfl:i=a.length:=aa;obtain⟨cV,h',hap,hA',hG,hE'⟩:=hA.xY (P:=prog) (t:=25) wg (x:=KN c) rfl aa hE.n hE (aA _);simp -dsimp (disch:=try exact dx) only[wpS,wpT,zE,zL,zA,kS,ju,f1,f5,hap];have hD:kW h' cV (os ++ [c]):=by refine⟨?_,hdd.append aa,aT⟩;have:=hA'.sl;rw[yO] at this;rw[show(os ++ [c]).length=a.length+1 by simp[hos]];exact this
  refine call (Ap hD) ?_;rintro r h2 ⟨rfl,hr⟩;simp -dsimp (disch:=try exact dx) only[wpS,zE];refine⟨hE',?_⟩;rw[mq,hos,hv] at hr;exact hr
def JH :Dig h (.slice none 0 0) 0:=⟨[],⟨df.nil _ aC,fun d hd=>(by cases hd),ab⟩,.inl rfl,rfl⟩
def kW.dig {ds:List Nat} (d:kW h v ds) (n:Norm ds):Dig h v (aM ds):=⟨ds,d,n,rfl⟩
def D2 {P:Program} {t:TypeId} {sz bytes:Nat} (hT:oR P t=some (sz,bytes)) {x:QQ} {m:Nat} {new:List QQ} (sx:df h sz x m new) (hc:new.all bB=true) (hsz:m*(bytes+1)≤1099511627776) (hk:h.ext.get k=some (.cells [] sz none)) (hkn:k<h.n) :∃v h',append P h t (.slice (some ⟨2*k,0,none⟩) 0 1) x=some (v,h')∧Ext h h'∧df h' sz v m new:=by
 rcases im m with rfl|hm
 ·have Bv:new = []:=jK.1 (by rw[sx.2.1,kf]);refine⟨.slice (some ⟨2*k,0,none⟩) 0 1,h,?_,Ext.refl _,sx.1,sx.2.1,.inr ⟨2*k,0,1,rfl,.inr ⟨aa,aa,[],.inr ⟨aa,aa,none,?_⟩,?_,?_,ab⟩⟩⟩
  case refine_2=>rw[show 2*k / 2=k by omega];exact hk
  case refine_3=>exact cJ hk
  case refine_4=>rw[Bv];simp
  unfold oR at hT;split at hT
  case h_2=>cases hT
  rename_i e hu;split at hT
  case h_2=>cases hT
  rename_i zs h1 h2 h3;obtain⟨a,k,rfl⟩:=sx.form;simp only[Id.append,hu,h1,h2,h3,lenOf,pW,cg]
 ·exact⟨_,_,vf hT h sx.now hm hc hsz (2*k) 0,(Ext.refl h).new _,(Od sx.1 sx.2.1 hm).sl⟩
def IW (ha:kW h v a) (hb:kW h w b) (na:Norm a) (nb:Norm b) (hb0:aM b≠0) (la:a.length≤1000000) (lb:b.length≤1000000) :WV prog (.func (.func 219) #[] #[]) [v,w] h fun r h'=>Ext h h' ∧ ∃q t,r=.tuple #[q,t]∧Dig h' q (aM a / aM b)∧Dig h' t (aM a % aM b):=by
 have hbl:0<b.length:=by
  rcases im b.length with h0|h0;·rw[jK] at h0;subst h0;exact absurd rfl hb0
  ·exact h0
 have e1:(b.length:Int) - 1=((b.length - 1:Nat):Int):=aa;refine enter (nt:=74) (rs:=[.tmp 4,.tmp 5]) Proofs.Tryz.func219 rfl rfl rfl ab ?_;simp -dsimp (disch:=try exact dx) only[wpS,zE,zA,ha.1.len dY,hb.1.len dY,e1];refine aG ?_ ?_<;>intro hc<;>simp only[aS,aV] at hc
 ·have hlt:=nY ha.2.1 nb (show a.length<b.length by omega);have eN:Ext h (h.new (.cells [] 1 none)):=(Ext.refl h).new _;obtain⟨r,h2,hap,hE2,hs2⟩:=D2 (P:=prog) (t:=25) wg (ha.1.ext eN) (RC _) aa (ar h _ rfl) ab;simp -dsimp (disch:=try exact dx) only[wpS,wpT,zE,reduceMul,kS,ju,hap];exact⟨eN.trans hE2,_,_,rfl,by rw[mM hlt];exact JH,by rw[dR hlt];exact(show kW h2 r a from⟨hs2,ha.2⟩).dig na⟩
 ·have e2:(a.length:Int) - ((b.length - 1:Nat):Int)=((a.length - (b.length - 1):Nat):Int):=aa;have hq0:0<a.length - (b.length - 1):=aa;generalize hql:a.length - (b.length - 1)=ql at *;have eN1:Ext h ((h.new (.cells (de ql [KI 0]) 1 none)).new (.cells [] 1 none)):=((Ext.refl h).new _).new _;obtain⟨r1,hr1,hs1⟩:=ha.1.slice eN1.ai (P:=prog) (t:=25) u25 sz3 (l:=ql) (m:=a.length) aa (aA _) (lo:=some (KN ql)) (hi:=none) (mz (k:=.i64) aa) (fun c hc=>rfl);have hsl:a.length - ql=b.length - 1:=aa;have hsc:((a.map KN).drop (ql*1)).take ((a.length - ql)*1)=(a.drop ql).map KN:=by rw[fI,fI,fB ab,List.map_drop]
  rw[hsc] at hs1;obtain⟨r2,h3,hap,hE3,hs3⟩:=D2 (P:=prog) (t:=25) wg (hs1.ext eN1) (RC _) aa (k:=h.n+1) (ar _ _ ab) ab;have e3:(a.length:Int) - (ql:Int)=((b.length - 1:Nat):Int):=aa;have e4:(ql:Int) - 1=((ql - 1:Nat):Int):=aa;simp -dsimp (disch:=try exact dx) only[wpS,wpT,zE,reduceMul,kS,Ls,ln25,ju,ha.1.len dY,e2,e4,hr1,hap];have hbB:=mS hb.2.1;have ZM:Ext h h3:=eN1.trans hE3;have n3:h.n+2≤h3.n:=hE3.n;have hg3:h3.ext.get h.n=some (.cells ((List.replicate ql 0).map KN) 1 none):=by rw[hE3.get _ (by simp only[aH];omega),aE _ _ ab,ar _ _ rfl,MR]
  have ZF:a.length - ql=(a.drop ql).length:=ab;have hlen2:(a.drop ql).length=b.length - 1:=aT;have hD3:kW h3 r2 (a.drop ql):=⟨by rw[←ZF];exact hs3,ha.2.1.drop ql,aa⟩;have hV3:aM (a.drop ql)=aM a / 2 ^ (32*ql):=by rw[Ot ha.2.1,MW]
  have Xh:aM (a.drop ql)<aM b:=nY (ha.2.1.drop ql) nb aa;have st:HP (aM a) (aM b) (32*ql) (aM (List.replicate ql 0)) (aM (a.drop ql)):=by rw[nQ,hV3];rw[hV3] at Xh;exact Me Xh
  refine loop (fun m fr h1 => ∃(qs:List Nat) (rv:QQ) (r:Nat),m≤ql∧Ext h h1∧h.n<h1.n∧h1.ext.get h.n=some (.cells (qs.map KN) 1 none)∧qs.length=ql∧dh qs∧Dig h1 rv r∧HP (aM a) (aM b) (32*m) (aM qs) r ∧ax fr 0=some v∧ax fr 1=some w∧ax fr 7=some (.slice (some ⟨2*h.n,0,none⟩) ql (2*ql+1))∧ax fr 8=some rv∧ax fr 9=some (KI ((m:Int) - 1))) ql ⟨List.replicate ql 0,r2,aM (a.drop ql),aA _,ZM,aa,hg3,ab,dh.de _,hD3.dig (na.drop ql),st,ab,ab,ab,ab,by rw[sf,aq rfl,e4]⟩ ?_;clear st hD3 hg3 ZM hs3 hE3 hap hs1 hr1 eN1 hV3 Xh n3;rintro m fr h1 ⟨qs,rv,r,hm,hE,hn,hg,Hl,hqd,hR,hJ,f0,f1,f7,f8,f9⟩;simp -dsimp (disch:=try exact dx) only[wpS,zE,f9];refine aG ?_ ?_<;>intro hc2<;>simp only[aS,aV] at hc2
  ·obtain⟨i,rfl⟩ : ∃i,m=i+1:=⟨m - 1,aa⟩;have e6:(((i+1:Nat):Int) - 1)=(i:Int):=aa;rw[e6] at f9;have hi:i<a.length:=aa;simp -dsimp (disch:=try exact dx) only[wpS,wpT];refine loop (fun k fr h2 => ∃(qs:List Nat) (rv:QQ) (r:Nat),k≤32∧Ext h h2∧h.n<h2.n∧h2.ext.get h.n=some (.cells (qs.map KN) 1 none)∧qs.length=ql∧dh qs∧Dig h2 rv r∧HP (aM a) (aM b) (32*i+k) (aM qs) r ∧ax fr 0=some v∧ax fr 1=some w∧ax fr 7=some (.slice (some ⟨2*h.n,0,none⟩) ql (2*ql+1))∧ax fr 8=some rv∧ax fr 9=some (KN i)∧ax fr 10=some (KI ((k:Int) - 1))) 32 ⟨qs,rv,r,aA _,hE,hn,hg,Hl,hqd,hR,hJ,by simp[f0],by simp[f1],by simp[f7],by simp[f8],by simp[f9],ab⟩ ?_;clear hE hn hg Hl hqd hR hJ f0 f1 f7 f8 f9;rintro k fr h2 ⟨qs,rv,r,hk,hE,hn,hg,Hl,hqd,hR,hJ,f0,f1,f7,f8,f9,f10⟩;simp -dsimp (disch:=try exact dx) only[wpS,zE,f10];refine aG ?_ ?_<;>intro hc3<;>simp only[aS,aV] at hc3
   ·obtain⟨k,rfl⟩ : ∃j,k=j+1:=⟨k - 1,aa⟩;have e7:(((k+1:Nat):Int) - 1)=(k:Int):=aa;rw[e7] at f10;have da:=cK ha.2.1 i;have gx:=get_some hi;have Xq:=XS ha.2.1 (i:=i) (show k<32 by omega);have xP:=S7 hqd (i:=i) (show k<32 by omega) hJ.2.1;generalize hx:a.getD i 0=x at *;have eB:((qj x k:Nat):Int) % 2=((x / 2 ^ k % 2:Nat):Int):=by rw[qj,kE];omega
    have hd1:x / 2 ^ k % 2≤1:=aa;have hns:=Ui x k;generalize hdd:x / 2 ^ k % 2=d at *;simp -dsimp (disch:=try exact dx) only[wpS,wpT,zE,f0,f8,f9,f10,ha.1.idx gl hi,ha.1.ld hE.ai (P:=prog) (t:=3) (c:=i) (by simpa using hi) ag3,dF,gx,eB];obtain⟨rs,hrD,hrN,hrv⟩:=hR;have hrl:rs.length≤b.length:=hrN.qm hb.2.1 (by rw[hrv];exact kF hJ.2.2);refine call (Qh hrD aa hd1) ?_;rintro r3 h3 ⟨hE3,rs2,Xa,Zm,RH⟩;rw[hrv] at RH;simp -dsimp (disch:=try exact dx) only[wpS,zE,f1,f8];refine call (C6 Xa (hb.ai (hE.trans hE3).ai) Zm nb) ?_;rintro _ h4 ⟨rfl,c,rfl,hc1,hc2,hc3,hc4⟩;rw[RH] at hc1 hc2;have hE4:=hE.trans hE3;have hg4:=(hE3.get _ hn).trans hg;have hn4:h.n<h4.n:=cB hn hE3.n;have e8:32*i+(k+1)=32*i+k+1:=rfl;rw[e8] at hJ;have ehc:aM a / 2 ^ (32*i+k) % 2=d:=Xq.symm;simp -dsimp (disch:=try exact dx) only[wpS,zE];refine aG (fun hb5=>?_) (fun hb5=>?_)
    ·simp only[aS] at hb5;have hge:aM b≤2*r+d:=aa;have hi2:i<qs.length:=aa;have gq:=get_some hi2;generalize hqx:qs.getD i 0=y at *;have gqr:(qs.map KN)[i]?=some (KN y):=by rw[dM,gq];rfl
     simp -dsimp (disch:=try exact dx) only[wpS,wpT,zE,f1,f8];refine call (Ns Xa (hb.ai hE4.ai) nb (by rw[RH];exact hge)) ?_;rintro r5 h5 ⟨⟨hE5,hr5⟩,hbk⟩;rw[RH] at hr5;have hg5:=(hE5.get _ hn4).trans hg4;have hr:=cJ hg5;have hn5:h.n<h5.n:=cB hn4 hE5.n;have q0:0≤((2 ^ k:Nat):Int):=jy _;have eA:(y:Int)+((2 ^ k:Nat):Int)=((y+2 ^ k:Nat):Int):=aa;have spl:=KO (y+2 ^ k) hi2;simp -dsimp (disch:=try exact dx) only[wpS,wpT,zE,gl,ld3,st3,f7,f9,f10,hr,gqr,eA,hg5,spl,cz,Hl];have hJ2:=Sr hJ (by rw[ehc];exact hge);rw[ehc] at hJ2;have hv:=lM (y+2 ^ k) hi2;rw[hqx] at hv;have e9:aM (qs.set i (y+2 ^ k))=aM qs+2 ^ (32*i+k):=by
      have:(y+2 ^ k)*4294967296 ^ i=y*4294967296 ^ i+2 ^ (32*i+k):=by rw[dA,MW,←dT,xf k]
      omega
     obtain⟨ds5,hd5,hn5',hv5⟩:=hr5;have hR5:Dig (h5.put h.n (.cells ((qs.set i (y+2 ^ k)).map KN) 1 none)) r5 (2*r+d - aM b):=⟨ds5,⟨hd5.1.putAt (hbk _ hn4) _,hd5.2⟩,hn5',hv5⟩;exact⟨k,aa,qs.set i (y+2 ^ k),r5,2*r+d - aM b,aa,(hE4.trans hE5).put (aA _) _,hn5,aj _ _ rfl,by rw[dB,Hl],hqd.set _ xP,hR5,by rw[e9];exact hJ2,by simp[f0],by simp[f1],by simp[f7],ab,by simp[f9],ab⟩
    ·simp only[aV] at hb5;have hlt:2*r+d<aM b:=aa;have hJ2:=Pq hJ (by rw[ehc];exact hlt);rw[ehc] at hJ2;simp -dsimp (disch:=try exact dx) only[wpS,wpT,zE,f10];exact⟨k,aa,qs,r3,2*r+d,aa,hE4,hn4,hg4,Hl,hqd,⟨rs2,Xa,Zm,RH⟩,hJ2,by simp[f0],by simp[f1],by simp[f7],ab,by simp[f9],ab⟩
   ·obtain rfl:k=0:=aa;simp -dsimp (disch:=try exact dx) only[wpS,wpT,zE,f9];exact⟨i,aa,qs,rv,r,aa,hE,hn,hg,Hl,hqd,hR,hJ,by simp[f0],by simp[f1],by simp[f7],by simp[f8],ab⟩
  ·obtain rfl:m=0:=aa;obtain⟨e10,e11⟩:=Ss hJ;have hD:kW h1 (.slice (some ⟨2*h.n,0,none⟩) ql (2*ql+1)) qs:=by refine⟨?_,hqd,aa⟩;rw[Hl];exact fX hg hn aC (by rw[cz,Hl];omega) aa aa
   simp -dsimp (disch:=try exact dx) only[wpS,wpT,zE,f7];refine call (Ap hD) ?_;rintro r4 h2 ⟨rfl,hr4⟩;simp -dsimp (disch:=try exact dx) only[wpS,zE,f8];exact⟨hE,_,_,rfl,by rw[←e10];exact hr4,by rw[←e11];exact hR⟩
end
end Go.Id
