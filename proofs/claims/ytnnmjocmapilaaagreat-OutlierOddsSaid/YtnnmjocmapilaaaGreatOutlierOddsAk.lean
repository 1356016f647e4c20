/-
  Contracts: the reference's long integers.
-/
import Derived.Test.YtnnmjocmapilaaaGreatOutlierOddsAj
set_option linter.unusedVariables false
set_option linter.unusedSimpArgs false
set_option linter.defProp false
set_option linter.deprecated false
namespace Go.Id
open Go
open Go renaming Operand→QY,Program→QX,TypeId→QZ,Value→QQ
open Nat renaming reduceAdd→zA,reduceEqDiff→zE,reduceLeDiff→zL
open Nat (reduceMul)
set_option maxHeartbeats 16000000
open Go.Proofs.Tryz (prog)
abbrev KN (n:Nat):QQ:=.int .i64 (n:Int)
def kO (h:IH) (v:QQ) (ds:List Nat):Prop:=cA h 1 v ds.length (ds.map KN)∧cG ds∧ds.length≤1100000
def Dig (h:IH) (v:QQ) (x:Nat):Prop:=∃ds,kO h v ds∧Norm ds∧ay ds=x
variable {h':IH}{ds:List Nat}{h:IH}{v:QQ}
def kO.ae (d:kO h v ds) (e:aX h h'):kO h' v ds:=⟨d.1.ae e,d.2⟩
def Dig.ae {x:Nat} (d:Dig h v x) (e:aX h h'):Dig h' v x:=let ⟨ds,a,b⟩:=d;⟨ds,a.ae e,b⟩
def get_some {i:Nat} (h:i<ds.length):ds[i]?=some (ds.getD i 0):=by rw[bC,bK h];rfl
def dI {α β:Type} (f:α→β) (l:List α) (i:Nat):(l.map f)[i]?=(l[i]?).map f:=cm
def Bf (hd:kO h v ds):WV prog (.func (.func 218) #[] #[]) [v] h fun r h'=>h'=h∧Dig h r (ay ds):=by
 refine enter (nt:=21) (rs:=[.tmp 2]) Proofs.Tryz.func218 rfl rfl rfl aa ?_;simp -dsimp (disch:=omega) only[wpS,zE,hd.1.len jk];refine loop (fun m fr h1=>h1=h∧m≤ds.length∧aj fr 3=some (KN m)∧aj fr 0=some v ∧ ∀j,m≤j→ds.getD j 0=0) ds.length ⟨rfl,ar _,aa,aa,fun j hj=>ff hj⟩ ?_;rintro m fr h1 ⟨rfl,hm,f3,f0,hz⟩;have fin : ∀n:Nat,n≤ds.length→(∀j,n≤j→ds.getD j 0=0)→(n=0∨ds.getD (n - 1) 0≠0) → ∃r,dY prog h1 25 v none (some (KN n)) none=some r∧Dig h1 r (ay ds):=by
  intro n hn hz hne;obtain⟨r,hr,hs⟩:=hd.1.slice (aX.refl _) (P:=prog) (t:=25) u25 sz3 (l:=0) (m:=n) (dT _) hn (lo:=none) (hi:=some (KN n)) rfl (fun c hc=>kQ (k:=.i64) byOmega);refine⟨r,hr,ds.take n,⟨?_,hd.2.1.take n,by simp;have:=hd.2.2;omega⟩,?_,AH hn hz⟩
  ·have hl:(ds.take n).length=n:=by simp[hn]
   rw[hl];simpa [tJ] using hs
  ·rcases hne with rfl|hne
   ·left;simp
   ·by_cases h0:n=0
    ·subst h0;left;simp
    ·right;have hl:(ds.take n).length=n:=by simp[hn]
     rw[hl,tg,ah byOmega];exact hne
 have hb:=hd.2.2;rcases gW m with rfl|hp;·obtain⟨r,hr,hD⟩:=fin 0 hm hz (.inl rfl);simp -dsimp (disch:=omega) only[wpS,wpT,zE,f3,f0,hr];exact hD
 ·obtain⟨k,rfl⟩ : ∃k,m=k+1:=⟨m - 1,byOmega⟩;have h2:IntKind.i64.wrap (((k+1:Nat):Int) - 1)=(k:Int):=by rw[wrap_i64 byOmega];omega
  simp -dsimp (disch:=omega) only[wpS,wpT,zE,f3,f0,h2,hd.1.idx mP (show k<ds.length by omega),hd.1.ld (aX.refl _) (P:=prog) (t:=3) (c:=k) bz ag3,dI,get_some (show k<ds.length by omega)];refine az (fun hc=>?_) (fun hc=>?_)
  ·simp -dsimp (disch:=omega) only[wpS,zE,f3,h2];refine⟨k,byOmega,rfl,byOmega,aa,by simp[f0],fun j hj=>?_⟩;by_cases hjk:j=k
   ·subst hjk;simpa using hc
   ·exact hz j byOmega
  ·obtain⟨r,hr,hD⟩:=fin (k+1) hm hz (.inr (by simpa using hc));simp -dsimp (disch:=omega) only[wpS,wpT,zE,f3,f0,hr];exact hD
def Un (hd:kO h v ds):WV prog (.func (.func 218) #[] #[]) [v] h fun r h'=>gj r=gj v:=by
 have hb:=hd.2.2;refine enter (nt:=21) (rs:=[.tmp 2]) Proofs.Tryz.func218 rfl rfl rfl aa ?_;simp -dsimp (disch:=omega) only[wpS,zE,hd.1.len jk];refine loop (fun m fr h1=>h1=h∧m≤ds.length∧aj fr 3=some (KN m)∧aj fr 0=some v) ds.length ⟨rfl,ar _,aa⟩ ?_;rintro m fr h1 ⟨rfl,hm,f3,f0⟩;have fin : ∀n:Nat,n≤ds.length → ∃r,dY prog h1 25 v none (some (KN n)) none=some r∧gj r=gj v:=by intro n hn;obtain⟨r,hr,hs⟩:=hd.1.slice (aX.refl _) (P:=prog) (t:=25) u25 sz3 (l:=0) (m:=n) (dT _) hn (lo:=none) (hi:=some (KN n)) rfl (fun c hc=>kQ (k:=.i64) byOmega);exact⟨r,hr,BC u25 hr⟩
 rcases gW m with rfl|hp;·obtain⟨r,hr,hD⟩:=fin 0 hm;simp -dsimp (disch:=omega) only[wpS,wpT,zE,f3,f0,hr];exact hD
 ·obtain⟨k,rfl⟩ : ∃k,m=k+1:=⟨m - 1,byOmega⟩
  have h2:IntKind.i64.wrap (((k+1:Nat):Int) - 1)=(k:Int):=by rw[wrap_i64 byOmega];omega
  simp -dsimp (disch:=omega) only[wpS,wpT,zE,f3,f0,h2,hd.1.idx mP (show k<ds.length by omega),hd.1.ld (aX.refl _) (P:=prog) (t:=3) (c:=k) bz ag3,dI,get_some (show k<ds.length by omega)];refine az (fun hc=>?_) (fun hc=>?_);·simp -dsimp (disch:=omega) only[wpS,zE,f3,h2];exact⟨k,byOmega,rfl,byOmega,by simp[f0]⟩
  ·obtain⟨r,hr,hD⟩:=fin (k+1) hm
   simp -dsimp (disch:=omega) only[wpS,zE,f3,f0,hr];exact hD
def bU (h:IH) (v:QQ) (z:Int):Prop:=∃s,v=.agg #[.bool (decide (z<0)),s]∧Dig h s z.natAbs
def bU.ae {z:Int} (d:bU h v z) (e:aX h h'):bU h' v z:=let ⟨s,a,b⟩:=d;⟨s,a,b.ae e⟩
def nZ (hd:kO h v ds) (b:Bool):WV prog (.func (.func 202) #[] #[]) [.bool b,v] h fun r h'=>Ext h h'∧bU h' r (if b then -(ay ds:Int) else ay ds):=by
 refine enter (nt:=15) (rs:=[.cell 4 175]) Proofs.Tryz.func202 rfl rfl rfl aa ?_;simp -dsimp (disch:=omega) only[wpS,zE,zA,ou];refine call (Bf (hd.ae ((aX.refl h).new _))) ?_;rintro r h1 ⟨rfl,ds',hD,hN,hv⟩;have hl:=hD.2.2;have hz:=hN.nW;have hk : ∀o,aX (h.new (.cells [.bool false,.slice none 0 0] 0 none)) ((h.new (.cells [.bool false,.slice none 0 0] 0 none)).put h.n o):=fun o=>(aX.refl _).put (aq _ _ rfl) o;cases b
 ·simp -dsimp (disch:=omega) only[wpS,wpT,zE,zL,zA,Sd,Q7,Cw,jI,de,hD.1.cells,hD.1.cok];refine⟨((Ext.refl h).new _).put (ar _) _,r,?_,ds',hD.ae (hk _),hN,?_⟩
  ·simp
  ·simp[hv]
 ·simp -dsimp (disch:=omega) only[wpS,wpT,zE,zL,zA,Sd,Q7,Cw,jI,de,hD.1.cells,hD.1.cok,hD.1.len jk];refine⟨((Ext.refl h).new _).put (ar _) _,r,?_,ds',hD.ae (hk _),hN,?_⟩
  ·rw[hv] at hz;have:0<ds'.length↔0<ay ds:=by
    cases ds' with
    | nil=>simp at hz;simp[hz]
    | cons x l=>simp at hz;simp;omega
   simp[this]
  ·simp[hv]
def D8 {w:QQ} {a b:List Nat} (ha:kO h v a) (hb:kO h w b) (na:Norm a) (nb:Norm b) :WV prog (.func (.func 200) #[] #[]) [v,w] h fun r h'=>h'=h ∧ ∃c:Int,r=KI c∧(c<0↔ay a<ay b)∧(c=0↔ay a=ay b) ∧ -9223372036854775808≤c∧c≤9223372036854775807:=by
 have la:=ha.2.2;have lb:=hb.2.2;refine enter (nt:=41) (rs:=[.tmp 4]) Proofs.Tryz.func200 rfl rfl rfl aa ?_;simp -dsimp (disch:=omega) only[wpS,zE,zA,ha.1.len jk,hb.1.len jk];refine az ?_ ?_<;>intro hc<;>simp only[pM,Iq,ne_eq] at hc
 ·simp -dsimp (disch:=omega) only[wpS,wpT,zE,ha.1.len jk,hb.1.len jk];refine⟨_,rfl,?_,?_,byOmega,byOmega⟩
  ·constructor
   ·intro h1;exact nC ha.2.1 nb byOmega
   ·intro h1;have:=na.mc hb.2.1 (pO h1);omega
  ·constructor
   ·intro h1;omega
   ·intro h1;have h2:=na.mc hb.2.1 (tG h1);have h3:=nb.mc ha.2.1 (tG h1.symm);omega
 ·have hl:a.length=b.length:=byOmega;simp -dsimp (disch:=omega) only[wpS,wpT,zE,ha.1.len jk];refine loop (fun m fr h1=>h1=h∧m≤a.length∧aj fr 5=some (KI ((m:Int) - 1))∧aj fr 0=some v∧aj fr 1=some w ∧ ∀j,m≤j→j<a.length→a.getD j 0=b.getD j 0) a.length ⟨rfl,ar _,aa,aa,aa,fun j hj hj2=>byOmega⟩ ?_;rintro m fr h1 ⟨rfl,hm,f5,f0,f1,hz⟩;rcases gW m with rfl|hp
  ·simp -dsimp (disch:=try exact dx) only[wpS,wpT,zE,f5];refine⟨_,rfl,?_,?_,byOmega,byOmega⟩
   ·have:=pK hl (fun j hj=>hz j (dT _) hj);omega
   ·have:=pK hl (fun j hj=>hz j (dT _) hj);omega
  ·obtain⟨k,rfl⟩ : ∃k,m=k+1:=⟨m - 1,byOmega⟩;have h2:(((k+1:Nat):Int) - 1)=(k:Int):=byOmega;rw[h2] at f5;have da:=cM ha.2.1 k;have db:=cM hb.2.1 k;simp -dsimp (disch:=try exact dx) only[wpS,wpT,zE,f5,f0,f1,ha.1.idx mP (show k<a.length by omega),ha.1.ld (aX.refl _) (P:=prog) (t:=3) (c:=k) bz ag3,hb.1.idx mP (show k<b.length by omega),hb.1.ld (aX.refl _) (P:=prog) (t:=3) (c:=k) bz ag3,dI,get_some (show k<a.length by omega),get_some (show k<b.length by omega)];refine az ?_ ?_<;>intro hc<;>simp only[pM,Iq,ne_eq] at hc
   ·simp -dsimp (disch:=try exact dx) only[wpS,wpT,zE,f5,f0,f1,ha.1.idx mP (show k<a.length by omega),ha.1.ld (aX.refl _) (P:=prog) (t:=3) (c:=k) bz ag3,hb.1.idx mP (show k<b.length by omega),hb.1.ld (aX.refl _) (P:=prog) (t:=3) (c:=k) bz ag3,dI,get_some (show k<a.length by omega),get_some (show k<b.length by omega)];have key:(a.getD k 0<b.getD k 0→ay a<ay b)∧(b.getD k 0<a.getD k 0→ay b<ay a) :=
     ⟨fun h=>nB ha.2.1 hl byOmega h (fun j x y=>hz j byOmega y),fun h=>nB hb.2.1 hl.symm byOmega h (fun j x y=>(hz j byOmega byOmega).symm)⟩
    refine⟨_,rfl,?_,?_,byOmega,byOmega⟩
    ·constructor
     ·intro h1;exact key.1 byOmega
     ·intro h1;apply dW;intro h3;have:=key.2 byOmega;omega
    ·constructor
     ·intro h1;omega
     ·intro h1;rcases cU (a.getD k 0) (b.getD k 0) with h3|h3
      ·have:=key.1 h3;omega
      ·have:=key.2 byOmega;omega
   ·simp -dsimp (disch:=omega) only[wpS,wpT,zE,f5];refine⟨k,byOmega,rfl,byOmega,aa,by simp[f0],by simp[f1],fun j h3 h4=>?_⟩;by_cases hjk:j=k
    ·subst hjk;exact Int.ofNat.inj hc
    ·exact hz j byOmega h4
theorem zO (os:List Nat) (d:Nat):os.map KN ++ [KN d]=(os ++ [d]).map KN:=aa
variable {h:IH}{v:QQ}
def Acc.block {n0 sz:Nat} {n:Nat} {cs:List QQ} (a:Acc h n0 sz v n cs) {k:Nat} (hk:k<n0):gj v≠some (2*k):=by
 obtain⟨hz,hl,⟨rfl,_⟩|⟨j,fam,rfl,hn,h1,h2,h3,h4⟩⟩:=a;·intro h;cases h
 ·intro h
  have:2*j=2*k:=NJ h;omega
variable {w:QQ}{a b:List Nat}
def Rs (ha:kO h v a) (hb:kO h w b) (nb:Norm b) (hle:ay b≤ay a) :WV prog (.func (.func 201) #[] #[]) [v,w] h fun r h'=>(Ext h h'∧Dig h' r (ay a - ay b)) ∧ ∀k,k<h.n→gj r≠some (2*k):=by
 have la:=ha.2.2;have lb:=hb.2.2;refine enter (nt:=41) (rs:=[.tmp 4]) Proofs.Tryz.func201 rfl rfl rfl aa ?_;simp -dsimp (disch:=omega) only[wpS,zA];refine loop (fun m fr h1 => ∃(i bor:Nat) (os:List Nat) (out:QQ),i+m=a.length∧aj fr 0=some v∧aj fr 1=some w∧aj fr 5=some out∧aj fr 6=some (KN bor)∧aj fr 7=some (KN i)∧bor≤1∧os.length=i∧cG os ∧a8 a i+bor*4294967296 ^ i=a8 b i+ay os∧Acc h1 h.n 1 out i (os.map KN)∧Ext h h1) a.length ⟨0,0,[],.slice none 0 0,aa,aa,aa,aa,aa,aa,byOmega,rfl,fun d hd=>(by cases hd),by simp[a8,ay],Acc.nil _ _ byOmega,Ext.refl _⟩ ?_;rintro m fr h1 ⟨i,bor,os,out,him,f0,f1,f5,f6,f7,Xa,hos,hd,hv,hA,hE⟩;simp -dsimp (disch:=omega) only[wpS,zE,f0,f7,ha.1.len jk];refine az ?_ ?_<;>intro hc<;>simp only[aJ,aV] at hc
 ·have hi:i<a.length:=byOmega;have da:=cM ha.2.1 i;have db:=cM hb.2.1 i;simp -dsimp (disch:=omega) only[wpS,wpT,zE,f0,f1,f6,f7,ha.1.idx mP hi,ha.1.ld hE.ae (P:=prog) (t:=3) (c:=i) (by simpa using hi) ag3,dI,get_some hi,hb.1.len jk];refine jm (fun fr2 h2=>h2=h1∧aj fr2 0=some v∧aj fr2 1=some w∧aj fr2 5=some out∧aj fr2 7=some (KN i)∧aj fr2 8=some (KI ((a.getD i 0:Int) - bor - (b.getD i 0:Int)))) (fun hc=>?_) (fun hc=>?_) ?_
  ·simp only[aJ] at hc;have hi2:i<b.length:=byOmega;simp -dsimp (disch:=omega) only[wpS,wpT,zE,f1,f7,hb.1.idx mP hi2,hb.1.ld hE.ae (P:=prog) (t:=3) (c:=i) (by simpa using hi2) ag3,dI,get_some hi2];exact⟨rfl,by simp[f0,f1,f5,f7]⟩
  ·simp only[aV] at hc;simp -dsimp (disch:=omega) only[wpS,wpT];exact⟨rfl,by simp[f0],by simp[f1],by simp[f5],by simp[f7],by rw[ff (show b.length≤i by omega)];simp⟩
  ·rintro fr2 h2 ⟨rfl,f0,f1,f5,f7,f8⟩;simp -dsimp (disch:=omega) only[wpS,zE,f8];refine jm (fun fr3 h3=>h3=h2∧aj fr3 0=some v∧aj fr3 1=some w∧aj fr3 5=some out∧aj fr3 7=some (KN i) ∧ ∃d Ym:Nat,aj fr3 8=some (KN d)∧aj fr3 6=some (KN Ym)∧d<4294967296∧Ym≤1∧a.getD i 0+Ym*4294967296=b.getD i 0+bor+d) (fun hc=>?_) (fun hc=>?_) ?_
   ·simp only[aJ] at hc;simp -dsimp (disch:=omega) only[wpS,wpT,zE,f8];refine⟨rfl,by simp[f0],by simp[f1],by simp[f5],by simp[f7],a.getD i 0+4294967296 - bor - b.getD i 0,1,?_,aa,byOmega,byOmega,byOmega⟩;simp only[tp,zE,cH,bS];congr 2;omega
   ·simp only[aV] at hc;simp -dsimp (disch:=omega) only[wpS,wpT];refine⟨rfl,by simp[f0],by simp[f1],by simp[f5],by simp[f7],a.getD i 0 - bor - b.getD i 0,0,?_,aa,byOmega,byOmega,byOmega⟩;simp only[tp,zE,cH,f8];congr 2;omega
   ·rintro fr3 h3 ⟨rfl,f0,f1,f5,f7,d,Ym,f8,f6,hd2,hb2,nD⟩;obtain⟨fF,h',hap,hA',hG,hE'⟩:=hA.Gq (P:=prog) (t:=25) FH (x:=KN d) rfl byOmega hE.n hE (ar _);simp -dsimp (disch:=omega) only[wpS,wpT,zE,zL,zA,Ah,oj,f5,f7,f8,hap];refine⟨m - 1,byOmega,i+1,Ym,os ++ [d],fF,byOmega,by simp[f0],by simp[f1],aa,by simp[f6],aa,hb2,by simp[hos],hd.append hd2,?_,by rw[←zO];exact hA',hE'⟩;rw[mh,a8,a8,hos];grind
 ·obtain rfl:i=a.length:=byOmega
  have hbl:=nb.mc ha.2.1 hle;rw[lI hbl,lI (ar _)] at hv;have hlt:=lJ hd;rw[hos] at hlt;have hb0:bor=0:=by apply dW;intro hne;have:bor=1:=byOmega;subst this;omega
  subst hb0;have hD:kO h1 out os:=⟨by rw[hos];exact hA.sl,hd,byOmega⟩;simp -dsimp (disch:=omega) only[wpS,wpT,zE,f5];refine call ((Bf hD).and (Un hD)) ?_;rintro r h2 ⟨⟨rfl,hr⟩,hbk⟩;simp -dsimp (disch:=omega) only[wpS,zE];refine⟨⟨hE,?_⟩,fun k hk=>?_⟩;·rw[show ay a - ay b=ay os by omega];exact hr
  ·rw[hbk];exact hA.block hk
def CD (ha:kO h v a) (hb:kO h w b) (nb:Norm b) (hle:ay b≤ay a) :WV prog (.func (.func 201) #[] #[]) [v,w] h fun r h'=>Ext h h'∧Dig h' r (ay a - ay b):=(Rs ha hb nb hle).mono fun _ _ k=>k.1
def Z2 (ha:kO h v a) (hb:kO h w b) (la:a.length≤1000001) (lb:b.length≤1000001) :WV prog (.func (.func 222) #[] #[]) [v,w] h fun r h'=>Ext h h' ∧ ∃os,kO h' r os∧ay os=ay a+ay b:=by
 refine enter (nt:=52) (rs:=[.tmp 4]) Proofs.Tryz.func222 rfl rfl rfl aa ?_;simp -dsimp (disch:=omega) only[wpS,zA];refine loop (fun m fr h1 => ∃(i c:Nat) (os:List Nat) (out:QQ),i+m=1000003∧aj fr 0=some v∧aj fr 1=some w∧aj fr 5=some out∧aj fr 6=some (KN c)∧aj fr 7=some (KN i)∧c≤1∧os.length=i∧cG os∧i≤1000002∧(1000001<i→c=0) ∧ay os+c*4294967296 ^ i=a8 a i+a8 b i∧Acc h1 h.n 1 out i (os.map KN)∧Ext h h1) 1000003 ⟨0,0,[],.slice none 0 0,aa,aa,aa,aa,aa,aa,byOmega,rfl,fun d hd=>(by cases hd),byOmega,byOmega,by simp[a8,ay],Acc.nil _ _ byOmega,Ext.refl _⟩ ?_;rintro m fr h1 ⟨i,c,os,out,him,f0,f1,f5,f6,f7,hcc,hos,hd,hi2,hi3,hv,hA,hE⟩;rw[mY];by_cases hcont:i<a.length∨i<b.length∨0<c
 ·refine cut (fun fr2 h2=>h2=h1∧aj fr2 0=some v∧aj fr2 1=some w∧aj fr2 5=some out∧aj fr2 6=some (KN c)∧aj fr2 7=some (KN i)) ?_ ?_
  ·by_cases c1:i<a.length
   ·simp -dsimp (disch:=omega) only[wpS,wpT,zE,f0,f7,ha.1.len jk];exact⟨rfl,by simp[f0,f1,f5,f6,f7]⟩
   ·by_cases c2:i<b.length
    ·simp -dsimp (disch:=omega) only[wpS,wpT,zE,f0,f1,f7,ha.1.len jk,hb.1.len jk];exact⟨rfl,by simp[f0,f1,f5,f6,f7]⟩
    ·simp -dsimp (disch:=omega) only[wpS,wpT,zE,f0,f1,f6,f7,ha.1.len jk,hb.1.len jk];exact⟨rfl,by simp[f0,f1,f5,f6,f7]⟩
  ·rintro fr2 h2 ⟨rfl,f0,f1,f5,f6,f7⟩;have da:=cM ha.2.1 i;have db:=cM hb.2.1 i;simp -dsimp (disch:=omega) only[wpS,zE,f0,f7,ha.1.len jk];refine jm (fun fr3 h3=>h3=h2∧aj fr3 0=some v∧aj fr3 1=some w∧aj fr3 5=some out∧aj fr3 7=some (KN i)∧aj fr3 6=some (KN (c+a.getD i 0))) (fun hc=>?_) (fun hc=>?_) ?_
   ·simp only[aJ] at hc;have hi:i<a.length:=byOmega;simp -dsimp (disch:=omega) only[wpS,wpT,zE,f0,f6,f7,ha.1.idx mP hi,ha.1.ld hE.ae (P:=prog) (t:=3) (c:=i) (by simpa using hi) ag3,dI,get_some hi];exact⟨rfl,by simp[f0,f1,f5,f7]⟩
   ·simp only[aV] at hc;simp -dsimp (disch:=omega) only[wpS,wpT];exact⟨rfl,by simp[f0],by simp[f1],by simp[f5],by simp[f7],by rw[ff (show a.length≤i by omega)];simp[f6]⟩
   ·rintro fr3 h3 ⟨rfl,f0,f1,f5,f7,f6⟩;simp -dsimp (disch:=omega) only[wpS,zE,f1,f7,hb.1.len jk];refine jm (fun fr4 h4=>h4=h3∧aj fr4 0=some v∧aj fr4 1=some w∧aj fr4 5=some out∧aj fr4 7=some (KN i)∧aj fr4 6=some (KN (c+a.getD i 0+b.getD i 0))) (fun hc=>?_) (fun hc=>?_) ?_
    ·simp only[aJ] at hc;have hi:i<b.length:=byOmega;simp -dsimp (disch:=omega) only[wpS,wpT,zE,f1,f6,f7,hb.1.idx mP hi,hb.1.ld hE.ae (P:=prog) (t:=3) (c:=i) (by simpa using hi) ag3,dI,get_some hi];exact⟨rfl,by simp[f0,f1,f5,f7]⟩
    ·simp only[aV] at hc;simp -dsimp (disch:=omega) only[wpS,wpT];exact⟨rfl,by simp[f0],by simp[f1],by simp[f5],by simp[f7],by rw[ff (show b.length≤i by omega)];simp[f6]⟩
    ·rintro fr4 h4 ⟨rfl,f0,f1,f5,f7,f6⟩
     have hi5:i≤1000001:=by apply dW;intro hn;have:=hi3 byOmega;omega
     generalize hs:c+a.getD i 0+b.getD i 0=s at f6;have e1:((s:Int) % 4294967296)=((s % 4294967296:Nat):Int):=byOmega;have e2:((s:Int) / 4294967296)=((s / 4294967296:Nat):Int):=byOmega;obtain⟨fF,h',hap,hA',hG,hE'⟩:=hA.Gq (P:=prog) (t:=25) FH (x:=KN (s % 4294967296)) rfl byOmega hE.n hE (ar _);simp -dsimp (disch:=omega) only[wpS,wpT,zE,zL,zA,Ah,oj,f5,f6,f7,e1,hap,e2];refine⟨m - 1,byOmega,i+1,s / 4294967296,os ++ [s % 4294967296],fF,byOmega,by simp[f0],by simp[f1],aa,aa,aa,byOmega,by simp[hos],hd.append byOmega,byOmega,fun hh=>?_,?_,by rw[←zO];exact hA',hE'⟩;·have h1:=ff (ds:=a) (k:=i) byOmega;have h2:=ff (ds:=b) (k:=i) byOmega;omega
     ·rw[mh,a8,a8,hos]
      have h5:s % 4294967296+s / 4294967296*4294967296=c+a.getD i 0+b.getD i 0:=byOmega;grind
 ·refine cut (fun fr2 h2=>False) ?_ (fun _ _ h=>h.elim);simp -dsimp (disch:=omega) only[wpS,wpT,zE,f0,f1,f5,f6,f7,ha.1.len jk,hb.1.len jk];obtain rfl:c=0:=byOmega;rw[lI byOmega,lI byOmega] at hv;exact⟨hE,os,⟨by rw[hos];exact hA.sl,hd,byOmega⟩,byOmega⟩
variable {x:Nat}
@[irreducible] def Small (x:Nat):Prop:=x<4294967296 ^ 1000000
theorem Small.lt (h:Small x):x<4294967296 ^ 1000000:=by unfold Small at h;exact h
def Small.mk (h:x<4294967296 ^ 1000000):Small x:=by unfold Small;exact h
def Small.le {y:Nat} (h:Small x) (k:y≤x):Small y:=.mk (kh k h.lt)
def Norm.small {ds:List Nat} (h:Norm ds) (hs:Small (ay ds)):ds.length≤1000000:=by
 by_cases hne:ds = [];·subst hne;simp
 ·have h1:=h.ge hne
  have h2:4294967296 ^ (ds.length - 1)<4294967296 ^ 1000000:=kh h1 hs.lt;have:=(Iu (a:=4294967296) byOmega).1 h2;omega
abbrev bE (z:Int):Prop:=Small z.natAbs
variable {h:IH}{v:Value}
def IZ {z:Int} (hv:bU h v z):WV Proofs.Tryz.prog (.func (.func 233) #[] #[]) [v] h fun r h'=>Ext h h'∧bU h' r (-z):=by
 obtain⟨s,rfl,ds,hD,hN,hx⟩:=hv;refine enter (nt:=9) (rs:=[.cell 2 175]) Proofs.Tryz.func233 rfl rfl rfl aa ?_;simp -dsimp (disch:=try exact dx) only[wpS,zE,ou,fM,ld4,im,uQ];refine call (nZ (hD.ae (((aX.refl h).new _).new _)) _) ?_;rintro r h1 ⟨hE,s1,rfl,h2⟩;have hg:h1.ext.get (h.n+1)=some (.cells [.bool false,.slice none 0 0] 0 none):=by rw[hE.get _ aa];exact aq _ _ rfl
 obtain⟨ds1,hD1,hr1⟩:=h2;simp -dsimp (disch:=try exact dx) only[wpS,wpT,zE,zL,zA,jI,de,hg,hD1.1.cok];refine⟨((((Ext.refl h).new _).new _).trans hE).put byOmega _,?_⟩;have hz:(if (!decide (z<0))=true then -(ay ds:Int) else ay ds) = -z:=by by_cases h0:z<0<;>simp[h0]<;>omega
 rw[hz] at hr1 ⊢;exact⟨s1,rfl,ds1,hD1.ae ((aX.refl _).put hg _),hr1⟩
def zB {w:Value} {x y:Int} (hv:bU h v x) (hw:bU h w y) (sx:bE x) (sy:bE y) :WV Proofs.Tryz.prog (.func (.func 141) #[] #[]) [v,w] h fun r h'=>Ext h h'∧bU h' r (x+y):=by
 obtain⟨s,rfl,a,ha,na,hx⟩:=hv;obtain⟨t,rfl,b,hb,nb,hy⟩:=hw;have la:a.length≤1000000:=na.small (by rw[hx];exact sx);have lb:b.length≤1000000:=nb.small (by rw[hy];exact sy);refine enter (nt:=40) (rs:=[.cell 4 175]) Proofs.Tryz.func141 rfl rfl rfl aa ?_;simp -dsimp (disch:=try exact dx) only[wpS,zE,zA,ou,fM,ld4,be4];have kk : ∀o1 o2 o3,aX h (((h.new o1).new o2).new o3):=fun o1 o2 o3=>(((aX.refl h).new _).new _).new _;have ee : ∀o1 o2 o3,Ext h (((h.new o1).new o2).new o3):=fun o1 o2 o3=>(((Ext.refl h).new _).new _).new _;refine az (fun hc=>?_) (fun hc=>?_)
 ·have hc:(x<0↔y<0):=by simpa using hc
  simp -dsimp (disch:=try exact dx) only[wpS];refine drawn [(1,[7])] ab ab rfl ?_;simp -dsimp (disch:=try exact dx) only[wpS,zE,fM,ld4,im,uQ];refine call (Z2 (ha.ae (kk _ _ _)) (hb.ae (kk _ _ _)) byOmega byOmega) ?_;rintro r h1 ⟨hE,os,hD,qD⟩;simp -dsimp (disch:=try exact dx) only[wpS,zE];refine call (nZ hD _) ?_;rintro r2 h2 ⟨hE2,s1,rfl,ds1,hD1,hr1⟩;have hg:h2.ext.get (h.n+1+1)=some (.cells [.bool false,.slice none 0 0] 0 none):=by rw[hE2.get _ (by have:=hE.n;simp at this;omega),hE.get _ aa];exact aq _ _ rfl
  have jc : ∀k',k'≤h.n→True:=fun _ _=>trivial;have hr0:h1.row (2*h.n)=some [.bool (decide (x<0)),s]:=by rw[hE.row bz];simp -dsimp (disch:=try exact dx) only[wpS]
  simp -dsimp (disch:=try exact dx) only[wpS,wpT,zE,zL,zA,jI,hg,hD1.1.cok];refine⟨ai rfl rfl rfl rfl (au (av:=ptr (2*h.n) 0) (v:=.bool (decide (x<0))) rfl ?_ ?_),?_⟩
  ·simp -dsimp (disch:=try exact dx) only[wpS,ld4]
  ·simp -dsimp (disch:=try exact dx) only[wpS,ld4,hr0]
  ·simp -dsimp (disch:=try exact dx) only[wpS,wpT,zE,zL,zA,de];refine⟨(((ee _ _ _).trans hE).trans hE2).put byOmega _,?_⟩;have hz:(if decide (x<0)=true then -(ay os:Int) else ay os)=x+y:=by by_cases h0:x<0<;>simp[h0]<;>omega
   rw[hz] at hr1 ⊢;exact⟨s1,rfl,ds1,hD1.ae ((aX.refl _).put hg _),hr1⟩
 ·have hc : ¬(x<0↔y<0):=by simpa using hc
  simp -dsimp (disch:=try exact dx) only[wpS,zE,im,uQ];refine call (D8 (ha.ae (kk _ _ _)) (hb.ae (kk _ _ _)) na nb) ?_;rintro r h1 ⟨rfl,c,rfl,hc1,hc2,hc3,hc4⟩;simp -dsimp (disch:=try exact dx) only[wpS,zE];refine az ?_ ?_<;>intro hc5<;>simp only[aJ,aV] at hc5
  ·simp -dsimp (disch:=try exact dx) only[wpS,wpT];refine drawn [(1,[7])] ab ab rfl ?_;simp -dsimp (disch:=try exact dx) only[wpS,zE,fM,ld4,im,uQ];refine call (CD (ha.ae (kk _ _ _)) (hb.ae (kk _ _ _)) nb byOmega) ?_;rintro r h1 ⟨hE,os,hD,hN,qD⟩;simp -dsimp (disch:=try exact dx) only[wpS,zE];refine call (nZ hD _) ?_;rintro r2 h2 ⟨hE2,s1,rfl,ds1,hD1,hr1⟩;have hg:h2.ext.get (h.n+1+1)=some (.cells [.bool false,.slice none 0 0] 0 none):=by rw[hE2.get _ (by have:=hE.n;simp at this;omega),hE.get _ aa];exact aq _ _ rfl
   have hr0:h1.row (2*h.n)=some [.bool (decide (x<0)),s]:=by rw[hE.row bz];simp -dsimp (disch:=try exact dx) only[wpS]
   simp -dsimp (disch:=try exact dx) only[wpS,wpT,zE,zL,zA,jI,hg,hD1.1.cok];refine⟨ai rfl rfl rfl rfl (au (av:=ptr (2*h.n) 0) (v:=.bool (decide (x<0))) rfl ?_ ?_),?_⟩
   ·simp -dsimp (disch:=try exact dx) only[wpS,ld4]
   ·simp -dsimp (disch:=try exact dx) only[wpS,ld4,hr0]
   ·simp -dsimp (disch:=try exact dx) only[wpS,wpT,zE,zL,zA,de];refine⟨(((ee _ _ _).trans hE).trans hE2).put byOmega _,?_⟩;have hz:(if decide (x<0)=true then -(ay os:Int) else ay os).natAbs=(x+y).natAbs∧((if decide (x<0)=true then -(ay os:Int) else ay os)<0↔x+y<0):=by by_cases h0:x<0<;>simp[h0]<;>omega
    rw[hz.1] at hr1;refine⟨s1,?_,ds1,hD1.ae ((aX.refl _).put hg _),hr1⟩;simp only[hz.2]<;>rfl
  ·simp -dsimp (disch:=try exact dx) only[wpS,wpT];refine drawn [(1,[7])] ab ab rfl ?_;simp -dsimp (disch:=try exact dx) only[wpS,zE,fM,ld4,im,uQ];refine call (CD (hb.ae (kk _ _ _)) (ha.ae (kk _ _ _)) na byOmega) ?_;rintro r h1 ⟨hE,os,hD,hN,qD⟩;simp -dsimp (disch:=try exact dx) only[wpS,zE];refine call (nZ hD _) ?_;rintro r2 h2 ⟨hE2,s1,rfl,ds1,hD1,hr1⟩;have hg:h2.ext.get (h.n+1+1)=some (.cells [.bool false,.slice none 0 0] 0 none):=by rw[hE2.get _ (by have:=hE.n;simp at this;omega),hE.get _ aa];exact aq _ _ rfl
   have hr0:h1.row (2*(h.n+1))=some [.bool (decide (y<0)),t]:=by rw[hE.row bz];simp -dsimp (disch:=try exact dx) only[wpS]
   simp -dsimp (disch:=try exact dx) only[wpS,wpT,zE,zL,zA,jI,hg,hD1.1.cok];refine⟨ai rfl rfl rfl rfl (au (av:=ptr (2*(h.n+1)) 0) (v:=.bool (decide (y<0))) rfl ?_ ?_),?_⟩
   ·simp -dsimp (disch:=try exact dx) only[wpS,ld4]
   ·simp -dsimp (disch:=omega) only[wpS,ld4,hr0]
   ·simp -dsimp (disch:=omega) only[wpS,wpT,zE,zL,zA,de];refine⟨(((ee _ _ _).trans hE).trans hE2).put byOmega _,?_⟩;have hz:(if decide (y<0)=true then -(ay os:Int) else ay os).natAbs=(x+y).natAbs∧((if decide (y<0)=true then -(ay os:Int) else ay os)<0↔x+y<0):=by by_cases h0:y<0<;>simp[h0]<;>omega
    rw[hz.1] at hr1;refine⟨s1,?_,ds1,hD1.ae ((aX.refl _).put hg _),hr1⟩;simp only[hz.2]<;>rfl
variable {h:IH}{v:Value}
def bU.form {z:Int} (d:bU h v z) : ∃s n,v=.agg #[.bool (decide (z<0)),s]∧s.cells = #[s]∧aM s=true∧(∀{P:Program} {t:TypeId} (_:dE P (some t)=true) (h':IH),qB P h' t s=some (.int .i64 ((n:Nat):Int)))∧(n=0↔z=0):=by obtain⟨s,rfl,ds,hD,hN,hx⟩:=d;refine⟨s,ds.length,rfl,hD.1.cells,hD.1.cok,fun hT h'=>hD.1.len hT h',?_⟩;have:=hN.nW;rw[hx] at this;rw[fC,←this];omega
variable {w:Value}{y x:Int}
def ME (hv:bU h v x) (hw:bU h w y) (sx:bE x) (sy:bE y) :WV Proofs.Tryz.prog (.func (.func 220) #[] #[]) [v,w] h fun r h'=>Ext h h'∧bU h' r (x - y):=by
 obtain⟨s,n1,rfl,c1,o1,l1,z1⟩:=hv.form;obtain⟨t,n2,rfl,c2,o2,l2,z2⟩:=hw.form;refine enter (nt:=9) (rs:=[.cell 4 175]) Proofs.Tryz.func220 rfl rfl rfl aa ?_;simp -dsimp (disch:=try exact dx) only[wpS,zE,zA,ou];have kk : ∀o1 o2 o3,aX h (((h.new o1).new o2).new o3):=fun o1 o2 o3=>(((aX.refl h).new _).new _).new _;have ee : ∀o1 o2 o3,Ext h (((h.new o1).new o2).new o3):=fun o1 o2 o3=>(((Ext.refl h).new _).new _).new _;refine drawn [(0,[3])] ab ab rfl ?_;simp -dsimp (disch:=try exact dx) only[wpS,wpT,zE,zL,zA,de];refine call (IZ (hw.ae (kk _ _ _))) ?_;rintro r h1 ⟨hE,hT⟩;simp -dsimp (disch:=try exact dx) only[wpS,zE];refine call (zB (hv.ae ((kk _ _ _).trans hE.ae)) hT sx (by rw[bE,Int.natAbs_neg];exact sy)) ?_;rintro r2 h2 ⟨hE2,hr⟩;obtain⟨s1,n3,rfl,c3,o3,l3,z3⟩:=hr.form;have hg:h2.ext.get (h.n+1+1)=some (.cells [.bool false,.slice none 0 0] 0 none):=by rw[hE2.get _ (by have:=hE.n;simp at this;omega),hE.get _ aa];exact aq _ _ rfl
 have hr0:h1.row (2*h.n)=some [.bool (decide (x<0)),s]:=by rw[hE.row bz];simp -dsimp (disch:=try exact dx) only[wpS]
 simp -dsimp (disch:=try exact dx) only[wpS,wpT,zE,zL,zA,jI,hg,o3];refine⟨ai rfl rfl rfl rfl (au (av:=ptr (2*h.n) 0) (v:=.agg #[.bool (decide (x<0)),s]) rfl ?_ ?_),?_⟩
 ·simp -dsimp (disch:=try exact dx) only[wpS,wpT,zL,zA,de];rfl
 ·simp -dsimp (disch:=omega) only[wpS,wpT,zL,zA,de,hr0];rfl
 ·simp -dsimp (disch:=omega) only[wpS,wpT,zE,zL,zA,de];refine⟨(((ee _ _ _).trans hE).trans hE2).put byOmega _,?_⟩;have:x + -y=x - y:=byOmega;rw[this] at hr ⊢;exact hr.ae ((aX.refl _).put hg _)
def Hi (hv:bU h v x) (hw:bU h w y) (sx:bE x) (sy:bE y) :WV Proofs.Tryz.prog (.func (.func 143) #[] #[]) [v,w] h fun r h'=>Ext h h'∧r=KI (if x<y then -1 else if y<x then 1 else 0):=by
 obtain⟨s,n1,rfl,c1,o1,l1,z1⟩:=hv.form;obtain⟨t,n2,rfl,c2,o2,l2,z2⟩:=hw.form;refine enter (nt:=15) (rs:=[.tmp 4]) Proofs.Tryz.func143 rfl rfl rfl aa ?_;simp -dsimp (disch:=try exact dx) only[wpS,wpT,zE,zL,zA,de];refine call (ME (hv.ae (((aX.refl h).new _).new _)) (hw.ae (((aX.refl h).new _).new _)) sx sy) ?_;rintro r h1 ⟨hE,hr⟩;obtain⟨s1,n3,rfl,c3,o3,l3,z3⟩:=hr.form;have hE2:Ext h h1:=(((Ext.refl h).new _).new _).trans hE;simp -dsimp (disch:=omega) only[wpS,wpT,zE,zL,zA,ou,jI,fM,ld4,o3];refine az ?_ ?_<;>intro hc<;>simp only[aJ,aV] at hc;·simp -dsimp (disch:=omega) only[wpS,wpT,zE];refine⟨(hE2.new _).put hE2.n _,?_⟩;rw[ah byOmega]
 ·simp -dsimp (disch:=omega) only[wpS,wpT,zE,im,uQ,l3 jk];refine az ?_ ?_<;>intro hc2<;>simp only[aJ,aV] at hc2
  ·simp -dsimp (disch:=omega) only[wpS,wpT,zE];refine⟨(hE2.new _).put hE2.n _,?_⟩;rw[ad byOmega,ah byOmega]
  ·simp -dsimp (disch:=omega) only[wpS,wpT];refine⟨(hE2.new _).put hE2.n _,?_⟩;rw[ad byOmega,ad byOmega]
end Go.Id
namespace Go.Id
def wrd (n i:Nat):Nat:=n / 18446744073709551616 ^ i % 18446744073709551616
def AG (n i:Nat):wrd n i<18446744073709551616:=gE _ byOmega
theorem JM (n i:Nat):n % 18446744073709551616 ^ (i+1)=n % 18446744073709551616 ^ i+18446744073709551616 ^ i*wrd n i:=Nat.mod_pow_succ
theorem pow_two (i:Nat):4294967296 ^ (2*i)=18446744073709551616 ^ i:=by rw[CU]
theorem Jt (i:Nat):4294967296 ^ (2*i+1)=4294967296*18446744073709551616 ^ i:=by rw[dU,pow_two,gu]
variable {j i n:Nat}
theorem yN (h:n<18446744073709551616 ^ i) (hj:i≤j):wrd n j=0:=by have:n<18446744073709551616 ^ j:=cV h (fQ byOmega hj);rw[wrd,mw this]
variable {x:Nat}
theorem u7 (hj:j<i):wrd (n+x*18446744073709551616 ^ i) j=wrd n j:=by
 obtain⟨d,rfl⟩ : ∃d,i=j+1+d:=⟨i - j - 1,byOmega⟩;rw[wrd,wrd,show x*18446744073709551616 ^ (j+1+d)=18446744073709551616 ^ j*(18446744073709551616*(x*18446744073709551616 ^ d)) from by
  rw[dC,dC];grind]
 rw[Nat.add_mul_div_left _ _ (gD byOmega),C7]
theorem Dp (h:n<18446744073709551616 ^ (i+1)) (hx:wrd n i+x<18446744073709551616):wrd (n+x*18446744073709551616 ^ i) i=wrd n i+x:=by
 have h1:n / 18446744073709551616 ^ i<18446744073709551616:=by rw[oL (gD byOmega)];rw[dU] at h;rw[gu];exact h
 have h2:wrd n i=n / 18446744073709551616 ^ i:=eP h1;rw[wrd,Nat.add_mul_div_right _ _ (gD byOmega),←h2,eP hx]
theorem UP (h:n<18446744073709551616 ^ (i+1)) (hx:wrd n i+x<18446744073709551616):n+x*18446744073709551616 ^ i<18446744073709551616 ^ (i+1):=by
 have h1:n / 18446744073709551616 ^ i<18446744073709551616:=by rw[oL (gD byOmega)];rw[dU] at h;rw[gu];exact h
 have h2:wrd n i=n / 18446744073709551616 ^ i:=eP h1;have hp:0<18446744073709551616 ^ i:=gD byOmega;have h3:=nf n (18446744073709551616 ^ i);have h4:=gE n hp;rw[h2] at hx;have h5:(n / 18446744073709551616 ^ i+x+1)*18446744073709551616 ^ i≤18446744073709551616*18446744073709551616 ^ i:=cT _ byOmega;rw[dU];generalize 18446744073709551616 ^ i=p at *;have h6:(n / p+x+1)*p=p*(n / p)+x*p+p:=fO;rw[gu 18446744073709551616 p] at h5;omega
@[irreducible] def W8:Nat:=18446744073709551616 ^ 8
@[irreducible] def H8:Nat:=9223372036854775808*18446744073709551616 ^ 7
theorem An:W8=18446744073709551616 ^ 8:=by unfold W8;rfl
def uC:W8=2*H8:=by unfold W8 H8;rfl
theorem FO:W8=4294967296 ^ 16:=by unfold W8;rfl
theorem Zer:H8=2147483648*4294967296 ^ 15:=by unfold H8;rfl
def yM:9223372036854775808<H8:=by unfold H8;decide
def wdI (n:Nat):Int:=if n<H8 then (n:Int) else (n:Int) - W8
def Zck (h:n<W8):wrd n 7<9223372036854775808↔n<H8:=by
 rw[An] at h;unfold H8;have h1:n / 18446744073709551616 ^ 7<18446744073709551616:=by rw[oL (gD aP)];exact h
 rw[wrd,eP h1,oL (gD aP)]
open Go
open Go renaming Operand→QY,Program→QX,TypeId→QZ,Value→QQ
open Nat renaming reduceAdd→zA,reduceEqDiff→zE,reduceLeDiff→zL
open Nat (reduceMul)
set_option maxHeartbeats 16000000
open Go.Proofs.Tryz (prog)
def wdC (n:Nat):List Value:=(List.range 8).map fun i=>K64 (wrd n i)
def wdV (n:Nat):Value:=.agg (wdC n).toArray
theorem aH (n:Nat):(wdC n).length=8:=by simp[wdC]
theorem fZ (n i:Nat) (hi:i<8):(wdC n)[i]?=some (K64 (wrd n i)):=by simp[wdC,hi]
def Gu (n:Nat):(wdV n).cells.toList=wdC n:=rfl
def dH (n:Nat):(wdC n).all aM=true:=by simp[wdC,aM]
def T0 {h:IH} (n:Nat):WV Proofs.Tryz.prog (.func (.func 217) #[] #[]) [wdV n] h fun r h'=>Ext h h' ∧ ∃os,kO h' r os∧os.length=16∧ay os=n % W8:=by
 refine enter (nt:=23) (rs:=[.tmp 2]) Proofs.Tryz.func217 rfl rfl rfl aa ?_;simp -dsimp (disch:=omega) only[wpS,Gu];refine loop (fun m fr h1 => ∃(i:Nat) (os:List Nat) (out:Value),i+m=8∧aj fr 1=some (ptr (2*h.n) 0)∧aj fr 3=some out∧aj fr 4=some (KN i)∧os.length=2*i∧cG os∧ay os=n % 18446744073709551616 ^ i ∧Acc h1 (h.n+1) 1 out (2*i) (os.map KN)∧Ext (h.new (.cells (wdC n) 0 none)) h1) 8 ⟨0,[],.slice none 0 0,aa,aa,aa,aa,rfl,fun d hd=>(by cases hd),by simp[ay,a8,Nat.mod_one],Acc.nil _ _ byOmega,Ext.refl _⟩ ?_;rintro m fr h1 ⟨i,os,out,him,f1,f3,f4,hos,hd,hv,hA,hE⟩;have hr:h1.row (2*h.n)=some (wdC n):=by rw[hE.row aa];exact mI _ _ _ _ rfl
 simp -dsimp (disch:=omega) only[wpS,Nat.reduceEqDiff,f4];refine az ?_ ?_<;>intro hc<;>simp only[aJ,aV] at hc
 ·have hi:i<8:=byOmega;have hw:=AG n i;have e1:((wrd n i:Int) % 4294967296)=((wrd n i % 4294967296:Nat):Int):=byOmega;have e2:((wrd n i:Int) / 4294967296)=((wrd n i / 4294967296:Nat):Int):=byOmega;simp -dsimp (disch:=omega) only[wpS,wpT];refine drawn [(3,[12]),(8,[12])] ab ab rfl ?_;obtain⟨fF,h',hap,hA',hG,hE'⟩:=hA.app2 (P:=Proofs.Tryz.prog) (t:=25) FH (x:=KN (wrd n i % 4294967296)) (y:=KN (wrd n i / 4294967296)) rfl rfl byOmega hE.n hE aa;simp -dsimp (disch:=omega) only[wpS,wpT,Nat.reduceEqDiff,Nat.reduceLeDiff,Nat.reduceAdd,Nat.reduceMul,yJ,xg,Fl,Ah,oj,f1,f3,f4,hr,yJ,fZ n i hi,e1,e2,hap];refine⟨nO (ai rfl rfl rfl rfl (au (av:=ptr (2*h.n) (0+i)) (v:=K64 (wrd n i)) aa ?_ ?_)) (ai rfl rfl rfl rfl (au (av:=ptr (2*h.n) (0+i)) (v:=K64 (wrd n i)) aa ?_ ?_)),?_⟩
  ·simp -dsimp (disch:=omega) only[wpS,xg,hr,fZ n i hi]
  ·have:=hE.n;simp at this;simp -dsimp (disch:=omega) only[wpS,xg,hr,fZ n i hi]
  ·simp -dsimp (disch:=omega) only[wpS,xg,hr,fZ n i hi]
  ·have:=hE.n;simp at this;simp -dsimp (disch:=omega) only[wpS,xg,hr,fZ n i hi]
  ·simp -dsimp (disch:=omega) only[wpS,wpT,Nat.reduceEqDiff,Nat.reduceAdd,f4];refine⟨m - 1,byOmega,i+1,os ++ [wrd n i % 4294967296] ++ [wrd n i / 4294967296],fF,byOmega,by simp[f1],aa,aa,by simp[hos];omega,(hd.append byOmega).append byOmega,?_,?_,hE'⟩
   ·rw[mh,mh,hv,JM];have h1:(os ++ [wrd n i % 4294967296]).length=2*i+1:=by simp[hos]
    rw[h1,hos,pow_two,Jt];have h2:wrd n i % 4294967296+4294967296*(wrd n i / 4294967296)=wrd n i:=Nat.mod_add_div _ _;generalize hx:wrd n i % 4294967296=x at *;generalize hy:wrd n i / 4294967296=y at *;rw[←h2];grind
   ·have:List.map KN os ++ [KN (wrd n i % 4294967296),KN (wrd n i / 4294967296)]=(os ++ [wrd n i % 4294967296] ++ [wrd n i / 4294967296]).map KN:=aa;rw[←this];exact hA'
 ·obtain rfl:i=8:=byOmega;simp -dsimp (disch:=omega) only[wpS,wpT,Nat.reduceEqDiff,f3];exact⟨((Ext.refl h).new _).trans hE,os,⟨by rw[hos];exact hA.sl,hd,byOmega⟩,hos,by rw[An];exact hv⟩
def di (n:Nat):List.take 8 (List.drop 0 (wdC n))=wdC n:=by rw[cp,dr (by rw[aH];omega)]
set_option maxRecDepth 100000 in
def vX {h:IH} (n:Nat) (hn:n<W8):WV Proofs.Tryz.prog (.func (.func 136) #[] #[]) [wdV n] h fun r h'=>Ext h h'∧bU h' r (wdI n):=by
 refine enter (nt:=20) (rs:=[.cell 2 175]) Proofs.Tryz.func136 rfl rfl rfl aa ?_;simp -dsimp (disch:=try exact dx) only[wpS,zE,zL,ou,iO,Gu,aH,di];refine call (T0 n) ?_;rintro d h1 ⟨hE,os,hD,hos,qD⟩;rw[eP hn] at qD;have hE1:Ext h h1:=(((Ext.refl h).new _).new _).trans hE;have hr:h1.row (2*h.n)=some (wdC n):=by rw[hE.row bz];simp -dsimp (disch:=try exact dx) only[wpS]
 have h7:=Zck hn;simp -dsimp (disch:=omega) only[wpS,wpT,zE,zA,reduceMul,Int.reduceToNat,yJ,xg,Pe,mP,hr,yJ,fZ n 7 byOmega,show uK 7 8=some 7 from rfl];refine az ?_ ?_<;>intro hc<;>simp only[aJ,aV] at hc
 ·simp -dsimp (disch:=omega) only[wpS,wpT,zE];refine call (nZ hD false) ?_;rintro r h2 ⟨hE2,hr2⟩;have hg:h2.ext.get (h.n+1)=some (.cells [.bool false,.slice none 0 0] 0 none):=by rw[hE2.get _ (by have:=hE.n;simp at this;omega),hE.get _ aa];exact aq _ _ rfl
  obtain⟨s1,n3,rfl,c3,o3,l3,z3⟩:=hr2.form;simp -dsimp (disch:=omega) only[wpS,wpT,zE,zL,zA,reduceMul,Int.reduceToNat,jI,Pe,mP,de,hg,o3];refine⟨(hE1.trans hE2).put byOmega _,?_⟩;have:(if false=true then -(ay os:Int) else ay os)=wdI n:=by rw[wdI,ah (h7.1 byOmega),qD];rfl
  rw[this] at hr2 ⊢;exact hr2.ae ((aX.refl _).put hg _)
 ·simp -dsimp (disch:=omega) only[wpS,wpT,zE,zA,reduceMul,Int.reduceToNat,Pe,mP];simp -dsimp (disch:=omega) only[wpS,wpT,zE,zL,zA,st3,show uK 16 17=some 16 from rfl];have hE3 : ∀a b:cB,Ext h1 ((h1.new a).put h1.n b):=fun a b=>((Ext.refl h1).new _).put (ar _) _;refine call (Bf (hD.ae (hE3 _ _).ae)) ?_;rintro c h2 ⟨rfl,ds,hDs,hNs,hvs⟩;have hW:kO ((h1.new (.cells (List.map KN [0,0,0,0,0,0,0,0,0,0,0,0,0,0,0,0,0]) 1 none)).put h1.n (.cells (List.map KN [0,0,0,0,0,0,0,0,0,0,0,0,0,0,0,0,1]) 1 none)) (.slice (some ⟨2*h1.n,0,none⟩) 17 35) [0,0,0,0,0,0,0,0,0,0,0,0,0,0,0,0,1] :=
   ⟨eh (f:=none) (ak _ _ rfl) aa byOmega rfl byOmega aa,by intro d hd;simp at hd;omega,aa⟩
  have hWv:ay [0,0,0,0,0,0,0,0,0,0,0,0,0,0,0,0,1]=W8:=by rw[FO];simp[ay,a8]
  simp -dsimp (disch:=omega) only[wpS,zE];refine call (CD hW hDs hNs (by rw[hWv,hvs,qD];omega)) ?_;rintro e h3 ⟨hE4,es,hDe,hNe,hve⟩;rw[hWv,hvs,qD] at hve;simp -dsimp (disch:=omega) only[wpS,zE];refine call (nZ hDe true) ?_;rintro r h4 ⟨hE5,hr2⟩;have hz:(if true=true then -(ay es:Int) else ay es)=wdI n:=by
   have Zan : ¬n<H8:=by rw[←h7];omega
   rw[ah rfl,wdI,ad Zan,hve];omega
  rw[hz] at hr2;have hE6:=(hE3 _ _).trans (hE4.trans hE5);have hg:h4.ext.get (h.n+1)=some (.cells [.bool false,.slice none 0 0] 0 none):=by rw[hE6.get _ (by have:=hE.n;simp at this;omega),hE.get _ aa];exact aq _ _ rfl
  obtain⟨s1,n3,rfl,c3,o3,l3,z3⟩:=hr2.form;simp -dsimp (disch:=omega) only[wpS,wpT,zE,zL,zA,jI,de,hg,o3];refine⟨(hE1.trans hE6).put byOmega _,?_⟩;exact hr2.ae ((aX.refl _).put hg _)
def InW (z:Int):Prop:=-(H8:Int)≤z∧z<H8
instance (z:Int):Decidable (InW z):=inferInstanceAs (Decidable (_∧_))
def bJ (z:Int):Nat:=if 0≤z then z.toNat else W8 - z.natAbs
variable {z:Int}
def gZ (h:InW z):bJ z<W8:=by have:=uC;unfold InW at h;unfold bJ;split<;>omega
theorem dQ (h:InW z):wdI (bJ z)=z:=by
 have:=uC;unfold InW at h;unfold wdI bJ;split;·rw[ah byOmega];omega
 ·rw[ad byOmega];omega
abbrev uF (z:Int):Value:=wdV (bJ z)
abbrev ZW:Value:=.int .u64 0
theorem pV:wdC 0 = [ZW,ZW,ZW,ZW,ZW,ZW,ZW,ZW]:=by simp[wdC,wrd,Da]
theorem Z7:ay [0,0,0,0,0,0,0,0,0,0,0,0,0,0,0,2147483648]=H8:=by rw[Zer];simp[ay,a8]
theorem Sj:ay [0,0,0,0,0,0,0,0,0,0,0,0,0,0,0,0,1]=W8:=by rw[FO];simp[ay,a8]
def YW {n i x:Nat} (hi:i<8) (hn:n<18446744073709551616 ^ (i+1)) (hx:wrd n i+x<18446744073709551616):(wdC n).set i (K64 (wrd n i+x))=wdC (n+x*18446744073709551616 ^ i):=by
 apply jT;intro j;rw[uW];by_cases hij:i=j;·subst hij;rw[ah rfl,fZ _ _ hi,aH,ah hi,Dp hn hx]
 ·rw[ad hij];by_cases hj:j<8
  ·rw[fZ _ _ hj,fZ _ _ hj];by_cases hlt:j<i
   ·rw[u7 hlt]
   ·rw[yN hn byOmega,yN (UP hn hx) byOmega]
  ·rw[cI (by rw[aH];omega),cI (by rw[aH];omega)]
set_option maxRecDepth 100000 in
def OT {h:IH} {v:Value} (hv:bU h v z) :WV Proofs.Tryz.prog (.func (.func 116) #[] #[]) [v] h fun r h'=>Ext h h'∧r=if InW z then .tuple #[uF z,KI 0] else .tuple #[wdV 0,KI 6]:=by
 obtain⟨s,rfl,ds,hD,hN,hx⟩:=hv;have hl:=hD.2.2;refine enter (nt:=63) (rs:=[.cell 2 30,.tmp 3]) Proofs.Tryz.func116 rfl rfl rfl aa ?_;simp -dsimp (disch:=try exact dx) only[wpS,wpT,zE,zL,zA,reduceMul,Int.reduceToNat,rR,Pe,mP,st3,im,uQ,show uK 15 16=some 15 from rfl];have hL:kO ((((h.new (.cells [.bool (decide (z<0)),s] 0 none)).new (.cells [ZW,ZW,ZW,ZW,ZW,ZW,ZW,ZW] 0 none)).new (.cells (List.map KN [0,0,0,0,0,0,0,0,0,0,0,0,0,0,0,0]) 1 none)).put (h.n+1+1) (.cells (List.map KN [0,0,0,0,0,0,0,0,0,0,0,0,0,0,0,2147483648]) 1 none)) (.slice (some ⟨2*(h.n+1+1),0,none⟩) 16 33) [0,0,0,0,0,0,0,0,0,0,0,0,0,0,0,2147483648] :=
  ⟨eh (f:=none) (ak _ _ rfl) aa byOmega rfl byOmega aa,by intro d hd;simp at hd;omega,aa⟩
 have hE : ∀a b c d:cB,Ext h ((((h.new a).new b).new c).put (h.n+1+1) d):=fun a b c d=>((((Ext.refl h).new _).new _).new _).put byOmega _;refine call (D8 (hD.ae (hE _ _ _ _).ae) hL hN (.inr aa)) ?_;rintro r h1 ⟨e1,c,rfl,hc1,hc2,hc3,hc4⟩;have g1:h1.row (2*h.n)=some [.bool (decide (z<0)),s]:=by rw[e1];simp -dsimp (disch:=try exact dx) only[wpS]
 have g2:h1.ext.get (h.n+1)=some (.cells [ZW,ZW,ZW,ZW,ZW,ZW,ZW,ZW] 0 none):=by rw[e1];simp -dsimp (disch:=try exact dx) only[wpS]
 have g3:Ext h h1:=by rw[e1];exact hE _ _ _ _
 have g4:h.n+1<h1.n:=by rw[e1];simp
 clear e1 hL hE;rw[Z7,hx] at hc1 hc2;have hW8:=uC;by_cases hW:InW z
 ·have hc:c<0∨c=0∧z<0:=by unfold InW at hW;omega
  simp -dsimp (disch:=omega) only[wpR,zE];rw[mY];refine cut (fun fr2 h2=>h2=h1∧aj fr2 2=some (ptr (2*(h.n+1)) 0)∧aj fr2 1=some (ptr (2*h.n) 0)) ?_ ?_
  ·rcases hc with hc|⟨rfl,hz⟩
   ·simp -dsimp (disch:=omega) only[wpS,wpT,zE];exact⟨rfl,aa⟩
   ·simp -dsimp (disch:=omega) only[wpS,wpT,zE,fM,ld4,g1,Ac hz];exact⟨rfl,aa⟩
  ·rintro fr2 h2 ⟨rfl,f2,f1⟩;simp -dsimp (disch:=omega) only[wpS,zE,rR,im,uQ,fM,ld4,g1,f1];refine jm (fun fr3 h3=>aj fr3 2=some (ptr (2*(h.n+1)) 0)∧Ext h2 h3 ∧ ∃d ds2,aj fr3 6=some d∧kO h3 d ds2∧ay ds2=bJ z∧ds2.length≤16) (fun hz=>?_) (fun hz=>?_) ?_
   ·simp only[aJ] at hz
    simp -dsimp (disch:=omega) only[wpS,wpT,zE,zL,zA,reduceMul,Int.reduceToNat,Pe,mP,st3,show uK 16 17=some 16 from rfl];have hE3 : ∀a b:cB,Ext h2 ((h2.new a).put h2.n b):=fun a b=>((Ext.refl h2).new _).put (ar _) _;have hWW:kO ((h2.new (.cells (List.map KN [0,0,0,0,0,0,0,0,0,0,0,0,0,0,0,0,0]) 1 none)).put h2.n (.cells (List.map KN [0,0,0,0,0,0,0,0,0,0,0,0,0,0,0,0,1]) 1 none)) (.slice (some ⟨2*h2.n,0,none⟩) 17 35) [0,0,0,0,0,0,0,0,0,0,0,0,0,0,0,0,1] :=
     ⟨eh (f:=none) (ak _ _ rfl) aa byOmega rfl byOmega aa,by intro d hd;simp at hd;omega,aa⟩
    refine call (CD hWW (hD.ae (g3.trans (hE3 _ _)).ae) hN (by rw[Sj,hx];unfold InW at hW;omega)) ?_;rintro e h3 ⟨hE4,es,hDe,hNe,hve⟩;rw[Sj,hx] at hve;have hv2:ay es=bJ z:=by rw[hve,bJ,ad byOmega]
    simp -dsimp (disch:=omega) only[wpS,zE];refine⟨by simp[f2],(hE3 _ _).trans hE4,e,es,aa,hDe,hv2,?_⟩;have h5:=gZ hW;rw[←hv2,FO] at h5;by_cases hne:es = [];·subst hne;simp
    ·have h6:=hNe.ge hne
     have h7:=(Iu (a:=4294967296) byOmega).1 (kh h6 h5);omega
   ·simp only[aV] at hz
    simp -dsimp (disch:=omega) only[wpS,wpT];have hv2:ay ds=bJ z:=by rw[hx,bJ,ah byOmega];omega
    refine⟨by simp[f2],Ext.refl _,s,ds,aa,hD.ae g3.ae,hv2,?_⟩;have h5:=gZ hW;rw[←hv2,FO] at h5;by_cases hne:ds = [];·subst hne;simp
    ·have h6:=hN.ge hne
     have h7:=(Iu (a:=4294967296) byOmega).1 (kh h6 h5);omega
   ·rintro fr3 h3 ⟨f2,hE3,d,ds2,f6,hD2,hv2,hl2⟩;simp -dsimp (disch:=omega) only[wpS,rR];have hlen:=hD2.2.2;refine loop (fun m fr h4 => ∃i:Nat,i+m=ds2.length∧aj fr 2=some (ptr (2*(h.n+1)) 0)∧aj fr 6=some d∧aj fr 8=some (ptr (2*h3.n) 0)∧aj fr 9=some (KN i)∧h3.n<h4.n∧h4.ext.get h3.n=some (.cells (wdC (a8 ds2 i)) 0 none)∧Ext h3 h4) ds2.length ⟨0,aa,by simp[f2],by simp[f6],aa,aa,aa,by rw[a8,pV];exact aq _ _ rfl,(Ext.refl h3).new _⟩ ?_;rintro m fr h4 ⟨i,him,f2,f6,f8,f9,hn4,hg4,hE4⟩;simp -dsimp (disch:=try exact dx) only[wpS,zE,f6,f9,hD2.1.len jk];refine az ?_ ?_<;>intro hc<;>simp only[aJ,aV] at hc
    ·have hi:i<ds2.length:=byOmega;have dd:=cM hD2.2.1 i;have hvl:=kP hD2.2.1 i;have jc:h4.row (2*h3.n)=some (wdC (a8 ds2 i)):=by rw[mJ];exact Fs hg4
     have e1:((i:Int) / 2)=((i / 2:Nat):Int):=byOmega;have hi8:i / 2<8:=byOmega;obtain⟨x,hsh,hx1,hx2⟩ : ∃x:Nat,(∀t o1 o2,binop Proofs.Tryz.prog .shl t o1 o2 (K64 (ds2.getD i 0)) (.int .i64 (32*((i:Int) % 2)))=some (K64 x))∧a8 ds2 (i+1)=a8 ds2 i+x*18446744073709551616 ^ (i / 2)∧wrd (a8 ds2 i) (i / 2)+x<18446744073709551616:=by
      rcases Nat.mod_two_eq_zero_or_one i with hm|hm
      ·obtain⟨k,rfl⟩ : ∃k,i=2*k:=⟨i / 2,byOmega⟩;have hk:2*k / 2=k:=byOmega;refine⟨ds2.getD (2*k) 0,fun t o1 o2=>?_,?_,?_⟩
       ·have e2:(32*(((2*k:Nat):Int) % 2))=((0:Nat):Int):=byOmega;rw[e2,QH _ _ _ _ byOmega byOmega];simp
       ·rw[a8,hk,pow_two]
       ·rw[hk,yN (by rw[←pow_two];exact hvl) (ar _)];omega
      ·obtain⟨k,rfl⟩ : ∃k,i=2*k+1:=⟨i / 2,byOmega⟩;have hk:(2*k+1) / 2=k:=byOmega;refine⟨ds2.getD (2*k+1) 0*4294967296,fun t o1 o2=>?_,?_,?_⟩
       ·have e2:(32*(((2*k+1:Nat):Int) % 2))=((32:Nat):Int):=byOmega;rw[e2,QH _ _ _ _ byOmega byOmega]
       ·rw[a8,hk,Jt];grind
       ·rw[hk];rw[Jt] at hvl;have h8:a8 ds2 (2*k+1) / 18446744073709551616 ^ k<4294967296:=by rw[oL (gD byOmega)];exact hvl
        have h9:wrd (a8 ds2 (2*k+1)) k≤a8 ds2 (2*k+1) / 18446744073709551616 ^ k:=Nat.mod_le _ _;omega
     have hwl:a8 ds2 i<18446744073709551616 ^ (i / 2+1):=by have h8:4294967296 ^ i≤4294967296 ^ (2*(i / 2+1)):=fQ byOmega byOmega;rw[pow_two] at h8;omega
     have Pp:=YW hi8 hwl hx2;rw[←hx1] at Pp;have Po:IH.aI (wdC (a8 ds2 i)) (i / 2) [.int .u64 ((wrd (a8 ds2 i) (i / 2):Int)+(x:Int))]=wdC (a8 ds2 (i+1)):=by rw[jz (by rw[aH];exact hi8),←Pp];rfl
     have hwr:=AG (a8 ds2 i) (i / 2);simp -dsimp (disch:=try exact dx) only[wpS,wpT,zE,zL,yJ,xg,Ks,AL,f6,f8,f9,e1,yJ,jc,fZ _ _ hi8,hD2.1.idx mP hi,hD2.1.ld hE4.ae (P:=Proofs.Tryz.prog) (t:=3) (c:=i) (by simpa using hi) ag3,dI,get_some hi,hsh,hg4,aH,Po];refine⟨m - 1,byOmega,i+1,byOmega,by simp[f2],by simp[f6],by simp[f8],aa,by simpa using hn4,ak _ _ rfl,hE4.put (ar _) _⟩
    ·obtain rfl:i=ds2.length:=byOmega;have hgz:h4.ext.get (h.n+1)=some (.cells [ZW,ZW,ZW,ZW,ZW,ZW,ZW,ZW] 0 none):=by rw[hE4.get _ (by have:=hE3.n;omega),hE3.get _ g4];exact g2
     have jc:h4.row (2*h3.n)=some (wdC (bJ z)):=by rw[mJ,←hv2];exact Fs hg4
     have Po:IH.aI [ZW,ZW,ZW,ZW,ZW,ZW,ZW,ZW] 0 (wdC (bJ z))=wdC (bJ z):=jA (by rw[aH];rfl);simp -dsimp (disch:=omega) only[wpS,wpT,zE,zL,zA,oV,iO,f2,f8,jc,hgz,aH,di,dH,Po]
     refine⟨((g3.trans hE3).trans hE4).put byOmega _,?_⟩
     rw[ah hW];rfl
 ·have hc:0<c∨c=0 ∧ ¬z<0:=by unfold InW at hW;omega
  rcases hc with hc|⟨hc,hz⟩;·simp -dsimp (disch:=omega) only[wpS,wpT,zE,zL,zA,Gj,oV,iO,g2];refine⟨g3.put byOmega _,?_⟩;rw[ad hW,wdV,pV];rfl
  ·subst hc
   simp -dsimp (disch:=omega) only[wpS,wpT,zE,zL,zA,fM,ld4,Gj,oV,iO,g1,g2,Ad hz];refine⟨g3.put byOmega _,?_⟩;rw[ad hW,wdV,pV];rfl
theorem xl (n:Int):IntKind.u64.wrap n=n % 18446744073709551616:=by simp[IntKind.wrap,IntKind.bits,IntKind.signed]
def K8 (n:Nat):(wdV n).cells.toList=wdC n:=rfl
abbrev gV (n:Int):Prop:=-9223372036854775808≤n∧n<9223372036854775808
def OO (b:Nat) (hb:0<b) (m k:Nat) (h:m≤k):b ^ m≤b ^ k:=fQ hb h
def QE {n:Int} (h:n.natAbs≤18446744073709551616):bE n:=by have h1:=OO 4294967296 aP 3 1000000 aP;have h2:(4294967296:Nat) ^ 3=79228162514264337593543950336:=aP;unfold bE Small;refine cV ?_ h1;omega
def ZcP {z:Int} (h:InW z):bE z:=by have h1:=OO 4294967296 aP 16 1000000 aP;rw[←FO] at h1;have h2:=uC;have h3:=yM;unfold InW at h;unfold bE Small;refine cV ?_ h1;omega
variable {h:IH}
set_option maxRecDepth 100000 in
def qA (n:Int) (hn:gV n):WV Proofs.Tryz.prog (.func (.func 117) #[] #[]) [KI n] h fun r h'=>Ext h h'∧bU h' r n:=by
 have hB : ∃u:Nat,u=n.natAbs:=⟨_,rfl⟩;obtain⟨u,hu⟩:=hB;refine enter (nt:=21) (rs:=[.cell 2 175]) Proofs.Tryz.func117 rfl rfl rfl aa ?_;simp -dsimp (disch:=omega) only[wpR];rw[mY];simp -dsimp (disch:=omega) only[wpR,ou];rw[mY];simp -dsimp (disch:=omega) only[wpR,zE];rw[mY];simp -dsimp (disch:=omega) only[wpR,zE,Ks];rw[mY];refine cut (fun fr2 h2=>h2=h.new (.cells [.bool false,.slice none 0 0] 0 none)∧aj fr2 2=some (ptr (2*h.n) 0)∧aj fr2 3=some (.bool (decide (n<0)))∧aj fr2 4=some (K64 u)) ?_ ?_
 ·by_cases hz:n<0
  ·have e1:IntKind.u64.wrap n=n+18446744073709551616:=by rw[xl];omega
   have e2:IntKind.u64.wrap (-(n+18446744073709551616))=(u:Int):=by rw[xl];omega
   simp -dsimp (disch:=omega) only[wpS,zE,Ac hz,e1,e2];exact⟨rfl,by simp[hz]⟩
  ·have e1:n=(u:Int):=byOmega;simp -dsimp (disch:=omega) only[wpS,zE,Ad hz];exact⟨rfl,aa,bq,by simp;exact e1⟩
 ·rintro fr2 h2 ⟨rfl,f2,f3,f4⟩;have e1:((u:Int) % 4294967296)=((u % 4294967296:Nat):Int):=byOmega;have e2:((u:Int) / 4294967296)=((u / 4294967296:Nat):Int):=byOmega;simp -dsimp (disch:=omega) only[wpS,wpT,zE,zL,zA,reduceMul,Fl,Ah,f3,f4,e1,e2];have hD:kO ((h.new (.cells [.bool false,.slice none 0 0] 0 none)).new (.cells (List.map KN [u % 4294967296,u / 4294967296]) 1 none)) (.slice (some ⟨2*(h.n+1),0,none⟩) 2 5) [u % 4294967296,u / 4294967296] :=
   ⟨eh (f:=none) (aq _ _ rfl) aa byOmega rfl byOmega aa,by intro d hd;simp at hd;omega,aa⟩
  refine call (nZ hD _) ?_;rintro r h1 ⟨hE,hr⟩;have hz:(if decide (n<0)=true then -(ay [u % 4294967296,u / 4294967296]:Int) else ay [u % 4294967296,u / 4294967296])=n:=by
   have:ay [u % 4294967296,u / 4294967296]=u:=by simp[ay,a8];omega
   rw[this];by_cases h0:n<0<;>simp[h0]<;>omega
  rw[hz] at hr;obtain⟨s1,n3,rfl,c3,o3,l3,z3⟩:=hr.form;have hg:h1.ext.get h.n=some (.cells [.bool false,.slice none 0 0] 0 none):=by rw[hE.get _ bz];simp -dsimp (disch:=try exact dx) only[wpS]
  simp -dsimp (disch:=omega) only[wpS,wpT,zE,zL,zA,jI,de,f2,hg,o3];refine⟨((((Ext.refl h).new _).new _).trans hE).put byOmega _,?_⟩;exact hr.ae ((aX.refl _).put hg _)
def hP (n:Int) (hn:gV n):WV Proofs.Tryz.prog (.func (.func 43) #[] #[]) [KI n] h fun r h'=>Ext h h'∧r=uF n:=by
 refine enter (nt:=12) (rs:=[.cell 2 30]) Proofs.Tryz.func43 rfl rfl rfl aa ?_;simp -dsimp (disch:=omega) only[wpS,zE,rR];refine call (qA n hn) ?_;rintro r h1 ⟨hE,hr⟩;simp -dsimp (disch:=omega) only[wpS,zE];refine call (OT hr) ?_;rintro r2 h2 ⟨hE2,rfl⟩;have hW:InW n:=by have:=yM;unfold InW;omega
 rw[ah hW];have hg:h2.ext.get h.n=some (.cells [ZW,ZW,ZW,ZW,ZW,ZW,ZW,ZW] 0 none):=by rw[hE2.get _ (by have:=hE.n;simp at this;omega),hE.get _ aa];exact aq _ _ rfl
 have Po:IH.aI [ZW,ZW,ZW,ZW,ZW,ZW,ZW,ZW] 0 (wdC (bJ n))=wdC (bJ n):=jA (by rw[aH];rfl);have hlt:h.n<h2.n:=by have a1:=hE.n;have a2:=hE2.n;simp only[bj] at a1;omega
 simp -dsimp (disch:=omega) only[wpS,wpT,zE,zL,zA,rR,oV,iO,K8,aH,dH,di,Po,hg];exact⟨((((Ext.refl h).new _).trans hE).trans hE2 |>.new _).put byOmega _ |>.put byOmega _,rfl⟩
end Go.Id
namespace Go.Id
variable {ds:List Nat}{w k:Nat}
theorem fW (hk:k<ds.length) (j:Nat):(ds.set k w).getD j 0=if j=k then w else ds.getD j 0:=by
 simp only[bC,uW];by_cases h:k=j;·subst h;simp[hk]
 ·rw[ad h,ad (fun x=>h x.symm)]
def vj {ds:List Nat} {k w:Nat} (hk:k<ds.length) : ∀n,a8 (ds.set k w) n+(if k<n then ds.getD k 0*4294967296 ^ k else 0)=a8 ds n+(if k<n then w*4294967296 ^ k else 0)
 | 0=>by simp[a8]
 | n+1=>by
  have ih:=vj (w:=w) hk n;rw[a8,a8,fW hk];by_cases h1:k<n;·rw[ah h1,ah h1] at ih;rw[ah (show k<n+1 by omega),ah (show k<n+1 by omega),ad (show ¬n=k by omega)];omega
  ·rw[ad h1,ad h1] at ih;by_cases h2:n=k
   ·subst h2;rw[ah (jR n),ah (jR n),ah rfl];omega
   ·rw[ad (show ¬k<n+1 by omega),ad (show ¬k<n+1 by omega),ad h2];omega
def lq (w:Nat) (hk:k<ds.length):ay (ds.set k w)+ds.getD k 0*4294967296 ^ k=ay ds+w*4294967296 ^ k:=by have h:=vj (w:=w) hk ds.length;rw[ah hk,ah hk] at h;rw[ay,ay,dV];exact h
theorem sD (m:Nat) : ∀n,a8 (List.replicate m 0) n=0
 | 0=>rfl
 | n+1=>by
  rw[a8,sD m n];have:(List.replicate m 0).getD n 0=0:=by rw[bC,ID];split<;>rfl
  rw[this];simp
theorem nm (m:Nat):ay (List.replicate m 0)=0:=sD m _
def nG (m j:Nat):(List.replicate m 0).getD j 0=0:=by rw[bC,ID];split<;>rfl
def cG.set (h:cG ds) (k:Nat) (hw:w<4294967296):cG (ds.set k w):=by
 intro d hd;rcases xY hd with h1|h1;·exact h d h1
 ·omega
theorem cG.cj (m:Nat):cG (List.replicate m 0):=by intro d hd;rw[List.mem_replicate] at hd;omega
def Norm.Rt (h:Norm ds) {m:Nat} (hs:ay ds<4294967296 ^ m):ds.length≤m:=by
 apply dW;intro hn;have hne:ds ≠ []:=by intro h0;subst h0;simp at hn
 have h1:=h.ge hne;have h2:4294967296 ^ m≤4294967296 ^ (ds.length - 1):=fQ byOmega byOmega;omega
variable {ds:List Nat}
def yU (h:cG ds) : ∀{n k:Nat},n≤k→a8 ds k % 4294967296 ^ n=a8 ds n
 | n,0,hk=>by obtain rfl:n=0:=byOmega;simp[a8]
 | n,k+1,hk=>by
  by_cases hn:n=k+1;·subst hn;exact eP (kP h _)
  ·have ih:=yU h (show n≤k by omega)
   rw[a8];have hd:4294967296 ^ n∣ds.getD k 0*4294967296 ^ k:=pP (xS _ byOmega) (Az _ _);obtain⟨c,hc⟩:=hd;rw[hc,C7,ih]
theorem wy (h:cG ds) (j:Nat):ds.getD j 0=ay ds / 4294967296 ^ j % 4294967296:=by
 have hp:=vH j;by_cases hj:j<ds.length
 ·have e1:a8 ds (j+1)=ay ds % 4294967296 ^ (j+1):=(yU h (show j+1≤ds.length by omega)).symm;have e2:a8 ds (j+1) / 4294967296 ^ j=ds.getD j 0:=by rw[a8,Nat.add_mul_div_right _ _ hp,mw (kP h j),eu]
  rw[←e2,e1,dU,NM]
 ·rw[ff byOmega];have h1:=lJ h;have h2:4294967296 ^ ds.length≤4294967296 ^ j:=fQ byOmega byOmega;rw[mw byOmega]
theorem Q3 (j:Nat):4294967296 ^ j=2 ^ (32*j):=by rw[CU]
variable {i k:Nat}
def Zef (h:cG ds) (hk:k<32):ds.getD i 0 / 2 ^ k % 2=ay ds / 2 ^ (32*i+k) % 2:=by
 rw[wy h,Q3,dC,←xV];generalize ay ds / 2 ^ (32*i)=x;have e2:4294967296=2 ^ k*2 ^ (32 - k):=by rw[←dC,show k+(32 - k)=32 by omega]
 rw[e2,NM];have:2∣2 ^ (32 - k):=⟨2 ^ (31 - k),by rw[←Nat.pow_succ'];congr 1;omega⟩;exact Nat.mod_mod_of_dvd _ this
def Yp (h:cG ds) (hk:k<32) (hd:2 ^ (32*i+k+1)∣ay ds):ds.getD i 0+2 ^ k<4294967296:=by
 have hd:2 ^ (k+1)∣ds.getD i 0:=by
  rw[wy h,Q3];obtain⟨c,hc⟩:=hd;have e:2 ^ (32*i+k+1)=2 ^ (32*i)*2 ^ (k+1):=by rw[←dC];congr 1
  rw[hc,e,uV,Nat.mul_div_cancel_left _ (gD byOmega)];have e2:4294967296=2 ^ (k+1)*2 ^ (31 - k):=by rw[←dC,show k+1+(31 - k)=32 by omega]
  rw[show(4294967296:Nat)=2 ^ (k+1)*2 ^ (31 - k) from e2];exact(Nat.dvd_mod_iff (xU _ _)).2 (xU _ _)
 have hlt:2 ^ k<2 ^ (k+1):=xR byOmega byOmega;have hw:=cM h i;obtain⟨c,hc⟩:=hd;rw[hc] at hw ⊢;have e2:4294967296=2 ^ (k+1)*2 ^ (31 - k):=by rw[←dC,show k+1+(31 - k)=32 by omega]
 rw[e2] at hw ⊢;have hc2:c<2 ^ (31 - k):=Nat.lt_of_mul_lt_mul_left hw;have:2 ^ (k+1)*(c+1)≤2 ^ (k+1)*2 ^ (31 - k):=Iw _ hc2;rw[tF,dG] at this;omega
def KO (a b K V r:Nat):Prop:=a=b*V+r*2 ^ K+a % 2 ^ K∧2 ^ K∣V∧r<b
theorem Ro (a K:Nat):a % 2 ^ (K+1)=a / 2 ^ K % 2*2 ^ K+a % 2 ^ K:=by rw[dU,Nat.mod_mul,xW,gu]
variable {r K a V b:Nat}
def Xz (h:KO a b (K+1) V r) (hc:b≤2*r+a / 2 ^ K % 2):KO a b K (V+2 ^ K) (2*r+a / 2 ^ K % 2 - b):=by
 obtain⟨h1,h2,h3⟩:=h;rw[Ro] at h1;have hb:=gE (a / 2 ^ K) (show 0<2 by omega);generalize a / 2 ^ K % 2=d at *;obtain⟨e,he⟩ : ∃e,2*r+d=b+e:=⟨2*r+d - b,byOmega⟩;refine⟨?_,?_,byOmega⟩
 ·rw[he,Nat.add_sub_cancel_left];rw[h1.trans (show _=(b*V+(2*r+d)*2 ^ K)+a % 2 ^ K by rw[dU];grind)];rw[he];have e3:(b*V+(b+e)*2 ^ K+a % 2 ^ K) % 2 ^ K=a % 2 ^ K:=by obtain⟨c,hc⟩:=pP (xS 2 (nc K)) h2;rw[hc];have:b*(2 ^ K*c)+(b+e)*2 ^ K+a % 2 ^ K=a % 2 ^ K+2 ^ K*(b*c+(b+e)):=fO;rw[this,C7,Nat.mod_mod]
  rw[e3];grind
 ·exact(Nat.dvd_add_right (pP (xS _ byOmega) h2)).2 (Nat.dvd_refl _)
def Ul (h:KO a b (K+1) V r) (hc:2*r+a / 2 ^ K % 2<b):KO a b K V (2*r+a / 2 ^ K % 2):=by obtain⟨h1,h2,h3⟩:=h;rw[Ro] at h1;refine⟨?_,pP (xS _ byOmega) h2,hc⟩;rw[dU] at h1;generalize a / 2 ^ K % 2=d at *;have e:(2*r+d)*2 ^ K=r*(2 ^ K*2)+d*2 ^ K:=fO;omega
def PQ (h:a / 2 ^ K<b):KO a b K 0 (a / 2 ^ K):=by refine⟨?_,Nat.dvd_zero _,h⟩;have:=nf a (2 ^ K);rw[gu (a / 2 ^ K)];omega
def XA (h:KO a b 0 V r):V=a / b∧r=a % b:=by obtain⟨h1,_,h3⟩:=h;simp only[pN,dG,Nat.mod_one,fR] at h1;have e1:=Nat.mul_add_mod b V r;have e2:=Nat.mul_add_div (show 0<b by omega) V r;rw[←h1,eP h3] at e1;rw[←h1,mw h3,fR] at e2;exact⟨e2.symm,e1.symm⟩
theorem SE (h:cG ds) (m:Nat):ay (ds.drop m)=ay ds / 4294967296 ^ m:=by
 induction m generalizing ds with
 | zero=>simp
 | succ m ih =>
  cases ds with
  | nil=>simp[ay,a8]
  | cons d ds =>
   have hd:cG ds:=fun x hx=>h x (by simp[hx]);have hd0:d<4294967296:=h d aa;rw[List.drop_succ_cons,ih hd,ns,dU,gu (4294967296 ^ m),←xV];congr 1;omega
def Norm.drop (h:Norm ds) (m:Nat):Norm (ds.drop m):=by
 by_cases hm:ds.length≤m;·left;exact List.drop_eq_nil_of_le hm
 ·rcases h with rfl|h
  ·left;simp
  ·right;rw[oN];have:(ds.drop m).getD (ds.length - m - 1) 0=ds.getD (ds.length - 1) 0:=by simp only[bC,kj];rw[show m+(ds.length - m - 1)=ds.length - 1 by omega]
   rw[this];exact h
def cG.drop (h:cG ds) (m:Nat):cG (ds.drop m):=fun d hd=>h d (List.mem_of_mem_drop hd)
end Go.Id
