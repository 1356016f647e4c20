/-
  Contracts: package kernel: Check.
-/
import Derived.Test.YtnnmjocmapilaaaGreatTemperRoundsAr
import Derived.Test.YtnnmjocmapilaaaGreatTemperRoundsAq
set_option linter.unusedVariables false
set_option linter.unusedSimpArgs false
set_option linter.defProp false
set_option linter.deprecated false
namespace Go.Id
open Go
open Go renaming Operand→QY,Program→QX,TypeId→QZ,Value→QQ
open Nat renaming reduceAdd→zA,reduceEqDiff→zE,reduceLeDiff→zL
open Nat (reduceMul)
set_option maxHeartbeats 16000000
open Go.Proofs.Tryz (prog)
def zm (p:Nat×Nat):Prop:=¬okS p.1 p.2∨wdI p.1<0
def mw (l:List (Nat×Nat)):Prop:=(∀p∈l,¬zm p)∧jV (l.map rOf)=1
def jH (ll:List (List (Nat×Nat))):Prop:=1≤ll.length∧ll.length≤60 ∧ ∀l∈ll,l.length=ll.length∧mw l
theorem zZ {p:Nat×Nat} (h : ¬zm p):okS p.1 p.2∧0≤wdI p.1:=by unfold zm at h;refine⟨di fun hn=>h (.inl hn),?_⟩;have : ¬wdI p.1<0:=fun hn=>h (.inr hn);omega
open Classical in
def Sj {h:IH} {p:Nat×Nat} (h1:p.1<W8) (h2:p.2<W8) :WV prog (.func (.func 203) #[] #[]) [shV p.1 p.2] h fun r h'=>Ext h h'∧r=.bool (decide (zm p)):=by
 have E1:Ext h (h.new (.cells (shC p.1 p.2) 0 none)):=(Ext.refl h).new _;have g1:(h.new (.cells (shC p.1 p.2) 0 none)).ext.get h.n=some (.cells (shC p.1 p.2) 0 none):=by simp (disch:=try exact dx) only[ar]
 refine enter (nt:=13) (rs:=[.tmp 2]) Proofs.Tryz.func203 rfl rfl rfl ab ?_;simp -dsimp (disch:=try exact dx) only[wpS,zE,zL,iY,bR,ba,dJ];refine call (CQ p.1 p.2 h1 h2) ?_;rintro _ v1 ⟨X1,rfl⟩;have m1:=X1.n;simp only[aH] at m1;by_cases ok:okS p.1 p.2
 case neg =>
  rw[ah ok,ct (show zm p from .inl ok)];simp -dsimp (disch:=try exact dx) only[wpS,wpT,zE];exact E1.trans X1
 rw[aq ok];simp -dsimp (disch:=try exact dx) only[wpS,wpT,zE,zL,iY,ay (X1.kept ab g1),ba,dJ];refine call (rK p.1 p.2 h1 h2) ?_;rintro _ v2 ⟨X2,a,s,b,t,rfl,q1,q2⟩;simp -dsimp (disch:=try exact dx) only[wpS,wpT,zE,UR];refine call (C4 q1) ?_;rintro _ v3 ⟨X3,rfl⟩;have XX:=((E1.trans X1).trans X2).trans X3;by_cases c:wdI p.1<0
 ·rw[aq c,ct (show zm p from .inr c)];simp -dsimp (disch:=try exact dx) only[wpS,wpT,zE];exact XX
 ·rw[ah c,bF (show ¬zm p from fun h=>h.elim (fun h=>h ok) c)];obtain⟨z,hz,hz0⟩ : ∃z:Int,(if wdI p.1=0 then (0:Int) else 1)=z∧0≤z:=⟨_,rfl,by split<;>omega⟩;rw[hz];simp -dsimp (disch:=try exact dx) only[wpS,wpT,zE];exact XX
open Classical in
def Ek {h:IH} {v F:QQ} {l:List (Nat×Nat)} (hv:kU h v l) (B:Nat×Nat→Prop) (hF : ∀h1 p,Ext h h1→p∈l→WV prog F [shV p.1 p.2] h1 fun r h2=>Ext h1 h2∧r=.bool (decide (B p))) :WV prog (.func (.func 173) #[] #[]) [v,F] h fun r h'=>Ext h h'∧r=.bool (decide (∃p∈l,B p)):=by
 have hlb:=hv.2.1;have Xl:WV prog (.func (.func 228) #[] #[]) [v,F] h fun r h'=>Ext h h' ∧ ∃c:Int,r=KI c∧(0≤c ↔ ∃p∈l,B p):=by
  refine enter (nt:=19) (rs:=[.tmp 4]) Proofs.Tryz.func228 rfl rfl rfl ab ?_;simp -dsimp (disch:=try exact dx) only[wpS,zE,zA,hv.1.len xz];refine loop (fun m fr h1 => ∃i:Nat,i+m=l.length∧Ext h h1∧(∀(j:Nat) p,j<i→l[j]?=some p → ¬B p)∧ax fr 0=some v∧ax fr 1=some F∧ax fr 7=some (KN l.length)∧ax fr 8=some (KN i)) l.length ⟨0,aa,Ext.refl _,fun j p hj=>aa,ab,ab,ab,ab⟩ ?_;rintro m fr h1 ⟨i,him,hE,hno,f0,f1,f7,f8⟩;simp -dsimp (disch:=try exact dx) only[wpS,f7,f8];refine aG ?_ ?_<;>intro hc<;>simp only[aS,aV] at hc
  ·have hi:i<l.length:=aa;obtain⟨p,hp⟩ : ∃p,l[i]?=some p:=⟨_,aK hi⟩;have hpm:=bh hp;simp -dsimp (disch:=try exact dx) only[wpS,wpT,zE,f0,f1,f8,hv.1.idx tH hi,hv.ld hE.ai hp];refine call (hF h1 p hE hpm) ?_;rintro _ h2 ⟨hE2,rfl⟩;have E2:=hE.trans hE2;by_cases hk:B p
   ·rw[ct hk];simp -dsimp (disch:=try exact dx) only[wpS,zE];exact⟨E2,(i:Int),rfl,fun _=>⟨p,hpm,hk⟩,fun _=>aa⟩
   ·rw[bF hk];simp -dsimp (disch:=try exact dx) only[wpS,zE,f8];refine⟨m - 1,aa,i+1,aa,E2,?_,by simp[f0],by simp[f1],by simp[f7],ab⟩;intro j q hj hq;by_cases hji:j=i
    ·subst hji;rw[hp] at hq;cases hq;exact hk
    ·exact hno j q aa hq
  ·simp -dsimp (disch:=try exact dx) only[wpS,wpT];refine⟨hE,-1,rfl,fun h=>aa,fun⟨p,hp,hb⟩=>?_⟩;obtain⟨j,hj⟩:=gH hp;have:=(bU.1 hj).1;exact absurd hb (hno j p aa hj)
 refine enter (nt:=9) (rs:=[.tmp 4]) Proofs.Tryz.func173 rfl rfl rfl ab ?_;simp -dsimp (disch:=try exact dx) only[wpS,zE,zA];refine call Xl ?_;rintro _ h1 ⟨hE,c,rfl,hc⟩;simp -dsimp (disch:=try exact dx) only[wpS,zE];exact⟨hE,by rw[BW.2 hc]⟩
def Pa {h:IH} {v:QQ} {l:List (Nat×Nat)} (hv:kU h v l) (ho : ∀p∈l,okS p.1 p.2) (hl:l.length≤1000) :WV prog (.func (.func 204) #[] #[]) [v,(.func (.func 156) #[] #[])] h fun r h'=>Ext h h'∧jr h' r (jV (l.map rOf))∧QB (l.length*(512+1)) (jV (l.map rOf)):=by
 have hq0 : ∀q∈l.map rOf,QB 512 q:=by intro q hq;obtain⟨p,hp,rfl⟩:=ir.1 hq;exact tV (hv.2.2 p hp).1 (hv.2.2 p hp).2 (ho p hp)
 have hQ : ∀i,i≤l.length→QB (i*(512+1)) (jV ((l.take i).map rOf)):=by intro i hi;have:=QB.jV (k:=512) hq0 i (by simpa using hi);rwa [←sN] at this
 refine enter (nt:=22) (rs:=[.cell 4 137]) Proofs.Tryz.func204 rfl rfl rfl ab ?_;simp -dsimp (disch:=try exact dx) only[wpS,zA,oF];have E1:Ext h (h.new (.cells ZR 0 none)):=(Ext.refl h).new _;have g1:(h.new (.cells ZR 0 none)).ext.get h.n=some (.cells ZR 0 none):=by simp (disch:=try exact dx) only[ar]
 refine call (uG 0 ⟨aa,aa⟩) ?_;rintro z h1 ⟨X1,p1⟩;have m1:=X1.n;simp only[aH] at m1;obtain⟨a3,s3,b3,t3,rfl,_,_,d1,o1,d2,o2,o3,o4⟩:=p1.parts;have kg:=X1.kept ab g1;simp -dsimp (disch:=try exact dx) only[wpS,wpT,zE,zL,zA,oF,nv,o1,o2,o3,o4,hv.1.len xz];have Ex2:Ext h1 ((h1.new (.cells ZR 0 none)).put h1.n (.cells [a3,s3,b3,t3] 0 none)):=((Ext.refl h1).new _).put (aA _) _;refine loop (fun m fr hh => ∃(i:Nat) (a s b t:QQ),i+m=l.length∧Ext h hh∧h1.n<hh.n∧hh.ext.get h.n=some (.cells ZR 0 none)∧hh.ext.get h1.n=some (.cells [a,s,b,t] 0 none)∧jr hh (.agg #[a,s,b,t]) (jV ((l.take i).map rOf)) ∧ax fr 1=some (.func (.func 156) #[] #[])∧ax fr 4=some (ptr (2*h.n) 0)∧ax fr 5=some (ptr (2*h1.n) 0)∧ax fr 9=some v∧ax fr 10=some (KN l.length)∧ax fr 11=some (KN i)) l.length ⟨0,a3,s3,b3,t3,aa,(E1.trans X1).trans Ex2,ab,by simp (disch:=try exact dx) only[aE,au];exact kg,by simp (disch:=try exact dx) only[aj],p1.ai Ex2.ai,ab,ab,ab,ab,ab,ab⟩ ?_;clear p1 kg Ex2;rintro m fr hh ⟨i,a,s,b,t,him,hE,hn,hg,hg5,hp,f1,f4,f5,f9,f10,f11⟩;simp -dsimp (disch:=try exact dx) only[wpS,zA,f10,f11];refine aG ?_ ?_<;>intro hc<;>simp only[aS,aV] at hc
 ·have hi:i<l.length:=aa;obtain⟨q,hq⟩ : ∃q,l[i]?=some q:=⟨_,aK hi⟩;have hqm:=bh hq;obtain⟨w1,w2⟩:=hv.2.2 q hqm;simp -dsimp (disch:=try exact dx) only[wpS,wpT,zE,zL,zA,pj,jT,f9,f11,hv.1.idx tH hi,hv.ld hE.ai hq,bR,ba,cT,fD];obtain⟨H0,hH0⟩ : ∃H0,H0=(hh.new (.cells Z16 0 none)).put hh.n (.cells (shC q.1 q.2) 0 none):=⟨_,rfl⟩;have e0:Ext hh H0:=by rw[hH0];exact((Ext.refl hh).new _).put (aA _) _
  have n0:H0.n=hh.n+1:=by rw[hH0];rfl
  have gx:H0.ext.get hh.n=some (.cells (shC q.1 q.2) 0 none):=by rw[hH0];simp (disch:=try exact dx) only[aj]
  have hnn:=hE.n;have gs:=e0.kept hn hg5;have gz:=e0.kept aa hg;rw[←hH0];clear hH0;have X0:=Ext.refl H0;obtain⟨_,_,L1⟩:=pl4 gs;refine drawn [(0,[4])] ae ae rfl ?_;simp -dsimp (disch:=try exact dx) only[wpS,wpT,zE,zL,zA,iY,mB,f1,f5,ay gs,ay gx,kA,ba,dJ];refine call (rK q.1 q.2 w1 w2) ?_;rintro r h2 ⟨X2,p2⟩;have m2:=X2.n;have p2:=p2.rat (ho q hqm);simp -dsimp (disch:=try exact dx) only[wpS,zE];have hkb:i*(512+1)+512+1<16000000:=aa;refine call (IF (hp.ai (e0.trans X2).ai) p2 (hQ i aa) (tV w1 w2 (ho q hqm)) hkb) ?_;rintro r3 h3 ⟨hE3,p3⟩;have m3:=hE3.n;have X3:=X2.trans hE3;have eT:jV ((l.take i).map rOf)+rOf (q.1,q.2)=jV ((l.take (i+1)).map rOf):=by rw[jA hq,gF,jJ,nJ,pR]
  rw[eT] at p3;obtain⟨a4,s4,b4,t4,rfl,_,_,_,o1,_,o2,o3,o4⟩:=p3.parts;have k5:=X3.kept aa gs;have kz:=X3.kept aa gz;simp -dsimp (disch:=try exact dx) only[wpS,wpT,zE,zL,zA,nv,f5,k5,o1,o2,o3,o4];refine⟨az rfl rfl rfl rfl (aP (H0:=H0) (b:=2*h1.n) (o:=0) f5 aa aN aN L1),?_⟩;simp -dsimp (disch:=try exact dx) only[wpS,wpT,zE,zA,f11];refine⟨m - 1,aa,i+1,a4,s4,b4,t4,aa,((hE.trans e0).trans X3).put aa _,by simp only[aJ];omega,by simp (disch:=try exact dx) only[au];exact kz,aj _ _ rfl,p3.ai ((bj.refl _).put k5 _),by simp[f1],by simp[f4],by simp[f5],by simp[f9],by simp[f10],ab⟩
 ·obtain rfl:i=l.length:=aa;have hQl:=hQ l.length (aA _);rw[sK] at hp hQl;obtain⟨_,_,_,_,hhe,_,_,_,o1,_,o2,o3,o4⟩:=hp.parts;cases hhe;simp -dsimp (disch:=try exact dx) only[wpS,wpT,zE,zL,zA,nv,mB,f4,f5,ay hg5,hg,kA,o1,o2,o3,o4];exact⟨hE.put (aA _) _,hp.ai ((bj.refl _).put hg _),hQl⟩
open Classical in
def UW {h:IH} {v:QQ} {l:List (Nat×Nat)} (hv:kU h v l) (hl:l.length≤1000) :WV prog (.func (.func 120) #[] #[]) [v] h fun r h'=>Ext h h'∧r=.bool (decide (mw l)):=by
 refine enter (nt:=10) (rs:=[.tmp 2]) Proofs.Tryz.func120 rfl rfl rfl ab ?_;simp -dsimp (disch:=try exact dx) only[wpS,zE];refine call (Ek hv zm (fun h1 p _ hp=>Sj (hv.2.2 p hp).1 (hv.2.2 p hp).2)) ?_;rintro _ h1 ⟨X1,rfl⟩;by_cases c : ∃p∈l,zm p
 ·rw[ct c,bF (show ¬mw l from fun⟨h1,_⟩=>by obtain⟨p,hp,hb⟩:=c;exact h1 p hp hb)];simp -dsimp (disch:=try exact dx) only[wpS,wpT,zE];exact X1
 rw[bF c];have hno : ∀p∈l,¬zm p:=fun p hp hb=>c ⟨p,hp,hb⟩;simp -dsimp (disch:=try exact dx) only[wpS,zE];refine call (Pa (hv.ai X1.ai) (fun p hp=>(zZ (hno p hp)).1) hl) ?_;rintro r2 h2 ⟨X2,p2,q2⟩;simp -dsimp (disch:=try exact dx) only[wpS];refine call (uG 1 ⟨aa,aa⟩) ?_;rintro r3 h3 ⟨X3,p3⟩;simp -dsimp (disch:=try exact dx) only[wpS,zE];refine call (MS (p2.ai X3.ai) p3 q2 (QB.int (k:=64) aC) aa) ?_;rintro _ h4 ⟨X4,rfl⟩;have XX:=((X1.trans X2).trans X3).trans X4;have e1:((1:Int):Rat)=1:=rfl;rw[e1];by_cases c1:jV (l.map rOf)=1
 ·rw[ct (show mw l from⟨hno,c1⟩),c1,ah (by exact Rat.lt_irrefl),aq rfl];simp -dsimp (disch:=try exact dx) only[wpS,wpT,zE];exact XX
 ·rw[bF (show ¬mw l from fun h=>c1 h.2)];obtain⟨z,hz,hz0⟩ : ∃z:Int,(if jV (l.map rOf)<1 then (-1:Int) else if jV (l.map rOf)=1 then 0 else 1)=z∧z≠0:=⟨_,rfl,by split<;>simp[]⟩;rw[hz];have d:(z == 0)=false:=by simpa using hz0
  simp -dsimp (disch:=try exact dx) only[wpS,wpT,zE,d];exact XX
open Classical in
noncomputable def LH (ll:List (List (Nat×Nat))):Int:=if jH ll then 0 else 330
open Classical in
def Ad {h:IH} {v:QQ} {ll:List (List (Nat×Nat))} (hv:iN h v ll) :WV prog (.func (.func 45) #[] #[]) [v] h fun r h'=>Ext h h'∧r=KI (LH ll):=by
 obtain⟨_,_,hlen⟩:=hv.co;have hlb:=hv.choose_spec.2.1;unfold LH;refine enter (nt:=30) (rs:=[.tmp 2]) Proofs.Tryz.func45 rfl rfl rfl ab ?_;by_cases a1:ll.length<1
 ·rw[ah (fun hk=>by have:=hk.1;omega)];simp -dsimp (disch:=try exact dx) only[wpS,wpT,zE,hlen];exact Ext.refl _
 by_cases a2:60<ll.length
 ·rw[ah (fun hk=>by have:=hk.2.1;omega)];simp -dsimp (disch:=try exact dx) only[wpS,wpT,zE,hlen];exact Ext.refl _
 simp -dsimp (disch:=try exact dx) only[wpS,wpT,zE,hlen];refine loop (fun m fr h1 => ∃i:Nat,i+m=ll.length∧Ext h h1∧(∀(j:Nat) x,j<i→ll[j]?=some x→x.length=ll.length∧mw x)∧ax fr 0=some v∧ax fr 13=some v∧ax fr 14=some (KN ll.length)∧ax fr 15=some (KN i)) ll.length
  ⟨0,aa,Ext.refl _,fun j p hj=>aa,ab,ab,ab,ab⟩ ?_
 rintro m fr h1 ⟨i,him,hE,hok,f0,f13,f14,f15⟩;simp -dsimp (disch:=try exact dx) only[wpS,f14,f15];refine aG ?_ ?_<;>intro hc<;>simp only[aS,aV] at hc
 ·have hi:i<ll.length:=aa;obtain⟨x,hx⟩ : ∃x,ll[i]?=some x:=⟨_,aK hi⟩;have hxm:=bh hx;obtain⟨w,l1,l2,l3⟩:=hv.at hE.ai hx;have lx:=l2.2.1;by_cases cl:x.length=ll.length
  case neg =>
   rw[ah (fun hk=>cl (hk.2.2 x hxm).1)];have d:(((x.length:Nat):Int) != ((ll.length:Nat):Int))=true:=by simpa using fun h=>cl aa
   simp -dsimp (disch:=try exact dx) only[wpS,wpT,zE,f0,f13,f15,l1,l3,l2.1.len xz,hlen,d];exact hE
  have d:(((x.length:Nat):Int) != ((ll.length:Nat):Int))=false:=by simp[cl]
  simp -dsimp (disch:=try exact dx) only[wpS,wpT,zE,f0,f13,f15,l1,l3,l2.1.len xz,hlen,d];refine call (UW l2 aa) ?_;rintro _ h2 ⟨X2,rfl⟩;have E2:=hE.trans X2;by_cases cr:mw x
  ·rw[ct cr];simp -dsimp (disch:=try exact dx) only[wpS,wpT,zE,f15];refine⟨m - 1,aa,i+1,aa,E2,?_,by simp[f0],by simp[f13],by simp[f14],ab⟩;intro j q hj hq;by_cases hji:j=i
   ·subst hji;rw[hx] at hq;cases hq;exact⟨cl,cr⟩
   ·exact hok j q aa hq
  ·rw[bF cr,ah (fun hk=>cr (hk.2.2 x hxm).2)];simp -dsimp (disch:=try exact dx) only[wpS,wpT,zE];exact E2
 ·rw[aq (show jH ll from⟨aa,aa,fun x hx=>by
   obtain⟨j,hj⟩:=gH hx;exact hok j x (by have:=(bU.1 hj).1;omega) hj⟩)]
  simp -dsimp (disch:=try exact dx) only[wpS,wpT];exact hE
end Go.Id
namespace Go.Id
open Go
open Go renaming Operand→QY,Program→QX,TypeId→QZ,Value→QQ
open Nat renaming reduceAdd→zA,reduceEqDiff→zE,reduceLeDiff→zL
open Nat (reduceMul)
set_option maxHeartbeats 16000000
section
structure pg (z:Nat) (h h':IH):Prop where
 n:h.n≤h'.n
 base:h'.base=h.base
 get : ∀k c f,k<h.n→h.ext.get k=some (.cells c z f) → ∃f',h'.ext.get k=some (.cells c z f')
def pg.refl (z:Nat) (h:IH):pg z h h:=⟨aA _,rfl,fun _ _ f _ hg=>⟨f,hg⟩⟩
variable {cs:List QQ}{f:Option Nat}{z k:Nat}
def pg.put {a b:IH} (g:pg z a b) {e:Nat} (hk:b.ext.get k=some (.cells cs e f)) (he:e≠z) (o:cX):pg z a (b.put k o):=⟨g.n,g.base,fun j c f1 hj hg=>by
 obtain⟨f2,h2⟩:=g.get j c f1 hj hg;refine⟨f2,?_⟩;rw[lZ,ah];·exact h2
 ·rintro rfl;rw[hk] at h2;cases h2;exact he rfl⟩
variable {h:IH}{n:Nat}{v:QQ}{h':IH}
def df.mC {sz:Nat} (s:df h sz v n cs) (e:pg sz h h'):df h' sz v n cs:=by
 obtain⟨hz,hl,s|⟨b,o,k,rfl,s⟩⟩:=s;·exact⟨hz,hl,.inl s⟩
 ·refine⟨hz,hl,.inr ⟨b,o,k,rfl,s.imp id fun⟨a1,a2,row,a3,h1,h2,h3⟩=>?_⟩⟩;rcases a3 with a3|⟨a4,a5,f,a6⟩
  ·refine⟨a1,a2,row,.inl a3,?_,h2,h3⟩;rw[←h1];simp[IH.row,a3.1,e.base]
  ·obtain⟨f',h4⟩:=e.get (b / 2) row f aa a6;refine⟨a1,a2,row,.inr ⟨a4,by have:=e.n;omega,f',h4⟩,?_,h2,h3⟩;simp only[IH.row,aX,bT];rw[ah aa];simp only[h4]
structure xZ (h:IH) (z k:Nat) (v:QQ) (n:Nat) (cs:List QQ):Prop where
 form:v=.slice (some ⟨2*k,0,none⟩) n (2*n+1)
 len:cs.length=n*z
 size:0<z
 some_:0<n
 old:k<h.n
 got:h.ext.get k=some (.cells cs z none)
def xZ.sl (r:xZ h z k v n cs):df h z v n cs:=by obtain⟨rfl,l,hz,hn,hk,hg⟩:=r;exact fX hg hk hz l aa aa
def xZ.ext (r:xZ h z k v n cs) (e:Ext h h'):xZ h' z k v n cs :=
 ⟨r.form,r.len,r.size,r.some_,cB r.old e.n,(e.get k r.old).trans r.got⟩
variable {j:Nat}
def xZ.put (r:xZ h z k v n cs) {c:List QQ} (hj:h.ext.get j=some (.cells c 0 f)) (o:cX):xZ (h.put j o) z k v n cs :=
 ⟨r.form,r.len,r.size,r.some_,r.old,by
  rw[lZ,ah];·exact r.got
  ·rintro rfl;have h1:=r.got;have h2:=r.size;rw[hj] at h1;cases h1;omega⟩
variable {i:Nat}{xs:List QQ}
theorem TS (h:i+xs.length≤cs.length):(IH.bf cs i xs).length=cs.length:=by simp only[IH.bf,dG,gG,ra];omega
variable {P:Program}{t:TypeId}
def xZ.set (r:xZ h z k v n cs) (hT:bK P t=some z) (hi:i<n) {x:QQ} (hx:x.cells.toList=xs) (hxl:xs.length=z) (hc:xs.all bB=true) :store P h t (bq v (i*z)) x=some (h.put k (.cells (IH.bf cs (i*z) xs) z none))∧xZ (h.put k (.cells (IH.bf cs (i*z) xs) z none)) z k v n (IH.bf cs (i*z) xs):=by
 obtain⟨rfl,hl,hz,hn,hk,hg⟩:=r;have hle:i*z+z≤cs.length:=by rw[hl,←wX];exact dU _ hi
 have k2:2*k / 2=k:=aa;have k1:(2*k % 2 == 1)=false:=ab;have hsx:x.cells.size=z:=by rw[←mc,hx,hxl]
 have hst:store P h t (bq (.slice (some ⟨2*k,0,none⟩) n (2*n+1)) (i*z)) x=h.wr (2*k) (i*z) xs:=by simp only[bq,fy,store,asAddr,ptr,hT,hx,hsx,hc,pW,sV,cg]
 have Xi:Nat.ble (i*z+xs.length) cs.length=true:=by rw[ch,hxl];exact hle
 refine⟨?_,rfl,by rw[TS aa];exact hl,hz,hn,hk,aj _ _ rfl⟩;rw[hst];simp only[IH.wr,k1,k2,hg,Xi,cg,fU];rfl
def Qr (hx:xs.length=z) (h:i*z+z≤cs.length):((IH.bf cs (i*z) xs).drop (i*z)).take z=xs:=by simp only[IH.bf];rw[List.drop_append,zG (by rw[gG];omega),kG,gG,nI aa,nD,cC,zC aa,fB aa]
theorem Oz (hx:xs.length=z) (h:i*z+z≤cs.length) (hj:j≠i):((IH.bf cs (i*z) xs).drop (j*z)).take z=(cs.drop (j*z)).take z:=by
 rcases Nat.lt_or_gt_of_ne hj with hlt|hgt
 ·have e:j*z+z≤i*z:=by rw[←wX];exact dU _ hlt
  simp only[IH.bf]
  apply iO;intro q;rw[gR,gR];split
  ·rw[kh,kh,ef (by rw[gG];omega),gR,aq aa]
  ·rfl
 ·have e:i*z+z≤j*z:=by rw[←wX];exact dU _ hgt
  simp only[IH.bf];apply iO;intro q;rw[gR,gR];split;·rw[kh,kh,gI (by rw[gG];omega),gI (by rw[gG];omega),kh,gG,nI aa];congr 1;omega
  ·rfl
def nB (R:IH→QQ→Rat→Prop) (h:IH) (cs:List QQ) (j:Nat) (q:Rat):Prop:=∃a s b t,(cs.drop (j*4)).take 4 = [a,s,b,t]∧R h (.agg #[a,s,b,t]) q
variable {R:IH→QQ→Rat→Prop}{q:Rat}
def nB.mono (x:nB R h cs j q) (k : ∀v,R h v q→R h' v q):nB R h' cs j q:=let ⟨a,s,b,t,h1,h2⟩:=x;⟨a,s,b,t,h1,k _ h2⟩
variable {b a s:QQ}
def nB.set {t:QQ} (hi:i*4+4≤cs.length) (r:R h (.agg #[a,s,b,t]) q):nB R h (IH.bf cs (i*4) [a,s,b,t]) i q:=⟨a,s,b,t,Qr rfl hi,r⟩
def nB.other {t:QQ} (x:nB R h cs j q) (hi:i*4+4≤cs.length) (hj:j≠i):nB R h (IH.bf cs (i*4) [a,s,b,t]) j q:=by obtain⟨a',s',b',t',h1,h2⟩:=x;exact⟨a',s',b',t',by rw[Oz (z:=4) rfl hi hj];exact h1,h2⟩
def HO : ∀{l:List Rat} {cs:List QQ},cs.length=l.length*4→(∀j q,l[j]?=some q→nB R h cs j q)→pd R h l cs
 | [],cs,hl,_=>jK.1 (by simpa using hl)
 | q :: l,cs,hl,H=>by
  obtain⟨a,s,b,t,h1,h2⟩:=H 0 q rfl;rw[kf,cC] at h1;refine⟨a,s,b,t,cs.drop 4,?_,h2,HO (by rw[ra,hl,nL];omega) fun j p hj=>?_⟩;·have:=List.take_append_drop 4 cs;rw[h1] at this;exact this.symm
  ·obtain⟨a',s',b',t',h3,h4⟩:=H (j+1) p hj
   refine⟨a',s',b',t',?_,h4⟩;rw[Ci,←h3];congr 2;omega
variable {l:List Rat}
def Vj (H:pd R h l cs) (hj:l[j]?=some q):nB R h cs j q:=H.at hj
def AD.mG (k:Kept R) (s:AD R h v l) (hi:l[i]?=some q) (hT:cu P t=some true) (hS:bK P t=some 4) :∃a s b u,(∀h',bj h h'→load P h' t (bq v (i*4))=some (.agg #[a,s,b,u]))∧R h (.agg #[a,s,b,u]) q:=by obtain⟨cs,hs,hc,hl⟩:=s;have hil:=(bU.1 hi).1;have hcl:=hc.len;obtain⟨a,s,b,u,e1,r⟩:=hc.at hi;exact⟨a,s,b,u,fun h' e=>by rw[hs.Dn e aa aa hT hS,e1],r⟩
end
open Go.Proofs.Tryz (prog)
section
def xq (a:Nat):Nat:=if a<H8 then a+H8 else a - H8
variable {a:Nat}
def ME (ha:a<W8):xq a<W8:=by have:=dD;unfold xq;split<;>omega
def Ih (ha:a<W8):((xq a:Nat):Int)=wdI a+H8:=by have:=dD;unfold xq wdI;split<;>omega
def Ig (ha:a<W8) : ∃w:Nat,(∀ox oy,binop prog .xor 28 ox oy (K64 (wrd a 7)) (.int .u64 9223372036854775808)=some (K64 w))∧IH.bf (wdC a) 7 [K64 w]=wdC (xq a):=by
 by_cases c:a<H8
 ·refine⟨wrd a 7+9223372036854775808,fun ox oy=>?_,?_⟩
  ·rw[←Bz (ya c)];exact lV _ _ ox oy _ 9223372036854775808 (xk a 7) aC
  ·rw[xq,aq c];exact BB c
 ·have h2:=dD;obtain⟨b,hb⟩ : ∃b,b=a - H8:=⟨_,rfl⟩;have hb8:b<H8:=aa;have ea:b+H8=a:=aa;have key:=BB hb8;rw[ea] at key;have lt:=ya hb8;have e7:wrd a 7=wrd b 7+9223372036854775808:=by have g:=dI a 7 aa;rw[←key,jM (by rw[aD];omega),Gu (by rw[aD];omega)] at g;injection g with g;injection g with _ g;omega
  refine⟨wrd b 7,fun ox oy=>?_,?_⟩
  ·have ex:(wrd b 7+9223372036854775808) ^^^ 9223372036854775808=wrd b 7:=by rw[←Bz lt,Nat.xor_assoc,Nat.xor_self,Nat.xor_zero]
   have:=lV prog 28 ox oy (wrd b 7+9223372036854775808) 9223372036854775808 aa aC;rw[ex] at this;rw[e7];exact this
  ·rw[←key,jM (n:=7) (cs:=wdC b) (by rw[aD];omega),jM (by rw[dB,aD];omega),List.set_set,xq,ah c,←hb];apply iO;intro j;by_cases hj:7=j
   ·subst hj;rw[Gu (by rw[aD];omega),dI b 7 aa]
   ·rw[List.getElem?_set_ne hj]
variable {h:IH}
def Cv (a b:Nat) (ha:a<W8) (hb:b<W8):WV prog (.func (.func 129) #[] #[]) [wdV a,wdV b] h fun r h'=>Ext h h'∧r=KI (if wdI a<wdI b then -1 else if wdI a=wdI b then 0 else 1):=by
 have j7:ua 7 8=some 7:=rfl;have ga:=dI a 7 aa;have gb:=dI b 7 aa;obtain⟨wa,xa,sa⟩:=Ig ha;obtain⟨wb,xb,sb⟩:=Ig hb;obtain⟨H0,hH0,n0,E0,k0,k1⟩:=ko h (wdC a) (wdC b);refine enter (nt:=16) (rs:=[.tmp 4]) Proofs.Tryz.func129 rfl rfl rfl ab ?_;simp -dsimp (disch:=try exact dx) only[wpS,zE,zA,pN,bA];rw[←hH0];clear hH0;simp -dsimp (disch:=try exact dx) only[wpS,wpT,zE,zL,zA,pN,oa,rp,bY,ay k0,ay k1,k0,k1,pN,j7,ga,gb,xa,xb,aD,sa,sb,aY];refine call (pD (xq a) (xq b) (ME ha) (ME hb)) ?_;rintro _ h1 ⟨X1,rfl⟩;have ta:=Ih ha;have tb:=Ih hb;have e:(if xq a<xq b then (-1:Int) else if xq a=xq b then 0 else 1)=if wdI a<wdI b then -1 else if wdI a=wdI b then 0 else 1:=by
  by_cases c1:wdI a<wdI b;·rw[aq c1,aq aa]
  ·rw[ah c1,ah aa];by_cases c2:wdI a=wdI b
   ·rw[aq c2,aq aa]
   ·rw[ah c2,ah aa]
 rw[e];have EE:Ext h ((H0.put h.n (.cells (wdC (xq a)) 0 none)).put (h.n+1) (.cells (wdC (xq b)) 0 none)):=(E0.put (aA _) _).put aa _;simp -dsimp (disch:=try exact dx) only[wpS,wpT,zE];exact EE.trans X1
variable {n:Nat}
def Ru {H:IH} {k:Nat} (g:H.ext.get k=some (.cells (wdC n) 0 none)):load prog H 30 (ptr (2*k) 0)=some (wdV n):=by have r:=ay g;simp -dsimp (disch:=try exact dx) only[wpS,zL,bY,r,aD,aY];rfl
def RB {least:Int} {b:Nat} (hn:n<W8) (hl:fS least) (hb:b<h.n) (g:h.ext.get b=some (.cells [KI least] 0 none)) :WV prog (.func (.func 246) #[] #[ptr (2*b) 0]) [wdV n] h fun r h'=>Ext h h'∧r=.bool (decide (wdI n<least)):=by
 obtain⟨H0,hH0⟩ : ∃H,H=h.new (.cells (wdC n) 0 none):=⟨_,rfl⟩;have E0:Ext h H0:=by rw[hH0];exact(Ext.refl h).new _
 have n0:H0.n=h.n+1:=by rw[hH0];rfl
 have k0:H0.ext.get h.n=some (.cells (wdC n) 0 none):=by rw[hH0];simp (disch:=try exact dx) only[ar]
 have k1:=E0.kept hb g;refine enter (nt:=9) (rs:=[.tmp 3]) Proofs.Tryz.func246 rfl rfl rfl ab ?_;simp -dsimp (disch:=try exact dx) only[wpS,zE,zA,bA];rw[←hH0];clear hH0;have X0:=Ext.refl H0;have L1:=Ru k0;have L2:=LC k1;refine drawn [(0,[3])] ae ae rfl ?_;simp -dsimp (disch:=try exact dx) only[wpS,zE,ld3,L1,ay k1];refine call (pP least hl) ?_;rintro _ h1 ⟨X1,rfl⟩;have m1:=X1.n;simp -dsimp (disch:=try exact dx) only[wpS,zE];refine call (Cv n (bN least) hn (gJ (rR hl))) ?_;rintro _ h2 ⟨X2,rfl⟩;have X12:=X1.trans X2;rw[eE (rR hl)];by_cases c:wdI n<least
 ·rw[aq c,ct c];simp -dsimp (disch:=try exact dx) only[wpS,wpT,zE];refine⟨by repeat' first|refine aU ?_ ?_|refine bg ?_ ?_|exact az rfl rfl rfl rfl (aP (H0:=H0) rfl aa aN aN bX),?_⟩;simp -dsimp (disch:=try exact dx) only[wpS,wpT,zE,zA];exact E0.trans X12
 ·rw[ah c,bF c];obtain⟨z,hz,hz0⟩ : ∃z:Int,(if wdI n=least then (0:Int) else 1)=z∧0≤z:=⟨_,rfl,by split<;>omega⟩;rw[hz];simp -dsimp (disch:=try exact dx) only[wpS,wpT,zE];refine⟨by repeat' first|refine aU ?_ ?_|refine bg ?_ ?_|exact az rfl rfl rfl rfl (aP (H0:=H0) rfl aa aN aN bX),?_⟩;simp -dsimp (disch:=try exact dx) only[wpS,wpT,zE,zA];exact E0.trans X12
open Classical in
def Ct {h:IH} {v F:QQ} {l:List Nat} (hv:iQ h v l) (B:Nat→Prop) (hF : ∀h1 p,Ext h h1→p∈l→WV prog F [wdV p] h1 fun r h2=>Ext h1 h2∧r=.bool (decide (B p))) :WV prog (.func (.func 95) #[] #[]) [v,F] h fun r h'=>Ext h h'∧r=.bool (decide (∃p∈l,B p)):=by
 have hlb:=hv.2.1;have Xl:WV prog (.func (.func 191) #[] #[]) [v,F] h fun r h'=>Ext h h' ∧ ∃c:Int,r=KI c∧(0≤c ↔ ∃p∈l,B p):=by
  refine enter (nt:=19) (rs:=[.tmp 4]) Proofs.Tryz.func191 rfl rfl rfl ab ?_;simp -dsimp (disch:=try exact dx) only[wpS,zE,zA,hv.1.len rJ];refine loop (fun m fr h1 => ∃i:Nat,i+m=l.length∧Ext h h1∧(∀(j:Nat) p,j<i→l[j]?=some p → ¬B p)∧ax fr 0=some v∧ax fr 1=some F∧ax fr 7=some (KN l.length)∧ax fr 8=some (KN i)) l.length ⟨0,aa,Ext.refl _,fun j p hj=>aa,ab,ab,ab,ab⟩ ?_;rintro m fr h1 ⟨i,him,hE,hno,f0,f1,f7,f8⟩;simp -dsimp (disch:=try exact dx) only[wpS,f7,f8];refine aG ?_ ?_<;>intro hc<;>simp only[aS,aV] at hc
  ·have hi:i<l.length:=aa;obtain⟨p,hp⟩ : ∃p,l[i]?=some p:=⟨_,aK hi⟩;have hpm:=bh hp;simp -dsimp (disch:=try exact dx) only[wpS,wpT,zE,f0,f1,f8,hv.1.idx qE hi,hv.ld hE.ai hp];refine call (hF h1 p hE hpm) ?_;rintro _ h2 ⟨hE2,rfl⟩;have E2:=hE.trans hE2;by_cases hk:B p
   ·rw[ct hk];simp -dsimp (disch:=try exact dx) only[wpS,zE];exact⟨E2,(i:Int),rfl,fun _=>⟨p,hpm,hk⟩,fun _=>aa⟩
   ·rw[bF hk];simp -dsimp (disch:=try exact dx) only[wpS,zE,f8];refine⟨m - 1,aa,i+1,aa,E2,?_,by simp[f0],by simp[f1],by simp[f7],ab⟩;intro j q hj hq;by_cases hji:j=i
    ·subst hji;rw[hp] at hq;cases hq;exact hk
    ·exact hno j q aa hq
  ·simp -dsimp (disch:=try exact dx) only[wpS,wpT];refine⟨hE,-1,rfl,fun h=>aa,fun⟨p,hp,hb⟩=>?_⟩;obtain⟨j,hj⟩:=gH hp;have:=(bU.1 hj).1;exact absurd hb (hno j p aa hj)
 refine enter (nt:=9) (rs:=[.tmp 4]) Proofs.Tryz.func95 rfl rfl rfl ab ?_;simp -dsimp (disch:=try exact dx) only[wpS,zE,zA];refine call Xl ?_;rintro _ h1 ⟨hE,c,rfl,hc⟩;simp -dsimp (disch:=try exact dx) only[wpS,zE];exact⟨hE,by rw[BW.2 hc]⟩
open Classical in
def Hh {h:IH} {v:QQ} {l:List Nat} {least:Int} (hv:iQ h v l) (hl:fS least) :WV prog (.func (.func 196) #[] #[]) [v,KI least] h fun r h'=>Ext h h'∧r=.bool (decide (∃p∈l,wdI p<least)):=by have E1:Ext h (h.new (.cells [KI least] 0 none)):=(Ext.refl h).new _;refine enter (nt:=8) (rs:=[.tmp 4]) Proofs.Tryz.func196 rfl rfl rfl ab ?_;simp -dsimp (disch:=try exact dx) only[wpS,zE,zA];refine call (Ct (hv.ai E1.ai) (fun p=>wdI p<least) (fun h1 p hE hp=>(RB (b:=h.n) (hv.2.2 p hp) hl (by have:=hE.n;simp only[aH] at this;omega) (hE.kept ab (ar _ _ rfl))).mono fun r h2 ⟨a,b⟩=>⟨a,by rw[b];congr⟩)) ?_;rintro _ h1 ⟨X1,rfl⟩;simp -dsimp (disch:=try exact dx) only[wpS,zE];exact⟨E1.trans X1,by congr⟩
def kI (n:Nat):Rat:=((wdI n:Int):Rat)
def RA {h:IH} {v:QQ} {l:List Nat} (hv:iQ h v l) (hl:l.length≤1000):WV prog (.func (.func 197) #[] #[]) [v] h fun r h'=>Ext h h'∧AD jr h' r (l.map kI):=by
 refine enter (nt:=20) (rs:=[.tmp 2]) Proofs.Tryz.func197 rfl rfl rfl ab ?_;simp -dsimp (disch:=try exact dx) only[wpS,zE,hv.1.len rJ];refine loop (fun m fr h1 => ∃(i:Nat) (out:QQ) (cs:List QQ),i+m=l.length∧Ext h h1∧Acc h1 h.n 4 out ((l.take i).map kI).length cs∧pd jr h1 ((l.take i).map kI) cs∧ax fr 3=some out∧ax fr 6=some v∧ax fr 7=some (KN l.length)∧ax fr 8=some (KN i)) l.length ⟨0,.slice none 0 0,[],aa,Ext.refl _,Acc.nil h _ aa,by simp[pd],ab,ab,ab,ab⟩ ?_;rintro m fr h1 ⟨i,out,cs,him,hE,hA,hC,f3,f6,f7,f8⟩;simp -dsimp (disch:=try exact dx) only[wpS,f7,f8];refine aG ?_ ?_<;>intro hc<;>simp only[aS,aV] at hc
 ·have hi:i<l.length:=aa;obtain⟨p,hp⟩ : ∃p,l[i]?=some p:=⟨_,aK hi⟩;have wp:=hv.2.2 p (bh hp);simp -dsimp (disch:=try exact dx) only[wpS,wpT,zE,zL,zA,bY,fa,dw,f3,f6,f8,hv.1.idx qE hi,hv.ld hE.ai hp,bA,aD,aW,bD,aY];have E1:Ext h1 ((h1.new (.cells [ZW,ZW,ZW,ZW,ZW,ZW,ZW,ZW] 0 none)).put h1.n (.cells (wdC p) 0 none)):=((Ext.refl h1).new _).put (aA _) _;refine call (j5 p wp) ?_;rintro r1 h2 ⟨X2,p2⟩;simp -dsimp (disch:=try exact dx) only[wpS,zE];refine call (yf p2) ?_;rintro r h3 ⟨X3,p3⟩;obtain⟨a3,s3,b3,t3,rfl,_,_,_,o1,_,o2,o3,o4⟩:=p3.parts;have X13:=(E1.trans X2).trans X3;have n1:=hE.n;have n2:=X13.n;obtain⟨cV,h5,hap,hA5,hC5,hG5,hE5⟩:=VC Zas aa Ab (hA.ext X13) (hC.ai Ab X13.ai) p3 (by simp[o1,o2,o3,o4]) aT aa (hE.trans X13) (aA _);have eT:(l.take i).map kI ++ [((wdI p:Int):Rat)]=(l.take (i+1)).map kI:=by rw[jA hp,gF];rfl
  rw[eT] at hA5 hC5;simp -dsimp (disch:=try exact dx) only[wpS,wpT,zE,zL,zA,Z9,PQ,f8,hap];exact⟨m - 1,aa,i+1,cV,_,aa,hE5,hA5,hC5,ab,by simp[f6],by simp[f7],ab⟩
 ·obtain rfl:i=l.length:=aa;rw[sK] at hA hC;simp -dsimp (disch:=try exact dx) only[wpS,wpT,zE,f3];exact⟨hE,cs,hA.sl,hC,aT⟩
end
section
variable {h:IH}{v:QQ}{q:Rat}
def jr.mC {h':IH} (p:jr h v q) (e:pg 1 h h'):jr h' v q:=by obtain⟨a,s,b,t,h1,⟨s1,e1,ds,d1,d2⟩,⟨s2,e2,es,d3,d4⟩⟩:=p;exact⟨a,s,b,t,h1,⟨s1,e1,ds,⟨d1.1.mC e,d1.2⟩,d2⟩,⟨s2,e2,es,⟨d3.1.mC e,d3.2⟩,d4⟩⟩
variable {j:Nat}
def xZ.ld {k:Nat} {n:Nat} {cs:List QQ} (r:xZ h 4 k v n cs) {R:IH→QQ→Rat→Prop} (x:nB R h cs j q) (hj:j<n) {P:Program} {t:TypeId} (hT:cu P t=some true) (hS:bK P t=some 4) :∃a s b u,load P h t (bq v (j*4))=some (.agg #[a,s,b,u])∧R h (.agg #[a,s,b,u]) q:=by obtain⟨a,s,b,u,h1,h2⟩:=x;have hl:=r.len;refine⟨a,s,b,u,?_,h2⟩;rw[r.sl.Dn (bj.refl h) aa aa hT hS,h1]
theorem IT (z:List QQ) : ∀n,(de n z).length=n*z.length
 | 0=>by rw[Ff];simp
 | n+1=>by rw[zR,dG,IT z n,dA];omega
open Classical in
def Rz {l:List Rat} (hv:AD jr h v l) (hl:l.length≤1000) :WV Proofs.Tryz.prog (.func (.func 199) #[] #[]) [v] h fun r h'=>Ext h h'∧((∀q∈l,QW q) → ∃w,r=.tuple #[w,KI 0]∧kU h' w (l.map shq))∧(¬(∀q∈l,QW q)→r=.tuple #[.slice none 0 0,KI 6]):=by
 obtain⟨cs0,hs0,_,_⟩:=id hv;refine enter (nt:=29) (rs:=[.tmp 2,.tmp 3]) Proofs.Tryz.func199 rfl rfl rfl ab ?_;simp -dsimp (disch:=try exact dx) only[wpS,zE,hs0.len Vx];refine loop (fun m fr h1 => ∃(i:Nat) (out:QQ),i+m=l.length∧Ext h h1∧Acc h1 h.n 16 out i (shL ((l.take i).map shq))∧(∀(j:Nat) q,j<i→l[j]?=some q→QW q)∧ax fr 4=some out∧ax fr 9=some v∧ax fr 10=some (KN l.length)∧ax fr 11=some (KN i)) l.length ⟨0,.slice none 0 0,aa,Ext.refl _,Acc.nil h _ aa,fun j q hj=>aa,ab,ab,ab,ab⟩ ?_;rintro m fr h1 ⟨i,out,him,hE,hA,hW,f4,f9,f10,f11⟩;simp -dsimp (disch:=try exact dx) only[wpS,f10,f11];refine aG ?_ ?_<;>intro hc<;>simp only[aS,aV] at hc
 ·have hi:i<l.length:=aa;obtain⟨q,hq⟩ : ∃q,l[i]?=some q:=⟨_,aK hi⟩;obtain⟨a,s,b,u,ld,pq⟩:=hv.ld Ab hE.ai hq J4 AF;obtain⟨_,_,_,_,he,_,_,_,o1,_,o2,o3,o4⟩:=pq.parts;cases he;simp -dsimp (disch:=try exact dx) only[wpS,wpT,zE,zL,zA,mB,oF,nv,f9,f11,hs0.idx JA hi,ld,o1,o2,o3,o4,kA];have E1:Ext h1 ((h1.new (.cells ZR 0 none)).put h1.n (.cells [a,s,b,u] 0 none)):=((Ext.refl h1).new _).put (aA _) _;refine call (yx (pq.ai E1.ai)) ?_;rintro _ h2 ⟨X2,rfl⟩;have E2:=E1.trans X2;have n1:=hE.n;have n2:=E2.n;by_cases c:QW q
  ·rw[aq c,iD]
   simp -dsimp (disch:=try exact dx) only[wpS,wpT,zE,zL,zA,pj,jT,bR,ba,cT,fD];obtain⟨H3,hH3⟩ : ∃H,H=(h2.new (.cells Z16 0 none)).put h2.n (.cells (shC (shq q).1 (shq q).2) 0 none):=⟨_,rfl⟩;have E3:Ext h2 H3:=by rw[hH3];exact((Ext.refl h2).new _).put (aA _) _
   have n3:=E3.n;have g3:H3.ext.get h2.n=some (.cells (shC (shq q).1 (shq q).2) 0 none):=by rw[hH3];simp (disch:=try exact dx) only[aj]
   rw[←hH3];clear hH3;have E23:=E2.trans E3;obtain⟨cV,h5,hap,hA5,hG5,hE5⟩:=(hA.ext E23).qC (P:=Proofs.Tryz.prog) (t:=61) Ms (m:=1) (new:=shC (shq q).1 (shq q).2) aa (by rw[ba]) (cT _ _) aa aa (hE.trans E23) (aA _);have eT:shL ((l.take i).map shq) ++ shC (shq q).1 (shq q).2=shL ((l.take (i+1)).map shq):=by rw[jA hq,gF,jJ,nJ,shL,shL,List.flatMap_append];simp
   rw[eT] at hA5;simp -dsimp (disch:=try exact dx) only[wpS,wpT,zE,zL,zA,iY,Mm,tN,f4,f11,ay g3,ba,fD,dJ,hap];refine⟨m - 1,aa,i+1,cV,aa,hE5,hA5,fun j p hj hp=>?_,ab,by simp[f9],by simp[f10],ab⟩;by_cases hji:j=i;·subst hji;rw[hq] at hp;cases hp;exact c
   ·exact hW j p aa hp
  ·rw[ah c];simp -dsimp (disch:=try exact dx) only[wpS,wpT,zE,zL,zA,pj,jT,bR,ba,cT,fD];exact⟨(hE.trans E2).trans (((Ext.refl h2).new _).put (aA _) _),fun ft=>absurd (ft q (bh hq)) c,fun _=>trivial⟩
 ·obtain rfl:i=l.length:=aa;rw[sK] at hA;have ft : ∀q∈l,QW q:=fun q hq=>by obtain⟨j,hj⟩:=gH hq;exact hW j q (bU.1 hj).1 hj
  simp -dsimp (disch:=try exact dx) only[wpS,wpT,zE,f4];refine⟨hE,fun _=>⟨out,rfl,?_⟩,fun hn=>absurd ft hn⟩;refine⟨by rw[cz];exact hA.sl,by rw[cz];omega,fun p hp=>?_⟩;obtain⟨q,hq,rfl⟩:=ir.1 hp;exact rq (ft q hq)
def kAt (ll:List (List (Nat×Nat))) (i j:Nat):Rat:=rOf ((ll.getD i []).getD j (0,0))
def goQ (ll:List (List (Nat×Nat))) (t:List Nat) (i j:Nat):Rat:=if kAt ll j i*kI (t.getD j 0) / kI (t.getD i 0)<kAt ll i j then kAt ll j i*kI (t.getD j 0) / kI (t.getD i 0) else kAt ll i j
def kZ (g:Nat→Rat) (i:Nat):Nat→Rat
 | 0=>1
 | j+1=>if j=i then kZ g i j else kZ g i j - g j
def qS (ll:List (List (Nat×Nat))) (t:List Nat) (i j:Nat):Rat:=if j=i then kZ (goQ ll t i) i ll.length else goQ ll t i j
def fx (ll:List (List (Nat×Nat))) (t:List Nat) (i:Nat):List Rat:=(List.range ll.length).map (qS ll t i)
def xS (ll:List (List (Nat×Nat))) (t:List Nat):Prop:=∀i,i<ll.length → ∀q∈fx ll t i,QW q
def oY (ll:List (List (Nat×Nat))) (t:List Nat):List (List (Nat×Nat)):=(List.range ll.length).map fun i=>(fx ll t i).map shq
open Classical in
noncomputable def jo (ll:List (List (Nat×Nat))) (t:List Nat):Int:=if ¬jH ll then 330 else if t.length≠ll.length∨(∃p∈t,wdI p<1) then 2 else if xS ll t then 0 else 6
theorem eu (ll:List (List (Nat×Nat))) (t:List Nat) (i:Nat):(fx ll t i).length=ll.length:=by simp[fx]
variable {t:List Nat}{i:Nat}{ll:List (List (Nat×Nat))}
theorem qt (hj:j<ll.length):(fx ll t i)[j]?=some (qS ll t i j):=by rw[fx,dM,ui hj];rfl
theorem Aj (hi:i<ll.length):(oY ll t)[i]?=some ((fx ll t i).map shq):=by rw[oY,dM,ui hi];rfl
theorem iI (ll:List (List (Nat×Nat))) (t:List Nat):(oY ll t).length=ll.length:=by simp[oY]
variable {p:Nat}
def vu (hp:p<W8):QB 512 (kI p):=by refine QB.int ?_;have hw:W8=2 ^ 512:=cI;rw[←hw];unfold wdI;have:=dD;split<;>omega
def yc (h:1≤wdI p):kI p≠0:=fun e=>by have:wdI p=0:=Rat.intCast_inj.1 e;omega
def RZ (h1:QB 512 (kAt ll i j)) (h2:QB 512 (kAt ll j i)) (h3:t.getD j 0<W8) (h4:t.getD i 0<W8) (h5:1≤wdI (t.getD i 0)):QB 1536 (goQ ll t i j):=by
 have q1:=h2.mul (vu h3);have q2:=q1.div (vu h4) (yc h5);have q3:=q2.mono (b:=1536) aa;unfold goQ;split;·exact q3
 ·exact h1.mono aa
def Nk {g:Nat→Rat} {i:Nat} {k:Nat} : ∀{n:Nat},(∀j,j<n→QB k (g j))→QB (1+n*(k+1)) (kZ g i n)
 | 0,_=>⟨by rw[kZ];show 1≤2 ^ (1+0*(k+1));rw[kf];decide,by rw[kZ];show 1≤2 ^ (1+0*(k+1));rw[kf];decide⟩
 | n+1,h=>by
  have ih:=Nk (i:=i) (n:=n) fun j hj=>h j aa
  have e:1+(n+1)*(k+1)=1+n*(k+1)+k+1:=by rw[dA];omega
  rw[kZ,e];split;·exact ih.mono aa
  ·exact ih.sub (h n aa)
def jX (k:jH ll) (hi:i<ll.length) (hj:j<ll.length) : ∃row p,ll[i]?=some row∧row.length=ll.length∧row[j]?=some p∧okS p.1 p.2∧0≤wdI p.1∧kAt ll i j=rOf p:=by obtain⟨h1,h2⟩:=k.2.2 _ (mO hi);have hj':j<(ll[i]).length:=aa;refine⟨_,_,aK hi,h1,aK hj',(zZ (h2.1 _ (mO hj'))).1,(zZ (h2.1 _ (mO hj'))).2,?_⟩;unfold kAt;simp only[bH,aK hi,jf,aK hj']
end
end Go.Id
namespace Go.Id
section
theorem uJ (i:Nat):18446744073709551616 ^ i=2 ^ (64*i):=by rw[wY]
variable {v j:Nat}
theorem Ko {k:Nat} (h:64*(j+1)≤k):wrd (v % 2 ^ k) j=wrd v j:=by
 have e:2 ^ k=18446744073709551616 ^ (j+1)*2 ^ (k - 64*(j+1)):=by rw[uJ,←dT];congr 1;omega
 rw[wrd,wrd,e];have h1:v % (18446744073709551616 ^ (j+1)*2 ^ (k - 64*(j+1))) % 18446744073709551616 ^ (j+1)=v % 18446744073709551616 ^ (j+1):=Nat.mod_mul_right_mod _ _ _;have h2 : ∀n,n / 18446744073709551616 ^ j % 18446744073709551616=n % 18446744073709551616 ^ (j+1) / 18446744073709551616 ^ j:=fun n=>by rw[eH,B6]
 rw[h2,h2,h1]
variable {q r:Nat}
theorem Kn (hr:r<64):wrd (v % 2 ^ (64*q+r)) q=wrd v q % 2 ^ r:=by
 have e:2 ^ (64*q+r)=18446744073709551616 ^ q*2 ^ r:=by rw[uJ,dT]
 have h1:v % (18446744073709551616 ^ q*2 ^ r) / 18446744073709551616 ^ q=v / 18446744073709551616 ^ q % 2 ^ r:=B6 _ _ _;rw[wrd,wrd,e,h1];have h2:18446744073709551616=2 ^ r*2 ^ (64 - r):=by rw[←dT,show r+(64 - r)=64 by omega]
 have h3:v / 18446744073709551616 ^ q % 2 ^ r<18446744073709551616:=by have a:=ec (v / 18446744073709551616 ^ q) (pX r);have b:2 ^ r≤2 ^ 64:=fA aa aa;omega
 rw[dR h3];generalize v / 18446744073709551616 ^ q=z
 conv=>rhs;rw[h2]
 rw[Nat.mod_mul_right_mod]
theorem HT (hr:r≤64) (hj:q<j):wrd (v % 2 ^ (64*q+r)) j=0:=by refine lI (i:=q+1) ?_ aa;rw[uJ];exact cB (ec _ (pX _)) (fA aa aa)
end
open Go
open Go renaming Operand→QY,Program→QX,TypeId→QZ,Value→QQ
open Nat renaming reduceAdd→zA,reduceEqDiff→zE,reduceLeDiff→zL
open Nat (reduceMul)
set_option maxHeartbeats 16000000
open Go.Proofs.Tryz (prog)
section
variable {i:Nat}
theorem EV {cs:List QQ} {x:QQ} (hi:i<cs.length) (j:Nat):(IH.bf cs i [x])[j]?=if j=i then some x else cs[j]?:=by
 simp only[IH.bf];by_cases h:j<i;·rw[ef (by rw[gG];omega),gR,aq h,ah aa]
 ·rw[gI (by rw[gG];omega),gG,nI aa];by_cases h2:j=i
  ·subst h2;rw[nD,aq rfl];rfl
  ·rw[ah h2,show j - i=(j - i - 1)+1 by omega];simp only[List.singleton_append,Kg,qZ,kh];congr 1;omega
variable {v:Nat}
def TF {x:Nat} (hi:i<8) (hv:v<18446744073709551616 ^ i) (hx:x<18446744073709551616):IH.bf (wdC v) i [K64 x]=wdC (v+x*18446744073709551616 ^ i):=by
 have hz:wrd v i=0:=lI hv (aA _);have hv2:v<18446744073709551616 ^ (i+1):=cB hv (fA aa aa);apply iO;intro j;rw[EV (by rw[aD];exact hi)];by_cases h8:j<8
 ·by_cases hj:j=i
  ·subst hj;rw[aq rfl,dI _ _ h8,xo hv2 aa,hz,fy]
  ·rw[ah hj,dI _ _ h8,dI _ _ h8];by_cases hl:j<i
   ·rw[um hl]
   ·have h1:wrd v j=0:=lI hv aa;have h2:wrd (v+x*18446744073709551616 ^ i) j=0:=lI (i:=i+1) (Gf hv2 aa) aa;rw[h1,h2]
 ·rw[ah aa,cy (by rw[aD];omega),cy (by rw[aD];omega)]
def P9 {q r:Nat} (hq:q<8) (hr:r<64) (hv:v<18446744073709551616 ^ (q+1)):IH.bf (wdC v) q [K64 (wrd v q % 2 ^ r)]=wdC (v % 2 ^ (64*q+r)):=by
 apply iO;intro j;rw[EV (by rw[aD];exact hq)];by_cases h8:j<8
 ·by_cases hj:j=q
  ·subst hj;rw[aq rfl,dI _ _ h8,Kn hr]
  ·rw[ah hj,dI _ _ h8,dI _ _ h8];by_cases hl:j<q
   ·rw[Ko aa]
   ·have h1:wrd v j=0:=lI hv aa;rw[h1,HT aa aa]
 ·rw[ah aa,cy (by rw[aD];omega),cy (by rw[aD];omega)]
theorem Pp (i s:Nat):(dP (i+1) s).1=(dP i s).1+nxO (dP i s).2*18446744073709551616 ^ i:=rfl
variable {h:IH}
def Wn {P:Program} {f:FuncId} {a:QQ} {K:QQ→IH→Prop} (w:WV P (.func (.func f) #[a] #[]) [] h K):WV P (.func (.func f) #[] #[]) [a] h K:=by
 obtain⟨p,⟨N,hN⟩,hk⟩:=w;refine⟨p,⟨N,fun n hn=>?_⟩,hk⟩;have:=hN n hn;cases n with
 | zero=>exact this
 | succ n=>exact this
variable {s k:Nat}
def Rf (g:h.ext.get k=some (.cells [K64 s] 0 none)) :WV Proofs.Tryz.prog (.func (.func 213) #[] #[]) [ptr (2*k) 0] h fun r h'=>h'=h.put k (.cells [K64 (nxS s)] 0 none)∧r=K64 (nxO s) :=
 Wn (Nm g)
def Ol {b8 b2 ks:Nat} (k0:0<k) (k1:k≤512) (hb8:b8<h.n) (hb2:b2<h.n) (hks:ks<h.n) (d8:b8≠ks) (d2:b2≠ks)(g8:h.ext.get b8=some (.cells [KN k] 0 none)) (g2:h.ext.get b2=some (.cells [ptr (2*ks) 0] 0 none)) (gs:h.ext.get ks=some (.cells [K64 s] 0 none)) :WV Proofs.Tryz.prog (.func (.func 253) #[] #[ptr (2*b8) 0,ptr (2*b2) 0]) [] h fun r h'=>h.n≤h'.n∧(∀j,j<h.n→j≠ks→h'.ext.get j=h.ext.get j)∧(∀h0,Ext h0 h→h0.n≤ks→Ext h0 h')∧h'.ext.get ks=some (.cells [K64 (dP ((k+63) / 64) s).2] 0 none)∧r=wdV ((dP ((k+63) / 64) s).1 % 2 ^ k):=by
 obtain⟨m,hm⟩ : ∃m,m=(k+63) / 64:=⟨_,rfl⟩;have em:((k:Int)+63) / 64=(m:Int):=aa;rw[←hm];obtain⟨H0,hH0⟩ : ∃H,H=(h.new (.cells (wdC 0) 0 none)).new (.cells (wdC 0) 0 none):=⟨_,rfl⟩;have n0:H0.n=h.n+2:=by rw[hH0];rfl
 have E0:Ext h H0:=by rw[hH0];exact((Ext.refl h).new _).new _
 have c2:H0.ext.get h.n=some (.cells (wdC 0) 0 none):=by rw[hH0];simp (disch:=try exact dx) only[ar,aE]
 have c3:H0.ext.get (h.n+1)=some (.cells (wdC 0) 0 none):=by rw[hH0];simp (disch:=try exact dx) only[ar]
 have z0:([.int .u64 0,.int .u64 0,.int .u64 0,.int .u64 0,.int .u64 0,.int .u64 0,.int .u64 0,.int .u64 0]:List QQ)=wdC 0:=by rw[lJ]
 have q8:=E0.kept hb8 g8;have q2:=E0.kept hb2 g2;have qs:=E0.kept hks gs;refine enter (nt:=32) (rs:=[.cell 2 30]) Proofs.Tryz.func253 rfl rfl rfl ab ?_;simp -dsimp (disch:=try exact dx) only[wpS,zE,zA,fa,ld3,ay g8,em];rw[z0,←hH0];clear hH0;refine loop (fun u fr hh => ∃i:Nat,i+u=m∧H0.n≤hh.n∧(∀j,j<H0.n→j≠ks→j≠h.n+1→hh.ext.get j=H0.ext.get j)∧(∀h0,Ext h0 h→h0.n≤ks→Ext h0 hh)∧hh.ext.get ks=some (.cells [K64 (dP i s).2] 0 none)∧hh.ext.get (h.n+1)=some (.cells (wdC (dP i s).1) 0 none)∧ax fr 0=some (ptr (2*b8) 0)∧ax fr 1=some (ptr (2*b2) 0)∧ax fr 2=some (ptr (2*h.n) 0)∧ax fr 3=some (ptr (2*(h.n+1)) 0)∧ax fr 7=some (KN m)∧ax fr 8=some (KN i)) m ⟨0,aa,aA _,fun j _ _ _=>rfl,fun h0 e _=>e.trans E0,qs,c3,ab,ab,ab,ab,ab,ab⟩ ?_;rintro u fr hh ⟨i,hiu,hn,hfr,hEx,gk,gw,f0,f1,f2,f3,f7,f8⟩;simp -dsimp (disch:=try exact dx) only[wpS,f7,f8];refine aG ?_ ?_<;>intro hc<;>simp only[aS,aV] at hc
 ·have hi:i<8:=aa
  have p2:=(hfr b2 aa d2 aa).trans q2;simp -dsimp (disch:=try exact dx) only[wpS,wpT,zE,YW,BQ,f1,f8,ay p2];refine call (Rf gk) ?_;rintro _ _ ⟨rfl,rfl⟩;have gw2:(hh.put ks (.cells [K64 (nxS (dP i s).2)] 0 none)).ext.get (h.n+1)=some (.cells (wdC (dP i s).1) 0 none):=by rw[au _ _ aa];exact gw
  have sp:=TF hi (u0 i s) (Db (dP i s).2);rw[←Pp] at sp;simp -dsimp (disch:=try exact dx) only[wpS,wpT,zE,zL,pN,rp,f3,f8,gw2,pN,aD,sp];refine⟨u - 1,aa,i+1,aa,hn,fun j h1 h2 h3=>?_,fun h0 e hk=>((hEx h0 e hk).put hk _).put (by have:=e.n;omega) _,?_,aj _ _ rfl,by simp[f0],by simp[f1],by simp[f2],by simp[f3],by simp[f7],ab⟩;·rw[au _ _ h3,au _ _ h2];exact hfr j h1 h2 h3
  ·rw[au _ _ aa];exact aj _ _ rfl
 ·have him:i=m:=aa;subst him;have p8:=(hfr b8 aa d8 aa).trans q8;have p2:=(hfr h.n aa aa aa).trans c2;have vl:=u0 i s;obtain⟨v,hv⟩ : ∃v,v=(dP i s).1:=⟨_,rfl⟩;rw[←hv] at gw vl ⊢;obtain⟨q,hq⟩ : ∃q,q=k / 64:=⟨_,rfl⟩;obtain⟨r,hr⟩ : ∃r,r=k % 64:=⟨_,rfl⟩;have eq:(k:Int) / 64=(q:Int):=aa;have er:(k:Int) % 64=(r:Int):=aa;have ek:k=64*q+r:=aa;have fin : ∀h':IH,h'=hh.put h.n (.cells (wdC v) 0 none)→True:=fun _ _=>trivial;by_cases r0:r=0
  ·have d0:decide ((0:Int)<(r:Int))=false:=bF aa;have hvk:v % 2 ^ k=v:=dR (by
    rw[uJ] at vl;rw[ek,r0,gN];have:i=q:=aa;rw[←this];exact vl)
   rw[hvk];simp -dsimp (disch:=try exact dx) only[wpS,wpT,zE,zL,ld3,bY,dw,f0,f2,f3,ay p8,er,d0,ay gw,p2,aD,aY,aW,sW];exact⟨aa,fun j h1 h2=>by rw[au _ _ aa,hfr j aa h2 aa];exact E0.get j h1,fun h0 e hk=>(hEx h0 e hk).put (by have:=e.n;omega) _,gk,rfl⟩
  ·have d0:decide ((0:Int)<(r:Int))=true:=ct aa;have hi:i=q+1:=aa;have hq8:q<8:=aa;rw[hi] at vl;have sp:=P9 hq8 (show r<64 by omega) vl;rw[←ek] at sp;have gq:=dI v q hq8;have wl:=xk v q;have t1:=pX r;have t2:2 ^ r<18446744073709551616:=cB (sG aa (show r<64 by omega)) aC;have hand : ∀ox oy,binop Proofs.Tryz.prog .and 28 ox oy (K64 (wrd v q)) (K64 (2 ^ r - 1))=some (K64 (wrd v q % 2 ^ r)):=fun ox oy=>by rw[EB _ _ ox oy _ _ wl aa,zy]
   obtain⟨e2,he2⟩ : ∃e,e=2 ^ r:=⟨_,rfl⟩;have esub:((2 ^ r:Nat):Int) - 1=((2 ^ r - 1:Nat):Int):=by rw[←he2] at t1 ⊢;omega
   have wsub:IntKind.u64.wrap (((2 ^ r:Nat):Int) - 1)=((2 ^ r - 1:Nat):Int):=by rw[esub];exact gv (il (Nat.sub_le _ _) t2)
   clear he2;simp -dsimp (disch:=try exact dx) only[wpS,wpT,zE,zL,ld3,pN,rp,oa,bY,dw,f0,f2,f3,ay p8,er,eq,d0,gw,ay gw,p2,pN,gq,wsub,hand,sp,aD,aY,aW,sW];exact⟨aa,fun j h1 h2=>by rw[au _ _ aa,au _ _ aa,hfr j aa h2 aa];exact E0.get j h1,fun h0 e hk=>((hEx h0 e hk).put (by have:=e.n;omega) _).put (by have:=e.n;omega) _,gk,rfl⟩
end
section
variable {h:IH}{F:Value}
def SU (cF:F.cells = #[F]) (cO:bB F=true):WV prog (.func (.func 254) #[] #[]) [F] h fun r h'=>h'=h.new (.cells [F] 0 none)∧r=.func (.func 263) #[] #[ptr (2*h.n) 0]:=by refine enter (nt:=4) (rs:=[.tmp 2]) Proofs.Tryz.func254 rfl rfl rfl ab ?_;simp -dsimp (disch:=try exact dx) only[wpS,wpT,zE,cF]
set_option maxRecDepth 100000 in
def PE {b:Nat} {y:Value} (J:Nat→IH→Prop) (Fin:IH→Prop) (j0:J 0 h) (jb : ∀i hh,J i hh→hh.ext.get b=some (.cells [F] 0 none))(st : ∀i hh,i<TR→J i hh→WV prog F [] hh fun x h1=>WV prog y [x] h1 fun r h2=>(r=.bool true∧J (i+1) h2)∨(r=.bool false∧Fin h2)) :WV prog (.func (.func 263) #[] #[ptr (2*b) 0]) [y] h fun _ h'=>J TR h'∨Fin h':=by
 refine enter (nt:=11) (rs:=[]) Proofs.Tryz.func263 rfl rfl rfl ab ?_;simp -dsimp (disch:=try exact dx) only[wpS,zA];have hT:=Gh;refine loop (fun m fr hh => ∃i:Nat,i+m=TR∧J i hh∧ax fr 0=some y∧ax fr 1=some (ptr (2*b) 0)∧ax fr 3=some (KN i)) TR ⟨0,aa,j0,ab,ab,ab⟩ ?_;rintro m fr hh ⟨i,him,hj,f0,f1,f3⟩;simp -dsimp (disch:=try exact dx) only[wpS,f3];refine aG ?_ ?_<;>intro hc<;>simp only[aS,aV] at hc
 ·have g:=jb i hh hj;simp -dsimp (disch:=try exact dx) only[wpS,wpT,zE,YT,f0,f1,ay g];refine call (st i hh aa hj) ?_;intro x h1 w1;simp -dsimp (disch:=try exact dx) only[wpS,zE];refine call w1 ?_;rintro _ h2 (⟨rfl,w2⟩|⟨rfl,w2⟩)
  ·simp -dsimp (disch:=try exact dx) only[wpS,wpT,zE,f3];exact⟨m - 1,aa,i+1,aa,w2,by simp[f0],by simp[f1],ab⟩
  ·simp -dsimp (disch:=try exact dx) only[wpS,wpT,zE];exact .inr w2
 ·obtain rfl:i=TR:=aa;simp -dsimp (disch:=try exact dx) only[wpS,wpT];exact .inl hj
variable {k n:Nat}
def N5 (h:n<2 ^ k):tL n≤k:=by apply di;intro hn;have:=(sD n k).1 aa;omega
theorem AA:H8=2 ^ 511:=by unfold H8;decide +kernel
def WR {x m:Nat} (h:H8=2 ^ m) (hk:k≤m):x % 2 ^ k<H8:=by rw[h];exact cB (ec _ (pX _)) (fA (Nat.succ_pos 1) hk)
theorem Om:pf 1=wdV 1:=rfl
def Qk {h0:IH} {ks s:Nat} (E:Ext h0 h) (hk:h0.n≤ks) (hk2:ks<h.n) (g:h.ext.get ks=some (.cells [K64 s] 0 none)) (n0:0<n) (hn:n<H8) (hs:s<18446744073709551616) :WV prog (.func (.func 216) #[] #[]) [ptr (2*ks) 0,wdV n] h fun r h'=>Ext h0 h'∧h.n≤h'.n∧((∃x t,mD n s=some (x,t)∧r=.tuple #[wdV x,KI 0]∧h'.ext.get ks=some (.cells [K64 t] 0 none))∨(mD n s=none∧r=.tuple #[wdV 0,KI 9])):=by
 have w8:n<W8:=by have:=dD;omega
 obtain⟨k,hkk⟩ : ∃k,k=tL (n - 1):=⟨_,rfl⟩;have k1:k≤511:=by rw[hkk];exact N5 (k:=511) (Nat.lt_of_lt_of_eq aa AA)
 obtain⟨H0,hH0⟩ : ∃H,H=(((h.new (.cells [ptr (2*ks) 0] 0 none)).new (.cells (wdC n) 0 none)).new (.cells [ZW,ZW,ZW,ZW,ZW,ZW,ZW,ZW] 0 none)).new (.cells [KI 0] 0 none):=⟨_,rfl⟩;have nH0:H0.n=h.n+4:=by rw[hH0];rfl
 have E0:Ext h H0:=by rw[hH0];exact((((Ext.refl h).new _).new _).new _).new _
 have c2:H0.ext.get h.n=some (.cells [ptr (2*ks) 0] 0 none):=by rw[hH0];simp (disch:=try exact dx) only[ar,aE]
 have c3:H0.ext.get (h.n+1)=some (.cells (wdC n) 0 none):=by rw[hH0];simp (disch:=try exact dx) only[ar,aE]
 have c4:H0.ext.get (h.n+2)=some (.cells [ZW,ZW,ZW,ZW,ZW,ZW,ZW,ZW] 0 none):=by rw[hH0];simp (disch:=try exact dx) only[ar,aE]
 have c5:H0.ext.get (h.n+3)=some (.cells [KI 0] 0 none):=by rw[hH0];simp (disch:=try exact dx) only[ar]
 have gs:=E0.kept hk2 g;refine enter (nt:=37) (rs:=[.cell 4 30,.cell 5 47]) Proofs.Tryz.func216 rfl rfl rfl ab ?_;simp -dsimp (disch:=try exact dx) only[wpS,zE,zA,fa,zI,bA];rw[←hH0];clear hH0;have X0:=Ext.refl H0;have L3:load prog H0 30 (ptr (2*(h.n+1)) 0)=some (wdV n):=by have r:=ay c3;simp -dsimp (disch:=try exact dx) only[wpS,zL,bY,r,aD,aY];rfl
 refine drawn [(0,[2])] ae ae rfl ?_;simp -dsimp (disch:=try exact dx) only[wpS,zE,zL,bY,ay c3,aD,aY];refine call (pP 1 ⟨aa,aa⟩) ?_;rintro _ h1 ⟨X1,rfl⟩;rw[Om];have m1:=X1.n;simp -dsimp (disch:=try exact dx) only[wpS,zE];refine call (P3 n 1 hn aa n0) ?_;rintro _ h2 ⟨X2,rfl⟩;have m2:=X2.n;have X12:=X1.trans X2;simp -dsimp (disch:=try exact dx) only[wpS,wpT,zE,zL,zA,fa,dw,bA,aD,aW,bD];refine⟨az rfl rfl rfl rfl (aP (H0:=H0) rfl aa X0 X1 L3),?_⟩;have e3:Ext h2 ((h2.new (.cells [ZW,ZW,ZW,ZW,ZW,ZW,ZW,ZW] 0 none)).put h2.n (.cells (wdC (n - 1)) 0 none)):=((Ext.refl _).new _).put (aA _) _;simp -dsimp (disch:=try exact dx) only[wpS,wpT,zE,zL,zA,bY,aD,aY];refine call (JS (n - 1) aa) ?_;rintro _ h4 ⟨X4,rfl⟩;rw[←hkk];have m4:=X4.n;simp only[aH,aJ] at m4;have X04:=(X12.trans e3).trans X4;have p2:=X04.kept aa c2;have p3:=X04.kept aa c3;have p4:=X04.kept aa c4;have p5:=X04.kept aa c5;have ps:=X04.kept aa gs;have E4:=(E.trans E0).trans X04;by_cases k0:k=0
 ·have d0:((k:Int) == 0)=true:=by simp[k0]
  simp -dsimp (disch:=try exact dx) only[wpS,wpT,zE,zL,zA,bY,dw,zc3,st3,ld3,kQ,nS,pG,d0,p4,p5];refine⟨(((E4.new _).put aa _).put aa _).put aa _,aa,.inl ⟨0,s,by unfold mD;rw[←hkk,aq k0],?_,ps⟩⟩;rw[←iL];rfl
 ·have d0:((k:Int) == 0)=false:=by simp[k0]
  obtain⟨H5,hH5⟩ : ∃H,H=(h4.new (.cells [.int .i64 0] 0 none)).put h4.n (.cells [KN k] 0 none):=⟨_,rfl⟩;have n5:H5.n=h4.n+1:=by rw[hH5];rfl
  have E5:Ext h4 H5:=by rw[hH5];exact((Ext.refl _).new _).put (aA _) _
  have c8:H5.ext.get h4.n=some (.cells [KN k] 0 none):=by rw[hH5];simp (disch:=try exact dx) only[aj]
  simp -dsimp (disch:=try exact dx) only[wpS,wpT,zE,zL,zc3,st3,ld3,d0];rw[←hH5];clear hH5;obtain⟨F,hF⟩ : ∃F,F=(.func (.func 253) #[] #[ptr (2*h4.n) 0,ptr (2*h.n) 0]:Value):=⟨_,rfl⟩;rw[←hF];refine call (SU (F:=F) (by rw[hF];rfl) (by rw[hF];rfl)) ?_;rintro _ _ ⟨rfl,rfl⟩;obtain⟨H6,hH6⟩ : ∃H,H=H5.new (.cells [F] 0 none):=⟨_,rfl⟩;have n6:H6.n=h4.n+2:=by rw[hH6,aH];omega
  have E6:Ext H5 H6:=by rw[hH6];exact(Ext.refl _).new _
  have cF:H6.ext.get H5.n=some (.cells [F] 0 none):=by rw[hH6];simp (disch:=try exact dx) only[ar]
  rw[←hH6];clear hH6;simp -dsimp (disch:=try exact dx) only[wpS,wpT,zE,kQ];refine QJ (p:=25) (nt:=37) rfl rfl aC (fun r y hfn hnt hbd hy=>?_);have hT:=Gh;have E46:=E5.trans E6;have EE:=E4.trans E46;have en:=EE.n;have eh:=E0.n;have ek0:mD n s=qG n k TR s:=by unfold mD;rw[←hkk,ah k0]
  let J:Nat→IH→Prop:=fun i hh => ∃si,si<18446744073709551616∧Ext h0 hh∧H6.n<hh.n∧hh.ext.get H6.n=some (.loop r)∧hh.ext.get H5.n=some (.cells [F] 0 none)∧hh.ext.get ks=some (.cells [K64 si] 0 none)∧hh.ext.get h.n=some (.cells [ptr (2*ks) 0] 0 none)∧hh.ext.get (h.n+1)=some (.cells (wdC n) 0 none)∧hh.ext.get (h.n+2)=some (.cells [ZW,ZW,ZW,ZW,ZW,ZW,ZW,ZW] 0 none)∧hh.ext.get (h.n+3)=some (.cells [KI 0] 0 none)∧hh.ext.get h4.n=some (.cells [KN k] 0 none)∧qG n k TR s=qG n k (TR - i) si;let Fin:IH→Prop:=fun hh => ∃x t,qG n k TR s=some (x,t)∧Ext h0 hh∧H6.n<hh.n∧hh.ext.get H6.n=some (.loop (u6 r .ret))∧hh.ext.get ks=some (.cells [K64 t] 0 none)∧hh.ext.get (h.n+2)=some (.cells (wdC x) 0 none)∧hh.ext.get (h.n+3)=some (.cells [KI 0] 0 none)
  have J0:J 0 (H6.new (.loop r)):=by
   refine⟨s,hs,EE.new _,ab,ar _ _ rfl,?_,?_,?_,?_,?_,?_,?_,rfl⟩;·rw[aE _ _ aa];exact cF
   ·rw[aE _ _ aa];exact E46.kept aa ps
   ·rw[aE _ _ aa];exact E46.kept aa p2
   ·rw[aE _ _ aa];exact E46.kept aa p3
   ·rw[aE _ _ aa];exact E46.kept aa p4
   ·rw[aE _ _ aa];exact E46.kept aa p5
   ·rw[aE _ _ aa];exact E6.kept aa c8
  refine WV.mono (PE (b:=H5.n) (F:=F) (y:=y) J Fin J0 (fun i hh hj=>by obtain⟨_,_,_,_,_,a,_⟩:=hj;exact a) ?_) ?_
  ·rintro i hh hi ⟨si,a0,a1,a2,a3,a4,a5,a6,a7,a8,a9,a10,a11⟩;rw[hF];have an:=a1.n;refine WV.mono (Ol (k:=k) aa aa aa aa aa aa aa a10 a6 a5) ?_;rintro _ H3 ⟨hn3,hfr,hEx,b5,rfl⟩;have e3':=hEx h0 a1 hk;have b3:=(hfr H6.n aa aa).trans a3;have b4:=(hfr H5.n aa aa).trans a4;have b6:=(hfr h.n aa aa).trans a6;have b7:=(hfr (h.n+1) aa aa).trans a7;have b8:=(hfr (h.n+2) aa aa).trans a8;have b9:=(hfr (h.n+3) aa aa).trans a9;have b10:=(hfr h4.n aa aa).trans a10;obtain⟨x,hx⟩ : ∃x,x=(dP ((k+63) / 64) si).1 % 2 ^ k:=⟨_,rfl⟩;obtain⟨s',hs'⟩ : ∃x,x=(dP ((k+63) / 64) si).2:=⟨_,rfl⟩;have sb:s'<18446744073709551616:=by rw[hs'];exact uZ a0
   have xb:x<H8:=by rw[hx];exact WR (m:=511) AA k1
   have xw:x<W8:=by have:=dD;omega
   obtain⟨q,hq⟩ : ∃q,TR - i=q+1:=⟨TR - i - 1,aa⟩;have a12:=a11;rw[hq,qG,←hx,←hs'] at a12;rw[←hs'] at b5;rw[←hx];clear hx hs';refine hy _ _ _ b3 ?_;simp -dsimp (disch:=try exact dx) only[wpS,wpT,zE,zL,zA,fa,dw,bA,aD,aW,bD];obtain⟨H7,hH7⟩ : ∃H,H=(H3.new (.cells [ZW,ZW,ZW,ZW,ZW,ZW,ZW,ZW] 0 none)).put H3.n (.cells (wdC x) 0 none):=⟨_,rfl⟩;have n7:H7.n=H3.n+1:=by rw[hH7];rfl
   have e7:Ext H3 H7:=by rw[hH7];exact((Ext.refl _).new _).put (aA _) _
   have cx:H7.ext.get H3.n=some (.cells (wdC x) 0 none):=by rw[hH7];simp (disch:=try exact dx) only[aj]
   rw[←hH7];clear hH7;refine⟨rfl,e7.kept aa b3,?_⟩;rw[hfn,hnt,hbd];obtain⟨H8',hH8⟩ : ∃H,H=H7.put H6.n (.loop (oP r)):=⟨_,rfl⟩;have e8:Ext h0 H8':=by rw[hH8];exact(e3'.trans e7).put aa _
   have w0 : ∀j,j≠H6.n→H8'.ext.get j=H7.ext.get j:=fun j hj=>by rw[hH8];exact au _ _ hj
   have zl:H8'.ext.get H6.n=some (.loop (oP r)):=by rw[hH8];exact aj _ _ rfl
   have zn:H8'.n=H7.n:=by rw[hH8];rfl
   rw[←hH8];clear hH8;have dx:=(w0 H3.n aa).trans cx;have d4:=(w0 H5.n aa).trans (e7.kept aa b4);have d5:=(w0 ks aa).trans (e7.kept aa b5);have d6:=(w0 h.n aa).trans (e7.kept aa b6);have d7:=(w0 (h.n+1) aa).trans (e7.kept aa b7);have d8:=(w0 (h.n+2) aa).trans (e7.kept aa b8);have d9:=(w0 (h.n+3) aa).trans (e7.kept aa b9);have d10:=(w0 h4.n aa).trans (e7.kept aa b10);simp -dsimp (maxSteps:=1000000) (disch:=first|omega|(simp only[aH,aJ];omega)|decide +kernel|(repeat first|rw[aH]|rw[aJ])) only[wpS,zE,zL,bY,ay dx,ay d7,aD,aY];refine call (Ia x n xb hn) ?_;rintro _ g1 ⟨Y1,rfl⟩;have gn1:=Y1.n;have ix:wdI x=(x:Int):=by unfold wdI;rw[aq xb]
   by_cases cx':x<n
   ·rw[aq cx'] at a12 ⊢;simp -dsimp (maxSteps:=1000000) (disch:=first|omega|(simp only[aH,aJ];omega)|decide +kernel|(repeat first|rw[aH]|rw[aJ])) only[wpS,wpT,zE,zL,bY,ay (Y1.kept aa dx),aD,aY];refine call (pZ x xw) ?_;rintro _ g2 ⟨Y2,rfl⟩;rw[ix,ah aa];obtain⟨z,hz,hz0⟩ : ∃z:Int,(if (x:Int)=0 then (0:Int) else 1)=z∧0≤z:=⟨_,rfl,by split<;>omega⟩;rw[hz];have gn2:=Y2.n;have Y12:=Y1.trans Y2;have f8':=Y12.kept aa d8;have f9':=Y12.kept aa d9;simp -dsimp (maxSteps:=1000000) (disch:=first|omega|(simp only[aH,aJ];omega)|decide +kernel|(repeat first|rw[aH]|rw[aJ])) only[wpS,wpT,zE,zL,zA,bY,dw,nS,ay (Y12.kept aa dx),f8',f9',aD,aW,bD,aY];refine⟨?_,.inr ⟨rfl,x,s',a12,(((e8.trans Y12).put aa _).put aa _).put aa _,by show H6.n<g2.n;omega,aj _ _ rfl,?_,?_,?_⟩⟩
    ·rw[au _ _ aa,au _ _ aa];exact Y12.kept aa zl
    ·rw[au _ _ aa,au _ _ aa,au _ _ aa];exact Y12.kept aa d5
    ·rw[au _ _ aa,au _ _ aa];exact aj _ _ rfl
    ·rw[au _ _ aa];exact aj _ _ rfl
   ·rw[ah cx'] at a12 ⊢;obtain⟨z,hz,hz0⟩ : ∃z:Int,(if x=n then (0:Int) else 1)=z∧0≤z:=⟨_,rfl,by split<;>omega⟩;rw[hz];simp -dsimp (maxSteps:=1000000) (disch:=first|omega|(simp only[aH,aJ];omega)|decide +kernel|(repeat first|rw[aH]|rw[aJ])) only[wpS,wpT,zE];refine⟨Y1.kept aa zl,.inl ⟨rfl,s',sb,(e8.trans Y1).put aa _,by show H6.n<g1.n;omega,aj _ _ rfl,?_,?_,?_,?_,?_,?_,?_,by rw[show TR - (i+1)=q by omega];exact a12⟩⟩
    ·rw[au _ _ aa];exact Y1.kept aa d4
    ·rw[au _ _ aa];exact Y1.kept aa d5
    ·rw[au _ _ aa];exact Y1.kept aa d6
    ·rw[au _ _ aa];exact Y1.kept aa d7
    ·rw[au _ _ aa];exact Y1.kept aa d8
    ·rw[au _ _ aa];exact Y1.kept aa d9
    ·rw[au _ _ aa];exact Y1.kept aa d10
  ·rintro _ hd (⟨si,x0,x1,x2,x3,x4,x5,x6,x7,x8,x9,x10,x11⟩|⟨x,t,x0,x1,x2,x3,x4,x5,x6⟩)
   ·rw[nD,qG] at x11;refine .inl ⟨x3,?_⟩;have xn:=x1.n;obtain⟨K0,hK0⟩ : ∃K0,K0=hd.put H6.n .dead:=⟨_,rfl⟩;have ed:Ext h0 K0:=by rw[hK0];exact x1.put aa _
    have kn:K0.n=hd.n:=by rw[hK0];rfl
    have z0 : ∀j,j≠H6.n→K0.ext.get j=hd.ext.get j:=fun j hj=>by rw[hK0];exact au _ _ hj
    have z7:=(z0 (h.n+2) aa).trans x8;have z8:=(z0 (h.n+3) aa).trans x9;rw[←hK0];clear hK0;simp -dsimp (disch:=try exact dx) only[wpS,wpT,zE,zL,zA,bY,dw,kQ,nS,pG,z7,z8];refine⟨(ed.put aa _).put aa _,aa,.inr ⟨ek0.trans x11,?_⟩⟩;rw[←iL];rfl
   ·refine .inr (.inr ⟨x3,?_⟩);have xn:=x1.n;obtain⟨K0,hK0⟩ : ∃K0,K0=hd.put H6.n .dead:=⟨_,rfl⟩;have ed:Ext h0 K0:=by rw[hK0];exact x1.put aa _
    have kn:K0.n=hd.n:=by rw[hK0];rfl
    have z0 : ∀j,j≠H6.n→K0.ext.get j=hd.ext.get j:=fun j hj=>by rw[hK0];exact au _ _ hj
    have z4:=(z0 ks aa).trans x4;have z7:=(z0 (h.n+2) aa).trans x5;have z8:=(z0 (h.n+3) aa).trans x6;rw[←hK0];clear hK0;simp -dsimp (disch:=try exact dx) only[wpS,wpT,zE,zL,bY,kQ,pG,ay z7,ay z8,aD,aY];exact⟨ed,aa,.inl ⟨x,t,ek0.trans x0,rfl,z4⟩⟩
end
end Go.Id
