/-
  Contracts: package kernel: Check.
-/
import Derived.Test.YtnnmjocmapilaaaGreatOutlierOddsAr
set_option linter.unusedVariables false
set_option linter.unusedSimpArgs false
set_option linter.defProp false
set_option linter.deprecated false
namespace Go.Id
open Go
open Go renaming Operand→QY,Program→QX,TypeId→QZ,Value→QQ
open Nat renaming reduceAdd→zA,reduceEqDiff→zE,reduceLeDiff→zL
open Nat (reduceMul)
set_option maxHeartbeats 16000000
open Go.Proofs.Tryz (prog)
def Cm (p:Nat×Nat):Prop:=¬okS p.1 p.2∨wdI p.1<0
def qf (l:List (Nat×Nat)):Prop:=(∀p∈l,¬Cm p)∧jJ (l.map rOf)=1
def fy (ll:List (List (Nat×Nat))):Prop:=1≤ll.length∧ll.length≤60 ∧ ∀l∈ll,l.length=ll.length∧qf l
theorem JJ {p:Nat×Nat} (h : ¬Cm p):okS p.1 p.2∧0≤wdI p.1:=by unfold Cm at h;refine⟨dW fun hn=>h (.inl hn),?_⟩;have : ¬wdI p.1<0:=fun hn=>h (.inr hn);omega
open Classical in
def Xr {h:IH} {p:Nat×Nat} (h1:p.1<W8) (h2:p.2<W8) :
  WV prog (.func (.func 203) #[] #[]) [shV p.1 p.2] h fun r h'=>Ext h h'∧r=.bool (decide (Cm p)):=by
 have E1:Ext h (h.new (.cells (shC p.1 p.2) 0 none)):=(Ext.refl h).new _;have g1:(h.new (.cells (shC p.1 p.2) 0 none)).ext.get h.n=some (.cells (shC p.1 p.2) 0 none):=by simp (disch:=omega) only[aq]
 refine enter (nt:=13) (rs:=[.tmp 2]) Proofs.Tryz.func203 rfl rfl rfl aa ?_;simp -dsimp (disch:=omega) only[wpS,zE,zL,dX,aU,aC,bF];refine call (tZ p.1 p.2 h1 h2) ?_;rintro _ v1 ⟨X1,rfl⟩;have m1:=X1.n;simp only[bj] at m1;by_cases ok:okS p.1 p.2
 case neg =>
  rw[ad ok,bf (show Cm p from .inl ok)];simp -dsimp (disch:=omega) only[wpS,wpT,zE];exact E1.trans X1
 rw[ah ok];simp -dsimp (disch:=omega) only[wpS,wpT,zE,zL,dX,aw (X1.kept aa g1),aC,bF];refine call (gS p.1 p.2 h1 h2) ?_;rintro _ v2 ⟨X2,a,s,b,t,rfl,q1,q2⟩;simp -dsimp (disch:=omega) only[wpS,wpT,zE,ZaA];refine call (qi q1) ?_;rintro _ v3 ⟨X3,rfl⟩;have XX:=((E1.trans X1).trans X2).trans X3;by_cases c:wdI p.1<0;·rw[ah c,bf (show Cm p from .inr c)];simp -dsimp (disch:=omega) only[wpS,wpT,zE];exact XX
 ·rw[ad c,aY (show ¬Cm p from fun h=>h.elim (fun h=>h ok) c)]
  obtain⟨z,hz,hz0⟩ : ∃z:Int,(if wdI p.1=0 then (0:Int) else 1)=z∧0≤z:=⟨_,rfl,by split<;>omega⟩;rw[hz];simp -dsimp (disch:=omega) only[wpS,wpT,zE];exact XX
open Classical in
def xq {h:IH} {v F:QQ} {l:List (Nat×Nat)} (hv:iS h v l) (B:Nat×Nat→Prop) (hF : ∀h1 p,Ext h h1→p∈l→WV prog F [shV p.1 p.2] h1 fun r h2=>Ext h1 h2∧r=.bool (decide (B p))) :WV prog (.func (.func 173) #[] #[]) [v,F] h fun r h'=>Ext h h'∧r=.bool (decide (∃p∈l,B p)):=by
 have hlb:=hv.2.1;have ZdF:WV prog (.func (.func 228) #[] #[]) [v,F] h fun r h'=>Ext h h' ∧ ∃c:Int,r=KI c∧(0≤c ↔ ∃p∈l,B p):=by
  refine enter (nt:=19) (rs:=[.tmp 4]) Proofs.Tryz.func228 rfl rfl rfl aa ?_;simp -dsimp (disch:=omega) only[wpS,zE,zA,hv.1.len tX];refine loop (fun m fr h1 => ∃i:Nat,i+m=l.length∧Ext h h1∧(∀(j:Nat) p,j<i→l[j]?=some p → ¬B p)∧aj fr 0=some v∧aj fr 1=some F∧aj fr 7=some (KN l.length)∧aj fr 8=some (KN i)) l.length ⟨0,byOmega,Ext.refl _,fun j p hj=>byOmega,aa⟩ ?_;rintro m fr h1 ⟨i,him,hE,hno,f0,f1,f7,f8⟩;simp -dsimp (disch:=omega) only[wpS,f7,f8];refine az ?_ ?_<;>intro hc<;>simp only[aJ,aV] at hc
  ·have hi:i<l.length:=byOmega;obtain⟨p,hp⟩:=fJ (l:=l) (i:=i) hi;have hpm:=bN hp;simp -dsimp (disch:=omega) only[wpS,wpT,zE,f0,f1,f8,hv.1.idx qU hi,hv.ld hE.ae hp];refine call (hF h1 p hE hpm) ?_;rintro _ h2 ⟨hE2,rfl⟩;have E2:=hE.trans hE2;by_cases hk:B p
   ·rw[bf hk];simp -dsimp (disch:=omega) only[wpS,zE];exact⟨E2,(i:Int),rfl,fun _=>⟨p,hpm,hk⟩,fun _=>byOmega⟩
   ·rw[aY hk];simp -dsimp (disch:=omega) only[wpS,zE,f8];refine⟨m - 1,byOmega,i+1,byOmega,E2,?_,by simp[f0,f1,f7]⟩;intro j q hj hq;by_cases hji:j=i
    ·subst hji;rw[hp] at hq;cases hq;exact hk
    ·exact hno j q byOmega hq
  ·simp -dsimp (disch:=omega) only[wpS,wpT];refine⟨hE,-1,rfl,fun h=>byOmega,fun⟨p,hp,hb⟩=>?_⟩;obtain⟨j,hj⟩:=lV hp;have:=(bZ.1 hj).1;exact absurd hb (hno j p byOmega hj)
 refine enter (nt:=9) (rs:=[.tmp 4]) Proofs.Tryz.func173 rfl rfl rfl aa ?_;simp -dsimp (disch:=omega) only[wpS,zE,zA];refine call ZdF ?_;rintro _ h1 ⟨hE,c,rfl,hc⟩;simp -dsimp (disch:=omega) only[wpS,zE];exact⟨hE,by rw[xN.2 hc]⟩
def TS {h:IH} {v:QQ} {l:List (Nat×Nat)} (hv:iS h v l) (ho : ∀p∈l,okS p.1 p.2) (hl:l.length≤1000) :WV prog (.func (.func 204) #[] #[]) [v,(.func (.func 156) #[] #[])] h fun r h'=>Ext h h'∧ch h' r (jJ (l.map rOf))∧QB (l.length*(512+1)) (jJ (l.map rOf)):=by
 have hq0 : ∀q∈l.map rOf,QB 512 q:=by intro q hq;obtain⟨p,hp,rfl⟩:=ju.1 hq;exact jY (hv.2.2 p hp).1 (hv.2.2 p hp).2 (ho p hp)
 have hQ : ∀i,i≤l.length→QB (i*(512+1)) (jJ ((l.take i).map rOf)):=by intro i hi;have:=QB.jJ (k:=512) hq0 i (by simpa using hi);rwa [←tJ] at this
 refine enter (nt:=22) (rs:=[.cell 4 137]) Proofs.Tryz.func204 rfl rfl rfl aa ?_;simp -dsimp (disch:=omega) only[wpS,zA,gY];have E1:Ext h (h.new (.cells ZR 0 none)):=(Ext.refl h).new _;have g1:(h.new (.cells ZR 0 none)).ext.get h.n=some (.cells ZR 0 none):=by simp (disch:=omega) only[aq]
 refine call (iL 0 ⟨byOmega,byOmega⟩) ?_;rintro z h1 ⟨X1,p1⟩;have m1:=X1.n;simp only[bj] at m1;obtain⟨a3,s3,b3,t3,rfl,_,_,d1,o1,d2,o2,o3,o4⟩:=p1.parts;have kg:=X1.kept aa g1;simp -dsimp (disch:=omega) only[wpS,wpT,zE,zL,zA,gY,fK,o1,o2,o3,o4,hv.1.len tX];have Ex2:Ext h1 ((h1.new (.cells ZR 0 none)).put h1.n (.cells [a3,s3,b3,t3] 0 none)):=((Ext.refl h1).new _).put (ar _) _;refine loop (fun m fr hh => ∃(i:Nat) (a s b t:QQ),i+m=l.length∧Ext h hh∧h1.n<hh.n∧hh.ext.get h.n=some (.cells ZR 0 none)∧hh.ext.get h1.n=some (.cells [a,s,b,t] 0 none)∧ch hh (.agg #[a,s,b,t]) (jJ ((l.take i).map rOf)) ∧aj fr 1=some (.func (.func 156) #[] #[])∧aj fr 4=some (ptr (2*h.n) 0)∧aj fr 5=some (ptr (2*h1.n) 0)∧aj fr 9=some v∧aj fr 10=some (KN l.length)∧aj fr 11=some (KN i)) l.length ⟨0,a3,s3,b3,t3,byOmega,(E1.trans X1).trans Ex2,aa,by simp (disch:=omega) only[aE,ax];exact kg,by simp (disch:=omega) only[ak],p1.ae Ex2.ae,aa⟩ ?_;clear p1 kg Ex2;rintro m fr hh ⟨i,a,s,b,t,him,hE,hn,hg,hg5,hp,f1,f4,f5,f9,f10,f11⟩;simp -dsimp (disch:=omega) only[wpS,zA,f10,f11];refine az ?_ ?_<;>intro hc<;>simp only[aJ,aV] at hc
 ·have hi:i<l.length:=byOmega;obtain⟨q,hq⟩:=fJ (l:=l) (i:=i) hi;have hqm:=bN hq;obtain⟨w1,w2⟩:=hv.2.2 q hqm;simp -dsimp (disch:=omega) only[wpS,wpT,zE,zL,zA,lX,iJ,f9,f11,hv.1.idx qU hi,hv.ld hE.ae hq,aU,aC,bH,cD];obtain⟨H0,hH0⟩:=bm ((hh.new (.cells Z16 0 none)).put hh.n (.cells (shC q.1 q.2) 0 none));have e0:Ext hh H0:=by rw[hH0];exact((Ext.refl hh).new _).put (ar _) _
  have n0:H0.n=hh.n+1:=by rw[hH0];rfl
  have gx:H0.ext.get hh.n=some (.cells (shC q.1 q.2) 0 none):=by rw[hH0];simp (disch:=omega) only[ak]
  have hnn:=hE.n;have gs:=e0.kept hn hg5;have gz:=e0.kept byOmega hg;rw[←hH0];clear hH0;have X0:=Ext.refl H0;obtain⟨_,_,L1⟩:=pl4 gs;refine drawn [(0,[4])] ab ab rfl ?_;simp -dsimp (disch:=omega) only[wpS,wpT,zE,zL,zA,dX,jZ,f1,f5,aw gs,aw gx,fm,aC,bF];refine call (gS q.1 q.2 w1 w2) ?_;rintro r h2 ⟨X2,p2⟩;have m2:=X2.n;have p2:=p2.rat (ho q hqm);simp -dsimp (disch:=omega) only[wpS,zE];have hkb:i*(512+1)+512+1<16000000:=byOmega;refine call (mH (hp.ae (e0.trans X2).ae) p2 (hQ i byOmega) (jY w1 w2 (ho q hqm)) hkb) ?_;rintro r3 h3 ⟨hE3,p3⟩;have m3:=hE3.n;have X3:=X2.trans hE3;have eT:jJ ((l.take i).map rOf)+rOf (q.1,q.2)=jJ ((l.take (i+1)).map rOf):=by rw[fE hq,kX,kW,tK,ny]
  rw[eT] at p3;obtain⟨a4,s4,b4,t4,rfl,_,_,_,o1,_,o2,o3,o4⟩:=p3.parts;have k5:=X3.kept byOmega gs;have kz:=X3.kept byOmega gz;simp -dsimp (disch:=omega) only[wpS,wpT,zE,zL,zA,fK,f5,k5,o1,o2,o3,o4];refine⟨ai rfl rfl rfl rfl (aO (H0:=H0) (b:=2*h1.n) (o:=0) f5 byOmega aG aG L1),?_⟩;simp -dsimp (disch:=omega) only[wpS,wpT,zE,zA,f11];refine⟨m - 1,byOmega,i+1,a4,s4,b4,t4,byOmega,((hE.trans e0).trans X3).put byOmega _,by simp only[bd];omega,by simp (disch:=omega) only[ax];exact kz,ak _ _ rfl,p3.ae ((aX.refl _).put k5 _),by simp[f1,f4,f5,f9,f10]⟩
 ·obtain rfl:i=l.length:=byOmega;have hQl:=hQ l.length (ar _);rw[tH] at hp hQl;obtain⟨_,_,_,_,hhe,_,_,_,o1,_,o2,o3,o4⟩:=hp.parts;cases hhe;simp -dsimp (disch:=omega) only[wpS,wpT,zE,zL,zA,fK,jZ,f4,f5,aw hg5,hg,fm,o1,o2,o3,o4];exact⟨hE.put (ar _) _,hp.ae ((aX.refl _).put hg _),hQl⟩
open Classical in
def ZaD {h:IH} {v:QQ} {l:List (Nat×Nat)} (hv:iS h v l) (hl:l.length≤1000) :WV prog (.func (.func 120) #[] #[]) [v] h fun r h'=>Ext h h'∧r=.bool (decide (qf l)):=by
 refine enter (nt:=10) (rs:=[.tmp 2]) Proofs.Tryz.func120 rfl rfl rfl aa ?_;simp -dsimp (disch:=omega) only[wpS,zE];refine call (xq hv Cm (fun h1 p _ hp=>Xr (hv.2.2 p hp).1 (hv.2.2 p hp).2)) ?_;rintro _ h1 ⟨X1,rfl⟩;by_cases c : ∃p∈l,Cm p;·rw[bf c,aY (show ¬qf l from fun⟨h1,_⟩=>by obtain⟨p,hp,hb⟩:=c;exact h1 p hp hb)];simp -dsimp (disch:=omega) only[wpS,wpT,zE];exact X1
 rw[aY c]
 have hno : ∀p∈l,¬Cm p:=fun p hp hb=>c ⟨p,hp,hb⟩;simp -dsimp (disch:=omega) only[wpS,zE];refine call (TS (hv.ae X1.ae) (fun p hp=>(JJ (hno p hp)).1) hl) ?_;rintro r2 h2 ⟨X2,p2,q2⟩;simp -dsimp (disch:=omega) only[wpS];refine call (iL 1 ⟨byOmega,byOmega⟩) ?_;rintro r3 h3 ⟨X3,p3⟩;simp -dsimp (disch:=omega) only[wpS,zE];refine call (wR (p2.ae X3.ae) p3 q2 (QB.int (k:=64) aP) byOmega) ?_;rintro _ h4 ⟨X4,rfl⟩;have XX:=((X1.trans X2).trans X3).trans X4;have e1:((1:Int):Rat)=1:=rfl;rw[e1];by_cases c1:jJ (l.map rOf)=1;·rw[bf (show qf l from⟨hno,c1⟩),c1,ad (by exact Rat.lt_irrefl),ah rfl];simp -dsimp (disch:=omega) only[wpS,wpT,zE];exact XX
 ·rw[aY (show ¬qf l from fun h=>c1 h.2)]
  obtain⟨z,hz,hz0⟩ : ∃z:Int,(if jJ (l.map rOf)<1 then (-1:Int) else if jJ (l.map rOf)=1 then 0 else 1)=z∧z≠0:=⟨_,rfl,by split<;>simp[]⟩;rw[hz];have d:(z == 0)=false:=by simpa using hz0
  simp -dsimp (disch:=omega) only[wpS,wpT,zE,d];exact XX
open Classical in
noncomputable def Zag (ll:List (List (Nat×Nat))):Int:=if fy ll then 0 else 330
open Classical in
def TW {h:IH} {v:QQ} {ll:List (List (Nat×Nat))} (hv:je h v ll) :WV prog (.func (.func 45) #[] #[]) [v] h fun r h'=>Ext h h'∧r=KI (Zag ll):=by
 obtain⟨_,_,hlen⟩:=hv.co;have hlb:=hv.choose_spec.2.1;unfold Zag;refine enter (nt:=30) (rs:=[.tmp 2]) Proofs.Tryz.func45 rfl rfl rfl aa ?_;by_cases a1:ll.length<1;·rw[ad (fun hk=>by have:=hk.1;omega)];simp -dsimp (disch:=omega) only[wpS,wpT,zE,hlen];exact Ext.refl _
 by_cases a2:60<ll.length
 ·rw[ad (fun hk=>by have:=hk.2.1;omega)];simp -dsimp (disch:=omega) only[wpS,wpT,zE,hlen];exact Ext.refl _
 simp -dsimp (disch:=omega) only[wpS,wpT,zE,hlen];refine loop (fun m fr h1 => ∃i:Nat,i+m=ll.length∧Ext h h1∧(∀(j:Nat) x,j<i→ll[j]?=some x→x.length=ll.length∧qf x)∧aj fr 0=some v∧aj fr 13=some v∧aj fr 14=some (KN ll.length)∧aj fr 15=some (KN i)) ll.length
  ⟨0,byOmega,Ext.refl _,fun j p hj=>byOmega,aa⟩ ?_
 rintro m fr h1 ⟨i,him,hE,hok,f0,f13,f14,f15⟩;simp -dsimp (disch:=omega) only[wpS,f14,f15];refine az ?_ ?_<;>intro hc<;>simp only[aJ,aV] at hc
 ·have hi:i<ll.length:=byOmega
  obtain⟨x,hx⟩:=fJ (l:=ll) (i:=i) hi
  have hxm:=bN hx
  obtain⟨w,l1,l2,l3⟩:=hv.at hE.ae hx
  have lx:=l2.2.1;by_cases cl:x.length=ll.length
  case neg =>
   rw[ad (fun hk=>cl (hk.2.2 x hxm).1)];have d:(((x.length:Nat):Int) != ((ll.length:Nat):Int))=true:=by simpa using fun h=>cl byOmega
   simp -dsimp (disch:=omega) only[wpS,wpT,zE,f0,f13,f15,l1,l3,l2.1.len tX,hlen,d]
   exact hE
  have d:(((x.length:Nat):Int) != ((ll.length:Nat):Int))=false:=by simp[cl]
  simp -dsimp (disch:=omega) only[wpS,wpT,zE,f0,f13,f15,l1,l3,l2.1.len tX,hlen,d]
  refine call (ZaD l2 byOmega) ?_
  rintro _ h2 ⟨X2,rfl⟩;have E2:=hE.trans X2;by_cases cr:qf x
  ·rw[bf cr];simp -dsimp (disch:=omega) only[wpS,wpT,zE,f15];refine⟨m - 1,byOmega,i+1,byOmega,E2,?_,by simp[f0,f13,f14]⟩;intro j q hj hq;by_cases hji:j=i
   ·subst hji;rw[hx] at hq;cases hq;exact⟨cl,cr⟩
   ·exact hok j q byOmega hq
  ·rw[aY cr,ad (fun hk=>cr (hk.2.2 x hxm).2)]
   simp -dsimp (disch:=omega) only[wpS,wpT,zE]
   exact E2
 ·rw[ah (show fy ll from⟨byOmega,byOmega,fun x hx=>by
   obtain⟨j,hj⟩:=lV hx;exact hok j x (by have:=(bZ.1 hj).1;omega) hj⟩)]
  simp -dsimp (disch:=omega) only[wpS,wpT];exact hE
end Go.Id
namespace Go.Id
open Go
open Go renaming Operand→QY,Program→QX,TypeId→QZ,Value→QQ
open Nat renaming reduceAdd→zA,reduceEqDiff→zE,reduceLeDiff→zL
open Nat (reduceMul)
set_option maxHeartbeats 16000000
structure uM (z:Nat) (h h':IH):Prop where
 n:h.n≤h'.n
 base:h'.base=h.base
 get : ∀k c f,k<h.n→h.ext.get k=some (.cells c z f) → ∃f',h'.ext.get k=some (.cells c z f')
def uM.refl (z:Nat) (h:IH):uM z h h:=⟨ar _,rfl,fun _ _ f _ hg=>⟨f,hg⟩⟩
variable {k z:Nat}{cs:List QQ}
def uM.put {a b:IH} (g:uM z a b) {e:Nat} {f:Option Nat} (hk:b.ext.get k=some (.cells cs e f)) (he:e≠z) (o:cB):uM z a (b.put k o):=⟨g.n,g.base,fun j c f1 hj hg=>by
 obtain⟨f2,h2⟩:=g.get j c f1 hj hg;refine⟨f2,?_⟩;rw[lK,ad];·exact h2
 ·rintro rfl;rw[hk] at h2;cases h2;exact he rfl⟩
variable {h:IH}{n:Nat}{v:QQ}{h':IH}
def cA.rA {sz:Nat} (s:cA h sz v n cs) (e:uM sz h h'):cA h' sz v n cs:=by
 obtain⟨hz,hl,s|⟨b,o,k,rfl,s⟩⟩:=s;·exact⟨hz,hl,.inl s⟩
 ·refine⟨hz,hl,.inr ⟨b,o,k,rfl,s.imp id fun⟨a1,a2,row,a3,h1,h2,h3⟩=>?_⟩⟩;rcases a3 with a3|⟨a4,a5,f,a6⟩
  ·refine⟨a1,a2,row,.inl a3,?_,h2,h3⟩;rw[←h1];simp[IH.row,a3.1,e.base]
  ·obtain⟨f',h4⟩:=e.get (b / 2) row f byOmega a6;refine⟨a1,a2,row,.inr ⟨a4,by have:=e.n;omega,f',h4⟩,?_,h2,h3⟩;simp only[IH.row,aK,bD];rw[ad byOmega];simp only[h4]
structure wB (h:IH) (z k:Nat) (v:QQ) (n:Nat) (cs:List QQ):Prop where
 form:v=.slice (some ⟨2*k,0,none⟩) n (2*n+1)
 len:cs.length=n*z
 size:0<z
 some_:0<n
 old:k<h.n
 got:h.ext.get k=some (.cells cs z none)
def wB.sl (r:wB h z k v n cs):cA h z v n cs:=by obtain⟨rfl,l,hz,hn,hk,hg⟩:=r;exact eh hg hk hz l byOmega byOmega
def wB.ext (r:wB h z k v n cs) (e:Ext h h'):wB h' z k v n cs :=
 ⟨r.form,r.len,r.size,r.some_,cV r.old e.n,(e.get k r.old).trans r.got⟩
variable {i:Nat}{xs:List QQ}
theorem Zk (h:i+xs.length≤cs.length):(IH.aI cs i xs).length=cs.length:=by simp only[IH.aI,du,iT,oN];omega
variable {t:TypeId}{P:Program}
def wB.set (r:wB h z k v n cs) (hT:ba P t=some z) (hi:i<n) {x:QQ} (hx:x.cells.toList=xs) (hxl:xs.length=z) (hc:xs.all aM=true) :store P h t (a9 v (i*z)) x=some (h.put k (.cells (IH.aI cs (i*z) xs) z none))∧wB (h.put k (.cells (IH.aI cs (i*z) xs) z none)) z k v n (IH.aI cs (i*z) xs):=by
 obtain⟨rfl,hl,hz,hn,hk,hg⟩:=r;have hle:i*z+z≤cs.length:=by rw[hl,←uU];exact cT _ hi
 have k2:2*k / 2=k:=byOmega;have k1:(2*k % 2 == 1)=false:=aa;have hsx:x.cells.size=z:=by rw[←ku,hx,hxl]
 have hst:store P h t (a9 (.slice (some ⟨2*k,0,none⟩) n (2*n+1)) (i*z)) x=h.wr (2*k) (i*z) xs:=by simp only[a9,eu,store,asAddr,ptr,hT,hx,hsx,hc,tB,uY,bP]
 have ZdB:Nat.ble (i*z+xs.length) cs.length=true:=by rw[bI,hxl];exact hle
 refine⟨?_,rfl,by rw[Zk byOmega];exact hl,hz,hn,hk,ak _ _ rfl⟩;rw[hst];simp only[IH.wr,k1,k2,hg,ZdB,bP,dL];rfl
def Vv (hx:xs.length=z) (h:i*z+z≤cs.length):((IH.aI cs (i*z) xs).drop (i*z)).take z=xs:=by simp only[IH.aI];rw[List.drop_append,uX (by rw[iT];omega),mz,iT,lU byOmega,xQ,cp,rP byOmega,dr byOmega]
variable {j:Nat}
theorem SP (hx:xs.length=z) (h:i*z+z≤cs.length) (hj:j≠i):((IH.aI cs (i*z) xs).drop (j*z)).take z=(cs.drop (j*z)).take z:=by
 rcases Nat.lt_or_gt_of_ne hj with hlt|hgt
 ·have e:j*z+z≤i*z:=by rw[←uU];exact cT _ hlt
  simp only[IH.aI]
  apply jT;intro q;rw[iU,iU];split
  ·rw[kj,kj,gF (by rw[iT];omega),iU,ah byOmega]
  ·rfl
 ·have e:i*z+z≤j*z:=by rw[←uU];exact cT _ hgt
  simp only[IH.aI];apply jT;intro q;rw[iU,iU];split;·rw[kj,kj,jv (by rw[iT];omega),jv (by rw[iT];omega),kj,iT,lU byOmega];congr 1;omega
  ·rfl
def pe (R:IH→QQ→Rat→Prop) (h:IH) (cs:List QQ) (j:Nat) (q:Rat):Prop:=∃a s b t,(cs.drop (j*4)).take 4 = [a,s,b,t]∧R h (.agg #[a,s,b,t]) q
variable {R:IH→QQ→Rat→Prop}{q:Rat}
def pe.mono (x:pe R h cs j q) (k : ∀v,R h v q→R h' v q):pe R h' cs j q:=let ⟨a,s,b,t,h1,h2⟩:=x;⟨a,s,b,t,h1,k _ h2⟩
variable {s b a:QQ}
def pe.set {t:QQ} (hi:i*4+4≤cs.length) (r:R h (.agg #[a,s,b,t]) q):pe R h (IH.aI cs (i*4) [a,s,b,t]) i q:=⟨a,s,b,t,Vv rfl hi,r⟩
def pe.other {t:QQ} (x:pe R h cs j q) (hi:i*4+4≤cs.length) (hj:j≠i):pe R h (IH.aI cs (i*4) [a,s,b,t]) j q:=by obtain⟨a',s',b',t',h1,h2⟩:=x;exact⟨a',s',b',t',by rw[SP (z:=4) rfl hi hj];exact h1,h2⟩
def KM : ∀{l:List Rat} {cs:List QQ},cs.length=l.length*4→(∀j q,l[j]?=some q→pe R h cs j q)→nN R h l cs
 | [],cs,hl,_=>fC.1 (by simpa using hl)
 | q :: l,cs,hl,H=>by
  obtain⟨a,s,b,t,h1,h2⟩:=H 0 q rfl;rw[iC,cp] at h1;refine⟨a,s,b,t,cs.drop 4,?_,h2,KM (by rw[oN,hl,gX];omega) fun j p hj=>?_⟩;·have:=List.take_append_drop 4 cs;rw[h1] at this;exact this.symm
  ·obtain⟨a',s',b',t',h3,h4⟩:=H (j+1) p hj
   refine⟨a',s',b',t',?_,h4⟩;rw[Df,←h3];congr 2;omega
variable {l:List Rat}
def Za5 (H:nN R h l cs) (hj:l[j]?=some q):pe R h cs j q:=H.at hj
def sm.lG (k:Kept R) (s:sm R h v l) (hi:l[i]?=some q) (hT:bX P t=some true) (hS:ba P t=some 4) :∃a s b u,(∀h',aX h h'→load P h' t (a9 v (i*4))=some (.agg #[a,s,b,u]))∧R h (.agg #[a,s,b,u]) q:=by obtain⟨cs,hs,hc,hl⟩:=s;have hil:=(bZ.1 hi).1;have hcl:=hc.len;obtain⟨a,s,b,u,e1,r⟩:=hc.at hi;exact⟨a,s,b,u,fun h' e=>by rw[hs.Ev e byOmega byOmega hT hS,e1],r⟩
open Go.Proofs.Tryz (prog)
def yf (a:Nat):Nat:=if a<H8 then a+H8 else a - H8
variable {a:Nat}
def Qv (ha:a<W8):yf a<W8:=by have:=jE;unfold yf;split<;>omega
def Ll (ha:a<W8):((yf a:Nat):Int)=wdI a+H8:=by have:=jE;unfold yf wdI;split<;>omega
def Lj (ha:a<W8) : ∃w:Nat,(∀ox oy,binop prog .xor 28 ox oy (K64 (wrd a 7)) (.int .u64 9223372036854775808)=some (K64 w))∧IH.aI (wdC a) 7 [K64 w]=wdC (yf a):=by
 by_cases c:a<H8
 ·refine⟨wrd a 7+9223372036854775808,fun ox oy=>?_,?_⟩
  ·rw[←Qf (IK c)];exact xI _ _ ox oy _ 9223372036854775808 (AG a 7) aP
  ·rw[yf,ah c];exact Qm c
 ·have h2:=jE;obtain⟨b,hb⟩:=bm (a - H8);have hb8:b<H8:=byOmega;have ea:b+H8=a:=byOmega;have key:=Qm hb8;rw[ea] at key;have lt:=IK hb8;have e7:wrd a 7=wrd b 7+9223372036854775808:=by have g:=fZ a 7 byOmega;rw[←key,jz (by rw[aH];omega),IC (by rw[aH];omega)] at g;injection g with g;injection g with _ g;omega
  refine⟨wrd b 7,fun ox oy=>?_,?_⟩
  ·have ex:(wrd b 7+9223372036854775808) ^^^ 9223372036854775808=wrd b 7:=by rw[←Qf lt,Nat.xor_assoc,Nat.xor_self,Nat.xor_zero]
   have:=xI prog 28 ox oy (wrd b 7+9223372036854775808) 9223372036854775808 byOmega aP;rw[ex] at this;rw[e7];exact this
  ·rw[←key,jz (n:=7) (cs:=wdC b) (by rw[aH];omega),jz (by rw[dV,aH];omega),List.set_set,yf,ad c,←hb];apply jT;intro j;by_cases hj:7=j
   ·subst hj;rw[IC (by rw[aH];omega),fZ b 7 byOmega]
   ·rw[List.getElem?_set_ne hj]
variable {h:IH}
def Vb (a b:Nat) (ha:a<W8) (hb:b<W8):WV prog (.func (.func 129) #[] #[]) [wdV a,wdV b] h fun r h'=>Ext h h'∧r=KI (if wdI a<wdI b then -1 else if wdI a=wdI b then 0 else 1):=by
 have j7:uK 7 8=some 7:=rfl;have ga:=fZ a 7 byOmega;have gb:=fZ b 7 byOmega;obtain⟨wa,xa,sa⟩:=Lj ha;obtain⟨wb,xb,sb⟩:=Lj hb;obtain⟨H0,hH0,n0,E0,k0,k1⟩:=gN h (wdC a) (wdC b);refine enter (nt:=16) (rs:=[.tmp 4]) Proofs.Tryz.func129 rfl rfl rfl aa ?_;simp -dsimp (disch:=omega) only[wpS,zE,zA,yJ,eG];rw[←hH0];clear hH0;simp -dsimp (disch:=omega) only[wpS,wpT,zE,zL,zA,yJ,xg,AL,iO,aw k0,aw k1,k0,k1,yJ,j7,ga,gb,xa,xb,aH,sa,sb,Dv];refine call (zf (yf a) (yf b) (Qv ha) (Qv hb)) ?_;rintro _ h1 ⟨X1,rfl⟩;have ta:=Ll ha;have tb:=Ll hb;have e:(if yf a<yf b then (-1:Int) else if yf a=yf b then 0 else 1)=if wdI a<wdI b then -1 else if wdI a=wdI b then 0 else 1:=by
  by_cases c1:wdI a<wdI b;·rw[ah c1,ah byOmega]
  ·rw[ad c1,ad byOmega];by_cases c2:wdI a=wdI b
   ·rw[ah c2,ah byOmega]
   ·rw[ad c2,ad byOmega]
 rw[e];have EE:Ext h ((H0.put h.n (.cells (wdC (yf a)) 0 none)).put (h.n+1) (.cells (wdC (yf b)) 0 none)):=(E0.put (ar _) _).put byOmega _;simp -dsimp (disch:=omega) only[wpS,wpT,zE];exact EE.trans X1
variable {n:Nat}
def Ru {H:IH} {k:Nat} (g:H.ext.get k=some (.cells (wdC n) 0 none)):load prog H 30 (ptr (2*k) 0)=some (wdV n):=by have r:=aw g;simp -dsimp (disch:=omega) only[wpS,zL,iO,r,aH,Dv];rfl
def WR {least:Int} {b:Nat} (hn:n<W8) (hl:gV least) (hb:b<h.n) (g:h.ext.get b=some (.cells [KI least] 0 none)) :WV prog (.func (.func 246) #[] #[ptr (2*b) 0]) [wdV n] h fun r h'=>Ext h h'∧r=.bool (decide (wdI n<least)):=by
 obtain⟨H0,hH0⟩:=bm (h.new (.cells (wdC n) 0 none));have E0:Ext h H0:=by rw[hH0];exact(Ext.refl h).new _
 have n0:H0.n=h.n+1:=by rw[hH0];rfl
 have k0:H0.ext.get h.n=some (.cells (wdC n) 0 none):=by rw[hH0];simp (disch:=omega) only[aq]
 have k1:=E0.kept hb g;refine enter (nt:=9) (rs:=[.tmp 3]) Proofs.Tryz.func246 rfl rfl rfl aa ?_;simp -dsimp (disch:=omega) only[wpS,zE,zA,eG];rw[←hH0];clear hH0;have X0:=Ext.refl H0;have L1:=Ru k0;have L2:=Zdg k1;refine drawn [(0,[3])] ab ab rfl ?_;simp -dsimp (disch:=omega) only[wpS,zE,ld3,L1,aw k1];refine call (sB least hl) ?_;rintro _ h1 ⟨X1,rfl⟩;have m1:=X1.n;simp -dsimp (disch:=omega) only[wpS,zE];refine call (Vb n (bJ least) hn (gZ (mW hl))) ?_;rintro _ h2 ⟨X2,rfl⟩;have X12:=X1.trans X2;rw[dQ (mW hl)];by_cases c:wdI n<least
 ·rw[ah c,bf c];simp -dsimp (disch:=omega) only[wpS,wpT,zE];refine⟨by repeat' first|refine aB ?_ ?_|refine aA ?_ ?_|exact ai rfl rfl rfl rfl (aO (H0:=H0) rfl byOmega aG aG cS),?_⟩;simp -dsimp (disch:=omega) only[wpS,wpT,zE,zA];exact E0.trans X12
 ·rw[ad c,aY c];obtain⟨z,hz,hz0⟩ : ∃z:Int,(if wdI n=least then (0:Int) else 1)=z∧0≤z:=⟨_,rfl,by split<;>omega⟩;rw[hz];simp -dsimp (disch:=omega) only[wpS,wpT,zE];refine⟨by repeat' first|refine aB ?_ ?_|refine aA ?_ ?_|exact ai rfl rfl rfl rfl (aO (H0:=H0) rfl byOmega aG aG cS),?_⟩;simp -dsimp (disch:=omega) only[wpS,wpT,zE,zA];exact E0.trans X12
open Classical in
def vh {h:IH} {v F:QQ} {l:List Nat} (hv:mS h v l) (B:Nat→Prop) (hF : ∀h1 p,Ext h h1→p∈l→WV prog F [wdV p] h1 fun r h2=>Ext h1 h2∧r=.bool (decide (B p))) :WV prog (.func (.func 95) #[] #[]) [v,F] h fun r h'=>Ext h h'∧r=.bool (decide (∃p∈l,B p)):=by
 have hlb:=hv.2.1;have ZdF:WV prog (.func (.func 191) #[] #[]) [v,F] h fun r h'=>Ext h h' ∧ ∃c:Int,r=KI c∧(0≤c ↔ ∃p∈l,B p):=by
  refine enter (nt:=19) (rs:=[.tmp 4]) Proofs.Tryz.func191 rfl rfl rfl aa ?_;simp -dsimp (disch:=omega) only[wpS,zE,zA,hv.1.len AM];refine loop (fun m fr h1 => ∃i:Nat,i+m=l.length∧Ext h h1∧(∀(j:Nat) p,j<i→l[j]?=some p → ¬B p)∧aj fr 0=some v∧aj fr 1=some F∧aj fr 7=some (KN l.length)∧aj fr 8=some (KN i)) l.length ⟨0,byOmega,Ext.refl _,fun j p hj=>byOmega,aa⟩ ?_;rintro m fr h1 ⟨i,him,hE,hno,f0,f1,f7,f8⟩;simp -dsimp (disch:=omega) only[wpS,f7,f8];refine az ?_ ?_<;>intro hc<;>simp only[aJ,aV] at hc
  ·have hi:i<l.length:=byOmega;obtain⟨p,hp⟩:=fJ (l:=l) (i:=i) hi;have hpm:=bN hp;simp -dsimp (disch:=omega) only[wpS,wpT,zE,f0,f1,f8,hv.1.idx Kk hi,hv.ld hE.ae hp];refine call (hF h1 p hE hpm) ?_;rintro _ h2 ⟨hE2,rfl⟩;have E2:=hE.trans hE2;by_cases hk:B p
   ·rw[bf hk];simp -dsimp (disch:=omega) only[wpS,zE];exact⟨E2,(i:Int),rfl,fun _=>⟨p,hpm,hk⟩,fun _=>byOmega⟩
   ·rw[aY hk];simp -dsimp (disch:=omega) only[wpS,zE,f8];refine⟨m - 1,byOmega,i+1,byOmega,E2,?_,by simp[f0,f1,f7]⟩;intro j q hj hq;by_cases hji:j=i
    ·subst hji;rw[hp] at hq;cases hq;exact hk
    ·exact hno j q byOmega hq
  ·simp -dsimp (disch:=omega) only[wpS,wpT];refine⟨hE,-1,rfl,fun h=>byOmega,fun⟨p,hp,hb⟩=>?_⟩;obtain⟨j,hj⟩:=lV hp;have:=(bZ.1 hj).1;exact absurd hb (hno j p byOmega hj)
 refine enter (nt:=9) (rs:=[.tmp 4]) Proofs.Tryz.func95 rfl rfl rfl aa ?_;simp -dsimp (disch:=omega) only[wpS,zE,zA];refine call ZdF ?_;rintro _ h1 ⟨hE,c,rfl,hc⟩;simp -dsimp (disch:=omega) only[wpS,zE];exact⟨hE,by rw[xN.2 hc]⟩
open Classical in
def JS {h:IH} {v:QQ} {l:List Nat} {least:Int} (hv:mS h v l) (hl:gV least) :WV prog (.func (.func 196) #[] #[]) [v,KI least] h fun r h'=>Ext h h'∧r=.bool (decide (∃p∈l,wdI p<least)):=by have E1:Ext h (h.new (.cells [KI least] 0 none)):=(Ext.refl h).new _;refine enter (nt:=8) (rs:=[.tmp 4]) Proofs.Tryz.func196 rfl rfl rfl aa ?_;simp -dsimp (disch:=omega) only[wpS,zE,zA];refine call (vh (hv.ae E1.ae) (fun p=>wdI p<least) (fun h1 p hE hp=>(WR (b:=h.n) (hv.2.2 p hp) hl (by have:=hE.n;simp only[bj] at this;omega) (hE.kept aa (aq _ _ rfl))).mono fun r h2 ⟨a,b⟩=>⟨a,by rw[b];congr⟩)) ?_;rintro _ h1 ⟨X1,rfl⟩;simp -dsimp (disch:=omega) only[wpS,zE];exact⟨E1.trans X1,by congr⟩
def dh (n:Nat):Rat:=((wdI n:Int):Rat)
def WQ {h:IH} {v:QQ} {l:List Nat} (hv:mS h v l) (hl:l.length≤1000):WV prog (.func (.func 197) #[] #[]) [v] h fun r h'=>Ext h h'∧sm ch h' r (l.map dh):=by
 refine enter (nt:=20) (rs:=[.tmp 2]) Proofs.Tryz.func197 rfl rfl rfl aa ?_;simp -dsimp (disch:=omega) only[wpS,zE,hv.1.len AM];refine loop (fun m fr h1 => ∃(i:Nat) (out:QQ) (cs:List QQ),i+m=l.length∧Ext h h1∧Acc h1 h.n 4 out ((l.take i).map dh).length cs∧nN ch h1 ((l.take i).map dh) cs∧aj fr 3=some out∧aj fr 6=some v∧aj fr 7=some (KN l.length)∧aj fr 8=some (KN i)) l.length ⟨0,.slice none 0 0,[],byOmega,Ext.refl _,Acc.nil h _ byOmega,by simp[nN]⟩ ?_;rintro m fr h1 ⟨i,out,cs,him,hE,hA,hC,f3,f6,f7,f8⟩;simp -dsimp (disch:=omega) only[wpS,f7,f8];refine az ?_ ?_<;>intro hc<;>simp only[aJ,aV] at hc
 ·have hi:i<l.length:=byOmega;obtain⟨p,hp⟩:=fJ (l:=l) (i:=i) hi;have wp:=hv.2.2 p (bN hp);simp -dsimp (disch:=omega) only[wpS,wpT,zE,zL,zA,iO,rR,oV,f3,f6,f8,hv.1.idx Kk hi,hv.ld hE.ae hp,eG,aH,dH,iF,Dv];have E1:Ext h1 ((h1.new (.cells [ZW,ZW,ZW,ZW,ZW,ZW,ZW,ZW] 0 none)).put h1.n (.cells (wdC p) 0 none)):=((Ext.refl h1).new _).put (ar _) _;refine call (mn p wp) ?_;rintro r1 h2 ⟨X2,p2⟩;simp -dsimp (disch:=omega) only[wpS,zE];refine call (yQ p2) ?_;rintro r h3 ⟨X3,p3⟩;obtain⟨a3,s3,b3,t3,rfl,_,_,_,o1,_,o2,o3,o4⟩:=p3.parts;have X13:=(E1.trans X2).trans X3;have n1:=hE.n;have n2:=X13.n;obtain⟨fF,h5,hap,hA5,hC5,hG5,hE5⟩:=VT Zce byOmega kF (hA.ext X13) (hC.ae kF X13.ae) p3 (by simp[o1,o2,o3,o4]) bq byOmega (hE.trans X13) (ar _);have eT:(l.take i).map dh ++ [((wdI p:Int):Rat)]=(l.take (i+1)).map dh:=by rw[fE hp,kX];rfl
  rw[eT] at hA5 hC5;simp -dsimp (disch:=omega) only[wpS,wpT,zE,zL,zA,Yk,Ij,f8,hap];exact⟨m - 1,byOmega,i+1,fF,_,byOmega,hE5,hA5,hC5,by simp[f6,f7]⟩
 ·obtain rfl:i=l.length:=byOmega;rw[tH] at hA hC;simp -dsimp (disch:=omega) only[wpS,wpT,zE,f3];exact⟨hE,cs,hA.sl,hC,bq⟩
def ch.rA {h h':IH} {v:Value} {q:Rat} (p:ch h v q) (e:uM 1 h h'):ch h' v q:=by obtain⟨a,s,b,t,h1,⟨s1,e1,ds,d1,d2⟩,⟨s2,e2,es,d3,d4⟩⟩:=p;exact⟨a,s,b,t,h1,⟨s1,e1,ds,⟨d1.1.rA e,d1.2⟩,d2⟩,⟨s2,e2,es,⟨d3.1.rA e,d3.2⟩,d4⟩⟩
theorem L0 (z:List Value) : ∀n,(cj n z).length=n*z.length
 | 0=>by rw[GP];simp
 | n+1=>by rw[AP,du,L0 z n,cW];omega
def kAt (ll:List (List (Nat×Nat))) (i j:Nat):Rat:=rOf ((ll.getD i []).getD j (0,0))
def goQ (ll:List (List (Nat×Nat))) (t:List Nat) (i j:Nat):Rat:=if kAt ll j i*dh (t.getD j 0) / dh (t.getD i 0)<kAt ll i j then kAt ll j i*dh (t.getD j 0) / dh (t.getD i 0) else kAt ll i j
def rY (g:Nat→Rat) (i:Nat):Nat→Rat
 | 0=>1
 | j+1=>if j=i then rY g i j else rY g i j - g j
def rE (ll:List (List (Nat×Nat))) (t:List Nat) (i j:Nat):Rat:=if j=i then rY (goQ ll t i) i ll.length else goQ ll t i j
def gL (ll:List (List (Nat×Nat))) (t:List Nat) (i:Nat):List Rat:=(List.range ll.length).map (rE ll t i)
def yD (ll:List (List (Nat×Nat))) (t:List Nat):Prop:=∀i,i<ll.length → ∀q∈gL ll t i,QW q
def lh (ll:List (List (Nat×Nat))) (t:List Nat):List (List (Nat×Nat)):=(List.range ll.length).map fun i=>(gL ll t i).map shq
open Classical in
noncomputable def rF (ll:List (List (Nat×Nat))) (t:List Nat):Int:=if ¬fy ll then 330 else if t.length≠ll.length∨(∃p∈t,wdI p<1) then 2 else if yD ll t then 0 else 6
theorem iQ (ll:List (List (Nat×Nat))) (t:List Nat) (i:Nat):(gL ll t i).length=ll.length:=by simp[gL]
variable {j:Nat}{ll:List (List (Nat×Nat))}{i:Nat}{t:List Nat}
theorem nI (hj:j<ll.length):(gL ll t i)[j]?=some (rE ll t i j):=by rw[gL,cm,kY hj];rfl
theorem HD (hi:i<ll.length):(lh ll t)[i]?=some ((gL ll t i).map shq):=by rw[lh,cm,kY hi];rfl
theorem me (ll:List (List (Nat×Nat))) (t:List Nat):(lh ll t).length=ll.length:=by simp[lh]
variable {p:Nat}
def mA (hp:p<W8):QB 512 (dh p):=by refine QB.int ?_;have hw:W8=2 ^ 512:=mQ;rw[←hw];unfold wdI;have:=jE;split<;>omega
def IM (h:1≤wdI p):dh p≠0:=fun e=>by have:wdI p=0:=Rat.intCast_inj.1 e;omega
def ZdL (h1:QB 512 (kAt ll i j)) (h2:QB 512 (kAt ll j i)) (h3:t.getD j 0<W8) (h4:t.getD i 0<W8) (h5:1≤wdI (t.getD i 0)):QB 1536 (goQ ll t i j):=by
 have q1:=h2.mul (mA h3);have q2:=q1.div (mA h4) (IM h5);have q3:=q2.mono (b:=1536) byOmega;unfold goQ;split;·exact q3
 ·exact h1.mono byOmega
def fV (k:fy ll) (hi:i<ll.length) (hj:j<ll.length) : ∃row p,ll[i]?=some row∧row.length=ll.length∧row[j]?=some p∧okS p.1 p.2∧0≤wdI p.1∧kAt ll i j=rOf p:=by obtain⟨h1,h2⟩:=k.2.2 _ (iE hi);have hj':j<(ll[i]).length:=byOmega;refine⟨_,_,bK hi,h1,bK hj',(JJ (h2.1 _ (iE hj'))).1,(JJ (h2.1 _ (iE hj'))).2,?_⟩;unfold kAt;simp only[bC,bK hi,mZ,bK hj']
end Go.Id
namespace Go.Id

open Go
open Go renaming Operand→QY,Program→QX,TypeId→QZ,Value→QQ
open Nat renaming reduceAdd→zA,reduceEqDiff→zE,reduceLeDiff→zL
open Nat (reduceMul)
set_option maxHeartbeats 16000000
open Go.Proofs.Tryz (prog)

theorem Zeq:H8=2 ^ 511:=by unfold H8;decide +kernel


def YV {n:Nat} (hn:n<H8):wdI n=(n:Int):=by unfold wdI;rw[ah hn]
def xL.rat {h:IH} {v:Value} {n d:Nat} (p:xL h v (wdI n) (wdI d)) (ok:okS n d):fX h v (rOf (n,d)):=by obtain⟨e1,e2⟩:=fi (p:=(n,d)) ok;unfold fX;rw[e1,e2];exact p
def Ew {h:IH}:WV prog (.func (.func 163) #[] #[]) [] h fun r h'=>Ext h h'∧fX h' r 0:=by
 have E1:Ext h (h.new (.cells ZR 0 none)):=(Ext.refl h).new _;have g1:(h.new (.cells ZR 0 none)).ext.get h.n=some (.cells ZR 0 none):=by simp (disch:=omega) only[aq]
 refine enter (nt:=2) (rs:=[.cell 0 177]) Proofs.Tryz.func163 rfl rfl rfl aa ?_;simp -dsimp (disch:=omega) only[wpS,jF];refine call (lC 0 1 ⟨byOmega,byOmega⟩ ⟨byOmega,byOmega⟩ byOmega) ?_;rintro r h1 ⟨X1,p1⟩;rw[Rat.zero_divInt] at p1;obtain⟨a3,s3,b3,t3,rfl,_,_,d1,o1,d2,o2,o3,o4⟩:=p1.parts;have k1:=X1.kept aa g1;have m1:=X1.n;simp only[bj] at m1;simp -dsimp (disch:=omega) only[wpS,wpT,zE,zL,zA,fS,fU,k1,o1,o2,o3,o4,fm];exact⟨(E1.trans X1).put byOmega _,p1.ae ((aX.refl _).put k1 _)⟩
open Classical in
def TR {h:IH} {v:QQ} {l:List (Nat×Nat)} (hv:iS h v l) :WV prog (.func (.func 133) #[] #[]) [v] h fun r h'=>Ext h h'∧r=.bool (decide (∀p∈l,okS p.1 p.2)):=by
 have hlb:=hv.2.1;refine enter (nt:=16) (rs:=[.tmp 2]) Proofs.Tryz.func133 rfl rfl rfl aa ?_;simp -dsimp (disch:=omega) only[wpS];refine loop (fun m fr h1 => ∃i:Nat,i+m=l.length∧Ext h h1∧(∀(j:Nat) p,j<i→l[j]?=some p→okS p.1 p.2)∧aj fr 0=some v∧aj fr 3=some (KN i)) l.length ⟨0,byOmega,Ext.refl _,fun j p hj=>byOmega,aa⟩ ?_;rintro m fr h1 ⟨i,him,hE,hok,f0,f3⟩;simp -dsimp (disch:=omega) only[wpS,zE,f0,f3,hv.1.len tX];refine az ?_ ?_<;>intro hc<;>simp only[aJ,aV] at hc
 ·have hi:i<l.length:=byOmega;obtain⟨p,hp⟩:=fJ (l:=l) (i:=i) hi;have hpm:=bN hp;obtain⟨w1,w2⟩:=hv.2.2 p hpm;simp -dsimp (disch:=omega) only[wpS,wpT,zE,f0,f3,hv.1.idx qU hi,hv.ld hE.ae hp];refine call (vD p.1 p.2 w1 w2) ?_;rintro _ h3 ⟨hE2,rfl⟩;have E2:=hE.trans hE2;by_cases hk:okS p.1 p.2
  ·rw[bf hk];simp -dsimp (disch:=omega) only[wpS,wpT,zE,f3];refine⟨m - 1,byOmega,i+1,byOmega,E2,?_,by simp[f0]⟩;intro j q hj hq;by_cases hji:j=i
   ·subst hji;rw[hp] at hq;cases hq;exact hk
   ·exact hok j q byOmega hq
  ·rw[aY hk,aY (show ¬∀p∈l,okS p.1 p.2 from fun iv=>hk (iv p hpm))];simp -dsimp (disch:=omega) only[wpS,wpT,zE];exact E2
 ·rw[bf (show ∀p∈l,okS p.1 p.2 from fun p hp=>by
   obtain⟨j,hj⟩:=lV hp;exact hok j p (by have:=(bZ.1 hj).1;omega) hj)]
  simp -dsimp (disch:=omega) only[wpS,wpT];exact hE
open Classical in
def TV {h:IH} {v:QQ} {l:List (Nat×Nat)} (hv:iS h v l) (ho : ∀p∈l,okS p.1 p.2) (hl:l.length≤1000) :WV prog (.func (.func 134) #[] #[]) [v] h fun r h'=>Ext h h'∧r=.bool (decide (qf l)):=by
 have hq0 : ∀q∈l.map rOf,QB 512 q:=by intro q hq;obtain⟨p,hp,rfl⟩:=ju.1 hq;exact jY (hv.2.2 p hp).1 (hv.2.2 p hp).2 (ho p hp)
 have hQ : ∀i,i≤l.length→QB (i*(512+1)) (jJ ((l.take i).map rOf)):=by intro i hi;have:=QB.jJ (k:=512) hq0 i (by simpa using hi);rwa [←tJ] at this
 refine enter (nt:=28) (rs:=[.tmp 2]) Proofs.Tryz.func134 rfl rfl rfl aa ?_;simp -dsimp (disch:=omega) only[wpS];refine call Ew ?_;rintro z h1 ⟨X1,p1⟩;have m1:=X1.n;obtain⟨a3,s3,b3,t3,rfl,_,_,d1,o1,d2,o2,o3,o4⟩:=p1.parts;simp -dsimp (disch:=omega) only[wpS,wpT,zE,zL,zA,jF,fS,o1,o2,o3,o4];have Ex2:Ext h1 ((h1.new (.cells ZR 0 none)).put h1.n (.cells [a3,s3,b3,t3] 0 none)):=((Ext.refl h1).new _).put (ar _) _;refine loop (fun m fr hh => ∃(i:Nat) (a s b t:QQ),i+m=l.length∧Ext h hh∧h1.n<hh.n∧hh.ext.get h1.n=some (.cells [a,s,b,t] 0 none)∧fX hh (.agg #[a,s,b,t]) (jJ ((l.take i).map rOf))∧(∀(j:Nat) p,j<i→l[j]?=some p → ¬Cm p) ∧aj fr 0=some v∧aj fr 3=some (ptr (2*h1.n) 0)∧aj fr 4=some (KN i)) l.length ⟨0,a3,s3,b3,t3,byOmega,X1.trans Ex2,aa,by simp (disch:=omega) only[ak],p1.ae Ex2.ae,fun j p hj=>byOmega,aa⟩ ?_;clear p1 Ex2;rintro m fr hh ⟨i,a,s,b,t,him,hE,hn,hg5,hp,hno,f0,f3,f4⟩;simp -dsimp (disch:=omega) only[wpS,zE,f0,f4,hv.1.len tX];refine az ?_ ?_<;>intro hc<;>simp only[aJ,aV] at hc
 ·have hi:i<l.length:=byOmega;obtain⟨q,hq⟩:=fJ (l:=l) (i:=i) hi;have hqm:=bN hq;obtain⟨w1,w2⟩:=hv.2.2 q hqm;have hoq:=ho q hqm;simp -dsimp (disch:=omega) only[wpS,wpT,zE,f0,f4,hv.1.idx qU hi,hv.ld hE.ae hq];refine call (lz q.1 q.2 w1 w2) ?_;rintro _ h2 ⟨X2,pp⟩;have m2:=X2.n;have p2:=pp.rat hoq;obtain⟨a2,s2,b2,t2,rfl,l1,_,d1,o1,d2,o2,o3,o4⟩:=p2.parts;have ea2:=l1.co.1;rw[show(rOf (q.1,q.2)).num=wdI q.1 from(fi hoq).1] at ea2;have gs:=X2.kept hn hg5;obtain⟨H3,hH3⟩:=bm ((h2.new (.cells ZR 0 none)).put h2.n (.cells [a2,s2,b2,t2] 0 none));have e3:Ext h2 H3:=by rw[hH3];exact((Ext.refl h2).new _).put (ar _) _
  have n3:H3.n=h2.n+1:=by rw[hH3];rfl
  have g3:H3.ext.get h2.n=some (.cells [a2,s2,b2,t2] 0 none):=by rw[hH3];simp (disch:=omega) only[ak]
  have gs3:=e3.kept byOmega gs;have hX:=hE.trans (X2.trans e3);by_cases cn:wdI q.1<0
  ·have hr : ¬qf l:=fun hr=>hr.1 q hqm (.inr cn);rw[bf cn] at ea2;subst ea2;rw[aY hr];have row3 : ∀X,((h2.new (.cells ZR 0 none)).put h2.n (.cells [.bool true,s2,b2,t2] 0 none)).row X=H3.row X:=fun X=>by rw[hH3]
   simp -dsimp (disch:=omega) only[wpS,wpT,zE,zL,zA,jF,fS,j0,fM,ld4,o1,o2,o3,o4];rw[←hH3];exact hX
  ·rw[aY cn] at ea2
   subst ea2;simp -dsimp (disch:=omega) only[wpS,wpT,zE,zL,zA,jF,fS,j0,fM,ld4,o1,o2,o3,o4];rw[←hH3];clear hH3;simp -dsimp (disch:=omega) only[wpS,wpT,zE,zL,zA,fU,f3,aw gs3,aw g3,fm];have hkb:i*(512+1)+512+1<16000000:=byOmega;refine call (sL (hp.ae (X2.trans e3).ae) (p2.ae e3.ae) (hQ i byOmega) (jY w1 w2 hoq) hkb) ?_;rintro r3 h5 ⟨X5,p5⟩;have m5:=X5.n;have eT:jJ ((l.take i).map rOf)+rOf (q.1,q.2)=jJ ((l.take (i+1)).map rOf):=by rw[fE hq,kX,kW,tK,ny]
   rw[eT] at p5;obtain⟨a4,s4,b4,t4,rfl,_,_,_,o1,_,o2,o3,o4⟩:=p5.parts;have k5:=X5.kept byOmega gs3;simp -dsimp (disch:=omega) only[wpS,wpT,zE,zL,zA,fS,f3,f4,k5,o1,o2,o3,o4];refine⟨m - 1,byOmega,i+1,a4,s4,b4,t4,byOmega,(hX.trans X5).put byOmega _,by simp only[bd];omega,ak _ _ rfl,p5.ae ((aX.refl _).put k5 _),?_,by simp[f0,f3]⟩;intro j x hj hx;by_cases hji:j=i;·subst hji;rw[hq] at hx;cases hx;exact fun h=>h.elim (fun h=>h hoq) cn
   ·exact hno j x byOmega hx
 ·obtain rfl:i=l.length:=byOmega;have hQl:=hQ l.length (ar _);rw[tH] at hp hQl;have hno' : ∀p∈l,¬Cm p:=fun p hp=>by obtain⟨j,hj⟩:=lV hp;exact hno j p (by have:=(bZ.1 hj).1;omega) hj
  obtain⟨_,_,L1⟩:=ql4 hg5;have X0:=Ext.refl hh;simp -dsimp (disch:=omega) only[wpS,wpT];refine drawn [(0,[2])] ab ab rfl ?_;simp -dsimp (disch:=omega) only[wpS,wpT,zE,zL,zA,fU,f3,aw hg5,fm];refine call (lC 1 1 ⟨byOmega,byOmega⟩ ⟨byOmega,byOmega⟩ byOmega) ?_;rintro r6 h6 ⟨X6,p6⟩;rw[show Rat.divInt 1 1=(1:Rat) from rfl] at p6;simp -dsimp (disch:=omega) only[wpS,zE];refine call (nz (hp.ae X6.ae) p6 hQl (QB.int (k:=64) (n:=1) aP) byOmega) ?_;rintro _ h7 ⟨X7,rfl⟩;have XX:=(hE.trans X6).trans X7;by_cases c1:jJ (l.map rOf)=1;·rw[bf (show qf l from⟨hno',c1⟩),c1,ad (by exact Rat.lt_irrefl),ah rfl];simp -dsimp (disch:=omega) only[wpS,wpT,zE];refine⟨ai rfl rfl rfl rfl (aO (H0:=hh) f3 byOmega X0 X6 L1),?_⟩;simp -dsimp (disch:=omega) only[wpS,wpT,zE,zA];exact XX
  ·rw[aY (show ¬qf l from fun h=>c1 h.2)];obtain⟨z,hz,hz0⟩ : ∃z:Int,(if jJ (l.map rOf)<1 then (-1:Int) else if jJ (l.map rOf)=1 then 0 else 1)=z∧z≠0:=⟨_,rfl,by split<;>simp[]⟩;rw[hz];have d:(z == 0)=false:=by simpa using hz0
   simp -dsimp (disch:=omega) only[wpS,zE,d];refine⟨ai rfl rfl rfl rfl (aO (H0:=hh) f3 byOmega X0 X6 L1),?_⟩;simp -dsimp (disch:=omega) only[wpS,wpT,zE,zA];exact XX
open Classical in
def Ho {h:IH} {v:QQ} {ll:List (List (Nat×Nat))} (hv:je h v ll) :WV prog (.func (.func 52) #[] #[]) [v] h fun r h'=>Ext h h'∧r=.bool (decide (fy ll)):=by
 obtain⟨_,_,hlen⟩:=hv.co;have hlb:=hv.choose_spec.2.1;refine enter (nt:=42) (rs:=[.tmp 2]) Proofs.Tryz.func52 rfl rfl rfl aa ?_;by_cases a1:ll.length<1;·rw[aY (show ¬fy ll from fun hk=>by have:=hk.1;omega)];simp -dsimp (disch:=omega) only[wpS,wpT,zE,hlen];exact Ext.refl _
 by_cases a2:60<ll.length
 ·rw[aY (show ¬fy ll from fun hk=>by have:=hk.2.1;omega)];simp -dsimp (disch:=omega) only[wpS,wpT,zE,hlen];exact Ext.refl _
 simp -dsimp (disch:=omega) only[wpS,wpT,zE,hlen];refine loop (fun m fr h1 => ∃i:Nat,i+m=ll.length∧Ext h h1∧(∀(j:Nat) x,j<i→ll[j]?=some x→x.length=ll.length∧qf x)∧aj fr 0=some v∧aj fr 3=some (KN i)) ll.length
  ⟨0,byOmega,Ext.refl _,fun j p hj=>byOmega,aa⟩ ?_
 rintro m fr h1 ⟨i,him,hE,hok,f0,f3⟩;simp -dsimp (disch:=omega) only[wpS,zE,f0,f3,hlen];refine az ?_ ?_<;>intro hc<;>simp only[aJ,aV] at hc
 ·have hi:i<ll.length:=byOmega
  obtain⟨x,hx⟩:=fJ (l:=ll) (i:=i) hi
  have hxm:=bN hx
  obtain⟨w,l1,l2,l3⟩:=hv.at hE.ae hx
  have lx:=l2.2.1;by_cases cl:x.length=ll.length
  case neg =>
   rw[aY (show ¬fy ll from fun hk=>cl (hk.2.2 x hxm).1)];have d:(((x.length:Nat):Int) != ((ll.length:Nat):Int))=true:=by simpa using fun h=>cl byOmega
   simp -dsimp (disch:=omega) only[wpS,wpT,zE,f0,f3,l1,l3,l2.1.len tX,hlen,d]
   exact hE
  have d:(((x.length:Nat):Int) != ((ll.length:Nat):Int))=false:=by simp[cl]
  simp -dsimp (disch:=omega) only[wpS,wpT,zE,f0,f3,l1,l3,l2.1.len tX,hlen,d]
  refine call (TR l2) ?_
  rintro _ h2 ⟨X2,rfl⟩;have E2:=hE.trans X2;by_cases ca : ∀p∈x,okS p.1 p.2
  case neg =>
   rw[aY ca,aY (show ¬fy ll from fun hk=>ca fun p hp=>(JJ ((hk.2.2 x hxm).2.1 p hp)).1)];simp -dsimp (disch:=omega) only[wpS,wpT,zE];exact E2
  rw[bf ca];obtain⟨w',l1',l2',l3'⟩:=hv.at E2.ae hx;simp -dsimp (disch:=omega) only[wpS,wpT,zE,f0,f3,l1',l3'];refine call (TV l2' ca byOmega) ?_;rintro _ h4 ⟨X4,rfl⟩;have E4:=E2.trans X4;by_cases cr:qf x
  ·rw[bf cr];simp -dsimp (disch:=omega) only[wpS,wpT,zE,f3];refine⟨m - 1,byOmega,i+1,byOmega,E4,?_,by simp[f0]⟩;intro j q hj hq;by_cases hji:j=i
   ·subst hji;rw[hx] at hq;cases hq;exact⟨cl,cr⟩
   ·exact hok j q byOmega hq
  ·rw[aY cr,aY (show ¬fy ll from fun hk=>cr (hk.2.2 x hxm).2)]
   simp -dsimp (disch:=omega) only[wpS,wpT,zE]
   exact E4
 ·rw[bf (show fy ll from⟨byOmega,byOmega,fun x hx=>by
   obtain⟨j,hj⟩:=lV hx;exact hok j x (by have:=(bZ.1 hj).1;omega) hj⟩)]
  simp -dsimp (disch:=omega) only[wpS,wpT];exact hE
def Acc.Zw {h:IH} {n0 sz:Nat} {v:QQ} {n:Nat} {cs:List QQ} (a:Acc h n0 sz v n cs) {P:Program} {t:TypeId} (hT:ba P t=some sz) {i:Nat} (hi:i<n) {x:QQ} {xs:List QQ} (hx:x.cells.toList=xs) (hxl:xs.length=sz) (hc:xs.all aM=true) {h0':IH} (e0:Ext h0' h) (hn0:h0'.n≤n0) :∃h',store P h t (a9 v (i*sz)) x=some h'∧Acc h' n0 sz v n (IH.aI cs (i*sz) xs)∧Ext h0' h'∧h'.n=h.n:=by
 obtain⟨hz,hl,⟨rfl,rfl⟩|⟨k,fam,rfl,hn,h1,h2,h3,h4⟩⟩:=a;·omega
 ·have hle:i*sz+sz≤cs.length:=by rw[hl,←uU];exact cT _ hi
  have hsl:(IH.aI cs (i*sz) xs).length=n*sz:=by simp only[IH.aI,du,iT,oN];omega
  have k2:2*k / 2=k:=byOmega;have k1:(2*k % 2 == 1)=false:=aa;have hsx:x.cells.size=sz:=by rw[←ku,hx,hxl]
  have hst:store P h t (a9 (.slice (some ⟨2*k,0,none⟩) n (2*n)) (i*sz)) x=h.wr (2*k) (i*sz) xs:=by simp only[a9,eu,store,asAddr,ptr,hT,hx,hsx,hc,tB,uY,bP]
  have hle:Nat.ble (i*sz+xs.length) cs.length=true:=by rw[bI,hxl];exact hle
  rw[hst]
  cases fam with
  | none =>
   refine⟨h.put k (.cells (IH.aI cs (i*sz) xs) sz none),?_,⟨hz,hsl,.inr ⟨k,none,rfl,hn,h1,h2,ak _ _ rfl,trivial⟩⟩,e0.put byOmega _,rfl⟩
   ·simp only[IH.wr,k1,k2,h3,hle,bP,dL];rfl
  | some f =>
   obtain⟨a1,a2,rest,a3,a4⟩:=h4;refine⟨{ h with ext:=(IH.fL h.ext (((k :: rest).filter (· != k)))).set k (.cells (IH.aI cs (i*sz) xs) sz none) },?_,⟨hz,hsl,.inr ⟨k,none,rfl,hn,h1,h2,?_,trivial⟩⟩,⟨e0.n,e0.base,fun j hj=>?_,e0.cZ⟩,rfl⟩;·simp only[IH.wr,k1,k2,h3,hle,bP,dL,a3]
   ·simp[Tr.cE]
   ·have hjk:j≠k:=byOmega
    rw[Tr.cE,ad hjk,mo,ad];·exact e0.get j hj
    ·intro hm;simp only[tI,dD,pM,ne_eq] at hm;rcases hm with⟨rfl|hm,hne⟩
     ·exact hne rfl
     ·have:=a4 j hm;omega
theorem Cq : ∀(l:List (Nat×Nat)) (i:Nat) (p:Nat×Nat),i<l.length→IH.aI (shL l) (i*16) (shC p.1 p.2)=shL (l.set i p)
 | [],i,p,h=>by simp at h
 | a :: l,0,p,_=>by show IH.aI (shC a.1 a.2 ++ shL l) (0*16) (shC p.1 p.2)=shC p.1 p.2 ++ shL l;simp only[IH.aI,iC,C8,mz,eu];rw[List.drop_append_of_le_length (by rw[aC,aC];omega),uX (by rw[aC,aC];omega),mz]
 | a :: l,i+1,p,h=>by
  have ih:=Cq l i p (by simpa using h);show IH.aI (shC a.1 a.2 ++ shL l) ((i+1)*16) (shC p.1 p.2)=shC a.1 a.2 ++ shL (l.set i p);rw[←ih];have e1:(i+1)*16=(shC a.1 a.2).length+i*16:=by rw[aC];omega
  simp only[IH.aI];rw[e1,List.take_length_add_append,jS,List.drop_length_add_append,List.append_assoc]
end Go.Id
