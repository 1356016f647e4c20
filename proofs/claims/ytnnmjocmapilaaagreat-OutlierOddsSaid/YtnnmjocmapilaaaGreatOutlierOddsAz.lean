/-
  Contracts: reference 38: Extreme.
-/
import Derived.Test.YtnnmjocmapilaaaGreatOutlierOddsAy
set_option linter.unusedVariables false
set_option linter.unusedSimpArgs false
set_option linter.defProp false
set_option linter.deprecated false
namespace Go.Id
open Go
open Go renaming Operand→QY,Program→QX,TypeId→QZ,Value→QQ
open Nat renaming reduceAdd→zA,reduceEqDiff→zE,reduceLeDiff→zL
open Nat (reduceMul)
set_option maxHeartbeats 16000000
open Go.Proofs.Tryz (prog)
theorem ZaC (l:List (Nat×Nat)) (k:Nat):tu l k=Rat.divInt (upTo l k l.length:Nat) (l.length:Nat):=by unfold tu;rw[zu];show Rat.divInt (((upTo l k l.length:Nat):Int)*((1:Nat):Int)) (((1:Nat):Int)*((l.length:Nat):Int))=_;rw[show((1:Nat):Int)=1 from rfl,Int.mul_one,Int.one_mul]
variable {h:IH}{v:Value}
def AT {p:Nat×Nat} (ok:okS p.1 p.2) (q:xL h v (wdI p.1) (wdI p.2)):fX h v (rOf p):=by show xL h v (rOf p).num ((rOf p).den:Int);rw[(fi ok).1,(fi ok).2];exact q
def EV {l:List (Nat×Nat)} {k:Nat} (hv:iS h v l) (hok:xK l) (hl:l.length≤200) (hk:k<l.length) :WV Proofs.Tryz.prog (.func (.func 235) #[] #[]) [v,KN k] h fun r h'=>Ext h h'∧fX h' r (tu l k):=by
 obtain⟨q,hq⟩:=fJ (l:=l) (i:=k) hk;have qm:=bN hq;obtain⟨w3,w4⟩:=hv.2.2 q qm;have okq:=hok q qm;have gq:l.getD k (0,0)=q:=by rw[bC,hq];rfl
 refine enter (nt:=31) (rs:=[.cell 4 177]) Proofs.Tryz.func235 rfl rfl rfl aa ?_;simp -dsimp (disch:=omega) only[wpS,zA,jF];have E1:Ext h (h.new (.cells ZR 0 none)):=(Ext.refl h).new _;refine loop (fun m fr hh => ∃i:Nat,i+m=l.length∧Ext h hh∧h.n<hh.n∧hh.ext.get h.n=some (.cells ZR 0 none)∧aj fr 0=some v∧aj fr 1=some (KN k)∧aj fr 4=some (ptr (2*h.n) 0)∧aj fr 5=some (KN (upTo l k i))∧aj fr 6=some (KN i)) l.length ⟨0,byOmega,E1,aa,by simp (disch:=omega) only[aq],by simp[upTo]⟩ ?_;rintro m fr hh ⟨i,him,hE,hn,hg,f0,f1,f4,f5,f6⟩;simp -dsimp (disch:=omega) only[wpS,zE,f0,f6,hv.1.len tX];refine az ?_ ?_<;>intro hc<;>simp only[aJ,aV] at hc
 ·have hi:i<l.length:=byOmega
  obtain⟨p,hp⟩:=fJ (l:=l) (i:=i) hi;have pm:=bN hp;obtain⟨w1,w2⟩:=hv.2.2 p pm;have okp:=hok p pm;have gp:l.getD i (0,0)=p:=by rw[bC,hp];rfl
  have K0:aX h hh:=hE.ae;simp -dsimp (disch:=omega) only[wpS,wpT];refine drawn [(8,[4])] ab ab rfl ?_;simp -dsimp (disch:=omega) only[wpS,zE,f0,f6,hv.1.idx qU hi,hv.ld K0 hp];refine call (lz p.1 p.2 w1 w2) ?_;rintro a1 h1 ⟨X1,p1⟩;have K1:aX h h1:=(hE.trans X1).ae;simp -dsimp (disch:=omega) only[wpS,zE,f0,f1,hv.1.idx qU hk,hv.ld K1 hq];refine call (lz q.1 q.2 w3 w4) ?_;rintro a2 h2 ⟨X2,p2⟩;simp -dsimp (disch:=omega) only[wpS,zE];refine call (nz ((AT okp p1).ae X2.ae) (AT okq p2) (jY w1 w2 okp) (jY w3 w4 okq) byOmega) ?_;rintro _ h3 ⟨X3,rfl⟩;have X12:=X1.trans X2;have X13:=X12.trans X3;have K2:aX h h2:=(hE.trans X12).ae;have K3:aX h h3:=(hE.trans X13).ae;obtain⟨z,hz,hzl⟩:=Fp (rOf p) (rOf q);rw[hz];simp -dsimp (disch:=omega) only[wpS,zE];refine⟨by repeat' first|refine aB ?_ ?_|refine aA ?_ ?_|exact ai rfl rfl rfl rfl (au rfl (hv.ld aG hq) (hv.ld aG hq))|exact ai rfl rfl rfl rfl (au rfl (hv.ld aG hp) (hv.ld aG hp)),?_⟩;have hE3:=hE.trans X13;have n3:=X13.n;have g3:=X13.kept hn hg
  have us:upTo l k (i+1)=if z≤0 then upTo l k i+1 else upTo l k i:=by
   rw[upTo,gp,gq];by_cases c:rOf p≤rOf q;·rw[ah c,ah (hzl.2 c)]
   ·rw[ad c,ad (fun h=>c (hzl.1 h))]
  have ul:=Cp l k i;by_cases c:z≤0;·rw[ah c] at us;have d:decide (z≤0)=true:=bf c;simp -dsimp (disch:=omega) only[wpS,wpT,zE,zA,d,f5,f6];exact⟨m - 1,byOmega,i+1,byOmega,hE3,byOmega,g3,by simp[f0,f1,f4,us]⟩
  ·rw[ad c] at us
   have d:decide (z≤0)=false:=aY c;simp -dsimp (disch:=omega) only[wpS,wpT,zE,zA,d,f6];exact⟨m - 1,byOmega,i+1,byOmega,hE3,byOmega,g3,by simp[f0,f1,f4,f5,us]⟩
 ·obtain rfl:i=l.length:=byOmega;have ul:=Cp l k l.length;simp -dsimp (disch:=omega) only[wpS,wpT,zE,f0,f5,hv.1.len tX];refine call (lC (upTo l k l.length:Nat) (l.length:Nat) ⟨byOmega,byOmega⟩ ⟨byOmega,byOmega⟩ byOmega) ?_;rintro a3 h3 ⟨X3,p3⟩;rw[←ZaC] at p3;obtain⟨a,s,b,t,rfl,_,_,d1,o1,d2,o2,o3,o4⟩:=p3.parts;have n3:=X3.n;have g3:=X3.kept hn hg;simp -dsimp (disch:=omega) only[wpS,wpT,zE,zL,zA,fS,fU,f4,g3,o1,o2,o3,o4,fm];exact⟨(hE.trans X3).put (ar _) _,p3.ae ((aX.refl _).put g3 _)⟩


def Xp {l:List (Nat×Nat)} {k:Nat} (hl:l.length≤200) (hk:k<l.length):QB 128 (tu l k):=by have ul:=Cp l k l.length;refine QB.div (a:=64) (b:=64) (QB.int byOmega) (QB.int byOmega) ?_;intro h0;have:((l.length:Nat):Int)=0:=Rat.intCast_inj.1 h0;omega
def Zd3 (x y:Rat) : ∃z:Int,(if x<y then (-1:Int) else if x=y then 0 else 1)=z∧(0<z↔y<x):=by obtain⟨z,h1,h2⟩:=Fp x y;exact⟨z,h1,by rw[←Rat.not_le,←h2];omega⟩

def fu (f:List (Nat×Nat)) (b:List Nat):List (Nat×Nat):=b.map fun a=>f.getD a (0,0)
theorem fH (f:List (Nat×Nat)) (b:List Nat):(fu f b).length=b.length:=by simp[fu]
def sC (f:List (Nat×Nat)) (w:Option Nat) (e:Rat) (b:List Nat):Rat :=
 match w with
 | some a=>if tu (fu f b) a≤e then 1 else 0
 | none=>rs b.length fun i=>if tu (fu f b) i≤e then Rat.divInt 1 ((b.length:Nat):Int) else 0
def atZ:Option Nat→Int
 | some a=>((a:Nat):Int)
 | none => -1
def RG {n:Nat} (h:0<n) (k:n≤2 ^ 5):OvL n 5 (Rat.divInt 1 (n:Int)):=by refine⟨h,k,1,?_,aP⟩;rw[PR];rfl
variable {f:List (Nat×Nat)}
def Le {w:Option Nat} {e:Rat} {S:Nat} (hS:S≤20) : ∃M,∀b:List Nat,b.length=S+1→OvL M 26 (sC f w e b):=by
 cases w with
 | some a=>exact⟨1,fun b _=>(OvL.ite (OvL.one.mono byOmega))⟩
 | none =>
  refine⟨S+1,fun b hb=>?_⟩;unfold sC;rw[hb];exact(OvL.rs (x:=5) (n:=S+1) (L:=S+1) byOmega byOmega fun i _=>OvL.ite (RG byOmega byOmega)).mono byOmega
def D5 {N D M X y:Nat} {p:Nat→Nat→Rat} (hD : ∀i j,i<N→j<N→OvL D X (p i j)) : ∀(k s:Nat) (F:List Nat→Rat),s<N→(∀l:List Nat,l.length=k→(∀x∈l,x<N)→OvL M y (F l))→OvL (D ^ k*M) (k*(X+N)+y) (cX N p k s F)
 | 0,s,F,hs,hF=>by have:=hF [] rfl aa;rw[cX,pN,CV,iC,eu];exact this
 | k+1,s,F,hs,hF=>by
  have t : ∀j,j<N→OvL (D ^ (k+1)*M) (X+(k*(X+N)+y)) (p s j*cX N p k j fun l=>F (j :: l)):=fun j hj=>by
   rw[Nat.pow_succ',uV];exact(hD s j hs hj).mul (D5 hD k j _ hj fun l hl hx=>hF (j :: l) (by rw[gX,hl]) (by
    intro x hm;rcases dD.1 hm with rfl|hm;·exact hj
    ·exact hx x hm))
  have t0:=t s hs;rw[cX];refine(OvL.rs t0.1 t0.2.1 t).mono ?_;rw[cW,CV];omega
structure KH (ll:List (List (Nat×Nat))) (f:List (Nat×Nat)) (S:Nat) (w:Option Nat) (e:Rat) (D X:Nat):Prop where
 ko:fy ll
 n8:ll.length≤8
 fl:f.length=ll.length
 fo:xK f
 s20:S≤20
 hw : ∀a,w=some a→a≤S
 he:QB 512 e
 hD : ∀i j,i<ll.length→j<ll.length→OvL D X (kAt ll i j)
def CN (ll:List (List (Nat×Nat))) (f:List (Nat×Nat)) (S:Nat) (w:Option Nat) (e:Rat) (X k:Nat):Prop :=
 ∀{h:IH} {kv fv bv pv ev:Value} {b:List Nat} {q:Rat} {L x:Nat},je h kv ll→iS h fv f→KK h bv (b.map fun a:Nat=>(a:Int))→fX h pv q→fX h ev e→b.length+k=S+1→0<b.length→(∀a∈b,a<ll.length)→OvL L x q→x+k*(X+8)+26≤1000000 →
  WV Proofs.Tryz.prog (.func (.func 185) #[] #[]) [kv,fv,bv,pv,KN S,KI (atZ w),ev] h fun r h'=>Ext h h'∧fX h' r (q*cX ll.length (kAt ll) k (iP 0 b) fun o=>sC f w e (b ++ o))
variable {b:List Nat}
def Mk (f:List (Nat×Nat)) {i:Nat} {a:Nat} (h:b[i]?=some a):shL (fu f (b.take i)) ++ shC (f.getD a (0,0)).1 (f.getD a (0,0)).2=shL (fu f (b.take (i+1))):=by rw[fE h];simp[fu,shL]
def Tq (fo:xK f) (h : ∀a∈b,a<f.length):xK (fu f b):=by intro p hp;obtain⟨a,ha,rfl⟩:=ju.1 hp;rw[bC,bK (h a ha)];exact fo _ (iE _)
theorem Rx (h:0<b.length):b[b.length - 1]?=some (iP 0 b):=by
 unfold iP;rw[←List.getLast?_eq_getElem?];cases e:b.getLast? with
 | none=>rw[List.getLast?_eq_none_iff.1 e] at h;simp at h
 | some a=>rfl
def Jl {ll:List (List (Nat×Nat))} {f:List (Nat×Nat)} {S:Nat} {w:Option Nat} {e:Rat} {D X:Nat} (ps:KH ll f S w e D X):CN ll f S w e X 0:=by
 intro h kv fv bv pv ev b q L x hk hf hb hp he hbk hb0 hbN hq hx
 obtain⟨n8,fl,fo,s20⟩:ll.length≤8∧f.length=ll.length∧xK f∧S≤20:=⟨ps.n8,ps.fl,ps.fo,ps.s20⟩;rw[cX];simp only[x8];obtain⟨pa,psn,pb,pt,rfl,_,_,c1,o1,c2,o2,o3,o4⟩:=hp.parts;obtain⟨ea,es,eb,et,rfl,_,_,c5,o5,c6,o6,o7,o8⟩:=he.parts;have Gc:=hb.1.len (P:=prog) jk;rw[cd] at Gc;obtain⟨H0,hH0,n0,E0,g10,g13,g14⟩:=kK h [pa,psn,pb,pt] [ea,es,eb,et] ZR;refine enter (nt:=115) (rs:=[.cell 14 177]) Proofs.Tryz.func185 rfl rfl rfl aa ?_;simp -dsimp (disch:=omega) only[wpS,zE,zA,jF];rw[←hH0];clear hH0;refine call (lC 0 1 ⟨byOmega,byOmega⟩ ⟨byOmega,byOmega⟩ byOmega) ?_;rintro _ h1 ⟨X1,p1⟩;rw[ux] at p1;have m1:=X1.n;obtain⟨za,zs,zb,zt,rfl,_,_,_,z1,_,z2,z3,z4⟩:=p1.parts;replace g10:=X1.kept byOmega g10;replace g13:=X1.kept byOmega g13;replace g14:=X1.kept byOmega g14;simp -dsimp (disch:=omega) only[wpS,wpT,zE,zL,zA,jF,fS,fU,z1,z2,z3,z4,aw g10,fm];obtain⟨H2,hH2⟩:=bm ((h1.new (.cells ZR 0 none)).put h1.n (.cells [za,zs,zb,zt] 0 none));have F2:Ext h1 H2:=by rw[hH2];exact((Ext.refl h1).new _).put (ar _) _
 have n2:H2.n=h1.n+1:=by rw[hH2];rfl
 have g15:H2.ext.get h1.n=some (.cells [za,zs,zb,zt] 0 none):=by rw[hH2];simp (disch:=omega) only[ak]
 rw[←hH2];clear hH2;have p15:=p1.ae F2.ae;have X2:=X1.trans F2;replace g10:=F2.kept byOmega g10;replace g13:=F2.kept byOmega g13;replace g14:=F2.kept byOmega g14;have E2:=E0.trans X2;refine call (Qd (hp.ae E2.ae)) ?_;rintro _ h3 ⟨X3,rfl⟩;have m3:=X3.n;have E3:=E2.trans X3;replace g10:=X3.kept byOmega g10;replace g13:=X3.kept byOmega g13;replace g14:=X3.kept byOmega g14;replace g15:=X3.kept byOmega g15;replace p15:=p15.ae X3.ae;clear p1;by_cases q0:q=0;·rw[bf q0,q0,rL];simp -dsimp (disch:=omega) only[wpS,wpT,zE,zL,zA,fS,fU,aw g15,g14,z1,z2,z3,z4,fm];exact⟨E3.put byOmega _,p15.ae ((aX.refl _).put g14 _)⟩
 rw[aY q0]
 have dS:(((b.length:Nat):Int) == ((S:Nat):Int)+1)=true:=bq
 simp -dsimp (disch:=omega) only[wpS,zE,Gc,dS]
 refine loop (fun m fr hh => ∃(i:Nat) (out:Value),i+m=b.length∧Ext h3 hh∧Acc hh h3.n 16 out i (shL (fu f (b.take i)))∧aj fr 1=some fv∧aj fr 2=some bv∧aj fr 5=some (KI (atZ w))∧aj fr 10=some (ptr (2*h.n) 0)∧aj fr 13=some (ptr (2*(h.n+1)) 0)∧aj fr 14=some (ptr (2*(h.n+1+1)) 0)∧aj fr 15=some (ptr (2*h1.n) 0)∧aj fr 16=some out∧aj fr 17=some (KN i)) b.length ⟨0,.slice none 0 0,byOmega,Ext.refl _,Acc.nil _ _ byOmega,aa⟩ ?_;rintro m fr hh ⟨i,out,him,hE,hA,f1,f2,f5,f10,f13,f14,f15,f16,f17⟩;have hnn:=hE.n;simp -dsimp (disch:=omega) only[wpS,zE,f2,f17,Gc];refine az ?_ ?_<;>intro hc<;>simp only[aJ,aV] at hc
 ·have hi:i<b.length:=byOmega;obtain⟨a,ha⟩:=fJ (l:=b) (i:=i) hi;have aN:=hbN a (bN ha);have hE4:=E3.trans hE;have ixa:=hb.1.idx mP (P:=prog) (k:=.i64) (j:=i) (by rw[cd];omega);rw[dG] at ixa;have lda:=CE hb hE4.ae (i:=i) (x:=(a:Int)) (by rw[cm,ha];rfl);obtain⟨p,hp2⟩:=fJ (l:=f) (i:=a) byOmega;have gp:f.getD a (0,0)=p:=by rw[bC,hp2];rfl
  have ixf:=hf.1.idx qU (P:=prog) (k:=.i64) (j:=a) byOmega;have ldf:=hf.ld hE4.ae hp2;obtain⟨fF,h8,hap,hA8,hG8,hE8⟩:=hA.uR (P:=prog) (t:=61) Gr (m:=1) (new:=shC p.1 p.2) byOmega (by rw[aC]) (bH _ _) byOmega byOmega hE (ar _);have eT:=Mk f ha;rw[gp] at eT;rw[eT] at hA8;simp -dsimp (disch:=omega) only[wpS,wpT,zE,zL,zA,Cl,oi,f1,f2,f16,f17,ixa,lda,ixf,ldf,aU,aC,cD,hap];exact⟨m - 1,byOmega,i+1,fF,byOmega,hE8,hA8,by simp[f1,f2,f5,f10,f13,f14,f15]⟩
 obtain rfl:i=b.length:=byOmega;rw[tH] at hA;have sl:iS hh out (fu f b):=⟨by rw[fH];exact hA.sl,by rw[fH];omega,fun p hp=>by
  obtain⟨a,ha,rfl⟩:=ju.1 hp;have:=hbN a ha;rw[bC,bK (show a<f.length by omega)];exact hf.2.2 _ (iE _)⟩
 have ok:xK (fu f b):=Tq fo fun a ha=>by have:=hbN a ha;omega
 have hlen:=sl.1.len (P:=prog) tX;rw[fH] at hlen;replace g10:=hE.kept byOmega g10;replace g13:=hE.kept byOmega g13;replace g14:=hE.kept byOmega g14;replace g15:=hE.kept byOmega g15;replace p15:=p15.ae hE.ae;have E4:=E3.trans hE;have p10:=hp.ae E4.ae;have p13:=he.ae E4.ae;have X0:=Ext.refl hh;obtain⟨_,_,L13⟩:=ql4 g13;clear hA f17 hc Gc him;unfold atZ at f5
 unfold sC
 cases w with
 | some a =>
  dsimp only at f5 ⊢;have aS:=ps.hw a rfl;have d5:decide ((0:Int)≤((a:Nat):Int))=true:=bf byOmega;simp -dsimp (disch:=omega) only[wpS,wpT,zE,f5,d5];refine drawn [(3,[2])] ab ab rfl ?_;simp -dsimp (disch:=omega) only[wpS,zE,f5,f16];refine call (EV sl ok (by rw[fH];omega) (by rw[fH];omega)) ?_;rintro _ h5 ⟨X5,p5⟩;have m5:=X5.n;simp -dsimp (disch:=omega) only[wpS,wpT,zE,zL,zA,fU,f13,aw (X5.kept byOmega g13),fm];refine call (nz p5 (p13.ae X5.ae) (Xp (by rw[fH];omega) (by rw[fH];omega)) ps.he byOmega) ?_;rintro _ h6 ⟨X6,rfl⟩;have m6:=X6.n;have X56:=X5.trans X6;obtain⟨z,hz,hzl⟩:=Fp (tu (fu f b) a) e;rw[hz];replace g10:=X56.kept byOmega g10;replace g14:=X56.kept byOmega g14;replace g15:=X56.kept byOmega g15;by_cases c:tu (fu f b) a≤e
  ·have d6:decide (z≤0)=true:=bf (hzl.2 c);rw[ah c,Ax];simp -dsimp (disch:=omega) only[wpS,zE,d6];refine⟨ai rfl rfl rfl rfl (aO (H0:=hh) (b:=2*(h.n+1)) (o:=0) f13 byOmega aG aG L13),?_⟩;simp -dsimp (disch:=omega) only[wpS,wpT,zE,zL,zA,fS,fU,f10,f14,aw g10,g14,o1,o2,o3,o4,fm]
   exact⟨(E4.trans X56).put byOmega _,(p10.ae X56.ae).ae ((aX.refl _).put g14 _)⟩
  ·have d6:decide (z≤0)=false:=aY fun h=>c (hzl.1 h)
   rw[ad c,rM];simp -dsimp (disch:=omega) only[wpS,zE,d6];refine⟨ai rfl rfl rfl rfl (aO (H0:=hh) (b:=2*(h.n+1)) (o:=0) f13 byOmega aG aG L13),?_⟩;simp -dsimp (disch:=omega) only[wpS,wpT,zE,zL,zA,fS,fU,f14,f15,aw g15,g14,z1,z2,z3,z4,fm];exact⟨(E4.trans X56).put byOmega _,(p15.ae X56.ae).ae ((aX.refl _).put g14 _)⟩
 | none =>
  dsimp only at f5 ⊢;have d5:decide ((0:Int) ≤ -1)=false:=aP;simp -dsimp (disch:=omega) only[wpS,wpT,zE,f5,d5];refine loop (fun m fr H => ∃(i:Nat) (a' s' b' t':Value),i+m=b.length∧Ext h H∧hh.n≤H.n∧aX hh H∧H.ext.get h.n=some (.cells [pa,psn,pb,pt] 0 none)∧H.ext.get (h.n+1)=some (.cells [ea,es,eb,et] 0 none)∧H.ext.get (h.n+1+1)=some (.cells ZR 0 none)∧H.ext.get h1.n=some (.cells [a',s',b',t'] 0 none)∧fX H (.agg #[a',s',b',t']) (q*rs i fun i=>if tu (fu f b) i≤e then Rat.divInt 1 ((b.length:Nat):Int) else 0)∧aj fr 10=some (ptr (2*h.n) 0)∧aj fr 13=some (ptr (2*(h.n+1)) 0)∧aj fr 14=some (ptr (2*(h.n+1+1)) 0)∧aj fr 15=some (ptr (2*h1.n) 0)∧aj fr 16=some out∧aj fr 18=some (KN i)) b.length
   ⟨0,za,zs,zb,zt,byOmega,E4,ar _,aX.refl _,g10,g13,g14,g15,by rw[rs,rM];exact p15,by simp[f10,f13,f14,f15,f16]⟩ ?_
  clear g10 g13 g14 g15 f1 f2 f5 f10 f13 f14 f15 f16 p15 z1 z2 z3 z4 X0 L13;rintro m fr H ⟨i,a',s',b',t',him,E,hn,K,g10,g13,g14,g15,p15,f10,f13,f14,f15,f16,f18⟩;have X0:=Ext.refl H;obtain⟨_,_,L13⟩:=ql4 g13;simp -dsimp (disch:=omega) only[wpS,zE,f16,f18,hlen];refine az ?_ ?_<;>intro hc<;>simp only[aJ,aV] at hc
  ·have hi:i<b.length:=byOmega;simp -dsimp (disch:=omega) only[wpS,wpT];refine drawn [(3,[2])] ab ab rfl ?_;simp -dsimp (disch:=omega) only[wpS,zE,f16,f18];refine call (EV (sl.ae K) ok (by rw[fH];omega) (k:=i) (by rw[fH];omega)) ?_;rintro _ h5 ⟨X5,p5⟩;have m5:=X5.n;simp -dsimp (disch:=omega) only[wpS,wpT,zE,zL,zA,fU,f13,aw (X5.kept byOmega g13),fm];refine call (nz p5 (p13.ae (K.trans X5.ae)) (Xp (by rw[fH];omega) (by rw[fH];omega)) ps.he byOmega) ?_;rintro _ h6 ⟨X6,rfl⟩;have m6:=X6.n;have X56:=X5.trans X6;obtain⟨z,hz,hzl⟩:=Fp (tu (fu f b) i) e;rw[hz];replace g10:=X56.kept byOmega g10;replace g13:=X56.kept byOmega g13;replace g14:=X56.kept byOmega g14;replace g15:=X56.kept byOmega g15;have E6:=E.trans X56;have K6:=K.trans X56.ae;by_cases c:tu (fu f b) i≤e
   case neg =>
    have d6:decide (z≤0)=false:=aY fun h=>c (hzl.1 h);simp -dsimp (disch:=omega) only[wpS,zE,d6];refine⟨ai rfl rfl rfl rfl (aO (H0:=H) (b:=2*(h.n+1)) (o:=0) f13 byOmega aG aG L13),?_⟩;simp -dsimp (disch:=omega) only[wpS,wpT,zE,zA,f18];exact⟨m - 1,byOmega,i+1,a',s',b',t',byOmega,E6,byOmega,K6,g10,g13,g14,g15,by rw[rs,ad c,lP];exact p15.ae X56.ae,by simp[f10,f13,f14,f15,f16]⟩
   have d6:decide (z≤0)=true:=bf (hzl.2 c);simp -dsimp (disch:=omega) only[wpS,zE,d6];refine⟨ai rfl rfl rfl rfl (aO (H0:=H) (b:=2*(h.n+1)) (o:=0) f13 byOmega aG aG L13),?_⟩;obtain⟨_,_,L15⟩:=ql4 g15;obtain⟨_,_,L10⟩:=ql4 g10;have Y0:=Ext.refl h6;simp -dsimp (disch:=omega) only[wpS,wpT,zE,zA];refine drawn [(0,[5,6]),(1,[5])] ab ab rfl ?_;simp -dsimp (disch:=omega) only[wpS,wpT,zE,zL,zA,fU,f10,f15,f16,hlen,aw g10,aw g15,fm];refine call (lC 1 (b.length:Int) ⟨byOmega,byOmega⟩ ⟨byOmega,byOmega⟩ byOmega) ?_;rintro _ h7 ⟨X7,p7⟩;have m7:=X7.n;have iq:=RG hb0 byOmega;simp -dsimp (disch:=omega) only[wpS,zE];refine call (sK (p10.ae (K6.trans X7.ae)) p7 hq.qb iq.qb byOmega) ?_;rintro _ h8 ⟨X8,p8⟩;have m8:=X8.n;have Y8:=X7.trans X8;simp -dsimp (disch:=omega) only[wpS,zE];have hT : ∀i,OvL (L*b.length) (x+(5+i)) (q*rs i fun i=>if tu (fu f b) i≤e then Rat.divInt 1 ((b.length:Nat):Int) else 0):=fun i=>hq.mul (OvL.rs hb0 byOmega fun j _=>iq.ite);refine call (sL (p15.ae (X56.trans Y8).ae) p8 (hT i).qb (hq.mul iq).qb byOmega) ?_;rintro _ h9 ⟨X9,p9⟩;have m9:=X9.n;have Y9:=Y8.trans X9;rw[show(q*rs i fun i=>if tu (fu f b) i≤e then Rat.divInt 1 ((b.length:Nat):Int) else 0)+q*Rat.divInt 1 ((b.length:Nat):Int)=q*rs (i+1) fun i=>if tu (fu f b) i≤e then Rat.divInt 1 ((b.length:Nat):Int) else 0 by rw[rs,ah c,Rat.mul_add]] at p9;obtain⟨ya,ys,yb,yt,rfl,_,_,_,y1,_,y2,y3,y4⟩:=p9.parts;have k9:=Y9.kept byOmega g15;simp -dsimp (disch:=omega) only[wpS,wpT,zE,zL,zA,fS,f15,k9,y1,y2,y3,y4];refine⟨by repeat' first|refine aB ?_ ?_|refine aA ?_ ?_|exact ai rfl rfl rfl rfl (aO (H0:=h6) (b:=2*h1.n) (o:=0) f15 byOmega aG aG L15)|exact ai rfl rfl rfl rfl (aO (H0:=h6) (b:=2*h.n) (o:=0) f10 byOmega aG aG L10),?_⟩;simp -dsimp (disch:=omega) only[wpS,wpT,zE,zA,f18];exact⟨m - 1,byOmega,i+1,ya,ys,yb,yt,byOmega,(E6.trans Y9).put byOmega _,by simp only[bd];omega,(K6.trans Y9.ae).put k9 _,by simp (disch:=omega) only[ax];exact Y9.kept byOmega g10,by simp (disch:=omega) only[ax];exact Y9.kept byOmega g13,by simp (disch:=omega) only[ax];exact Y9.kept byOmega g14,ak _ _ rfl,p9.ae ((aX.refl _).put k9 _),by simp[f10,f13,f14,f15,f16]⟩
  ·obtain rfl:i=b.length:=byOmega;obtain⟨_,_,_,_,e15,_,_,_,y1,_,y2,y3,y4⟩:=p15.parts;cases e15;simp -dsimp (disch:=omega) only[wpS,wpT,zE,zL,zA,fS,fU,f14,f15,aw g15,g14,y1,y2,y3,y4,fm];exact⟨E.put byOmega _,p15.ae ((aX.refl _).put g14 _)⟩
variable {ll:List (List (Nat×Nat))}{S:Nat}{f:List (Nat×Nat)}{X:Nat}{e:Rat}{w:Option Nat}{D:Nat}
def Jm {k:Nat} (ps:KH ll f S w e D X) (ih:CN ll f S w e X k):CN ll f S w e X (k+1):=by
 intro h kv fv bv pv ev b q L x hk hf hb hp he hbk hb0 hbN hq hx
 obtain⟨n8,fl,fo,s20⟩:ll.length≤8∧f.length=ll.length∧xK f∧S≤20:=⟨ps.n8,ps.fl,ps.fo,ps.s20⟩;obtain⟨_,_,hlen⟩:=hk.co;have cf:=hf.co;have lN:iP 0 b<ll.length:=hbN _ (bN (Rx hb0));obtain⟨M,hM⟩:=Le (f:=f) (w:=w) (e:=e) s20;have hT : ∀j,j<ll.length→OvL ((L*D)*(D ^ k*M)) ((x+X)+(k*(X+ll.length)+26)) (q*kAt ll (iP 0 b) j*cX ll.length (kAt ll) k j fun o=>sC f w e (b ++ j :: o)):=fun j hj=>(hq.mul (ps.hD _ _ lN hj)).mul (D5 ps.hD k j _ hj fun l hl _=>hM _ (by rw[du,gX];omega));have hT2 : ∀j,j≤ll.length→OvL ((L*D)*(D ^ k*M)) ((x+X)+(k*(X+ll.length)+26)+j) (rs j fun j=>q*kAt ll (iP 0 b) j*cX ll.length (kAt ll) k j fun o=>sC f w e (b ++ j :: o)):=fun j hj=>OvL.rs (hT 0 byOmega).1 (hT 0 byOmega).2.1 fun i hi=>hT i byOmega;have hkx:k*(X+ll.length)≤k*(X+8):=Iw _ byOmega;have hkx2:(k+1)*(X+8)=k*(X+8)+(X+8):=by rw[cW,CV]
 have eQ:(q*cX ll.length (kAt ll) (k+1) (iP 0 b) fun o=>sC f w e (b ++ o))=rs ll.length fun j=>q*kAt ll (iP 0 b) j*cX ll.length (kAt ll) k j fun o=>sC f w e (b ++ j :: o):=by rw[cX,←rU];exact bR fun j _=>(Rat.mul_assoc ..).symm
 obtain⟨pa,psn,pb,pt,rfl,_,_,c1,o1,c2,o2,o3,o4⟩:=hp.parts;obtain⟨ea,es,eb,et,rfl,_,_,c5,o5,c6,o6,o7,o8⟩:=he.parts;have Gc:=hb.1.len (P:=prog) jk;rw[cd] at Gc;obtain⟨H0,hH0,n0,E0,g10,g13,g14⟩:=kK h [pa,psn,pb,pt] [ea,es,eb,et] ZR;refine enter (nt:=115) (rs:=[.cell 14 177]) Proofs.Tryz.func185 rfl rfl rfl aa ?_;simp -dsimp (disch:=omega) only[wpS,zE,zA,jF];rw[←hH0];clear hH0;refine call (lC 0 1 ⟨byOmega,byOmega⟩ ⟨byOmega,byOmega⟩ byOmega) ?_;rintro _ h1 ⟨X1,p1⟩;rw[ux] at p1;have m1:=X1.n;obtain⟨za,zs,zb,zt,rfl,_,_,_,z1,_,z2,z3,z4⟩:=p1.parts;replace g10:=X1.kept byOmega g10;replace g13:=X1.kept byOmega g13;replace g14:=X1.kept byOmega g14;simp -dsimp (disch:=omega) only[wpS,wpT,zE,zL,zA,jF,fS,fU,z1,z2,z3,z4,aw g10,fm];obtain⟨H2,hH2⟩:=bm ((h1.new (.cells ZR 0 none)).put h1.n (.cells [za,zs,zb,zt] 0 none));have F2:Ext h1 H2:=by rw[hH2];exact((Ext.refl h1).new _).put (ar _) _
 have n2:H2.n=h1.n+1:=by rw[hH2];rfl
 have g15:H2.ext.get h1.n=some (.cells [za,zs,zb,zt] 0 none):=by rw[hH2];simp (disch:=omega) only[ak]
 rw[←hH2];clear hH2;have p15:=p1.ae F2.ae;have X2:=X1.trans F2;replace g10:=F2.kept byOmega g10;replace g13:=F2.kept byOmega g13;replace g14:=F2.kept byOmega g14;have E2:=E0.trans X2;refine call (Qd (hp.ae E2.ae)) ?_;rintro _ h3 ⟨X3,rfl⟩;have m3:=X3.n;have E3:=E2.trans X3;replace g10:=X3.kept byOmega g10;replace g13:=X3.kept byOmega g13;replace g14:=X3.kept byOmega g14;replace g15:=X3.kept byOmega g15;replace p15:=p15.ae X3.ae;clear p1;by_cases q0:q=0;·rw[bf q0,q0,rL];simp -dsimp (disch:=omega) only[wpS,wpT,zE,zL,zA,fS,fU,aw g15,g14,z1,z2,z3,z4,fm];exact⟨E3.put byOmega _,p15.ae ((aX.refl _).put g14 _)⟩
 rw[aY q0,eQ]
 clear eQ;have dS:(((b.length:Nat):Int) == ((S:Nat):Int)+1)=false:=bq;have eB:((b.length:Nat):Int) - 1=((b.length - 1:Nat):Int):=byOmega;have ixb:=hb.1.idx mP (P:=prog) (k:=.i64) (j:=b.length - 1) (by rw[cd];omega);rw[dG] at ixb;have ldb:=CE hb E3.ae (i:=b.length - 1) (x:=((iP 0 b:Nat):Int)) (by rw[cm,Rx hb0];rfl);simp -dsimp (disch:=omega) only[wpS,zE,Gc,dS,eB,ixb,ldb]
 refine loop (fun m fr H => ∃(j:Nat) (a' s' b' t':Value),j+m=ll.length∧Ext h H∧h3.n≤H.n∧H.ext.get h.n=some (.cells [pa,psn,pb,pt] 0 none)∧H.ext.get (h.n+1)=some (.cells [ea,es,eb,et] 0 none)∧H.ext.get (h.n+1+1)=some (.cells ZR 0 none)∧H.ext.get h1.n=some (.cells [a',s',b',t'] 0 none)∧fX H (.agg #[a',s',b',t']) (rs j fun j=>q*kAt ll (iP 0 b) j*cX ll.length (kAt ll) k j fun o=>sC f w e (b ++ j :: o)) ∧
   aj fr 0=some kv∧aj fr 1=some fv∧aj fr 2=some bv∧aj fr 4=some (KN S)∧aj fr 5=some (KI (atZ w))∧aj fr 10=some (ptr (2*h.n) 0)∧aj fr 13=some (ptr (2*(h.n+1)) 0)∧aj fr 14=some (ptr (2*(h.n+1+1)) 0)∧aj fr 15=some (ptr (2*h1.n) 0)∧aj fr 19=some (KN (iP 0 b))∧aj fr 20=some (KN j)) ll.length
  ⟨0,za,zs,zb,zt,byOmega,E3,ar _,g10,g13,g14,g15,by rw[rs];exact p15,aa⟩ ?_
 clear g10 g13 g14 g15 p15 z1 z2 z3 z4 ldb;rintro m fr H ⟨j,a',s',b',t',hjm,E,hn,g10,g13,g14,g15,p15,f0,f1,f2,f4,f5,f10,f13,f14,f15,f19,f20⟩;have hnn:=E.n;simp -dsimp (disch:=omega) only[wpS,wpT,zE,reduceMul,Ah,f0,f20,hlen];refine az ?_ ?_<;>intro hc<;>simp only[aJ,aV] at hc
 ·have hj:j<ll.length:=byOmega;have EN:Ext H (H.new (.cells [] 1 none)):=(Ext.refl H).new _;have hb1:=(hb.ae E.ae).1.ae EN.ae;rw[cd] at hb1;have hap1:=oF (P:=prog) (t:=25) FH (H.new (.cells [] 1 none)) hb1.now byOmega (by simp[aM]) byOmega (2*H.n) 0;have A1:=(Am (h:=H.new (.cells [] 1 none)) hb1.1 hb1.2.1 hb0).from (n0:=H.n) aa;have EN2:=EN.new (.cells ((b.map fun a:Nat=>(a:Int)).map KI) 1 none);obtain⟨bv',h5,hap2,A5,G5,E5⟩:=A1.Gq (P:=prog) (t:=25) FH (x:=KN j) rfl byOmega bq EN2 (ar _);have sb:KK h5 bv' ((b ++ [j]).map fun a:Nat=>(a:Int)):=by
   refine⟨?_,bq,fun x hx=>?_⟩;·have:=A5.sl;simpa using this
   ·obtain⟨a,ha,rfl⟩:=ju.1 hx;rcases eE.1 ha with h|h
    ·have:=hbN a h;exact⟨byOmega,byOmega⟩
    ·rw[iD.1 h];exact⟨byOmega,byOmega⟩
  have Zf5:append prog (((H.new (.cells [] 1 none)).new (.cells ((b.map fun a:Nat=>(a:Int)).map KI) 1 none)).new (.cells [KN j] 1 none)) 25 (.slice (some ⟨2*(H.n+1),0,none⟩) b.length (2*b.length)) (.slice (some ⟨2*(H.n+1+1),0,none⟩) 1 3)=some (bv',h5):=hap2;have m5:=E5.n;obtain⟨ri,p,e1,l1,e2,ok1,nn1,k1⟩:=fV ps.ko (i:=iP 0 b) (j:=j) lN hj;obtain⟨wi,A1,A2,A3⟩:=hk.lG e1;have ip:=A2.1.idx qU (P:=prog) (k:=.i64) (j:=j) byOmega;have wp:=A2.2.2 p (bN e2);have EH:=E.trans E5;replace g10:=E5.kept byOmega g10;replace g13:=E5.kept byOmega g13;replace g14:=E5.kept byOmega g14;replace g15:=E5.kept byOmega g15;replace p15:=p15.ae E5.ae;obtain⟨_,_,L10⟩:=ql4 g10;obtain⟨_,_,L13⟩:=ql4 g13;obtain⟨_,_,L15⟩:=ql4 g15;have Y0:=Ext.refl h5;have qb1:QB 512 (kAt ll (iP 0 b) j):=by rw[k1];exact jY wp.1 wp.2 ok1
  clear hc A5 hap2 G5;simp -dsimp (disch:=omega) only[wpS,wpT,zE,zL,zA,reduceMul,Ah,oj,f2,f20,hap1,Zf5];refine drawn [(0,[13,17,18]),(4,[13]),(16,[12,13])] ab ab rfl ?_;simp -dsimp (disch:=omega) only[wpS,wpT,zE,zL,zA,fU,f0,f1,f10,f15,f19,f20,aw g10,aw g15,fm,A3,A1 h5 EH.ae,ip,A2.ld EH.ae e2];refine call (lz p.1 p.2 wp.1 wp.2) ?_;rintro r6 h6 ⟨X6,p6⟩;have p6:=p6.rat ok1;rw[←k1] at p6;have m6:=X6.n;simp -dsimp (disch:=omega) only[wpS,zE];refine call (sK (hp.ae (EH.trans X6).ae) p6 hq.qb qb1 byOmega) ?_;rintro r7 h7 ⟨X7,p7⟩;have m7:=X7.n;have Y7:=X6.trans X7;have K7:=(EH.trans Y7).ae;simp -dsimp (disch:=omega) only[wpS,wpT,zE,zL,zA,fU,f4,f5,f13,aw (Y7.kept byOmega g13),fm];refine call (ih (b:=b ++ [j]) (hk.ae K7) (hf.ae K7) (sb.ae Y7.ae) p7 (he.ae K7) bq aa (fun a ha=>by
   rcases eE.1 ha with h|h;·exact hbN a h
   ·rw[iD.1 h];exact hj) (hq.mul (ps.hD _ _ lN hj)) byOmega) ?_
  rintro r8 h8 ⟨X8,p8⟩;have m8:=X8.n;have Y8:=Y7.trans X8;rw[Hm] at p8;simp only[List.append_assoc,List.singleton_append] at p8;simp -dsimp (disch:=omega) only[wpS,zE];refine call (sL (p15.ae Y8.ae) p8 (hT2 j byOmega).qb (hT j hj).qb byOmega) ?_;rintro _ h9 ⟨X9,p9⟩;have m9:=X9.n;have Y9:=Y8.trans X9;obtain⟨ya,ys,yb,yt,rfl,_,_,_,y1,_,y2,y3,y4⟩:=p9.parts;have k9:=Y9.kept byOmega g15;simp -dsimp (disch:=omega) only[wpS,wpT,zE,zL,zA,fS,f15,k9,y1,y2,y3,y4];refine⟨by repeat' first|refine aB ?_ ?_|refine aA ?_ ?_|exact ai rfl rfl rfl rfl (aO (H0:=h5) (b:=2*h1.n) (o:=0) f15 byOmega aG aG L15)|exact ai rfl rfl rfl rfl (aO (H0:=h5) (b:=2*h.n) (o:=0) f10 byOmega aG aG L10)|exact ai rfl rfl rfl rfl (aO (H0:=h5) (b:=2*(h.n+1)) (o:=0) f13 byOmega aG aG L13),?_⟩;simp -dsimp (disch:=omega) only[wpS,wpT,zE,zA,f20];exact⟨m - 1,byOmega,j+1,ya,ys,yb,yt,byOmega,(EH.trans Y9).put byOmega _,by simp only[bd];omega,by simp (disch:=omega) only[ax];exact Y9.kept byOmega g10,by simp (disch:=omega) only[ax];exact Y9.kept byOmega g13,by simp (disch:=omega) only[ax];exact Y9.kept byOmega g14,ak _ _ rfl,by rw[rs];exact p9.ae ((aX.refl _).put k9 _),by simp[f0,f1,f2,f4,f5,f10,f13,f14,f15,f19]⟩
 ·obtain rfl:j=ll.length:=byOmega;obtain⟨_,_,_,_,e15,_,_,_,y1,_,y2,y3,y4⟩:=p15.parts;cases e15;simp -dsimp (disch:=omega) only[wpS,wpT,zE,zL,zA,reduceMul,fS,fU,Ah,f14,f15,aw g15,g14,y1,y2,y3,y4,fm];exact⟨E.put byOmega _,p15.ae ((aX.refl _).put g14 _)⟩
def DV (ps:KH ll f S w e D X) : ∀k,CN ll f S w e X k
 | 0=>Jl ps
 | k+1=>Jm ps (DV ps k)
variable {ll:List (List (Nat×Nat))}{t:List Nat}
def DW :uP ll t ↔ ∀a b,a<ll.length→b<ll.length→dh (t.getD a 0)*kAt ll a b=dh (t.getD b 0)*kAt ll b a:=by
 constructor
 ·intro h a b ha hb;rcases Nat.lt_trichotomy a b with c|c|c
  ·exact(h b a hb c).symm
  ·rw[c]
  ·exact h a b ha c
 ·intro h a b ha hb;exact h a b ha byOmega
open Classical in
def VQ {h:IH} {v w:Value} (hv:je h v ll) (hw:mS h w t) :WV prog (.func (.func 232) #[] #[]) [v,w] h fun r h'=>Ext h h'∧r=.tuple #[.bool (decide (mK ll t=0∧uP ll t)),KI (mK ll t)]:=by
 obtain⟨_,_,hlen⟩:=hv.co;have hlw:=hw.1.len (P:=prog) AM;have htb:=hw.2.1;refine enter (nt:=63) (rs:=[.tmp 4,.tmp 5]) Proofs.Tryz.func232 rfl rfl rfl aa ?_;simp -dsimp (disch:=omega) only[wpS,zE,zA];refine call (Ho hv) ?_;rintro _ h1 ⟨X1,rfl⟩;by_cases hk:fy ll
 case neg =>
  have e:mK ll t=330:=by rw[mK,ah hk]
  rw[e,aY hk,aY (fun h=>by have:=h.1;omega)];simp -dsimp (disch:=omega) only[wpS,wpT,zE];exact X1
 rw[bf hk];have l60:=hk.2.1;by_cases ht:t.length=ll.length
 case neg =>
  have e:mK ll t=2:=by rw[mK,ad (fun h=>h hk),ah (.inl ht)]
  have d:(((t.length:Nat):Int) != ((ll.length:Nat):Int))=true:=by simpa using fun h=>ht byOmega
  rw[e,aY (fun h=>by have:=h.1;omega)];simp -dsimp (disch:=omega) only[wpS,wpT,zE,hlen,hlw,d];exact X1
 have d:(((t.length:Nat):Int) != ((ll.length:Nat):Int))=false:=by simp[ht]
 simp -dsimp (disch:=omega) only[wpS,wpT,zE,hlen,hlw,d];refine call (Hn (least:=0) (hw.ae X1.ae) ⟨byOmega,byOmega⟩) ?_;rintro _ h2 ⟨X2,rfl⟩;by_cases sY : ∃p∈t,wdI p<0
 case pos =>
  have e:mK ll t=2:=by rw[mK,ad (fun h=>h hk),ah (.inr sY)]
  rw[bf sY,e,aY (fun h=>by have:=h.1;omega)];simp -dsimp (disch:=omega) only[wpS,wpT,zE];exact X1.trans X2
 rw[aY sY];have re:mK ll t=0:=by rw[mK,ad (fun h=>h hk),ad (fun h=>h.elim (fun h=>h ht) sY)]
 simp -dsimp (disch:=omega) only[wpS,zE];refine call (Ey (hw.ae (X1.trans X2).ae) byOmega) ?_;rintro v7 h3 ⟨X3,sv7⟩;have X03:=(X1.trans X2).trans X3;have pt : ∀j,j<ll.length→t.getD j 0<W8∧(t.map dh)[j]?=some (dh (t.getD j 0)):=fun j hj=>by
  have hjt:j<t.length:=byOmega;have hm:t.getD j 0∈t:=by rw[bC,bK hjt];exact iE hjt
  refine⟨hw.2.2 _ hm,?_⟩;rw[cm,bC,bK hjt];rfl
 have hv3:=hv.ae X03.ae;obtain⟨cst,svt⟩ : ∃cs,cA h3 4 v7 (t.map dh).length cs:=⟨_,sv7.choose_spec.1⟩;rw[cd,ht] at svt;simp -dsimp (disch:=omega) only[wpS,zE];refine loop (fun m fr H => ∃i:Nat,i+m=ll.length∧(∀a b,a<i→b<ll.length→dh (t.getD a 0)*kAt ll a b=dh (t.getD b 0)*kAt ll b a)∧Ext h3 H∧aj fr 0=some v∧aj fr 6=some v7∧aj fr 7=some (KN i)) ll.length ⟨0,byOmega,fun a b ha=>byOmega,Ext.refl _,aa⟩ ?_;rintro m fr H ⟨i,him,R,E,f0,f6,f7⟩;simp -dsimp (disch:=omega) only[wpS,zE,f0,f7,hlen];refine az ?_ ?_<;>intro hc<;>simp only[aJ,aV] at hc
 ·have hi:i<ll.length:=byOmega;simp -dsimp (disch:=omega) only[wpS,wpT,zE];refine loop (fun m2 fr H => ∃j:Nat,j+m2=ll.length∧(∀b,b<j→dh (t.getD i 0)*kAt ll i b=dh (t.getD b 0)*kAt ll b i)∧Ext h3 H∧aj fr 0=some v∧aj fr 6=some v7∧aj fr 7=some (KN i)∧aj fr 8=some (KN j)) ll.length ⟨0,byOmega,fun b hb=>byOmega,E,by simp[f0,f6,f7]⟩ ?_;clear E f0 f6 f7;rintro m2 fr H ⟨j,hjm,R2,E,f0,f6,f7,f8⟩;simp -dsimp (disch:=omega) only[wpS,zE,f0,f8,hlen];refine az ?_ ?_<;>intro hc2<;>simp only[aJ,aV] at hc2
  ·have hj:j<ll.length:=byOmega
   obtain⟨ri,p,e1,l1,e2,ok1,nn1,k1⟩:=fV hk (i:=i) (j:=j) byOmega byOmega;obtain⟨rj,q,e3,l3,e4,ok2,nn2,k2⟩:=fV hk (i:=j) (j:=i) byOmega byOmega;obtain⟨wi,A1,A2,A3⟩:=hv3.lG e1;obtain⟨wj,B1,B2,B3⟩:=hv3.lG e3;have Lp:=fun h' (K:aX h3 h')=>A2.ld K e2;have Lq:=fun h' (K:aX h3 h')=>B2.ld K e4;have ip:=A2.1.idx qU (P:=prog) (k:=.i64) (j:=j) byOmega;have iq:=B2.1.idx qU (P:=prog) (k:=.i64) (j:=i) byOmega;have wp:=A2.2.2 p (bN e2);have wq:=B2.2.2 q (bN e4);obtain⟨u1,u2,u3,u4,Lu,pu⟩:=sv7.lG oW (pt j byOmega).2 FI yZ (P:=prog);obtain⟨w1,w2,w3,w4,Lw,pw⟩:=sv7.lG oW (pt i byOmega).2 FI yZ (P:=prog);have iu:=svt.idx HF (P:=prog) (k:=.i64) (j:=j) byOmega;have iw:=svt.idx HF (P:=prog) (k:=.i64) (j:=i) byOmega;have K0:=E.ae;have qb1:QB 512 (kAt ll i j):=by rw[k1];exact jY wp.1 wp.2 ok1
   have qb2:QB 512 (kAt ll j i):=by rw[k2];exact jY wq.1 wq.2 ok2
   have qb3:=mA (pt j byOmega).1;have qb4:=mA (pt i byOmega).1;simp -dsimp (disch:=omega) only[wpS,wpT,zE];refine drawn [(3,[12]),(16,[11,12,25]),(20,[11,12]),(23,[11,12])] ab ab rfl ?_;simp -dsimp (disch:=omega) only[wpS,zE,f0,f6,f7,f8,iw,Lw H K0,A3,A1 H K0,ip,Lp H K0];refine call (lz p.1 p.2 wp.1 wp.2) ?_;rintro r5 h5 ⟨X5,p5⟩;have p5:=p5.rat ok1;rw[←k1] at p5;have K5:=(E.trans X5).ae;simp -dsimp (disch:=omega) only[wpS,zE];refine call (sK (pw.ae K5) p5 qb4 qb1 byOmega) ?_;rintro r6 h6 ⟨X6,p6⟩;have E6:=(E.trans X5).trans X6;have K6:=E6.ae;simp -dsimp (disch:=omega) only[wpS,zE,f0,f6,f7,f8,iu,Lu h6 K6,B3,B1 h6 K6,iq,Lq h6 K6];refine call (lz q.1 q.2 wq.1 wq.2) ?_;rintro r7 h7 ⟨X7,p7⟩;have p7:=p7.rat ok2;rw[←k2] at p7;have E7:=E6.trans X7;have K7:=E7.ae;simp -dsimp (disch:=omega) only[wpS,zE];refine call (sK (pu.ae K7) p7 qb3 qb2 byOmega) ?_;rintro r8 h8 ⟨X8,p8⟩;simp -dsimp (disch:=omega) only[wpS,zE];refine call (nz (p6.ae (X7.trans X8).ae) p8 (qb4.mul qb1) (qb3.mul qb2) byOmega) ?_;rintro _ h9 ⟨X9,rfl⟩;by_cases c:dh (t.getD i 0)*kAt ll i j=dh (t.getD j 0)*kAt ll j i
   case neg =>
    obtain⟨z,hz,hz0⟩ : ∃z:Int,(if dh (t.getD i 0)*kAt ll i j<dh (t.getD j 0)*kAt ll j i then (-1:Int) else if dh (t.getD i 0)*kAt ll i j=dh (t.getD j 0)*kAt ll j i then 0 else 1)=z∧(z != 0)=true:=⟨_,rfl,by rw[ad c];split<;>rfl⟩;rw[hz,re,aY fun h:(0:Int)=0∧uP ll t=>c (DW.1 h.2 i j hi hj)];simp -dsimp (disch:=omega) only[wpS,zE,hz0];refine⟨aB (ai rfl rfl rfl rfl (au rfl (Lw H K0) (Lw h5 K5))) (aB (aA (ai rfl rfl rfl rfl (au rfl (Lu h6 K6) (Lu H K0))) (aA (ai rfl rfl rfl rfl (au rfl (Lu h6 K6) (Lu h5 K5))) (ai rfl rfl rfl rfl (au rfl (Lu h6 K6) (Lu h7 K7))))) (aB (aA (ai rfl rfl rfl rfl (au rfl (B1 h6 K6) (B1 H K0))) (ai rfl rfl rfl rfl (au rfl (B1 h6 K6) (B1 h5 K5)))) (aA (ai rfl rfl rfl rfl (au rfl (Lq h6 K6) (Lq H K0))) (ai rfl rfl rfl rfl (au rfl (Lq h6 K6) (Lq h5 K5)))))),?_⟩;simp -dsimp (disch:=omega) only[wpS,wpT,zE,zA];exact X03.trans ((E7.trans X8).trans X9)
   rw[c,ad Rat.lt_irrefl,ah rfl];simp -dsimp (disch:=omega) only[wpS,wpT,zE];refine⟨aB (ai rfl rfl rfl rfl (au rfl (Lw H K0) (Lw h5 K5))) (aB (aA (ai rfl rfl rfl rfl (au rfl (Lu h6 K6) (Lu H K0))) (aA (ai rfl rfl rfl rfl (au rfl (Lu h6 K6) (Lu h5 K5))) (ai rfl rfl rfl rfl (au rfl (Lu h6 K6) (Lu h7 K7))))) (aB (aA (ai rfl rfl rfl rfl (au rfl (B1 h6 K6) (B1 H K0))) (ai rfl rfl rfl rfl (au rfl (B1 h6 K6) (B1 h5 K5)))) (aA (ai rfl rfl rfl rfl (au rfl (Lq h6 K6) (Lq H K0))) (ai rfl rfl rfl rfl (au rfl (Lq h6 K6) (Lq h5 K5)))))),?_⟩;simp -dsimp (disch:=omega) only[wpS,wpT,zE,zA,f8];refine⟨m2 - 1,byOmega,j+1,byOmega,fun b hb=>?_,(E7.trans X8).trans X9,by simp[f0,f6,f7]⟩;by_cases e:b=j;·rw[e];exact c
   ·exact R2 b byOmega
  ·obtain rfl:j=ll.length:=byOmega;simp -dsimp (disch:=omega) only[wpS,wpT,zE,f7];refine⟨m - 1,byOmega,i+1,byOmega,fun a b ha hb=>?_,E,by simp[f0,f6]⟩;by_cases e:a=i
   ·rw[e];exact R2 b hb
   ·exact R a b byOmega hb
 ·obtain rfl:i=ll.length:=byOmega;rw[re,bf (⟨rfl,DW.2 R⟩:(0:Int)=0∧uP ll t)];simp -dsimp (disch:=omega) only[wpS,wpT,zE];exact X03.trans E
def Zci {p:Nat} (hp:p<W8) (ox oy:Operand):binop prog .neq 30 ox oy (wdV p) (.agg #[.int .u64 0,.int .u64 0,.int .u64 0,.int .u64 0,.int .u64 0,.int .u64 0,.int .u64 0,.int .u64 0])=some (.bool (decide (p≠0))) :=
 (N9 hp (kh (dT _) hp) ox oy).trans (by
  by_cases c:p=0;·rw[bf c,aY (fun h=>h c)];rfl
  ·rw[aY c,bf c];rfl)
open Classical in
def Jk {h:IH} {kv wv fv:Value} {ll:List (List (Nat×Nat))} {t:List Nat} {f:List (Nat×Nat)} {e:Nat×Nat} {n:Int} (hk:je h kv ll) (hw:mS h wv t) (hf:iS h fv f) (he:e.1<W8∧e.2<W8) (hn:gV n) :WV prog (.func (.func 183) #[] #[]) [kv,wv,fv,KI n,shV e.1 e.2] h fun r h'=>Ext h h'∧r=KI (sV ll t f e n):=by
 obtain⟨H0,hH0⟩:=bm (h.new (.cells (shC e.1 e.2) 0 none));have E0:Ext h H0:=by rw[hH0];exact(Ext.refl h).new _
 have n0:H0.n=h.n+1:=by rw[hH0];rfl
 have g9:H0.ext.get h.n=some (.cells (shC e.1 e.2) 0 none):=by rw[hH0];simp (disch:=omega) only[aq]
 obtain⟨_,_,hlen⟩:=hk.co;have si:=hf.1.len (P:=prog) tX;have Zde:=hw.1.len (P:=prog) AM;have tb:=hw.2.1;have fb:=hf.2.1;refine enter (nt:=82) (rs:=[.tmp 10]) Proofs.Tryz.func183 rfl rfl rfl aa ?_;simp -dsimp (disch:=omega) only[wpS,zE,zA,aU];rw[←hH0];clear hH0;refine call (VQ (hk.ae E0.ae) (hw.ae E0.ae)) ?_;rintro _ h1 ⟨X1,rfl⟩;have E1:=E0.trans X1;have g91:=X1.kept byOmega g9;unfold sV;by_cases e0:mK ll t=0
 case neg =>
  rw[ah e0,aY (fun h=>e0 h.1)];have d:(mK ll t != 0)=true:=by simpa using e0
  simp -dsimp (disch:=omega) only[wpS,wpT,zE,d];exact E1
 rw[ad (fun h=>h e0),e0];have db:(decide ((0:Int)=0∧uP ll t))=decide (uP ll t):=xN.2 ⟨fun h=>h.2,fun h=>⟨rfl,h⟩⟩;rw[db];clear db;simp -dsimp (disch:=omega) only[wpS,wpT,zE];refine loop (fun m fr H => ∃i:Nat,i+m=t.length∧H=h1∧aj fr 0=some kv∧aj fr 1=some wv∧aj fr 2=some fv∧aj fr 3=some (KI n)∧aj fr 9=some (ptr (2*h.n) 0)∧aj fr 11=some (.bool (decide (uP ll t)))∧aj fr 13=some (.bool ((t.take i).all fun p=>decide (p=0)))∧aj fr 14=some (KN i)) t.length
  ⟨0,byOmega,rfl,aa⟩ ?_
 rintro m fr H ⟨i,him,rfl,f0,f1,f2,f3,f9,f11,f13,f14⟩;simp -dsimp (disch:=omega) only[wpS,zE,f1,f14,Zde];refine az ?_ ?_<;>intro hc<;>simp only[aJ,aV] at hc
 ·have hi:i<t.length:=byOmega;obtain⟨p,hp⟩:=fJ (l:=t) (i:=i) hi;have wp:=hw.2.2 p (bN hp);have ix:=hw.1.idx Kk (P:=prog) (k:=.i64) hi;have ld:=hw.ld E1.ae hp;have tk:=fE hp;simp -dsimp (disch:=omega) only[wpS,wpT,zE,Gj,f1,f14,ix,ld,Zci wp];by_cases c:p=0
  ·rw[aY (fun h=>h c)];have d:((t.take i).all fun p=>decide (p=0))=(t.take (i+1)).all fun p=>decide (p=0):=by rw[tk,List.all_append];simp[c]
   rw[d] at f13;simp -dsimp (disch:=omega) only[wpS,zE,f14];exact⟨m - 1,byOmega,i+1,byOmega,rfl,by simp[f0,f1,f2,f3,f9,f11,f13]⟩
  ·rw[bf c];have d:((t.take (i+1)).all fun p=>decide (p=0))=false:=by rw[tk,List.all_append];simp[c]
   simp -dsimp (disch:=omega) only[wpS,zE,f14];exact⟨m - 1,byOmega,i+1,byOmega,rfl,by simp[f0,f1,f2,f3,f9,f11,d]⟩
 obtain rfl:i=t.length:=byOmega;rw[tH] at f13;clear f14 hc;by_cases hz : ∃p∈t,p≠0
 case neg =>
  have d:(t.all fun p=>decide (p=0))=true:=gG.2 fun p hp=>bf (dW fun c=>hz ⟨p,hp,c⟩);rw[d] at f13;rw[ah hz];simp -dsimp (disch:=omega) only[wpS,wpT,zE,f13];exact E1
 have d:(t.all fun p=>decide (p=0))=false:=List.all_eq_false.2 (hz.elim fun p k=>⟨p,k.1,by simp[k.2]⟩);rw[d] at f13;rw[ad (fun h=>h hz)];clear d;by_cases hb:uP ll t
 case neg =>
  rw[ah hb];rw[aY hb] at f11;simp -dsimp (disch:=omega) only[wpS,wpT,zE,f13,f11];exact E1
 rw[ad (fun h=>h hb)];rw[bf hb] at f11;simp -dsimp (disch:=omega) only[wpS,wpT,zE,f13,f11];refine loop (fun m fr H' => ∃i:Nat,i+m=f.length∧Ext H H'∧(∀p∈f.take i,okS p.1 p.2)∧aj fr 0=some kv∧aj fr 2=some fv∧aj fr 3=some (KI n)∧aj fr 9=some (ptr (2*h.n) 0)∧aj fr 15=some (KN i)) f.length
  ⟨0,byOmega,Ext.refl _,by simp[f0,f2,f3,f9]⟩ ?_
 clear f0 f1 f2 f3 f9 f11 f13;rintro m fr h2 ⟨i,him,X2,R,f0,f2,f3,f9,f15⟩;have E2:=E1.trans X2;have m2:=X1.n;simp -dsimp (disch:=omega) only[wpS,zE,f2,f15,si];refine az ?_ ?_<;>intro hc<;>simp only[aJ,aV] at hc
 ·have hi:i<f.length:=byOmega
  obtain⟨p,hp⟩:=fJ (l:=f) (i:=i) hi;have hpm:=bN hp;have wp:=hf.2.2 p hpm;have ix:=hf.1.idx qU (P:=prog) (k:=.i64) hi;have ld:=hf.ld E2.ae hp;have tk:=fE hp;simp -dsimp (disch:=omega) only[wpS,wpT,zE,f2,f15,ix,ld];refine call (vD p.1 p.2 wp.1 wp.2) ?_;rintro _ h3 ⟨X3,rfl⟩;by_cases ok:okS p.1 p.2
  case neg =>
   rw[aY ok,ah ⟨p,List.mem_append_left _ hpm,ok⟩];simp -dsimp (disch:=omega) only[wpS,wpT,zE];exact E2.trans X3
  rw[bf ok];simp -dsimp (disch:=omega) only[wpS,wpT,zE,f15];refine⟨m - 1,byOmega,i+1,byOmega,X2.trans X3,?_,by simp[f0,f2,f3,f9]⟩;rw[tk];intro q hq;rcases eE.1 hq with h|h;·exact R q h
  ·rw[iD.1 h];exact ok
 obtain rfl:i=f.length:=byOmega;rw[tH] at R;clear f15 hc;have g92:=X2.kept byOmega g91;simp -dsimp (disch:=omega) only[wpS,wpT,zE,zL,dX,f9,aw g92,aC,bF];refine call (vD e.1 e.2 he.1 he.2) ?_;rintro _ h3 ⟨X3,rfl⟩;have E3:=E2.trans X3;have m3:=X2.n;have g93:=X3.kept byOmega g92;by_cases ok:okS e.1 e.2
 case neg =>
  rw[aY ok,ah ⟨e,aa,ok⟩];simp -dsimp (disch:=omega) only[wpS,wpT,zE];exact E3
 rw[bf ok,ad (fun h=>h.elim fun p k=>(eE.1 k.1).elim (fun h=>k.2 (R p h)) (fun h=>k.2 (by rw[iD.1 h];exact ok)))];simp -dsimp (disch:=omega) only[wpS,wpT,zE,zL,dX,f9,aw g93,aC,bF];refine call (lz e.1 e.2 he.1 he.2) ?_;rintro r6 h6 ⟨X6,p6⟩;have p6:=AT ok p6;obtain⟨a,s,b,u,rfl,hn1,hd1,d1,o1,d2,o2,o3,o4⟩:=p6.parts;obtain⟨_,hna,_⟩:=id hn1;obtain rfl:a=.bool (decide ((rOf e).num<0)):=by cases hna;rfl
 clear hna;simp -dsimp (disch:=omega) only[wpS,wpT,zE,zL,zA,jF,fS,o1,o2,o3,o4];obtain⟨H7,hH7⟩:=bm ((h6.new (.cells ZR 0 none)).put h6.n (.cells [.bool (decide ((rOf e).num<0)),s,b,u] 0 none));have F7:Ext h6 H7:=by rw[hH7];exact((Ext.refl h6).new _).put (ar _) _
 have n7:H7.n=h6.n+1:=by rw[hH7];rfl
 have g7:H7.ext.get h6.n=some (.cells [.bool (decide ((rOf e).num<0)),s,b,u] 0 none):=by rw[hH7];simp (disch:=omega) only[ak]
 rw[←hH7];clear hH7;have p7:=p6.ae F7.ae;have E7:=(E3.trans X6).trans F7;have X0:=Ext.refl H7;obtain⟨L1,_,L3⟩:=ql4 g7;refine drawn [(11,[13])] ab ab rfl ?_;have hng:(rOf e).num<0↔rOf e<0:=by rw[←Int.not_le,←Rat.not_le,tC]
 by_cases c1:f.length=ll.length
 case neg =>
  have d1:(((f.length:Nat):Int) != ((ll.length:Nat):Int))=true:=by simpa using fun h=>c1 byOmega
  rw[ah (.inl c1)];simp -dsimp (disch:=omega) only[wpS,wpT,zE,f0,f2,si,hlen,d1];refine⟨by repeat' first|refine aB ?_ ?_|refine aA ?_ ?_|exact gI rfl rfl rfl|exact ai rfl rfl rfl rfl (aO (H0:=H7) rfl byOmega aG aG cS)|exact ai rfl rfl rfl rfl (gw rfl rfl rfl (si _) (si _))|exact ai rfl rfl rfl rfl (gw rfl rfl rfl (hlen _) (hlen _)),?_⟩;simp -dsimp (disch:=omega) only[wpS,wpT,zE,zA];exact E7
 have d1:(((f.length:Nat):Int) != ((ll.length:Nat):Int))=false:=by simp[c1]
 by_cases c2:rOf e<0
 ·have dn:decide ((rOf e).num<0)=true:=bf (hng.2 c2);rw[ah (.inr (.inl c2))];simp -dsimp (disch:=omega) only[wpS,wpT,zE,j0,fM,ld4,f0,f2,si,hlen,d1,aw g7,dn];refine⟨by repeat' first|refine aB ?_ ?_|refine aA ?_ ?_|exact gI rfl rfl rfl|exact ai rfl rfl rfl rfl (aO (H0:=H7) rfl byOmega aG aG cS)|exact ai rfl rfl rfl rfl (gw rfl rfl rfl (si _) (si _))|exact ai rfl rfl rfl rfl (gw rfl rfl rfl (hlen _) (hlen _)),?_⟩;simp -dsimp (disch:=omega) only[wpS,wpT,zE,zA];exact E7
 have dn:decide ((rOf e).num<0)=false:=aY fun h=>c2 (hng.1 h);rw[dn] at p7 g7;simp -dsimp (disch:=omega) only[wpS,wpT,zE,zL,zA,j0,fM,ld4,fU,f0,f2,si,hlen,d1,aw g7,fm,dn];refine call (lC 1 1 ⟨byOmega,byOmega⟩ ⟨byOmega,byOmega⟩ byOmega) ?_;rintro r8 h8 ⟨X8,p8⟩;have m8:=X8.n;simp -dsimp (disch:=omega) only[wpS,wpT,zE];have q1:QB 1 (Rat.divInt 1 1):=QB.divInt aP aP aP;refine call (nz (p7.ae X8.ae) p8 (jY he.1 he.2 ok) q1 byOmega) ?_;rintro _ h9 ⟨X9,rfl⟩;have m9:=X9.n;have E9:=(E7.trans X8).trans X9;have X79:=X8.trans X9;obtain⟨z2,hz2,Zdk⟩:=Zd3 (rOf e) (Rat.divInt 1 1);rw[show Rat.divInt 1 1=(1:Rat) from uS (1:Rat)] at Zdk;rw[hz2];by_cases c3:1<rOf e
 ·have d3:decide (0<z2)=true:=bf (Zdk.2 c3);rw[ah (.inr (.inr (.inl c3)))];simp -dsimp (disch:=omega) only[wpS,wpT,zE,d3];refine⟨by repeat' first|refine aB ?_ ?_|refine aA ?_ ?_|exact gI rfl rfl rfl|exact ai rfl rfl rfl rfl (aO (H0:=H7) rfl byOmega aG aG cS)|exact ai rfl rfl rfl rfl (gw rfl rfl rfl (si _) (si _))|exact ai rfl rfl rfl rfl (gw rfl rfl rfl (hlen _) (hlen _)),?_⟩;simp -dsimp (disch:=omega) only[wpS,wpT,zE,zA];exact E9
 have d3:decide (0<z2)=false:=aY fun h=>c3 (Zdk.1 h);by_cases c4:n<0
 ·have d4:decide (n<0)=true:=bf c4;rw[ah (.inr (.inr (.inr (.inl c4))))];simp -dsimp (disch:=omega) only[wpS,wpT,zE,d3,d4,f3];refine⟨by repeat' first|refine aB ?_ ?_|refine aA ?_ ?_|exact gI rfl rfl rfl|exact ai rfl rfl rfl rfl (aO (H0:=H7) rfl byOmega aG aG cS)|exact ai rfl rfl rfl rfl (gw rfl rfl rfl (si _) (si _))|exact ai rfl rfl rfl rfl (gw rfl rfl rfl (hlen _) (hlen _)),?_⟩;simp -dsimp (disch:=omega) only[wpS,wpT,zE,zA];exact E9
 have d4:decide (n<0)=false:=aY c4;by_cases c5:20<n
 ·have d5:decide (20<n)=true:=bf c5;rw[ah (.inr (.inr (.inr (.inr c5))))];simp -dsimp (disch:=omega) only[wpS,wpT,zE,d3,d4,d5,f3];refine⟨by repeat' first|refine aB ?_ ?_|refine aA ?_ ?_|exact gI rfl rfl rfl|exact ai rfl rfl rfl rfl (aO (H0:=H7) rfl byOmega aG aG cS)|exact ai rfl rfl rfl rfl (gw rfl rfl rfl (si _) (si _))|exact ai rfl rfl rfl rfl (gw rfl rfl rfl (hlen _) (hlen _)),?_⟩;simp -dsimp (disch:=omega) only[wpS,wpT,zE,zA];exact E9
 have d5:decide (20<n)=false:=aY c5
 rw[ad (fun h=>by
  rcases h with h|h|h|h|h;·exact h c1
  ·exact c2 h
  ·exact c3 h
  ·exact c4 h
  ·exact c5 h)]
 simp -dsimp (disch:=omega) only[wpS,wpT,zE,d3,d4,d5,f3];refine⟨by repeat' first|refine aB ?_ ?_|refine aA ?_ ?_|exact gI rfl rfl rfl|exact ai rfl rfl rfl rfl (aO (H0:=H7) rfl byOmega aG aG cS)|exact ai rfl rfl rfl rfl (gw rfl rfl rfl (si _) (si _))|exact ai rfl rfl rfl rfl (gw rfl rfl rfl (hlen _) (hlen _)),?_⟩;simp -dsimp (disch:=omega) only[wpS,wpT,zE,zA];exact E9

def ZF {a b:Nat} (h:a≤b):(2:Nat) ^ a≤2 ^ b:=fQ byOmega h
def ZbL {h:IH} {v:Value} {z:Int} (d:bU h v z) (h0:0≤z) : ∃s,v=.agg #[.bool false,s]∧s.cells = #[s]∧aM s=true:=by obtain⟨s,h1,h2,h3⟩:=d.dJ;rw[aY byOmega] at h1;exact⟨s,h1,h2,h3⟩
structure WB (h hh:IH) (b7 b9 b10:Nat) (s7 s9 s10:Value) (n k:Nat):Prop where
 e:Ext h hh
 l7:h.n+1+1+1+1≤b7
 l9:b7<b9
 l10:b9<b10
 lt:b10<hh.n
 g4:hh.ext.get (h.n+1+1)=some (.cells [ZW,ZW,ZW,ZW,ZW,ZW,ZW,ZW] 0 none)
 g5:hh.ext.get (h.n+1+1+1)=some (.cells [.int .u64 0] 0 none)
 g7:hh.ext.get b7=some (.cells [.bool false,s7] 0 none)
 g9:hh.ext.get b9=some (.cells [.bool false,s9] 0 none)
 g10:hh.ext.get b10=some (.cells [.bool false,s10] 0 none)
 p7:bU hh (.agg #[.bool false,s7]) ((n:Nat):Int)
 p9:bU hh (.agg #[.bool false,s9]) ((2 ^ 64:Nat):Int)
 p10:bU hh (.agg #[.bool false,s10]) ((2 ^ k:Nat):Int)
structure FW (fr:Fr) (h:IH) (b7 b9 b10 k:Nat):Prop where
 f2:aj fr 2=some (ptr (2*h.n) 0)
 f4:aj fr 4=some (ptr (2*(h.n+1+1)) 0)
 f5:aj fr 5=some (ptr (2*(h.n+1+1+1)) 0)
 f7:aj fr 7=some (ptr (2*b7) 0)
 f8:aj fr 8=some (KN k)
 f9:aj fr 9=some (ptr (2*b9) 0)
 f10:aj fr 10=some (ptr (2*b10) 0)
def ql2n {H:IH} {k:Nat} {s:Value} (g:H.ext.get k=some (.cells [.bool false,s] 0 none)):load Proofs.Tryz.prog H 175 (ptr (2*k) 0)=some (.agg #[.bool false,s]):=ql2 g
end Go.Id
