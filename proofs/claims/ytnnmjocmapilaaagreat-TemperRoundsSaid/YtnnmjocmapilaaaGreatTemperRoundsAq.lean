/-
  Contracts: reference 34: within, Check, Targets, Chance.
-/
import Derived.Test.YtnnmjocmapilaaaGreatTemperRoundsAp
set_option linter.unusedVariables false
set_option linter.unusedSimpArgs false
set_option linter.defProp false
set_option linter.deprecated false
namespace Go.Id
open Go
open Go renaming Operand→QY,Program→QX,TypeId→QZ,Value→QQ
open Nat renaming reduceAdd→zA,reduceEqDiff→zE,reduceLeDiff→zL
open Nat (reduceMul)
set_option maxHeartbeats 16000000
open Go.Proofs.Tryz (prog)
section
variable {h:IH}{v:QQ}{l:List Int}
def xC {most:Int} (hv:fF h v l) :WV prog (.func (.func 55) #[] #[]) [v,KI most] h fun r h'=>h'=h∧r=.bool (!(l.any (ns most))):=by
 have el:=hv.1.len (P:=prog) dY;have lb:=hv.2.1;refine enter (nt:=25) (rs:=[.tmp 4]) Proofs.Tryz.func55 rfl rfl rfl ab ?_;simp -dsimp (disch:=try exact dx) only[wpS,zA];refine loop (fun m fr hh => ∃i:Nat,i+m=l.length∧hh=h∧(∀(j:Nat) y,j<i→l[j]?=some y→ns most y=false)∧ax fr 0=some v∧ax fr 1=some (KI most)∧ax fr 5=some (KN i)) l.length ⟨0,aa,rfl,fun j y hj=>aa,ab,ab,ab⟩ ?_;rintro m fr hh ⟨i,him,rfl,hok,f0,f1,f5⟩;simp -dsimp (disch:=try exact dx) only[wpS,zE,f0,f5,el];refine aG ?_ ?_<;>intro hc<;>simp only[aS,aV] at hc
 ·have hi:i<l.length:=aa;obtain⟨x,hx⟩ : ∃x,l[i]?=some x:=⟨_,aK hi⟩;have xm:=bh hx;have ld:=fc hv (bj.refl _) hx;have ix:=hv.1.idx (P:=prog) (k:=.i64) gl hi;cases ho:ns most x with
  | true =>
   have ha:l.any (ns most)=true:=List.any_eq_true.2 ⟨x,xm,ho⟩;rw[ha];unfold ns at ho;by_cases c1:x<0
   ·have d1:decide (x<0)=true:=ct c1
    simp -dsimp (disch:=try exact dx) only[wpS,wpT,zE,f0,f5,ix,ld,d1]
   ·have d1:decide (x<0)=false:=bF c1
    have d2:decide (most<x)=true:=by simpa [d1] using ho
    simp -dsimp (disch:=try exact dx) only[wpS,wpT,zE,f0,f1,f5,ix,ld,d1,d2]
  | false =>
   have h2:=ho;unfold ns at h2;have d1:decide (x<0)=false:=by cases c:decide (x<0)<;>simp[c] at h2 ⊢
   have d2:decide (most<x)=false:=by simpa [d1] using h2
   simp -dsimp (disch:=try exact dx) only[wpS,wpT,zE,f0,f1,f5,ix,ld,d1,d2];refine⟨m - 1,aa,i+1,aa,rfl,?_,by simp[f0],by simp[f1],ab⟩;intro j y hj hy;by_cases hji:j=i;·subst hji;rw[hx] at hy;cases hy;exact ho
   ·exact hok j y aa hy
 ·have ha:l.any (ns most)=false:=by refine List.any_eq_false.2 fun y hy=>?_;obtain⟨j,hj⟩:=gH hy;have:=(bU.1 hj).1;rw[hok j y aa hj];decide
  rw[ha];simp -dsimp (disch:=try exact dx) only[wpS,wpT]
variable {w:QQ}{s:List Int}
def tm (hv:fF h v s) (hw:fF h w l) :WV prog (.func (.func 53) #[] #[]) [v,w] h fun r h'=>h'=h∧r=KI (jO s l):=by
 unfold jO;have e1:=hv.1.len (P:=prog) dY;have e2:=hw.1.len (P:=prog) dY;have b1:=hv.2.1;have b2:=hw.2.1;refine enter (nt:=33) (rs:=[.tmp 4]) Proofs.Tryz.func53 rfl rfl rfl ab ?_;by_cases a1:s.length<1
 ·rw[aq (.inl a1)];simp -dsimp (disch:=try exact dx) only[wpS,wpT,zE,zA,e1]
 by_cases a2:60<s.length
 ·rw[aq (.inr (.inl a2))];simp -dsimp (disch:=try exact dx) only[wpS,wpT,zE,zA,e1]
 simp -dsimp (disch:=try exact dx) only[wpS,wpT,zE,zA,e1];refine call (xC hv) ?_;rintro _ _ ⟨rfl,rfl⟩;cases c3:s.any (ns 30)
 case true =>
  rw[aq (.inr (.inr (.inl rfl)))];simp -dsimp (disch:=try exact dx) only[wpS,wpT,zE]
 by_cases a4:l.length<1
 ·rw[aq (.inr (.inr (.inr (.inl a4))))];simp -dsimp (disch:=try exact dx) only[wpS,wpT,zE,e2]
 by_cases a5:6<l.length
 ·rw[aq (.inr (.inr (.inr (.inr (.inl a5)))))];simp -dsimp (disch:=try exact dx) only[wpS,wpT,zE,e2]
 simp -dsimp (disch:=try exact dx) only[wpS,wpT,zE,e2];refine call (xC hw) ?_;rintro _ _ ⟨rfl,rfl⟩;cases c6:l.any (ns 8)
 case true =>
  rw[aq (.inr (.inr (.inr (.inr (.inr rfl)))))];simp -dsimp (disch:=try exact dx) only[wpS,wpT,zE]
 rw[ah (by rintro(h|h|h|h|h|h)<;>first|omega|cases h)];simp -dsimp (disch:=try exact dx) only[wpS,wpT,zE]
def vI (h:IH):bP h (.agg #[.bool false,.slice none 0 0]) 0:=⟨.slice none 0 0,rfl,JH⟩
def KP:bQ 0:=(bE (x:=(0:Int).natAbs) (k:=1) aC aa:jd 0).small
def uE (n:Nat) (hn:n<W8):WV prog (.func (.func 140) #[] #[]) [wdV n] h fun r h'=>Ext h h'∧r=KI (if wdI n<0 then -1 else if 0<wdI n then 1 else 0):=by have E1:Ext h (h.new (.cells (wdC n) 0 none)):=(Ext.refl h).new _;refine enter (nt:=7) (rs:=[.tmp 2]) Proofs.Tryz.func140 rfl rfl rfl ab ?_;simp -dsimp (disch:=try exact dx) only[wpS,zE,zL,bY,bA,aD,aY];refine call (lT n hn) ?_;rintro r1 h1 ⟨X1,p1⟩;simp -dsimp (disch:=try exact dx) only[wpS,wpT,zE,nA];refine call (nZ p1 (vI h1) (uu hn).small KP) ?_;rintro _ h2 ⟨X2,rfl⟩;simp -dsimp (disch:=try exact dx) only[wpS,wpT,zE];exact(E1.trans X1).trans X2
def nT {k:Nat} (hv:bP h v 2) (hk:k≤4000) :WV prog (.func (.func 144) #[] #[]) [v,KN k] h fun r h'=>Ext h h'∧bP h' r ((2 ^ k:Nat):Int):=by
 obtain⟨s,n,rfl,c1,o1,_,_⟩:=hv.form;obtain⟨b1,hb1⟩ : ∃b,b=decide ((2:Int)<0):=⟨_,rfl⟩;rw[←hb1] at hv ⊢;have E1:Ext h ((h.new (.cells [.bool b1,s] 0 none)).new (.cells [.bool false,.slice none 0 0] 0 none)):=((Ext.refl h).new _).new _;refine enter (nt:=17) (rs:=[.cell 4 175]) Proofs.Tryz.func144 rfl rfl rfl ab ?_;simp -dsimp (disch:=try exact dx) only[wpS,zE,zA,ff];refine call (fY 1 ⟨aa,aa⟩) ?_;rintro _ h1 ⟨X1,p1⟩;obtain⟨s1,n1,rfl,c3,o3,_,_⟩:=p1.form;have m1:=X1.n;simp only[aH] at m1;have k0:h1.ext.get h.n=some (.cells [.bool b1,s] 0 none):=X1.kept aT (by simp (disch:=try exact dx) only[ar,aE]);have k1:h1.ext.get (h.n+1)=some (.cells [.bool false,.slice none 0 0] 0 none):=X1.kept ab (by simp (disch:=try exact dx) only[ar]);simp -dsimp (disch:=try exact dx) only[wpS,wpT,zE,zL,zA,ff,cZ,o3];have E2:Ext h1 ((h1.new (.cells [.bool false,.slice none 0 0] 0 none)).put h1.n (.cells [.bool false,s1] 0 none)):=((Ext.refl h1).new _).put (aA _) _;have EE:=(E1.trans X1).trans E2;refine loop (fun m fr hh => ∃(i:Nat) (b:Bool) (t:QQ),i+m=k∧Ext h hh∧h1.n<hh.n∧hh.ext.get h.n=some (.cells [.bool b1,s] 0 none)∧hh.ext.get (h.n+1)=some (.cells [.bool false,.slice none 0 0] 0 none)∧hh.ext.get h1.n=some (.cells [.bool b,t] 0 none)∧bP hh (.agg #[.bool b,t]) ((2 ^ i:Nat):Int)∧ax fr 1=some (KN k)∧ax fr 2=some (ptr (2*h.n) 0)∧ax fr 4=some (ptr (2*(h.n+1)) 0)∧ax fr 5=some (ptr (2*h1.n) 0)∧ax fr 6=some (KN i)) k ⟨0,false,s1,aa,EE,ab,E2.kept aa k0,E2.kept aa k1,by simp (disch:=try exact dx) only[aj],p1.ai E2.ai,ab,ab,ab,ab,ab⟩ ?_;rintro m fr hh ⟨i,b,t,him,hE,hn,g0,g1,g5,pt,f1,f2,f4,f5,f6⟩;have hnn:=hE.n;simp -dsimp (disch:=try exact dx) only[wpS,zE,f1,f6];refine aG ?_ ?_<;>intro hc<;>simp only[aS,aV] at hc
 ·simp -dsimp (disch:=try exact dx) only[wpS,wpT,zE,zL,zA,cj,f2,f5,ay g0,ay g5];refine call (gP pt (hv.ai hE.ai) (kO aa) (kO (i:=1) aa)) ?_;rintro _ h2 ⟨X2,p2⟩;have m2:=X2.n;have e2:((2 ^ i:Nat):Int)*2=((2 ^ (i+1):Nat):Int):=by rw[eH];omega
  rw[e2] at p2;obtain⟨t2,n2,rfl,c4,o4,_,_⟩:=p2.form;have gk:=X2.kept aa g5;simp -dsimp (disch:=try exact dx) only[wpS,wpT,zE,zL,zA,cZ,f5,f6,gk,o4];exact⟨m - 1,aa,i+1,_,t2,aa,(hE.trans X2).put aa _,aT,by rw[au _ _ aa];exact X2.kept aa g0,by rw[au _ _ aa];exact X2.kept aa g1,by simp (disch:=try exact dx) only[aj],p2.ai ((bj.refl _).put gk _),by simp[f1],by simp[f2],by simp[f4],by simp[f5],ab⟩
 ·obtain rfl:i=k:=aa;obtain⟨_,c5,o5⟩:=pt.co;simp -dsimp (disch:=try exact dx) only[wpS,wpT,zE,zL,zA,cZ,cj,f4,f5,ay g5,g1,o5,mI];exact⟨hE.put aa _,pt.ai ((bj.refl _).put g1 _)⟩
def mxI (s:List Int):Nat→Int
 | 0=>0
 | i+1=>if mxI s i<s.getD i 0 then s.getD i 0 else mxI s i
theorem Ul (h0 : ∀x∈s,0≤x) (hn:s ≠ []):mxI s s.length=lO s:=by
 have a : ∀i,i≤s.length→(mxI s i=0∨mxI s i∈s) ∧ ∀(j:Nat) x,j<i→s[j]?=some x→x≤mxI s i:=by
  intro i
  induction i with
  | zero=>exact fun _=>⟨.inl rfl,fun j x hj=>aa⟩
  | succ i ih =>
   intro hi
   obtain⟨i1,i2⟩:=ih aa;obtain⟨y,hy⟩ : ∃y,s[i]?=some y:=⟨_,aK aa⟩;have gy:s.getD i 0=y:=by rw[bH,hy];rfl
   rw[mxI,gy];by_cases c:mxI s i<y
   ·rw[aq c];refine⟨.inr (bh hy),fun j x hj hx=>?_⟩;by_cases hji:j=i
    ·subst hji;rw[hy] at hx;cases hx;exact Int.le_refl _
    ·have:=i2 j x aa hx;omega
   ·rw[ah c];refine⟨i1,fun j x hj hx=>?_⟩;by_cases hji:j=i
    ·subst hji;rw[hy] at hx;cases hx;omega
    ·exact i2 j x aa hx
 obtain⟨a1,a2⟩:=a s.length (aA _);have m:=yM s hn;obtain⟨j,hj⟩:=gH m;have b1:=a2 j _ (bU.1 hj).1 hj;have b2:=h0 _ m;rcases a1 with a1|a1;·omega
 ·have:=Hf s _ a1;omega
open Classical in
def GX {ws:List Nat} {level:Int} (hw:iQ h w ws) (hv:fF h v s) (hl:fS level) :WV prog (.func (.func 135) #[] #[]) [w,v,KI level] h fun r h'=>Ext h h' ∧ ∃out,r=.tuple #[out,KI (mT ws s level)]∧(mT ws s level=0→iQ h' out (mK (mJ s level) ws ws.length))∧(mT ws s level≠0→out=.slice none 0 0):=by
 unfold mT;have el:=hv.1.len (P:=prog) dY;have ew:=hw.1.len (P:=prog) rJ;have lw:=hw.2.1;refine enter (nt:=81) (rs:=[.tmp 6,.tmp 7]) Proofs.Tryz.func135 rfl rfl rfl ab ?_;simp -dsimp (disch:=try exact dx) only[wpS,wpT,zE,zL,zA,kS];have E1:Ext h (h.new (.cells [KI level] 1 none)):=(Ext.refl h).new _;refine call (tm (hv.ai E1.ai) (C8 h level hl)) ?_;rintro _ _ ⟨rfl,rfl⟩;obtain⟨H0,hH0⟩ : ∃H0,H0=h.new (.cells [KI level] 1 none):=⟨_,rfl⟩;rw[←hH0] at E1 ⊢;clear hH0;rcases pU s [level] with c0|c0
 case inr =>
  rw[c0,aq aC];simp -dsimp (disch:=try exact dx) only[wpS,wpT,zE];exact⟨E1,_,rfl,fun h=>absurd h aC,fun _=>rfl⟩
 obtain⟨⟨s1,s2,s3⟩,_,_,l3⟩:=kN c0;have lb:=l3 level ab;rw[c0,ah aC];by_cases c1:ws.length≠s.length
 ·rw[aq (.inl c1)];have d:(((ws.length:Nat):Int) != ((s.length:Nat):Int))=true:=by simpa using fun h=>c1 aa
  simp -dsimp (disch:=try exact dx) only[wpS,wpT,zE,el,ew,d];exact⟨E1,_,rfl,fun h=>absurd h aC,fun _=>rfl⟩
 have c1:ws.length=s.length:=aa;have d1:(((ws.length:Nat):Int) != ((s.length:Nat):Int))=false:=by simp[c1]
 simp -dsimp (disch:=try exact dx) only[wpS,wpT,zE,el,ew,d1];refine loop (fun m fr hh => ∃i:Nat,i+m=ws.length∧Ext h hh∧(∀(j:Nat) p,j<i→ws[j]?=some p→1≤wdI p)∧ax fr 0=some w∧ax fr 1=some v∧ax fr 2=some (KI level)∧ax fr 9=some (KI (mxI s i))∧ax fr 10=some (KN i)) ws.length
  ⟨0,aa,E1,fun j p hj=>aa,ab,ab,ab,by simp[mxI],ab⟩ ?_
 rintro m fr hh ⟨i,him,hE,hok,f0,f1,f2,f9,f10⟩;simp -dsimp (disch:=try exact dx) only[wpS,zE,f0,f10,ew];refine aG ?_ ?_<;>intro hc<;>simp only[aS,aV] at hc
 ·have hi:i<ws.length:=aa;obtain⟨p,hp⟩ : ∃p,ws[i]?=some p:=⟨_,aK hi⟩;have pm:=bh hp;have pw:=hw.2.2 p pm;obtain⟨x,hx⟩ : ∃x,s[i]?=some x:=⟨_,aK aa⟩;have gx:s.getD i 0=x:=by rw[bH,hx];rfl
  have em:mxI s (i+1)=if mxI s i<x then x else mxI s i:=by rw[mxI,gx]
  simp -dsimp (disch:=try exact dx) only[wpS,wpT,zE,f0,f10,hw.1.idx qE hi,hw.ld hE.ai hp];refine call (uE p pw) ?_;rintro _ h2 ⟨X2,rfl⟩;by_cases cp:wdI p<1
  ·have hnp : ¬tP ws:=fun ha=>by have:=ha p pm;omega
   have E2:=hE.trans X2;by_cases cn:wdI p<0
   ·rw[aq cn,aq (Or.inr hnp:ws.length≠s.length ∨ ¬tP ws)];simp -dsimp (disch:=try exact dx) only[wpS,wpT,zE];exact⟨E2,_,rfl,fun h=>absurd h aC,fun _=>rfl⟩
   ·rw[ah cn,ah (show ¬0<wdI p by omega),aq (Or.inr hnp:ws.length≠s.length ∨ ¬tP ws)];simp -dsimp (disch:=try exact dx) only[wpS,wpT,zE];exact⟨E2,_,rfl,fun h=>absurd h aC,fun _=>rfl⟩
  ·rw[ah (show ¬wdI p<0 by omega),aq (show 0<wdI p by omega)];simp -dsimp (disch:=try exact dx) only[wpS,wpT,zE,f1,f9,f10,hv.1.idx gl (show i<s.length by omega),fc hv (hE.trans X2).ai hx,WT];refine⟨m - 1,aa,i+1,aa,hE.trans X2,?_,by simp[f0],by simp[f1],by simp[f2],by simp[em],ab⟩;intro j q hj hq;by_cases hji:j=i
   ·subst hji;rw[hp] at hq;cases hq;omega
   ·exact hok j q aa hq
 have hil:i=ws.length:=aa;have v9:tP ws:=fun p pm=>by obtain⟨j,hj⟩:=gH pm;exact hok j p (by have:=(bU.1 hj).1;omega) hj
 have f9:ax fr 9=some (KI (lO s)):=by rw[f9,hil,c1,Ul (fun x hx=>(s3 x hx).1) (fun h=>by rw[h] at s1;simp at s1)]
 rw[ah (show ¬(ws.length≠s.length ∨ ¬tP ws) by rintro(h|h);exact h c1;exact h v9)];have mx:0≤lO s∧lO s≤30:=s3 _ (yM s fun h=>by rw[h] at s1;simp at s1);clear hok hc him hil f10;simp -dsimp (disch:=try exact dx) only[wpS];obtain⟨z,hz⟩ : ∃z,z=mJ s level:=⟨_,rfl⟩;rw[←hz];refine loop (fun m fr hh => ∃(i:Nat) (out:QQ),i+m=ws.length∧Ext h hh∧Acc hh h.n 8 out (mK z ws i).length (wiL (mK z ws i))∧LX z ws i∧ax fr 0=some w∧ax fr 1=some v∧ax fr 2=some (KI level)∧ax fr 9=some (KI (lO s))∧ax fr 11=some out∧ax fr 12=some (KN i)) ws.length
  ⟨0,.slice none 0 0,aa,hE,Acc.nil _ _ (by have:=hE.n;omega),fun j hj=>aa,by simp[f0],by simp[f1],by simp[f2],by simp[f9],ab,ab⟩ ?_
 rintro m fr hh ⟨i,out,him,hE,hA,xP,f0,f1,f2,f9,f11,f12⟩;have hnn:=hE.n;simp -dsimp (disch:=try exact dx) only[wpS,zE,f0,f12,ew];refine aG ?_ ?_<;>intro hc<;>simp only[aS,aV] at hc
 ·have hi:i<ws.length:=aa;obtain⟨p,hp⟩ : ∃p,ws[i]?=some p:=⟨_,aK hi⟩;have pw:=hw.2.2 p (bh hp);have gp:ws.getD i 0=p:=by rw[bH,hp];rfl
  have his:i<s.length:=aa;obtain⟨x,hx⟩ : ∃x,s[i]?=some x:=⟨_,aK his⟩;have gx:s.getD i 0=x:=by rw[bH,hx];rfl
  have xm:=bh hx;have xb:=s3 x xm;have xl:=Hf s x xm;have y0:0≤lO s - x∧lO s - x≤30:=aa;have hp0:0≤(lO s - x)*level:=Int.mul_nonneg y0.1 lb.1;have hp1:(lO s - x)*level≤30*8:=Int.mul_le_mul y0.2 lb.2 lb.1 aa;obtain⟨k,hk⟩ : ∃k:Nat,(lO s - x)*level=(k:Int):=⟨((lO s - x)*level).toNat,aa⟩;have et:z i p=wdI p*((2 ^ k:Nat):Int):=by rw[hz];unfold mJ tgt;rw[gx,hk,iv]
  have kb:k≤240:=aa;simp -dsimp (disch:=try exact dx) only[wpS,wpT];refine drawn [(5,[0])] ae ae rfl ?_;simp -dsimp (disch:=try exact dx) only[wpS];refine call (fY 2 ⟨aa,aa⟩) ?_;rintro r1 h1 ⟨X1,p1⟩;have m1:=X1.n;simp -dsimp (disch:=try exact dx) only[wpS,zE,f1,f2,f9,f12,hv.1.idx gl his,fc hv (hE.trans X1).ai hx,hk];refine call (nT (k:=k) p1 aa) ?_;rintro r2 h2 ⟨X2,p2⟩;have m2:=X2.n;have X12:=X1.trans X2;obtain⟨s2,n2,rfl,c2,o2,_,_⟩:=p2.form;have Y00:=Ext.refl hh;simp -dsimp (disch:=try exact dx) only[wpS,wpT,zE,zL,zA,ff,cZ,o2];refine⟨by repeat' first|refine aU ?_ ?_|refine bg ?_ ?_|exact az rfl rfl rfl rfl (aO rfl (fc hv ((hE.trans aN).ai) hx) (fc hv ((hE.trans aN).ai) hx)),?_⟩;simp -dsimp (disch:=try exact dx) only[wpS,wpT,zA];obtain⟨H2,hH2⟩ : ∃H,H=(h2.new (.cells [.bool false,.slice none 0 0] 0 none)).put h2.n (.cells [.bool (decide (((2 ^ k:Nat):Int)<0)),s2] 0 none):=⟨_,rfl⟩;have e2:Ext h2 H2:=by rw[hH2];exact((Ext.refl h2).new _).put (aA _) _
  have n2:H2.n=h2.n+1:=by rw[hH2];rfl
  have q9:H2.ext.get h2.n=some (.cells [.bool (decide (((2 ^ k:Nat):Int)<0)),s2] 0 none):=by rw[hH2];simp (disch:=try exact dx) only[aj]
  have X02:=X12.trans e2;rw[←hH2];clear hH2;have Y0:=Ext.refl H2;have M1:load prog H2 175 (ptr (2*h2.n) 0)=some (.agg #[.bool (decide (((2 ^ k:Nat):Int)<0)),s2]):=by have r:=ay q9;simp -dsimp (disch:=try exact dx) only[wpS,wpT,zL,zA,cj,r,mI]
  have E02:=hE.trans X02;refine drawn [(5,[4])] ae ae rfl ?_;simp -dsimp (disch:=try exact dx) only[wpS,zE,f0,f12,hw.1.idx qE hi,hw.ld E02.ai hp];refine call (lT p pw) ?_;rintro r3 h3 ⟨X3,p3⟩;have m3:=X3.n;simp -dsimp (disch:=try exact dx) only[wpS,wpT,zE,zL,zA,cj,ay (X3.kept aa q9),mI];refine call (gP p3 (p2.ai (e2.trans X3).ai) (uu pw) (kO aa)) ?_;rintro r4 h4 ⟨X4,p4⟩;have m4:=X4.n;have X34:=X3.trans X4;simp -dsimp (disch:=try exact dx) only[wpS,zE];refine call (tw p4) ?_;rintro _ h5 ⟨X5,rfl⟩;have m5:=X5.n;have X35:=X34.trans X5;rw[←et];have EE:=E02.trans X35;by_cases ci:InW (z i p)
  ·rw[aq ci];simp -dsimp (disch:=try exact dx) only[wpS,wpT,zE,zL,zA,fa,dw,bA,aD,aW,bD];refine⟨by repeat' first|refine aU ?_ ?_|refine bg ?_ ?_|exact az rfl rfl rfl rfl (aP (H0:=H2) rfl aa aN aN bX),?_⟩;obtain⟨H3,hH3⟩ : ∃H,H=(h5.new (.cells [ZW,ZW,ZW,ZW,ZW,ZW,ZW,ZW] 0 none)).put h5.n (.cells (wdC (bN (z i p))) 0 none):=⟨_,rfl⟩;have E2:Ext h5 H3:=by rw[hH3];exact((Ext.refl h5).new _).put (aA _) _
   have n1:H3.n=h5.n+1:=by rw[hH3];rfl
   have k1:H3.ext.get h5.n=some (.cells (wdC (bN (z i p))) 0 none):=by rw[hH3];simp (disch:=try exact dx) only[aj]
   simp -dsimp (disch:=try exact dx) only[wpS,wpT,zE,zA];rw[←hH3];clear hH3;have E12:=(X02.trans X35).trans E2;obtain⟨cV,h8,hap,hA8,hG8,hE8⟩:=(hA.ext E12).qC (P:=prog) (t:=42) HL (m:=1) (new:=wdC (bN (z i p))) aa (by rw[aD]) (aW _) (by rw[uP];omega) aa (hE.trans E12) (aA _);have lD:append prog (H3.new (.cells (wdC (bN (z i p))) 8 none)) 42 out (.slice (some ⟨2*H3.n,0,none⟩) 1 3)=some (cV,h8):=hap;simp -dsimp (disch:=try exact dx) only[wpS,wpT,zE,zL,zA,bY,HG,pM,f11,f12,ay k1,aD,bD,aY,lD];refine⟨m - 1,aa,i+1,cV,aa,hE8,?_,?_,by simp[f0],by simp[f1],by simp[f2],by simp[f9],ab,ab⟩;·rw[Fq,mQ,dG,gp];exact hA8
   ·intro j hj;by_cases hji:j=i
    ·subst hji;rw[gp];exact ci
    ·exact xP j aa
  ·rw[ah ci];have hnf : ¬LX z ws ws.length:=fun hf=>by have:=hf i hi;rw[gp] at this;exact ci this
   rw[ah hnf];simp -dsimp (disch:=try exact dx) only[wpS,wpT,zE,zL,zA,fa,dw,bA,aD,aW,bD];refine⟨by repeat' first|refine aU ?_ ?_|refine bg ?_ ?_|exact az rfl rfl rfl rfl (aP (H0:=H2) rfl aa aN aN bX),?_⟩;simp -dsimp (disch:=try exact dx) only[wpS,wpT,zE,zA];exact⟨((EE.new _).put aa _),_,rfl,fun h=>absurd h aC,fun _=>rfl⟩
 ·obtain rfl:i=ws.length:=aa;rw[aq xP];simp -dsimp (disch:=try exact dx) only[wpS,wpT,zE,f11];refine⟨hE,out,rfl,fun _=>⟨hA.sl,by rw[uP];omega,?_⟩,fun hn=>absurd rfl hn⟩;intro n hn;obtain⟨j,hj,rfl⟩:=ir.1 hn;exact gJ (xP j (qX.1 hj))
end
section
variable {h:IH}{v:Value}
def Em {s:List Int} {a b x y:Int} (hv:fF h v s) (ha:fS a) (hb:fS b) (hx:fS x) (hy:fS y) :WV prog (.func (.func 59) #[] #[]) [v,KI a,KI b,KI x,KI y] h fun r h'=>Ext h h'∧r=ke s a b x y:=by
 unfold ke;have E0:Ext h (h.new (.cells Z16 0 none)):=(Ext.refl h).new _;have k10:(h.new (.cells Z16 0 none)).ext.get h.n=some (.cells Z16 0 none):=by simp (disch:=try exact dx) only[ar]
 have el:=hv.1.len (P:=prog) dY;have lb:=hv.2.1;refine enter (nt:=75) (rs:=[.cell 10 32,.tmp 11]) Proofs.Tryz.func59 rfl rfl rfl ab ?_;simp -dsimp (disch:=try exact dx) only[wpS,wpT,zE,zL,zA,reduceMul,pj,kS];obtain⟨H0,hH0⟩ : ∃H0,H0=h.new (.cells Z16 0 none):=⟨_,rfl⟩;have n0:H0.n=h.n+1:=by rw[hH0];rfl
 rw[←hH0] at E0 k10 ⊢;rw[show h.n+1=H0.n by omega];clear hH0;have E1:Ext H0 (H0.new (.cells [KI a,KI b] 1 none)):=(Ext.refl H0).new _;refine call (tm (hv.ai (E0.trans E1).ai) (Ik H0 a b ha hb)) ?_;rintro _ _ ⟨rfl,rfl⟩;obtain⟨h1,hh1⟩ : ∃H,H=H0.new (.cells [KI a,KI b] 1 none):=⟨_,rfl⟩;have EE:Ext h h1:=by rw[hh1];exact E0.trans E1
 have m1:h1.n=H0.n+1:=by rw[hh1];rfl
 have q10:h1.ext.get h.n=some (.cells Z16 0 none):=by rw[hh1];exact E1.kept aa k10
 rw[←hh1];clear hh1;rcases pU s [a,b] with c0|c0
 case inr =>
  rw[c0,aq aC];simp -dsimp (disch:=try exact dx) only[wpS,wpT,zE,zL,zA,ve,jT,iY,q10];exact⟨EE.put aa _,rfl⟩
 obtain⟨⟨s1,s2,s3⟩,_,_,l3⟩:=kN c0;rw[c0,ah aC];by_cases c1:x<0
 ·rw[aq (.inl c1)];simp -dsimp (disch:=try exact dx) only[wpS,wpT,zE,zL,zA,ve,jT,iY,q10];exact⟨EE.put aa _,rfl⟩
 by_cases c2:(s.length:Int)≤x
 ·rw[aq (.inr (.inl c2))];simp -dsimp (disch:=try exact dx) only[wpS,wpT,zE,zL,zA,ve,jT,iY,el,q10];exact⟨EE.put aa _,rfl⟩
 by_cases c3:y<0
 ·rw[aq (.inr (.inr (.inl c3)))];simp -dsimp (disch:=try exact dx) only[wpS,wpT,zE,zL,zA,ve,jT,iY,el,q10];exact⟨EE.put aa _,rfl⟩
 by_cases c4:(s.length:Int)≤y
 ·rw[aq (.inr (.inr (.inr c4)))];simp -dsimp (disch:=try exact dx) only[wpS,wpT,zE,zL,zA,ve,jT,iY,el,q10];exact⟨EE.put aa _,rfl⟩
 rw[ah aa];obtain⟨i,rfl⟩ : ∃i:Nat,x=(i:Int):=⟨x.toNat,aa⟩;obtain⟨j,rfl⟩ : ∃j:Nat,y=(j:Int):=⟨y.toNat,aa⟩;rw[iv,iv];have hi:i<s.length:=aa;have hj:j<s.length:=aa;have la:=l3 a ab;have lb2:=l3 b ab;obtain⟨u,hu⟩ : ∃u,s[i]?=some u:=⟨_,aK hi⟩;obtain⟨t,ht⟩ : ∃t,s[j]?=some t:=⟨_,aK hj⟩;have u1:=s3 u (bh hu);have t1:=s3 t (bh ht);have kb:=HD la lb2 s3 hi hj;have ek:chK s a b i j=(-((a - b)*(u - t))).toNat:=by unfold chK;rw[bH,bH,hu,ht,jf,jf]
 obtain⟨k,hk⟩ : ∃k,k=chK s a b i j:=⟨_,rfl⟩;rw[←hk] at kb ek ⊢;have db:=BM (p:=a - b) (q:=u - t) aa aa;obtain⟨d,hd⟩ : ∃d,(a - b)*(u - t)=d:=⟨_,rfl⟩;rw[hd] at db ek;by_cases c:0≤d
 ·obtain rfl:k=0:=aa;have dd:decide (0≤d)=true:=ct c;simp -dsimp (maxSteps:=1000000) (disch:=first|omega|(simp only[aH,aJ];omega)|decide +kernel|(repeat first|rw[aH]|rw[aJ])) only[wpS,wpT,zE,el,hv.1.idx gl hi,hv.1.idx gl hj,fc hv EE.ai hu,fc hv EE.ai ht,hd,dd];refine call (xF 1 1 ⟨aa,aa⟩ ⟨aa,aa⟩ aa) ?_;rintro _ h2 ⟨X2,rfl⟩;rw[iD,show exq 0=Rat.divInt 1 1 from rfl];have z10:=X2.kept aa q10;have m2:=X2.n;simp -dsimp (disch:=try exact dx) only[wpS,wpT,zE,zL,zA,jT,iY,z10,bR,ba,cT,fD,dJ];exact⟨(EE.trans X2).put aa _,rfl⟩
 ·have dd:decide (0≤d)=false:=bF c
  have kd : -d=(k:Int):=aa;simp -dsimp (maxSteps:=1000000) (disch:=first|omega|(simp only[aH,aJ];omega)|decide +kernel|(repeat first|rw[aH]|rw[aJ])) only[wpS,wpT,zE,el,hv.1.idx gl hi,hv.1.idx gl hj,fc hv EE.ai hu,fc hv EE.ai ht,hd,dd];refine call (fY 2 ⟨aa,aa⟩) ?_;rintro r2 h2 ⟨X2,p2⟩;simp -dsimp (disch:=try exact dx) only[wpS,zE,kd];refine call (nT (k:=k) p2 aa) ?_;rintro r3 h3 ⟨X3,p3⟩;simp -dsimp (disch:=try exact dx) only[wpS,zE];refine call (tw p3) ?_;rintro _ h4 ⟨X4,rfl⟩;have X24:=(X2.trans X3).trans X4;have m4:=X24.n;have iw:InW ((2 ^ k:Nat):Int):=by have:=(Ak (k:=k) aa).2;rwa [(FE k).2] at this
  rw[aq iw];have wz:=gJ iw;simp -dsimp (disch:=try exact dx) only[wpS,wpT,zE,zL,zA,fa,dw,bA,aD,aW,bD];obtain⟨H5,hH5⟩ : ∃H,H=(h4.new (.cells [ZW,ZW,ZW,ZW,ZW,ZW,ZW,ZW] 0 none)).put h4.n (.cells (wdC (bN ((2 ^ k:Nat):Int))) 0 none):=⟨_,rfl⟩;have e5:Ext h4 H5:=by rw[hH5];exact((Ext.refl _).new _).put (aA _) _
  have n5:H5.n=h4.n+1:=by rw[hH5];rfl
  have g5:H5.ext.get h4.n=some (.cells (wdC (bN ((2 ^ k:Nat):Int))) 0 none):=by rw[hH5];simp (disch:=try exact dx) only[aj]
  rw[←hH5];clear hH5;have X5:=X24.trans e5;have Y0:=Ext.refl H5;have L5:load prog H5 30 (ptr (2*h4.n) 0)=some (wdV (bN ((2 ^ k:Nat):Int))):=by have r:=ay g5;simp -dsimp (disch:=try exact dx) only[wpS,zL,bY,r,aD,aY];rfl
  refine drawn [(1,[0])] ae ae rfl ?_;simp -dsimp (disch:=try exact dx) only[wpS];refine call (yB 1 ⟨aa,aa⟩) ?_;rintro _ h6 ⟨X6,rfl⟩;have m6:=X6.n;simp -dsimp (disch:=try exact dx) only[wpS,zE,zL,bY,ay (X6.kept aa g5),aD,aY];have i1:InW 1:=rR ⟨aa,aa⟩;have p2:=pX k;refine call (Lc (bN 1) (bN ((2 ^ k:Nat):Int)) (gJ i1) wz ?_) ?_;·intro h0;have a0:=(pz wz).2 h0;rw[eE iw] at a0;omega
  rintro _ h7 ⟨X7,rfl⟩
  have m7:=X7.n;rw[eE i1,eE iw,show Rat.divInt 1 ((2 ^ k:Nat):Int)=exq k from rfl,aq (Ak aa),iD];generalize shq (exq k)=p;have X57:=X5.trans (X6.trans X7);have z10:=X57.kept aa q10;simp -dsimp (disch:=try exact dx) only[wpS,wpT,zE,zL,zA,jT,z10,bR,ba,cT,fD];refine⟨az rfl rfl rfl rfl (aP (H0:=H5) rfl aa X6 Y0 L5),?_⟩;simp -dsimp (disch:=try exact dx) only[wpS,wpT,zE,zL,zA,iY,ba,dJ];exact⟨(EE.trans X57).put aa _,rfl⟩
def Kz {v2:Value} {l:List Nat} (hv:iQ h v l) (hv2:iQ h v2 l) :WV prog (.func (.func 94) #[] #[]) [v,v2] h fun r h'=>h'=h∧r=.bool true:=by
 have hlb:=hv.2.1;refine enter (nt:=26) (rs:=[.tmp 4]) Proofs.Tryz.func94 rfl rfl rfl ab ?_;have c1:((l.length:Int) != (l.length:Int))=false:=ab;simp -dsimp (disch:=try exact dx) only[wpS,wpT,zE,zA,hv.1.len rJ,hv2.1.len rJ,c1];refine loop (fun m fr hh => ∃i:Nat,i+m=l.length∧hh=h∧ax fr 0=some v∧ax fr 1=some v2∧ax fr 12=some (KN l.length)∧ax fr 13=some (KN i)) l.length ⟨0,aa,rfl,ab,ab,ab,ab⟩ ?_;rintro m fr hh ⟨i,him,rfl,f0,f1,f12,f13⟩;simp -dsimp (disch:=try exact dx) only[wpS,wpT,f12,f13];refine aG ?_ ?_<;>intro hc<;>simp only[aS,aV] at hc
 ·have hi:i<l.length:=aa;obtain⟨p,hp⟩ : ∃p,l[i]?=some p:=⟨_,aK hi⟩;have pw:=hv.2.2 p (bh hp);have hne : ∀ox oy,binop prog .neq 30 ox oy (wdV p) (wdV p)=some (.bool false):=fun ox oy=>(Wt pw pw ox oy).trans (by rw[ct rfl];rfl);simp -dsimp (disch:=try exact dx) only[wpS,wpT,zE,f0,f1,f13,hv.1.idx qE hi,hv2.1.idx qE hi,hv.ld (bj.refl _) hp,hv2.ld (bj.refl _) hp,hne];exact⟨m - 1,aa,i+1,aa,rfl,by simp[f0],by simp[f1],by simp[f12],ab⟩
 ·simp -dsimp (disch:=try exact dx) only[wpS,wpT]
end
section
def kB (h:IH) (v:QQ) (l:List Nat):Prop:=df h 1 v l.length (l.map B8)∧l.length<9223372036854775808 ∧ ∀x∈l,x<256
variable {h:IH}{v:QQ}{l:List Nat}{h':IH}
def kB.ai (s:kB h v l) (e:bj h h'):kB h' v l:=⟨s.1.ai e,s.2⟩
def kB.ld (s:kB h v l) (e:bj h h') {i:Nat} {x:Nat} (hi:l[i]?=some x):load prog h' 5 (bq v i)=some (B8 x):=by have hil:=(bU.1 hi).1;rw[s.1.ld e (by simpa using hil) ag5,dM,hi];rfl
variable {m:Nat}
theorem kB.first (s:kB h v l) (kp:bj h h') (hm:m≤l.length) : ∃w,dE prog h' 22 v none (some (KN m)) none=some w∧kB h w (l.take m):=by have lb:=s.2.1;obtain⟨w,hw,hs⟩:=s.1.slice kp (P:=prog) (t:=22) u22 sz5 (l:=0) (m:=m) (dQ _) hm (lo:=none) (hi:=some (KN m)) rfl (fun c hc=>mz (k:=.i64) aa);refine⟨w,hw,?_,by rw[gG];omega,fun x hx=>s.2.2 x (Cf hx)⟩;rw[gG,nI hm,sN];simpa using hs
def vj (h:IH) (v:QQ) (l:List Int):Prop:=df h 1 v l.length (l.map KI)∧l.length<9223372036854775808 ∧ ∀x∈l,fS x
def vj.ai {l:List Int} (s:vj h v l) (e:bj h h'):vj h' v l:=⟨s.1.ai e,s.2⟩
theorem vj.first {l:List Int} (s:vj h v l) (kp:bj h h') (hm:m≤l.length) (hb:m≤1000) : ∃w,dE prog h' 25 v none (some (KN m)) none=some w∧fF h w (l.take m):=by have lb:=s.2.1;obtain⟨w,hw,hs⟩:=s.1.slice kp (P:=prog) (t:=25) u25 sz3 (l:=0) (m:=m) (dQ _) hm (lo:=none) (hi:=some (KN m)) rfl (fun c hc=>mz (k:=.i64) aa);refine⟨w,hw,?_,by rw[gG];omega,fun x hx=>s.2.2 x (Cf hx)⟩;rw[gG,nI hm,sN];simpa using hs
def mX (P:Program) (t:TypeId) (k:IntKind) (ox oy:Operand) (a n:Nat) (hn:0<n):binop P .rem t ox oy (.int k (a:Int)) (.int k (n:Int))=some (.int k ((a % n:Nat):Int)):=by rw[As P t ox oy aa,Ki aa,xj]
variable {sz:Nat}
def HC (hv:kB h v l) (n:Nat) (hn:n≤100) :WV prog (.func (.func 10) #[] #[]) [.agg #[B8 sz,v],KN n] h fun r h'=>Ext h h' ∧ ∃out,iQ h' r out∧out.length=n ∧ ∀p∈out,1≤wdI p∧wdI p≤9:=by
 have cv:=hv.1.cells;have co:=hv.1.cok;have g0:(h.new (.cells [B8 sz,v] 0 none)).ext.get h.n=some (.cells [B8 sz,v] 0 none):=by simp (disch:=try exact dx) only[ar]
 have E0:Ext h (h.new (.cells [B8 sz,v] 0 none)):=(Ext.refl h).new _;refine enter (nt:=32) (rs:=[.tmp 4]) Proofs.Tryz.func10 rfl rfl rfl ab ?_;simp -dsimp (disch:=try exact dx) only[wpS,zE,zA];obtain⟨Hb,hHb⟩ : ∃H,H=h.new (.cells [B8 sz,v] 0 none):=⟨_,rfl⟩;have nb:Hb.n=h.n+1:=by rw[hHb];rfl
 rw[←hHb] at g0 E0 ⊢;clear hHb;refine loop (fun m fr hh => ∃(i:Nat) (out:QQ) (l':List Nat),i+m=n∧l'.length=i∧(∀p∈l',p<W8∧1≤wdI p∧wdI p≤9)∧Ext Hb hh∧Acc hh Hb.n 8 out l'.length (wiL l')∧ax fr 1=some (KN n)∧ax fr 2=some (ptr (2*h.n) 0)∧ax fr 5=some out∧ax fr 6=some (KN i)) n
  ⟨0,.slice none 0 0,[],aa,rfl,(fun p hp=>by cases hp),Ext.refl _,Acc.nil _ _ aa,ab,ab,ab,ab⟩ ?_
 rintro m fr hh ⟨i,out,l',him,hil,hlt,hE,hA,f1,f2,f5,f6⟩;have hg:=hE.kept aa g0;have hnn:=hE.n;have lv:=hv.2.1;have hEh:=E0.trans hE;simp -dsimp (disch:=try exact dx) only[wpS,zE,f1,f6];refine aG ?_ ?_<;>intro hc<;>simp only[aS,aV] at hc
 ·by_cases c:i<l.length
  ·obtain⟨x,hx⟩ : ∃x,l[i]?=some x:=⟨_,aK c⟩;have xb:=hv.2.2 x (bh hx);have hr : ∀ox oy,binop prog .rem 5 ox oy (B8 x) (.int .u8 9)=some (.int .u8 ((x % 9:Nat):Int)):=fun ox oy=>mX _ _ .u8 ox oy x 9 aa;simp -dsimp (disch:=try exact dx) only[wpS,wpT,zE,Hx,Hg,zf,f2,f5,f6,ay hg,hv.1.len Ei,hv.1.idx Sk c,hv.ld hEh.ai hx,hr];refine call (yB (1+((x % 9:Nat):Int)) ⟨aa,aa⟩) ?_;rintro _ h1 ⟨X1,rfl⟩;have wi:=rR (n:=1+((x % 9:Nat):Int)) ⟨aa,aa⟩;have wz:bN (1+((x % 9:Nat):Int))<W8∧1≤wdI (bN (1+((x % 9:Nat):Int)))∧wdI (bN (1+((x % 9:Nat):Int)))≤9:=⟨gJ wi,by rw[eE wi];omega,by rw[eE wi];omega⟩;have m1:=X1.n;obtain⟨cV,h8,hap,hA8,hG8,hE8⟩:=(hA.ext X1).qC (P:=prog) (t:=42) HL (m:=1) (new:=wdC (bN (1+((x % 9:Nat):Int)))) aa (by rw[aD]) (aW _) aa aa (hE.trans X1) aa;have lD:append prog (h1.new (.cells (wdC (bN (1+((x % 9:Nat):Int)))) 8 none)) 42 out (.slice (some ⟨2*h1.n,0,none⟩) 1 3)=some (cV,h8):=hap;simp -dsimp (disch:=try exact dx) only[wpS,wpT,zE,zL,zA,HG,pM,f6,bA,aD,bD,lD];refine⟨m - 1,aa,i+1,cV,l' ++ [bN (1+((x % 9:Nat):Int))],aa,by simp[hil],?_,hE8,?_,by simp[f1],by simp[f2],ab,ab⟩
   ·intro q hq;rcases fC.1 hq with hq|hq
    ·exact hlt q hq
    ·rw[gQ.1 hq];exact wz
   ·rw[mQ,dG];exact hA8
  ·simp -dsimp (disch:=try exact dx) only[wpS,wpT,zE,Hx,Hg,f2,f5,f6,ay hg,hv.1.len Ei];refine call (yB 1 ⟨aa,aa⟩) ?_;rintro _ h1 ⟨X1,rfl⟩;have wi:=rR (n:=1) ⟨aa,aa⟩;have wz:bN 1<W8∧1≤wdI (bN 1)∧wdI (bN 1)≤9:=⟨gJ wi,by rw[eE wi];omega,by rw[eE wi];omega⟩;have m1:=X1.n;obtain⟨cV,h8,hap,hA8,hG8,hE8⟩:=(hA.ext X1).qC (P:=prog) (t:=42) HL (m:=1) (new:=wdC (bN 1)) aa (by rw[aD]) (aW _) aa aa (hE.trans X1) aa;have lD:append prog (h1.new (.cells (wdC (bN 1)) 8 none)) 42 out (.slice (some ⟨2*h1.n,0,none⟩) 1 3)=some (cV,h8):=hap;simp -dsimp (disch:=try exact dx) only[wpS,wpT,zE,zL,zA,HG,pM,f6,bA,aD,bD,lD];refine⟨m - 1,aa,i+1,cV,l' ++ [bN 1],aa,by simp[hil],?_,hE8,?_,by simp[f1],by simp[f2],ab,ab⟩
   ·intro q hq;rcases fC.1 hq with hq|hq
    ·exact hlt q hq
    ·rw[gQ.1 hq];exact wz
   ·rw[mQ,dG];exact hA8
 ·simp -dsimp (disch:=try exact dx) only[wpS,wpT,zE,f5];exact⟨hEh,l',⟨hA.sl,aa,fun p hp=>(hlt p hp).1⟩,aa,fun p hp=>(hlt p hp).2⟩
def JF (hv:kB h v l) (n:Nat) (hn:n≤100) :WV prog (.func (.func 10) #[] #[]) [.agg #[B8 sz,v],KN n] h fun r h'=>Ext h h' ∧ ∃out,iQ h' r out∧out.length=n :=
 (HC hv n hn).mono fun _ _ ⟨e,out,a,b,_⟩=>⟨e,out,a,b⟩
variable {vQ vA:QQ}{lL lS:List Nat}{n:Nat}{vS vR:QQ}{lA:List Nat}{vN vL:QQ}
def O3 (hS:kB h vS lS) (hL:kB h vL lL) (hA:kB h vA lA) (n0:0<n) (hn:n≤100)(cN:bB vN=true) (cR:bB vR=true) (cQ:bB vQ=true) :WV prog (.func (.func 9) #[] #[]) [.agg #[B8 sz,vN,vS,vL,vA,vR,vQ],KN n] h fun r h'=>Ext h h' ∧ ∃(a b c:QQ) (s l t:List Int),r=.tuple #[a,b,c]∧fF h' a s∧fF h' b l∧fF h' c t∧s.length=n∧(∀x∈s,0≤x∧x≤30)∧l.length≤6∧(∀x∈l,0≤x∧x≤8)∧t.length=l.length∧(∀x∈t,0≤x∧x<n):=by
 have cS:=hS.1.cok;have cL:=hL.1.cok;have cA:=hA.1.cok;have g0:(h.new (.cells [B8 sz,vN,vS,vL,vA,vR,vQ] 0 none)).ext.get h.n=some (.cells [B8 sz,vN,vS,vL,vA,vR,vQ] 0 none):=by simp (disch:=try exact dx) only[ar]
 have E0:Ext h (h.new (.cells [B8 sz,vN,vS,vL,vA,vR,vQ] 0 none)):=(Ext.refl h).new _;obtain⟨Hb,hHb⟩ : ∃H,H=h.new (.cells [B8 sz,vN,vS,vL,vA,vR,vQ] 0 none):=⟨_,rfl⟩;have nb:Hb.n=h.n+1:=by rw[hHb];rfl
 refine enter (nt:=79) (rs:=[.tmp 4,.tmp 5,.tmp 6]) Proofs.Tryz.func9 rfl rfl rfl ab ?_;simp -dsimp (disch:=try exact dx) only[wpS,zE,zA];rw[←hHb] at g0 E0 ⊢;clear hHb;have lvS:=hS.2.1;have lvL:=hL.2.1;have lvA:=hA.2.1;refine loop (fun m fr hh => ∃(i:Nat) (out:QQ) (s:List Int),i+m=n∧s.length=i∧(∀x∈s,0≤x∧x≤30)∧Ext Hb hh∧Acc hh Hb.n 1 out s.length (s.map KI)∧ax fr 1=some (KN n)∧ax fr 2=some (ptr (2*h.n) 0)∧ax fr 4=some out∧ax fr 5=some (.slice none 0 0)∧ax fr 6=some (.slice none 0 0)∧ax fr 13=some (KN n)∧ax fr 14=some (KN i)) n ⟨0,.slice none 0 0,[],aa,rfl,(fun p hp=>by cases hp),Ext.refl _,Acc.nil _ _ aa,ab,ab,ab,ab,ab,ab,ab⟩ ?_;rintro m fr hh ⟨i,out,s,him,hil,hlt,hE,hAc,f1,f2,f4,f5,f6,f13,f14⟩;have hg:=hE.kept aa g0;have hnn:=hE.n;have hEh:=E0.trans hE;simp -dsimp (disch:=try exact dx) only[wpS,f13,f14];refine aG ?_ ?_<;>intro hc<;>simp only[aS,aV] at hc
 ·by_cases c:i<lS.length
  ·obtain⟨x,hx⟩ : ∃x,lS[i]?=some x:=⟨_,aK c⟩;have xb:=hS.2.2 x (bh hx);have hr : ∀ox oy,binop prog .rem 5 ox oy (B8 x) (.int .u8 31)=some (.int .u8 ((x % 31:Nat):Int)):=fun ox oy=>mX _ _ .u8 ox oy x 31 aa;obtain⟨cV,h8,hap,hA8,hG8,hE8⟩:=hAc.xY (P:=prog) (t:=25) wg (x:=KI ((x % 31:Nat):Int)) rfl aa aa hE aa;simp -dsimp (disch:=try exact dx) only[wpS,wpT,zE,zL,zA,Sf,Hg,zf,kS,ju,f2,f4,f14,ay hg,hS.1.len Ei,hS.1.idx Sk c,hS.ld hEh.ai hx,hr,hap];refine⟨m - 1,aa,i+1,cV,s ++ [((x % 31:Nat):Int)],aa,by simp[hil],?_,hE8,?_,by simp[f1],by simp[f2],ab,by simp[f5],by simp[f6],by simp[f13],ab⟩
   ·intro q hq;rcases fC.1 hq with hq|hq
    ·exact hlt q hq
    ·rw[gQ.1 hq];constructor<;>omega
   ·rw[gF,dG];exact hA8
  ·obtain⟨cV,h8,hap,hA8,hG8,hE8⟩:=hAc.xY (P:=prog) (t:=25) wg (x:=KI 0) rfl aa aa hE aa;simp -dsimp (disch:=try exact dx) only[wpS,wpT,zE,zL,zA,Sf,Hg,kS,ju,f2,f4,f14,ay hg,hS.1.len Ei,hap];refine⟨m - 1,aa,i+1,cV,s ++ [0],aa,by simp[hil],?_,hE8,?_,by simp[f1],by simp[f2],ab,by simp[f5],by simp[f6],by simp[f13],ab⟩
   ·intro q hq;rcases fC.1 hq with hq|hq
    ·exact hlt q hq
    ·rw[gQ.1 hq];constructor<;>omega
   ·rw[gF,dG];exact hA8
 have sS:fF hh out s:=⟨hAc.sl,aa,fun x hx=>by have:=hlt x hx;exact⟨aa,aa⟩⟩;have hsn:s.length=n:=aa;have bS:=hlt;clear hAc hlt him hc;obtain⟨M,hM⟩ : ∃M,M=min lL.length 6:=⟨_,rfl⟩;have Hp:(if (6:Int)<(lL.length:Int) then (6:Int) else (lL.length:Int))=(M:Int):=by split<;>omega
 obtain⟨w,hw,hs2⟩:=hL.first hEh.ai (m:=M) aa;obtain⟨ls,hls⟩ : ∃l,l=lL.take M:=⟨_,rfl⟩;rw[←hls] at hs2;have hlsl:ls.length=M:=by rw[hls,gG];omega
 clear hls;have lv2:=hs2.2.1;simp -dsimp (disch:=try exact dx) only[wpS,wpT,zE,Hg,Xy,f2,ay hg,hL.1.len Ei,Lv,Hp,hw,hs2.1.len Ei];refine loop (fun m fr h4 => ∃(i:Nat) (Ll:QQ) (s:List Int),i+m=ls.length∧s.length=i∧(∀x∈s,0≤x∧x≤8)∧Ext hh h4∧Acc h4 hh.n 1 Ll s.length (s.map KI)∧ax fr 1=some (KN n)∧ax fr 2=some (ptr (2*h.n) 0)∧ax fr 4=some out∧ax fr 5=some Ll∧ax fr 6=some (.slice none 0 0)∧ax fr 40=some w∧ax fr 41=some (KN ls.length)∧ax fr 42=some (KN i)) ls.length
  ⟨0,.slice none 0 0,[],aa,rfl,(fun p hp=>by cases hp),Ext.refl _,Acc.nil _ _ aa,by simp[f1],by simp[f2],by simp[f4],by simp[f5],by simp[f6],ab,ab,ab⟩ ?_
 rintro m fr h4 ⟨i,Ll,t,him,hil,hlt,hE2,hAc,f1,f2,f4,f5,f6,f40,f41,f42⟩;have hg2:=hE2.kept aa hg;have hnn2:=hE2.n;have UN:=hEh.trans hE2;simp -dsimp (disch:=try exact dx) only[wpS,f41,f42];refine aG ?_ ?_<;>intro hc<;>simp only[aS,aV] at hc
 ·have c:i<ls.length:=aa;obtain⟨x,hx⟩ : ∃x,ls[i]?=some x:=⟨_,aK c⟩;have xb:=hs2.2.2 x (bh hx);have hr : ∀ox oy,binop prog .rem 5 ox oy (B8 x) (.int .u8 9)=some (.int .u8 ((x % 9:Nat):Int)):=fun ox oy=>mX _ _ .u8 ox oy x 9 aa;obtain⟨cV,h8,hap,hA8,hG8,hE8⟩:=hAc.xY (P:=prog) (t:=25) wg (x:=KI ((x % 9:Nat):Int)) rfl aa aa hE2 aa;simp -dsimp (disch:=try exact dx) only[wpS,wpT,zE,zL,zA,zf,kS,ju,f5,f40,f42,hs2.1.idx Sk c,hs2.ld UN.ai hx,hr,hap];refine⟨m - 1,aa,i+1,cV,t ++ [((x % 9:Nat):Int)],aa,by simp[hil],?_,hE8,?_,by simp[f1],by simp[f2],by simp[f4],ab,by simp[f6],by simp[f40],by simp[f41],ab⟩
  ·intro q hq;rcases fC.1 hq with hq|hq
   ·exact hlt q hq
   ·rw[gQ.1 hq];constructor<;>omega
  ·rw[gF,dG];exact hA8
 have sL:fF h4 Ll t:=⟨hAc.sl,aa,fun x hx=>by have:=hlt x hx;exact⟨aa,aa⟩⟩;have bL:=hlt;have lL6:t.length≤6:=aa;have sS2:=sS.ai hE2.ai;have ltl:t.length≤1000000000:=sL.2.1;clear hAc hlt him hc sS hil;simp -dsimp (disch:=try exact dx) only[wpS,zE,f5,sL.1.len dY];refine loop (fun m fr h5 => ∃(i:Nat) (Ra:QQ) (s:List Int),i+m=t.length∧s.length=i∧(∀x∈s,0≤x∧x<n)∧Ext h4 h5∧Acc h5 h4.n 1 Ra s.length (s.map KI)∧ax fr 1=some (KN n)∧ax fr 2=some (ptr (2*h.n) 0)∧ax fr 4=some out∧ax fr 5=some Ll∧ax fr 6=some Ra∧ax fr 54=some (KN t.length)∧ax fr 55=some (KN i)) t.length ⟨0,.slice none 0 0,[],aa,rfl,(fun p hp=>by cases hp),Ext.refl _,Acc.nil _ _ aa,by simp[f1],by simp[f2],by simp[f4],by simp[f5],by simp[f6],ab,ab⟩ ?_;rintro m fr h5 ⟨i,Ra,u,him,hil,hlt,hE3,hAc,f1,f2,f4,f5,f6,f54,f55⟩;have hg3:=hE3.kept aa hg2;have hnn3:=hE3.n;have ZK:=UN.trans hE3;simp -dsimp (disch:=try exact dx) only[wpS,f54,f55];refine aG ?_ ?_<;>intro hc<;>simp only[aS,aV] at hc
 ·by_cases c:i<lA.length
  ·obtain⟨x,hx⟩ : ∃x,lA[i]?=some x:=⟨_,aK c⟩;have xb:=hA.2.2 x (bh hx);have hb:=ec x n0;have hr : ∀ox oy,binop prog .rem 3 ox oy (.int .i64 (x:Int)) (KN n)=some (.int .i64 ((x % n:Nat):Int)):=fun ox oy=>mX _ _ .i64 ox oy x n n0;obtain⟨cV,h8,hap,hA8,hG8,hE8⟩:=hAc.xY (P:=prog) (t:=25) wg (x:=KI ((x % n:Nat):Int)) rfl aa aa hE3 aa;simp -dsimp (disch:=try exact dx) only[wpS,wpT,zE,zL,zA,Hg,zf,kS,Se,ju,f1,f2,f6,f55,ay hg3,hA.1.len Ei,hA.1.idx Sk c,hA.ld ZK.ai hx,hr,hap];refine⟨m - 1,aa,i+1,cV,u ++ [((x % n:Nat):Int)],aa,by simp[hil],?_,hE8,?_,by simp[f1],by simp[f2],by simp[f4],by simp[f5],ab,by simp[f54],ab⟩
   ·intro q hq;rcases fC.1 hq with hq|hq
    ·exact hlt q hq
    ·rw[gQ.1 hq];constructor<;>omega
   ·rw[gF,dG];exact hA8
  ·obtain⟨cV,h8,hap,hA8,hG8,hE8⟩:=hAc.xY (P:=prog) (t:=25) wg (x:=KI 0) rfl aa aa hE3 aa;simp -dsimp (disch:=try exact dx) only[wpS,wpT,zE,zL,zA,Hg,kS,Se,ju,f2,f6,f55,ay hg3,hA.1.len Ei,hap];refine⟨m - 1,aa,i+1,cV,u ++ [0],aa,by simp[hil],?_,hE8,?_,by simp[f1],by simp[f2],by simp[f4],by simp[f5],ab,by simp[f54],ab⟩
   ·intro q hq;rcases fC.1 hq with hq|hq
    ·exact hlt q hq
    ·rw[gQ.1 hq];constructor<;>omega
   ·rw[gF,dG];exact hA8
 have sA:fF h5 Ra u:=⟨hAc.sl,aa,fun x hx=>by have:=hlt x hx;exact⟨aa,aa⟩⟩;have lA:u.length=t.length:=aa;simp -dsimp (disch:=try exact dx) only[wpS,wpT,zE,f4,f5,f6];exact⟨ZK,out,Ll,Ra,s,t,u,rfl,sS2.ai hE3.ai,sL.ai hE3.ai,sA,hsn,bS,lL6,bL,lA,hlt⟩
def Rq (hS:kB h vS lS) (hL:kB h vL lL) (hA:kB h vA lA) (n0:0<n) (hn:n≤100)(cN:bB vN=true) (cR:bB vR=true) (cQ:bB vQ=true) :WV prog (.func (.func 9) #[] #[]) [.agg #[B8 sz,vN,vS,vL,vA,vR,vQ],KN n] h fun r h'=>Ext h h' ∧ ∃(a b c:QQ) (s l t:List Int),r=.tuple #[a,b,c]∧fF h' a s∧fF h' b l∧fF h' c t∧s.length=n :=
 (O3 hS hL hA n0 hn cN cR cQ).mono fun _ _ ⟨e,a,b,c,s,l,t,h1,h2,h3,h4,h5,_⟩=>⟨e,a,b,c,s,l,t,h1,h2,h3,h4,h5⟩
end
end Go.Id
namespace Go.Proofs.YtnnmjocmapilaaaGreat
open Go.ChangeShapes Go.WideShapes Go.ChangeAt Go.RowKit Go.Id
section
def Qb:Tryz.prog.underlying 25=some (.slice 3):=ae
def Yo:Tryz.prog.underlying 22=some (.slice 5):=ae
def Qa:Tryz.prog.underlying 24=some (.struct { toList:=[{ name := "Size",type:=5,offset:=0,embedded:=false,tag := "",pkgPath := "",byteOffset:=0 },{ name := "N",type:=22,offset:=1,embedded:=false,tag := "",pkgPath := "",byteOffset:=8 }] }):=ae
def Z4:Tryz.prog.cellsOf 3=1:=ae
theorem XN:Tryz.prog.cellsOf 25=1:=ae
theorem XM:Tryz.prog.cellsOf 5=1:=ae
theorem V7:Tryz.prog.cellsOf 22=1:=ae
theorem JW:Tryz.prog.cellsOf 24=2:=ae
def I3 {f:Nat→Value} {m:Nat} : ∀(n:Nat) (cs:List Value),cs.length=n*1→(∀i,i<n → ∃p,p<m∧(cs.drop (i*1)).take 1 = [f p]) → ∃ps:List Nat,ps.length=n∧cs=ps.map f ∧ ∀p∈ps,p<m
 | 0,cs,h,_=>⟨[],rfl,by simpa using h,fun p hp=>by cases hp⟩
 | n+1,[],h,_=>by simp at h
 | n+1,c :: cs,h,k=>by
  obtain⟨p,h1,h2⟩:=k 0 aa;obtain⟨ps,h3,h4,h5⟩:=I3 n cs (by simp at h ⊢;omega) fun i hi=>by obtain⟨q,h6,h7⟩:=k (i+1) aa;exact⟨q,h6,by simpa using h7⟩
  refine⟨p :: ps,by simp[h3],?_,fun q hq=>?_⟩;·simp at h2;rw[jJ,h2,h4]
  ·rcases dV.1 hq with rfl|hq
   ·exact h1
   ·exact h5 q hq
def Jo : ∀(n:Nat) (cs:List Value),cs.length=n*1→(∀i,i<n → ∃p:Int,fS p∧(cs.drop (i*1)).take 1 = [KI p]) → ∃l:List Int,l.length=n∧cs=l.map KI ∧ ∀x∈l,fS x
 | 0,cs,h,_=>⟨[],rfl,by simpa using h,fun p hp=>by cases hp⟩
 | n+1,[],h,_=>by simp at h
 | n+1,c :: cs,h,k=>by
  obtain⟨p,h1,h2⟩:=k 0 aa;obtain⟨l,h3,h4,h5⟩:=Jo n cs (by simp at h ⊢;omega) fun i hi=>by obtain⟨q,h6,h7⟩:=k (i+1) aa;exact⟨q,h6,by simpa using h7⟩
  refine⟨p :: l,by simp[h3],?_,fun q hq=>?_⟩;·simp at h2;rw[jJ,h2,h4]
  ·rcases dV.1 hq with rfl|hq
   ·exact h1
   ·exact h5 q hq
section
variable {H:Type} {enc:TypeId×Value→H} {W:World} {held:Bool}
variable {x:DataW H×List MemPlace}{cs0:List Value}{fuel:Nat}
def sZ (G:Nat→Option (List Value)) (h:DataW.trod enc Tryz.prog W 0 (fun _=>true) held fuel 22 cs0=some x) :∃v l,cs0 = [v]∧fi v=true∧kB (IH.start (rG G W)) (trV v) l:=by
 obtain⟨v,n,cs,e1,ht,hn,hs,hR⟩:=Cy (R:=fun cs => ∃p:Nat,p<256∧cs.map trV = [B8 p]) Yo XM aa (fun n cs x hx=>by
  obtain⟨i,rfl,hi⟩:=rF (m:=255) rfl rfl TJ hx;exact⟨⟨i,aa,rfl⟩,fun y hy=>by rw[gQ.1 hy];rfl⟩) G h
 obtain⟨ps,h1,h2,h3⟩:=I3 (f:=B8) (m:=256) n (cs.map trV) hs.2.1 fun i hi=>by obtain⟨p,hp,e⟩:=hR i hi;exact⟨p,hp,by rw[←List.map_drop,←sN];exact e⟩
 subst h1;exact⟨v,ps,e1,ht,h2▸hs,il hn aC,h3⟩
def zN (G:Nat→Option (List Value)) (h:DataW.trod enc Tryz.prog W 0 (fun _=>true) held fuel 25 cs0=some x) :∃v l,cs0 = [v]∧fi v=true∧vj (IH.start (rG G W)) (trV v) l:=by
 obtain⟨v,n,cs,e1,ht,hn,hs,hR⟩:=Cy (R:=fun cs => ∃p:Int,fS p∧cs.map trV = [KI p]) Qb Z4 aa (fun n cs x hx=>by
  obtain⟨i,rfl,_,hw⟩:=DataW.trod_int Yp hx;exact⟨⟨i,wf_i64 hw,rfl⟩,fun y hy=>by rw[gQ.1 hy];rfl⟩) G h
 obtain⟨l,h1,h2,h3⟩:=Jo n (cs.map trV) hs.2.1 fun i hi=>by obtain⟨p,hp,e⟩:=hR i hi;exact⟨p,hp,by rw[←List.map_drop,←sN];exact e⟩
 subst h1;exact⟨v,l,e1,ht,h2▸hs,il hn aC,h3⟩
variable {α:Type}
def WY : ∀{l:List α},l.length=2 → ∃a b,l = [a,b]
 | [a,b],_=>⟨a,b,rfl⟩
def Rt : ∀{l:List α},l.length=7 → ∃a b c d e f g,l = [a,b,c,d,e,f,g]
 | [a,b,c,d,e,f,g],_=>⟨a,b,c,d,e,f,g,rfl⟩
variable {cs:List Value}
def Pd (G:Nat→Option (List Value)) (h:DataW.trod enc Tryz.prog W 0 (fun _=>true) held fuel 24 cs=some x) :∃k y l,cs = [B8 k,y]∧k<256∧fi y=true∧kB (IH.start (rG G W)) (trV y) l:=by obtain⟨xs,m,_,_,hl,hn,hf⟩:=DataW.trod_struct Qa h;rw[JW] at hl;have hn2:xs.length=2:=hn;obtain⟨x0,hx0⟩ : ∃y,xs[0]?=some y:=⟨_,aK aa⟩;have f0:DataW.trod enc Tryz.prog W 0 (fun _=>true) held m 5 ((cs.drop 0).take (Tryz.prog.cellsOf 5))=some x0:=(hf 0 { name := "Size",type:=5,offset:=0,embedded:=false,tag := "",pkgPath := "",byteOffset:=0 } rfl).trans hx0;obtain⟨x1,hx1⟩ : ∃y,xs[1]?=some y:=⟨_,aK aa⟩;have f1:DataW.trod enc Tryz.prog W 0 (fun _=>true) held m 22 ((cs.drop 1).take (Tryz.prog.cellsOf 22))=some x1:=(hf 1 { name := "N",type:=22,offset:=1,embedded:=false,tag := "",pkgPath := "",byteOffset:=8 } rfl).trans hx1;rw[XM] at f0;rw[V7] at f1;obtain⟨a,b,rfl⟩:=WY hl;obtain⟨k,e0,hk⟩:=rF (m:=255) rfl rfl TJ f0;obtain⟨v,l,e1,t1,s1⟩:=sZ G f1;cases e0;cases e1;exact⟨k,_,l,rfl,aa,t1,s1⟩
def Qc:Tryz.prog.underlying 27=some (.struct { toList:=[{ name := "D",type:=24,offset:=0,embedded:=false,tag := "",pkgPath := "",byteOffset:=0 },{ name := "Scores",type:=22,offset:=2,embedded:=false,tag := "",pkgPath := "",byteOffset:=32 },{ name := "Levels",type:=22,offset:=3,embedded:=false,tag := "",pkgPath := "",byteOffset:=56 },{ name := "At",type:=22,offset:=4,embedded:=false,tag := "",pkgPath := "",byteOffset:=80 },{ name := "RawScores",type:=25,offset:=5,embedded:=false,tag := "",pkgPath := "",byteOffset:=104 },{ name := "RawLevel",type:=25,offset:=6,embedded:=false,tag := "",pkgPath := "",byteOffset:=128 }] }):=ae
theorem XO:Tryz.prog.cellsOf 27=7:=ae
def U7 (G:Nat→Option (List Value)) (h:DataW.trod enc Tryz.prog W 0 (fun _=>true) held fuel 27 cs=some x) :∃k yN yS yL yA yR yQ lN lS lL lA lR lQ,cs = [B8 k,yN,yS,yL,yA,yR,yQ]∧k<256∧(fi yN=true∧fi yS=true∧fi yL=true∧fi yA=true∧fi yR=true∧fi yQ=true)∧kB (IH.start (rG G W)) (trV yN) lN∧kB (IH.start (rG G W)) (trV yS) lS∧kB (IH.start (rG G W)) (trV yL) lL∧kB (IH.start (rG G W)) (trV yA) lA∧vj (IH.start (rG G W)) (trV yR) lR∧vj (IH.start (rG G W)) (trV yQ) lQ:=by obtain⟨xs,m,_,_,hl,hn,hf⟩:=DataW.trod_struct Qc h;rw[XO] at hl;have hn2:xs.length=6:=hn;obtain⟨x0,hx0⟩ : ∃y,xs[0]?=some y:=⟨_,aK aa⟩;have f0:DataW.trod enc Tryz.prog W 0 (fun _=>true) held m 24 ((cs.drop 0).take (Tryz.prog.cellsOf 24))=some x0:=(hf 0 { name := "D",type:=24,offset:=0,embedded:=false,tag := "",pkgPath := "",byteOffset:=0 } rfl).trans hx0;obtain⟨x1,hx1⟩ : ∃y,xs[1]?=some y:=⟨_,aK aa⟩;have f1:DataW.trod enc Tryz.prog W 0 (fun _=>true) held m 22 ((cs.drop 2).take (Tryz.prog.cellsOf 22))=some x1:=(hf 1 { name := "Scores",type:=22,offset:=2,embedded:=false,tag := "",pkgPath := "",byteOffset:=32 } rfl).trans hx1;obtain⟨x2,hx2⟩ : ∃y,xs[2]?=some y:=⟨_,aK aa⟩;have f2:DataW.trod enc Tryz.prog W 0 (fun _=>true) held m 22 ((cs.drop 3).take (Tryz.prog.cellsOf 22))=some x2:=(hf 2 { name := "Levels",type:=22,offset:=3,embedded:=false,tag := "",pkgPath := "",byteOffset:=56 } rfl).trans hx2;obtain⟨x3,hx3⟩ : ∃y,xs[3]?=some y:=⟨_,aK aa⟩;have f3:DataW.trod enc Tryz.prog W 0 (fun _=>true) held m 22 ((cs.drop 4).take (Tryz.prog.cellsOf 22))=some x3:=(hf 3 { name := "At",type:=22,offset:=4,embedded:=false,tag := "",pkgPath := "",byteOffset:=80 } rfl).trans hx3;obtain⟨x4,hx4⟩ : ∃y,xs[4]?=some y:=⟨_,aK aa⟩;have f4:DataW.trod enc Tryz.prog W 0 (fun _=>true) held m 25 ((cs.drop 5).take (Tryz.prog.cellsOf 25))=some x4:=(hf 4 { name := "RawScores",type:=25,offset:=5,embedded:=false,tag := "",pkgPath := "",byteOffset:=104 } rfl).trans hx4;obtain⟨x5,hx5⟩ : ∃y,xs[5]?=some y:=⟨_,aK aa⟩;have f5:DataW.trod enc Tryz.prog W 0 (fun _=>true) held m 25 ((cs.drop 6).take (Tryz.prog.cellsOf 25))=some x5:=(hf 5 { name := "RawLevel",type:=25,offset:=6,embedded:=false,tag := "",pkgPath := "",byteOffset:=128 } rfl).trans hx5;rw[JW] at f0;rw[V7] at f1 f2 f3;rw[XN] at f4 f5;obtain⟨a,b,c,d,e,f,g,rfl⟩:=Rt hl;obtain⟨k,y,lN,e0,hk,t0,s0⟩:=Pd G f0;obtain⟨v1,lS,e1,t1,s1⟩:=sZ G f1;obtain⟨v2,lL,e2,t2,s2⟩:=sZ G f2;obtain⟨v3,lA,e3,t3,s3⟩:=sZ G f3;obtain⟨v4,lR,e4,t4,s4⟩:=zN G f4;obtain⟨v5,lQ,e5,t5,s5⟩:=zN G f5;cases e0;cases e1;cases e2;cases e3;cases e4;cases e5;exact⟨k,_,_,_,_,_,_,lN,lS,lL,lA,lR,lQ,rfl,hk,⟨t0,t1,t2,t3,t4,t5⟩,s0,s1,s2,s3,s4,s5⟩
def Ie:Tryz.prog.underlying 36=some (.struct { toList:=[{ name := "State",type:=28,offset:=0,embedded:=false,tag := "",pkgPath := "",byteOffset:=0 }] }):=ae
theorem SX:Tryz.prog.cellsOf 36=1:=ae
def len1 : ∀{l:List α},l.length=1 → ∃a,l = [a]
 | [a],_=>⟨a,rfl⟩
def PA (h:DataW.trod enc Tryz.prog W 0 (fun _=>true) held fuel 36 cs=some x) : ∃s:Nat,cs = [K64 s]∧s<18446744073709551616:=by obtain⟨xs,m,_,_,hl,hn,hf⟩:=DataW.trod_struct Ie h;rw[SX] at hl;have hn2:xs.length=1:=hn;obtain⟨x0,hx0⟩ : ∃y,xs[0]?=some y:=⟨_,aK aa⟩;have f0:DataW.trod enc Tryz.prog W 0 (fun _=>true) held m 28 ((cs.drop 0).take (Tryz.prog.cellsOf 28))=some x0:=(hf 0 { name := "State",type:=28,offset:=0,embedded:=false,tag := "",pkgPath := "",byteOffset:=0 } rfl).trans hx0;rw[V8] at f0;obtain⟨a,rfl⟩:=len1 hl;obtain⟨k,e0,hk⟩:=rF (m:=18446744073709551615) rfl rfl Vp f0;cases e0;exact⟨k,rfl,aa⟩
end
end
end Go.Proofs.YtnnmjocmapilaaaGreat
