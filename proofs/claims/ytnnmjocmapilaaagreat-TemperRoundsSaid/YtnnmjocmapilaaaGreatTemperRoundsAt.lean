/-
  Contracts: package chance: Wide
-/
import Derived.Test.YtnnmjocmapilaaaGreatTemperRoundsAs
set_option linter.unusedVariables false
set_option linter.unusedSimpArgs false
set_option linter.defProp false
set_option linter.deprecated false
namespace Go.Id
open Go
open Go renaming Operand→QY,Program→QX,TypeId→QZ,Value→QQ
open Nat renaming reduceAdd→zA,reduceEqDiff→zE,reduceLeDiff→zL
open Nat (reduceMul)
set_option maxHeartbeats 16000000
open Go.Proofs.Tryz (prog)
noncomputable def EI (s n:Nat):Value:=if wdI n<1 then .tuple #[wdV 0,chV 0,KI 2] else match mD n s with
 | none=>.tuple #[wdV 0,chV 0,KI 9]
 | some p=>.tuple #[wdV p.1,chV p.2,KI 0]
def FT {h:IH} {s n:Nat} (hn:n<W8) (hs:s<18446744073709551616) :WV Proofs.Tryz.prog (.func (.func 130) #[] #[]) [chV s,wdV n] h fun r h'=>Ext h h'∧r=EI s n:=by
 unfold EI;obtain⟨H0,hH0⟩ : ∃H,H=(((h.new (.cells [K64 s] 0 none)).new (.cells (wdC n) 0 none)).new (.cells [ZW,ZW,ZW,ZW,ZW,ZW,ZW,ZW] 0 none)).new (.cells [.int .u64 0] 0 none):=⟨_,rfl⟩;have nH0:H0.n=h.n+4:=by rw[hH0];rfl
 have E0:Ext h H0:=by rw[hH0];exact((((Ext.refl h).new _).new _).new _).new _
 have c2:H0.ext.get h.n=some (.cells [K64 s] 0 none):=by rw[hH0];simp (disch:=try exact dx) only[ar,aE]
 have c3:H0.ext.get (h.n+1)=some (.cells (wdC n) 0 none):=by rw[hH0];simp (disch:=try exact dx) only[ar,aE]
 have c4:H0.ext.get (h.n+1+1)=some (.cells [ZW,ZW,ZW,ZW,ZW,ZW,ZW,ZW] 0 none):=by rw[hH0];simp (disch:=try exact dx) only[ar,aE]
 have c5:H0.ext.get (h.n+1+1+1)=some (.cells [.int .u64 0] 0 none):=by rw[hH0];simp (disch:=try exact dx) only[ar]
 refine enter (nt:=34) (rs:=[.cell 4 30,.cell 5 36,.tmp 6]) Proofs.Tryz.func130 rfl rfl rfl ab ?_;simp -dsimp (disch:=try exact dx) only[wpS,zE,zL,zA,fa,lz,bY,chV,bA,aD,aY];rw[←hH0];clear hH0;refine call (pZ n hn) ?_;rintro _ h1 ⟨X1,rfl⟩;have m1:=X1.n;have q4:=X1.kept aa c4;have q5:=X1.kept aa c5;by_cases cn:wdI n<1
 ·rw[aq cn];obtain⟨z,hz,hz0⟩ : ∃z:Int,(if wdI n<0 then (-1:Int) else if wdI n=0 then 0 else 1)=z∧z<1:=⟨_,rfl,by by_cases c:wdI n<0<;>simp[c]<;>by_cases c2:wdI n=0<;>simp[c2]<;>omega⟩;rw[hz];have X:=E0.trans X1;simp -dsimp (disch:=try exact dx) only[wpS,wpT,zE,zL,zA,bY,kQ,fw,dw,dX,cP,q4,q5,tk1];refine⟨(X.put aa _).put aa _,?_⟩;rw[←iL];rfl
 rw[ah cn,ah aa,ah aa];have nH:n<H8:=by apply di;intro hh;unfold wdI at cn;rw[ah hh] at cn;omega
 have n0:0<n:=by apply di;intro hh;have:n=0:=aa;subst this;unfold wdI at cn;rw[aq nH] at cn;omega
 simp -dsimp (disch:=try exact dx) only[wpS,wpT,zE,zL,cP,ay (X1.kept aa c2),tk1];refine call (FQ (s:=s)) ?_;rintro _ _ ⟨rfl,rfl⟩;obtain⟨H1,hH1⟩ : ∃H,H=(h1.new (.cells [K64 s] 0 none)).new (.cells [K64 s] 0 none):=⟨_,rfl⟩;have n1:H1.n=h1.n+2:=by rw[hH1];rfl
 have E1:Ext h1 H1:=by rw[hH1];exact((Ext.refl _).new _).new _
 have gk:H1.ext.get (h1.n+1)=some (.cells [K64 s] 0 none):=by rw[hH1];simp (disch:=try exact dx) only[ar]
 rw[←hH1];clear hH1;simp -dsimp (disch:=try exact dx) only[wpS,zE,zL,bY,ay ((X1.trans E1).kept aa c3),aD,aY];refine call (Qk E1 (jh _) aa gk n0 nH hs) ?_;rintro _ h2 ⟨X2,hn2,⟨x,t,ht,rfl,gt⟩|⟨ht,rfl⟩⟩
 ·rw[ht];have hx:=sh n0 hs ht;have r4:=X2.kept aa q4;have r5:=X2.kept aa q5;obtain⟨H3,hH3⟩ : ∃H,H=(h2.new (.cells [ZW,ZW,ZW,ZW,ZW,ZW,ZW,ZW] 0 none)).put h2.n (.cells (wdC x) 0 none):=⟨_,rfl⟩;have E3:Ext h2 H3:=by rw[hH3];exact((Ext.refl _).new _).put (aA _) _
  have n3:H3.n=h2.n+1:=by rw[hH3];rfl
  have g3:H3.ext.get h2.n=some (.cells (wdC x) 0 none):=by rw[hH3];simp (disch:=try exact dx) only[aj]
  have s4:=E3.kept aa r4;have s5:=E3.kept aa r5;have st:=E3.kept aa gt;simp -dsimp (disch:=try exact dx) only[wpS,wpT,zE,zL,zA,fa,dw,bA,aD,aW,bD];rw[←hH3];clear hH3;have X:=(((E0.trans X1).trans X2).trans E3);refine drawn [(5,[7])] ae ae rfl ?_;simp -dsimp (disch:=try exact dx) only[wpS,wpT,zE,zL,zA,bY,dw,dX,cP,BQ,Hy,ay g3,ay st,s4,s5,tk1,aD,aW,bD,aY];refine⟨az rfl rfl rfl rfl (aO (v:=.agg #[K64 t]) rfl ?_ ?_),?_⟩
  ·have r:=ay st;simp -dsimp (disch:=try exact dx) only[wpS,wpT,zL,cP,r,tk1]
  ·have r:=ay ((au (k:=h.n+1+1) H3 (.cells (wdC x) 0 none) (j:=h1.n+1) aa).trans st);simp -dsimp (disch:=try exact dx) only[wpS,wpT,zL,cP,r,tk1]
  simp -dsimp (disch:=try exact dx) only[wpS,wpT,zE,zL,zA,bY,cP,tk1,aD,aY];exact⟨(X.put aa _).put aa _,rfl⟩
 ·rw[ht];have r4:=X2.kept aa q4;have r5:=X2.kept aa q5;simp -dsimp (disch:=try exact dx) only[wpS,wpT,zE,zL,zA,fa,bY,kQ,fw,dw,dX,cP,r4,r5,bA,aD,aW,bD,tk1];refine⟨(((((E0.trans X1).trans X2).new _).put aa _).put aa _).put aa _,?_⟩;rw[←iL];rfl
section
def rH (l:List Nat) (i:Nat):List Nat:=(List.range i).map fun j=>du l (j+1)
theorem zO (l:List Nat) (i:Nat):(rH l i).length=i:=by simp[rH]
theorem KH (l:List Nat) (i:Nat):rH l (i+1)=rH l i ++ [du l (i+1)]:=by simp[rH,sM]
variable {l:List Nat}
def CC {i k:Nat} (h:k<i):(rH l i)[k]?=some (du l (k+1)):=by simp[rH,h]
variable {h:IH}
def SM {v F:Value} (hv:iQ h v l) (hl:l.length≤1000) (hs:du l l.length<W8)(hF : ∀h1 i p,Ext h h1→l[i]?=some p→WV prog F [wdV (du l i),wdV p] h1 fun r h2=>Ext h1 h2∧r=wdV (du l (i+1))) :WV prog (.func (.func 210) #[] #[]) [v,F] h fun r h'=>Ext h h'∧iQ h' r (rH l l.length):=by
 refine enter (nt:=25) (rs:=[.tmp 4]) Proofs.Tryz.func210 rfl rfl rfl ab ?_;simp -dsimp (disch:=try exact dx) only[wpS,zE,zA,fa,hv.1.len rJ];refine loop (fun m fr hh => ∃(i:Nat) (out:Value),i+m=l.length∧Ext h hh∧h.n<hh.n∧Acc hh h.n 8 out (rH l i).length (wiL (rH l i))∧hh.ext.get h.n=some (.cells (wdC (du l i)) 0 none)∧ax fr 1=some F∧ax fr 5=some out∧ax fr 6=some (ptr (2*h.n) 0)∧ax fr 9=some v∧ax fr 10=some (KN l.length)∧ax fr 11=some (KN i)) l.length ⟨0,.slice none 0 0,aa,(Ext.refl _).new _,ab,Acc.nil _ _ aa,by rw[du,lJ];simp (disch:=try exact dx) only[ar],ab,ab,ab,ab,ab,ab⟩ ?_;rintro m fr hh ⟨i,out,him,hE,hn,hA,g,f1,f5,f6,f9,f10,f11⟩;simp -dsimp (disch:=try exact dx) only[wpS,f10,f11];refine aG ?_ ?_<;>intro hc<;>simp only[aS,aV] at hc
 ·have hi:i<l.length:=aa;obtain⟨p,hp⟩ : ∃p,l[i]?=some p:=⟨_,aK hi⟩;have pw:=hv.2.2 p (bh hp);have sw:du l (i+1)<W8:=il (nR l aa) hs;simp -dsimp (disch:=try exact dx) only[wpS,wpT,zE,zL,zA,fa,dw,f1,f9,f11,hv.1.idx qE hi,hv.ld hE.ai hp,bA,aD,aW,bD];obtain⟨H0,hH0⟩ : ∃H,H=(hh.new (.cells [ZW,ZW,ZW,ZW,ZW,ZW,ZW,ZW] 0 none)).put hh.n (.cells (wdC p) 0 none):=⟨_,rfl⟩;have E0:Ext hh H0:=by rw[hH0];exact((Ext.refl hh).new _).put (aA _) _
  have n0:H0.n=hh.n+1:=by rw[hH0];rfl
  have g0:=E0.kept hn g;have x0:H0.ext.get hh.n=some (.cells (wdC p) 0 none):=by rw[hH0];simp (disch:=try exact dx) only[aj]
  rw[←hH0];clear hH0;simp -dsimp (disch:=try exact dx) only[wpS,zE,zL,bY,f6,ay g0,ay x0,aD,aY];refine call (hF H0 i p (hE.trans E0) hp) ?_;rintro _ h1 ⟨X1,rfl⟩;have m1:=X1.n;have E1:=E0.trans X1;have g1:=X1.kept aa g0;obtain⟨H1,hH1⟩ : ∃H,H=h1.put h.n (.cells (wdC (du l (i+1))) 0 none):=⟨_,rfl⟩;have E2:Ext h H1:=by rw[hH1];exact(hE.trans E1).put (aA _) _
  have n1:H1.n=h1.n:=by rw[hH1];rfl
  have k1:H1.ext.get h.n=some (.cells (wdC (du l (i+1))) 0 none):=by rw[hH1];simp (disch:=try exact dx) only[aj]
  have hA1:Acc H1 h.n 8 out (rH l i).length (wiL (rH l i)):=by rw[hH1];exact(hA.ext E1).put g1 _
  simp -dsimp (disch:=try exact dx) only[wpS,wpT,zE,zL,dw,f6,g1,bA,aD,aW,sW];rw[←hH1];clear hH1;obtain⟨cV,h8,hap,hA8,hG8,hE8⟩:=hA1.qC (P:=prog) (t:=42) HL (m:=1) (new:=wdC (du l (i+1))) aa (by rw[aD]) (aW _) (by rw[zO];omega) aa E2 (aA _);have lD:append prog (H1.new (.cells (wdC (du l (i+1))) 8 none)) 42 out (.slice (some ⟨2*H1.n,0,none⟩) 1 3)=some (cV,h8):=hap;simp -dsimp (disch:=try exact dx) only[wpS,wpT,zE,zL,zA,bY,HG,pM,f5,f6,f11,ay k1,aD,bD,aY,lD];refine⟨m - 1,aa,i+1,cV,aa,hE8,cB aa hG8.n,?_,hG8.var aa k1,by simp[f1],ab,by simp[f6],by simp[f9],by simp[f10],ab⟩;rw[KH,mQ,dG];exact hA8
 ·obtain rfl:i=l.length:=aa;simp -dsimp (disch:=try exact dx) only[wpS,wpT,zE,f5];refine⟨hE,hA.sl,by rw[zO];omega,?_⟩;intro n hn;obtain⟨j,hj,rfl⟩:=ir.1 hn;exact il (nR l (by have:=qX.1 hj;omega)) hs
def Px {b:Nat} (x y:Nat) (hs:x+y<H8) :WV prog (.func (.func 211) #[] #[ptr (2*b) 0]) [wdV x,wdV y] h fun r h2=>Ext h h2∧r=wdV (x+y):=by
 refine enter (nt:=18) (rs:=[.cell 5 30]) Proofs.Tryz.func211 rfl rfl rfl ab ?_;simp -dsimp (disch:=try exact dx) only[wpS,zE,zL,zA,fa,bY,bA,aD,aY];have h1:x<H8:=aa;have h2:y<H8:=aa;obtain⟨H0,hH0,n0,E0,k0,k1,k2⟩:=jC h (wdC x) (wdC y) [ZW,ZW,ZW,ZW,ZW,ZW,ZW,ZW];rw[←hH0];clear hH0;refine call (Ib x y h1 h2) ?_;rintro _ h1 ⟨X1,rfl⟩;rw[aq hs];have m1:=X1.n;have g2:=X1.kept aa k2;obtain⟨H1,hH1⟩ : ∃H,H=(h1.new (.cells [ZW,ZW,ZW,ZW,ZW,ZW,ZW,ZW] 0 none)).put h1.n (.cells (wdC (x+y)) 0 none):=⟨_,rfl⟩;have E1:Ext h1 H1:=by rw[hH1];exact((Ext.refl h1).new _).put (aA _) _
 have c1:H1.ext.get h1.n=some (.cells (wdC (x+y)) 0 none):=by rw[hH1];simp (disch:=try exact dx) only[aj]
 have c2:=E1.kept aa g2;simp -dsimp (disch:=try exact dx) only[wpS,wpT,zE,zL,zA,fa,bY,dw,bA,aD,aW,bD];rw[←hH1];clear hH1;simp -dsimp (disch:=try exact dx) only[wpS,wpT,zE,zL,zA,bY,g2,aD,aW,bD,aY];exact⟨((E0.trans X1).trans E1).put aa _,rfl⟩
end
section
variable {i p:Nat}
theorem tg (l:List Nat) (h:l[i]?=some p):du l (i+1)=du l i+p:=by rw[du,bH,h];rfl
def CD (l:List Nat) (h:l[i]?=some p):p≤du l l.length:=by have:=nR l (bU.1 h).1;rw[Nat.succ_eq_add_one,tg l h] at this;omega
noncomputable def Fk (l:List Nat) (s:Nat):Value:=match mD (du l l.length) s with
 | none=>.tuple #[KI 0,chV 0,KI 9]
 | some p=>.tuple #[KN (nw l p.1 l.length 0),chV p.2,KI 0]
variable {n:Nat}
theorem gU (hn:n<H8):wdI n=(n:Int):=by unfold wdI;rw[aq hn]
variable {s:Nat}
theorem vx (h0:0<n) (hn:n<H8):EI s n=match mD n s with
 | none=>.tuple #[wdV 0,chV 0,KI 9]
 | some p=>.tuple #[wdV p.1,chV p.2,KI 0]:=by
 unfold EI;rw[ah (show ¬wdI n<1 by rw[gU hn];omega)];all_goals (cases mD n s<;>rfl)
def SO {h:IH} {v:Value} {l:List Nat} (hv:iQ h v l) (hl:l.length≤400) (hs:du l l.length<H8) (h0:0<du l l.length) (hst:s<18446744073709551616) :WV prog (.func (.func 125) #[] #[]) [chV s,v] h fun r h'=>Ext h h'∧r=Fk l s:=by
 obtain⟨N,hN⟩ : ∃N,N=du l l.length:=⟨_,rfl⟩;have w8:du l l.length<W8:=by have:=dD;omega
 obtain⟨H0,hH0⟩ : ∃H,H=(h.new (.cells [K64 s] 0 none)).new (.cells [.int .u64 0] 0 none):=⟨_,rfl⟩;have n0:H0.n=h.n+2:=by rw[hH0];rfl
 have E0:Ext h H0:=by rw[hH0];exact((Ext.refl h).new _).new _
 have c2:H0.ext.get h.n=some (.cells [K64 s] 0 none):=by rw[hH0];simp (disch:=try exact dx) only[ar,aE]
 have c5:H0.ext.get (h.n+1)=some (.cells [.int .u64 0] 0 none):=by rw[hH0];simp (disch:=try exact dx) only[ar]
 have vc:=hv.1.cells;have vo:=hv.1.cok;refine enter (nt:=78) (rs:=[.tmp 4,.cell 5 36,.tmp 6]) Proofs.Tryz.func125 rfl rfl rfl ab ?_;simp -dsimp (disch:=try exact dx) only[wpS,zE,zA,lz,chV];rw[←hH0];clear hH0;have hlen:=hv.1.len rJ (P:=prog);simp -dsimp (disch:=try exact dx) only[wpS,wpT,zE,zL,zI,nS,hlen];refine loop (fun m fr hh => ∃(i:Nat),i+m=l.length∧Ext H0 hh∧ax fr 1=some v∧ax fr 2=some (ptr (2*h.n) 0)∧ax fr 5=some (ptr (2*(h.n+1)) 0)∧ax fr 19=some v∧ax fr 20=some (KN l.length)∧ax fr 21=some (KN i)) l.length ⟨0,aa,Ext.refl _,ab,ab,ab,ab,ab,ab⟩ ?_;rintro m fr hh ⟨i,him,hE,f1,f2,f5,f19,f20,f21⟩;have hnn:=hE.n;simp -dsimp (disch:=try exact dx) only[wpS,wpT,zE,zL,zI,nS,f20,f21];refine aG ?_ ?_<;>intro hc2<;>simp only[aS,aV] at hc2
 ·have hi:i<l.length:=aa;obtain⟨p,hp⟩ : ∃p,l[i]?=some p:=⟨_,aK hi⟩;have pw:=hv.2.2 p (bh hp);have pt:=CD l hp;simp -dsimp (disch:=try exact dx) only[wpS,wpT,zE,zL,zA,bY,fa,dw,zI,nS,f19,f21,hv.1.idx qE hi,hv.ld (E0.trans hE).ai hp,bA,aD,aW,bD,aY];refine call (pZ p pw) ?_;rintro _ h1 ⟨X1,rfl⟩;rw[gU aa,ah aa];obtain⟨z,hz,hz0⟩ : ∃z:Int,(if (p:Int)=0 then (0:Int) else 1)=z ∧ ¬z<0:=⟨_,rfl,by split<;>omega⟩;rw[hz];simp -dsimp (disch:=try exact dx) only[wpS,wpT,zE,zL,zI,nS,f21,hz0,nC];have m1:=X1.n;refine⟨m - 1,aa,i+1,aa,?_,by simp[f1],by simp[f2],by simp[f5],by simp[f19],by simp[f20],ab⟩;exact hE.trans ((((Ext.refl _).new _).put (aA _) _).trans X1)
 ·obtain rfl:i=l.length:=aa;simp -dsimp (disch:=try exact dx) only[wpS,wpT,zE,zL,zI,nS,f1];obtain⟨H1,hH1⟩ : ∃H,H=(hh.new (.cells [KI 0] 0 none)).put hh.n (.cells [KI 0] 0 none):=⟨_,rfl⟩;have E1:Ext hh H1:=by rw[hH1];exact((Ext.refl hh).new _).put (aA _) _
  have n1:H1.n=hh.n+1:=by rw[hH1];rfl
  have c9:H1.ext.get hh.n=some (.cells [KI 0] 0 none):=by rw[hH1];simp (disch:=try exact dx) only[aj]
  rw[←hH1];clear hH1;have E01:=(E0.trans hE).trans E1;have w2:=(hE.trans E1).kept aa c2;have w5:=(hE.trans E1).kept aa c5;refine call (SM (hv.ai E01.ai) aa w8 (fun h1 i p _ hp=>?_)) ?_;·have hx:=tg l hp;have:=nR l (bU.1 hp).1;rw[Nat.succ_eq_add_one,hx] at this;rw[hx];exact Px _ _ aa
  rintro up h2 ⟨X2,hu⟩
  have m2:=X2.n;have d9:=X2.kept aa c9;have d2:=X2.kept aa w2;have d5:=X2.kept aa w5;have lu:(rH l l.length).length=l.length:=zO _ _;have l0:0<l.length:=by apply di;intro hh;have:l.length=0:=aa;rw[this] at h0;simp[du] at h0
  have hu1:=hu.1
  rw[lu] at hu1;have lnu:=hu1.len rJ (P:=prog);have ixu:=hu1.idx qE (P:=prog) (k:=.i64) (j:=l.length - 1) aa;have ldu:=hu.ld (bj.refl _) (CC (l:=l) (i:=l.length) (k:=l.length - 1) aa);rw[show l.length - 1+1=l.length by omega] at ldu;have Yu:(l.length:Int) - 1=((l.length - 1:Nat):Int):=aa;have ne0:((l.length:Int) == 0)=false:=beq_false_of_ne aa;simp -dsimp (disch:=try exact dx) only[wpS,wpT,zE,pG,ay d9,lnu,ixu,ldu,Yu,ne0];refine call (pZ _ w8) ?_;rintro _ h3 ⟨X3,rfl⟩;have m3:=X3.n;rw[gU hs,ah aa,ah aa];have e2:=X3.kept aa d2;have e5:=X3.kept aa d5;have e9:=X3.kept aa d9;have YQ:=hu.ld X3.ai (CC (l:=l) (i:=l.length) (k:=l.length - 1) aa);rw[show l.length - 1+1=l.length by omega] at YQ;simp -dsimp (disch:=try exact dx) only[wpS,wpT,zE,zL,cP,f2,ay e2,lnu,ixu,YQ,Yu,tk1];refine call (FT w8 hst) ?_;rintro _ h4 ⟨X4,rfl⟩;have m4:=X4.n;have X34:=X3.trans X4;rw[vx h0 hs];unfold Fk;have q5:=X4.kept aa e5;have XX:=(E01.trans X2).trans X34;rcases hd:mD (du l l.length) s with _|⟨x,t⟩
  ·simp -dsimp (disch:=try exact dx) only[wpS,wpT,zE,zL,zA,lz,fw,dX,fa,dw,cP,f5,chV,q5,tk1,bA,aD,aW,bD];exact⟨((((XX.new _).new _).put aa _).put aa _).put aa _,rfl⟩
  ·have hx:=sh h0 hst hd;simp -dsimp (disch:=try exact dx) only[wpS,wpT,zE,zL,zA,lz,dX,fa,dw,chV,bA,aD,aW,bD];obtain⟨H5,hH5⟩ : ∃H,H=(((h4.new (.cells [ZW,ZW,ZW,ZW,ZW,ZW,ZW,ZW] 0 none)).new (.cells [.int .u64 0] 0 none)).put h4.n (.cells (wdC x) 0 none)).put (h4.n+1) (.cells [K64 t] 0 none):=⟨_,rfl⟩;have E5:Ext h4 H5:=by rw[hH5];exact((((Ext.refl h4).new _).new _).put aa _).put aa _
   have n5:H5.n=h4.n+2:=by rw[hH5];rfl
   have k11:H5.ext.get h4.n=some (.cells (wdC x) 0 none):=by rw[hH5];simp (disch:=try exact dx) only[aj,au]
   have k12:H5.ext.get (h4.n+1)=some (.cells [K64 t] 0 none):=by rw[hH5];simp (disch:=try exact dx) only[aj]
   have k5:=E5.kept aa q5;rw[←hH5];clear hH5;refine loop (fun m fr hh' => ∃k:Nat,k+m=l.length∧Ext H5 hh'∧nw l x l.length 0=nw l x m k∧du l k≤x∧ax fr 5=some (ptr (2*(h.n+1)) 0)∧ax fr 10=some up∧ax fr 11=some (ptr (2*h4.n) 0)∧ax fr 12=some (ptr (2*(h4.n+1)) 0)∧ax fr 14=some (KN k)) l.length ⟨0,aa,Ext.refl _,rfl,by simp[du],by simp[f5],ab,ab,ab,ab⟩ ?_;rintro m fr hh' ⟨k,hk,hE',hpk,hsk,g5,g10,g11,g12,g14⟩;have en:=hE'.n;have km:k<l.length:=by apply di;intro hn;obtain rfl:k=l.length:=aa;omega
   have ixk:=hu1.idx qE (P:=prog) (k:=.i64) (j:=k) km;have ldk:=hu.ld ((X34.trans E5).trans hE').ai (CC (l:=l) (i:=l.length) (k:=k) km);have sk:du l (k+1)<H8:=il (nR l aa) hs;have r11:=hE'.kept aa k11;simp -dsimp (disch:=try exact dx) only[wpS,zE,zL,bY,g10,g11,g14,ixk,ldk,ay r11,aD,aY];refine call (Ia _ x sk aa) ?_;rintro _ h6 ⟨X6,rfl⟩;have m6:=X6.n;obtain⟨q,hq⟩ : ∃q,m=q+1:=⟨m - 1,aa⟩;rw[hq,nw] at hpk;by_cases c:du l (k+1)≤x
   ·rw[aq c] at hpk;obtain⟨z,hz,hz0⟩ : ∃z:Int,(if du l (k+1)<x then (-1:Int) else if du l (k+1)=x then 0 else 1)=z∧z≤0:=⟨_,rfl,by
     by_cases c1:du l (k+1)<x;·rw[aq c1];omega
     ·rw[ah c1,aq aa];omega⟩
    rw[hz];simp -dsimp (disch:=try exact dx) only[wpS,wpT,zE,g14];exact⟨q,aa,k+1,aa,hE'.trans X6,hpk,c,by simp[g5],by simp[g10],by simp[g11],by simp[g12],ab⟩
   ·rw[ah c] at hpk;rw[ah aa,ah aa];have s5:=(hE'.trans X6).kept aa k5;have s12:=(hE'.trans X6).kept aa k12;simp -dsimp (disch:=try exact dx) only[wpS,wpT,zE,zL,dX,cP,g5,g12,g14,ay s12,s5,tk1];exact⟨((XX.trans E5).trans (hE'.trans X6)).put aa _,by show _=Value.tuple #[KN (nw l x l.length 0),chV t,KI 0];rw[hpk];rfl⟩
end
def Bm.rat {h:IH} {v:Value} {n d:Nat} (p:Bm h v (wdI n) (wdI d)) (ok:okS n d):jl h v (rOf (n,d)):=by obtain⟨e1,e2⟩:=nU (p:=(n,d)) ok;unfold jl;rw[e1,e2];exact p
def Dp {h:IH}:WV prog (.func (.func 163) #[] #[]) [] h fun r h'=>Ext h h'∧jl h' r 0:=by
 have E1:Ext h (h.new (.cells ZR 0 none)):=(Ext.refl h).new _;have g1:(h.new (.cells ZR 0 none)).ext.get h.n=some (.cells ZR 0 none):=by simp (disch:=try exact dx) only[ar]
 refine enter (nt:=2) (rs:=[.cell 0 177]) Proofs.Tryz.func163 rfl rfl rfl ab ?_;simp -dsimp (disch:=try exact dx) only[wpS,oE];refine call (yC 0 1 ⟨aa,aa⟩ ⟨aa,aa⟩ aa) ?_;rintro r h1 ⟨X1,p1⟩;rw[Rat.zero_divInt] at p1;obtain⟨a3,s3,b3,t3,rfl,_,_,d1,o1,d2,o2,o3,o4⟩:=p1.parts;have k1:=X1.kept ab g1;have m1:=X1.n;simp only[aH] at m1;simp -dsimp (disch:=try exact dx) only[wpS,wpT,zE,zL,zA,mr,ny,k1,o1,o2,o3,o4,kA];exact⟨(E1.trans X1).put aa _,p1.ai ((bj.refl _).put k1 _)⟩
open Classical in
def O8 {h:IH} {v:QQ} {l:List (Nat×Nat)} (hv:kU h v l) :WV prog (.func (.func 133) #[] #[]) [v] h fun r h'=>Ext h h'∧r=.bool (decide (∀p∈l,okS p.1 p.2)):=by
 have hlb:=hv.2.1;refine enter (nt:=16) (rs:=[.tmp 2]) Proofs.Tryz.func133 rfl rfl rfl ab ?_;simp -dsimp (disch:=try exact dx) only[wpS];refine loop (fun m fr h1 => ∃i:Nat,i+m=l.length∧Ext h h1∧(∀(j:Nat) p,j<i→l[j]?=some p→okS p.1 p.2)∧ax fr 0=some v∧ax fr 3=some (KN i)) l.length ⟨0,aa,Ext.refl _,fun j p hj=>aa,ab,ab⟩ ?_;rintro m fr h1 ⟨i,him,hE,hok,f0,f3⟩;simp -dsimp (disch:=try exact dx) only[wpS,zE,f0,f3,hv.1.len xz];refine aG ?_ ?_<;>intro hc<;>simp only[aS,aV] at hc
 ·have hi:i<l.length:=aa;obtain⟨p,hp⟩ : ∃p,l[i]?=some p:=⟨_,aK hi⟩;have hpm:=bh hp;obtain⟨w1,w2⟩:=hv.2.2 p hpm;simp -dsimp (disch:=try exact dx) only[wpS,wpT,zE,f0,f3,hv.1.idx tH hi,hv.ld hE.ai hp];refine call (AO p.1 p.2 w1 w2) ?_;rintro _ h3 ⟨hE2,rfl⟩;have E2:=hE.trans hE2;by_cases hk:okS p.1 p.2
  ·rw[ct hk];simp -dsimp (disch:=try exact dx) only[wpS,wpT,zE,f3];refine⟨m - 1,aa,i+1,aa,E2,?_,by simp[f0],ab⟩;intro j q hj hq;by_cases hji:j=i
   ·subst hji;rw[hp] at hq;cases hq;exact hk
   ·exact hok j q aa hq
  ·rw[bF hk,bF (show ¬∀p∈l,okS p.1 p.2 from fun ft=>hk (ft p hpm))];simp -dsimp (disch:=try exact dx) only[wpS,wpT,zE];exact E2
 ·rw[ct (show ∀p∈l,okS p.1 p.2 from fun p hp=>by
   obtain⟨j,hj⟩:=gH hp;exact hok j p (by have:=(bU.1 hj).1;omega) hj)]
  simp -dsimp (disch:=try exact dx) only[wpS,wpT];exact hE
open Classical in
def Pc {h:IH} {v:QQ} {l:List (Nat×Nat)} (hv:kU h v l) (ho : ∀p∈l,okS p.1 p.2) (hl:l.length≤1000) :WV prog (.func (.func 134) #[] #[]) [v] h fun r h'=>Ext h h'∧r=.bool (decide (mw l)):=by
 have hq0 : ∀q∈l.map rOf,QB 512 q:=by intro q hq;obtain⟨p,hp,rfl⟩:=ir.1 hq;exact tV (hv.2.2 p hp).1 (hv.2.2 p hp).2 (ho p hp)
 have hQ : ∀i,i≤l.length→QB (i*(512+1)) (jV ((l.take i).map rOf)):=by intro i hi;have:=QB.jV (k:=512) hq0 i (by simpa using hi);rwa [←sN] at this
 refine enter (nt:=28) (rs:=[.tmp 2]) Proofs.Tryz.func134 rfl rfl rfl ab ?_;simp -dsimp (disch:=try exact dx) only[wpS];refine call Dp ?_;rintro z h1 ⟨X1,p1⟩;have m1:=X1.n;obtain⟨a3,s3,b3,t3,rfl,_,_,d1,o1,d2,o2,o3,o4⟩:=p1.parts;simp -dsimp (disch:=try exact dx) only[wpS,wpT,zE,zL,zA,oE,mr,o1,o2,o3,o4];have Ex2:Ext h1 ((h1.new (.cells ZR 0 none)).put h1.n (.cells [a3,s3,b3,t3] 0 none)):=((Ext.refl h1).new _).put (aA _) _;refine loop (fun m fr hh => ∃(i:Nat) (a s b t:QQ),i+m=l.length∧Ext h hh∧h1.n<hh.n∧hh.ext.get h1.n=some (.cells [a,s,b,t] 0 none)∧jl hh (.agg #[a,s,b,t]) (jV ((l.take i).map rOf))∧(∀(j:Nat) p,j<i→l[j]?=some p → ¬zm p) ∧ax fr 0=some v∧ax fr 3=some (ptr (2*h1.n) 0)∧ax fr 4=some (KN i)) l.length ⟨0,a3,s3,b3,t3,aa,X1.trans Ex2,ab,by simp (disch:=try exact dx) only[aj],p1.ai Ex2.ai,fun j p hj=>aa,ab,ab,ab⟩ ?_;clear p1 Ex2;rintro m fr hh ⟨i,a,s,b,t,him,hE,hn,hg5,hp,hno,f0,f3,f4⟩;simp -dsimp (disch:=try exact dx) only[wpS,zE,f0,f4,hv.1.len xz];refine aG ?_ ?_<;>intro hc<;>simp only[aS,aV] at hc
 ·have hi:i<l.length:=aa;obtain⟨q,hq⟩ : ∃q,l[i]?=some q:=⟨_,aK hi⟩;have hqm:=bh hq;obtain⟨w1,w2⟩:=hv.2.2 q hqm;have hoq:=ho q hqm;simp -dsimp (disch:=try exact dx) only[wpS,wpT,zE,f0,f4,hv.1.idx tH hi,hv.ld hE.ai hq];refine call (CX q.1 q.2 w1 w2) ?_;rintro _ h2 ⟨X2,pp⟩;have m2:=X2.n;have p2:=pp.rat hoq;obtain⟨a2,s2,b2,t2,rfl,l1,_,d1,o1,d2,o2,o3,o4⟩:=p2.parts;have ea2:=l1.co.1;rw[show(rOf (q.1,q.2)).num=wdI q.1 from(nU hoq).1] at ea2;have gs:=X2.kept hn hg5;obtain⟨H3,hH3⟩ : ∃H,H=(h2.new (.cells ZR 0 none)).put h2.n (.cells [a2,s2,b2,t2] 0 none):=⟨_,rfl⟩;have e3:Ext h2 H3:=by rw[hH3];exact((Ext.refl h2).new _).put (aA _) _
  have n3:H3.n=h2.n+1:=by rw[hH3];rfl
  have g3:H3.ext.get h2.n=some (.cells [a2,s2,b2,t2] 0 none):=by rw[hH3];simp (disch:=try exact dx) only[aj]
  have gs3:=e3.kept aa gs;have hX:=hE.trans (X2.trans e3);by_cases cn:wdI q.1<0
  ·have hr : ¬mw l:=fun hr=>hr.1 q hqm (.inr cn);rw[ct cn] at ea2;subst ea2;rw[bF hr];have row3 : ∀X,((h2.new (.cells ZR 0 none)).put h2.n (.cells [.bool true,s2,b2,t2] 0 none)).row X=H3.row X:=fun X=>by rw[hH3]
   simp -dsimp (disch:=try exact dx) only[wpS,wpT,zE,zL,zA,oE,mr,nf,gV,ld4,o1,o2,o3,o4];rw[←hH3];exact hX
  ·rw[bF cn] at ea2
   subst ea2;simp -dsimp (disch:=try exact dx) only[wpS,wpT,zE,zL,zA,oE,mr,nf,gV,ld4,o1,o2,o3,o4];rw[←hH3];clear hH3;simp -dsimp (disch:=try exact dx) only[wpS,wpT,zE,zL,zA,ny,f3,ay gs3,ay g3,kA];have hkb:i*(512+1)+512+1<16000000:=aa;refine call (C0 (hp.ai (X2.trans e3).ai) (p2.ai e3.ai) (hQ i aa) (tV w1 w2 hoq) hkb) ?_;rintro r3 h5 ⟨X5,p5⟩;have m5:=X5.n;have eT:jV ((l.take i).map rOf)+rOf (q.1,q.2)=jV ((l.take (i+1)).map rOf):=by rw[jA hq,gF,jJ,nJ,pR]
   rw[eT] at p5;obtain⟨a4,s4,b4,t4,rfl,_,_,_,o1,_,o2,o3,o4⟩:=p5.parts;have k5:=X5.kept aa gs3;simp -dsimp (disch:=try exact dx) only[wpS,wpT,zE,zL,zA,mr,f3,f4,k5,o1,o2,o3,o4];refine⟨m - 1,aa,i+1,a4,s4,b4,t4,aa,(hX.trans X5).put aa _,by simp only[aJ];omega,aj _ _ rfl,p5.ai ((bj.refl _).put k5 _),?_,by simp[f0],by simp[f3],ab⟩;intro j x hj hx;by_cases hji:j=i;·subst hji;rw[hq] at hx;cases hx;exact fun h=>h.elim (fun h=>h hoq) cn
   ·exact hno j x aa hx
 ·obtain rfl:i=l.length:=aa;have hQl:=hQ l.length (aA _);rw[sK] at hp hQl;have hno' : ∀p∈l,¬zm p:=fun p hp=>by obtain⟨j,hj⟩:=gH hp;exact hno j p (by have:=(bU.1 hj).1;omega) hj
  obtain⟨_,_,L1⟩:=ql4 hg5;have X0:=Ext.refl hh;simp -dsimp (disch:=try exact dx) only[wpS,wpT];refine drawn [(0,[2])] ae ae rfl ?_;simp -dsimp (disch:=try exact dx) only[wpS,wpT,zE,zL,zA,ny,f3,ay hg5,kA];refine call (yC 1 1 ⟨aa,aa⟩ ⟨aa,aa⟩ aa) ?_;rintro r6 h6 ⟨X6,p6⟩;rw[show Rat.divInt 1 1=(1:Rat) from rfl] at p6;simp -dsimp (disch:=try exact dx) only[wpS,zE];refine call (Fg (hp.ai X6.ai) p6 hQl (QB.int (k:=64) (n:=1) aC) aa) ?_;rintro _ h7 ⟨X7,rfl⟩;have XX:=(hE.trans X6).trans X7;by_cases c1:jV (l.map rOf)=1
  ·rw[ct (show mw l from⟨hno',c1⟩),c1,ah (by exact Rat.lt_irrefl),aq rfl];simp -dsimp (disch:=try exact dx) only[wpS,wpT,zE];refine⟨az rfl rfl rfl rfl (aP (H0:=hh) f3 aa X0 X6 L1),?_⟩;simp -dsimp (disch:=try exact dx) only[wpS,wpT,zE,zA];exact XX
  ·rw[bF (show ¬mw l from fun h=>c1 h.2)];obtain⟨z,hz,hz0⟩ : ∃z:Int,(if jV (l.map rOf)<1 then (-1:Int) else if jV (l.map rOf)=1 then 0 else 1)=z∧z≠0:=⟨_,rfl,by split<;>simp[]⟩;rw[hz];have d:(z == 0)=false:=by simpa using hz0
   simp -dsimp (disch:=try exact dx) only[wpS,zE,d];refine⟨az rfl rfl rfl rfl (aP (H0:=hh) f3 aa X0 X6 L1),?_⟩;simp -dsimp (disch:=try exact dx) only[wpS,wpT,zE,zA];exact XX
open Classical in
def Aa {h:IH} {v:QQ} {ll:List (List (Nat×Nat))} (hv:iN h v ll) :WV prog (.func (.func 52) #[] #[]) [v] h fun r h'=>Ext h h'∧r=.bool (decide (jH ll)):=by
 obtain⟨_,_,hlen⟩:=hv.co;have hlb:=hv.choose_spec.2.1;refine enter (nt:=42) (rs:=[.tmp 2]) Proofs.Tryz.func52 rfl rfl rfl ab ?_;by_cases a1:ll.length<1
 ·rw[bF (show ¬jH ll from fun hk=>by have:=hk.1;omega)];simp -dsimp (disch:=try exact dx) only[wpS,wpT,zE,hlen];exact Ext.refl _
 by_cases a2:60<ll.length
 ·rw[bF (show ¬jH ll from fun hk=>by have:=hk.2.1;omega)];simp -dsimp (disch:=try exact dx) only[wpS,wpT,zE,hlen];exact Ext.refl _
 simp -dsimp (disch:=try exact dx) only[wpS,wpT,zE,hlen];refine loop (fun m fr h1 => ∃i:Nat,i+m=ll.length∧Ext h h1∧(∀(j:Nat) x,j<i→ll[j]?=some x→x.length=ll.length∧mw x)∧ax fr 0=some v∧ax fr 3=some (KN i)) ll.length
  ⟨0,aa,Ext.refl _,fun j p hj=>aa,ab,ab⟩ ?_
 rintro m fr h1 ⟨i,him,hE,hok,f0,f3⟩;simp -dsimp (disch:=try exact dx) only[wpS,zE,f0,f3,hlen];refine aG ?_ ?_<;>intro hc<;>simp only[aS,aV] at hc
 ·have hi:i<ll.length:=aa;obtain⟨x,hx⟩ : ∃x,ll[i]?=some x:=⟨_,aK hi⟩;have hxm:=bh hx;obtain⟨w,l1,l2,l3⟩:=hv.at hE.ai hx;have lx:=l2.2.1;by_cases cl:x.length=ll.length
  case neg =>
   rw[bF (show ¬jH ll from fun hk=>cl (hk.2.2 x hxm).1)];have d:(((x.length:Nat):Int) != ((ll.length:Nat):Int))=true:=by simpa using fun h=>cl aa
   simp -dsimp (disch:=try exact dx) only[wpS,wpT,zE,f0,f3,l1,l3,l2.1.len xz,hlen,d];exact hE
  have d:(((x.length:Nat):Int) != ((ll.length:Nat):Int))=false:=by simp[cl]
  simp -dsimp (disch:=try exact dx) only[wpS,wpT,zE,f0,f3,l1,l3,l2.1.len xz,hlen,d];refine call (O8 l2) ?_;rintro _ h2 ⟨X2,rfl⟩;have E2:=hE.trans X2;by_cases ca : ∀p∈x,okS p.1 p.2
  case neg =>
   rw[bF ca,bF (show ¬jH ll from fun hk=>ca fun p hp=>(zZ ((hk.2.2 x hxm).2.1 p hp)).1)];simp -dsimp (disch:=try exact dx) only[wpS,wpT,zE];exact E2
  rw[ct ca];obtain⟨w',l1',l2',l3'⟩:=hv.at E2.ai hx;simp -dsimp (disch:=try exact dx) only[wpS,wpT,zE,f0,f3,l1',l3'];refine call (Pc l2' ca aa) ?_;rintro _ h4 ⟨X4,rfl⟩;have E4:=E2.trans X4;by_cases cr:mw x
  ·rw[ct cr];simp -dsimp (disch:=try exact dx) only[wpS,wpT,zE,f3];refine⟨m - 1,aa,i+1,aa,E4,?_,by simp[f0],ab⟩;intro j q hj hq;by_cases hji:j=i
   ·subst hji;rw[hx] at hq;cases hq;exact⟨cl,cr⟩
   ·exact hok j q aa hq
  ·rw[bF cr,bF (show ¬jH ll from fun hk=>cr (hk.2.2 x hxm).2)];simp -dsimp (disch:=try exact dx) only[wpS,wpT,zE];exact E4
 ·rw[ct (show jH ll from⟨aa,aa,fun x hx=>by
   obtain⟨j,hj⟩:=gH hx;exact hok j x (by have:=(bU.1 hj).1;omega) hj⟩)]
  simp -dsimp (disch:=try exact dx) only[wpS,wpT];exact hE
def Acc.TZ {h:IH} {n0 sz:Nat} {v:QQ} {n:Nat} {cs:List QQ} (a:Acc h n0 sz v n cs) {P:Program} {t:TypeId} (hT:bK P t=some sz) {i:Nat} (hi:i<n) {x:QQ} {xs:List QQ} (hx:x.cells.toList=xs) (hxl:xs.length=sz) (hc:xs.all bB=true) {h0':IH} (e0:Ext h0' h) (hn0:h0'.n≤n0) :∃h',store P h t (bq v (i*sz)) x=some h'∧Acc h' n0 sz v n (IH.bf cs (i*sz) xs)∧Ext h0' h'∧h'.n=h.n:=by
 obtain⟨hz,hl,⟨rfl,rfl⟩|⟨k,fam,rfl,hn,h1,h2,h3,h4⟩⟩:=a;·omega
 ·have hle:i*sz+sz≤cs.length:=by rw[hl,←wX];exact dU _ hi
  have hsl:(IH.bf cs (i*sz) xs).length=n*sz:=by simp only[IH.bf,dG,gG,ra];omega
  have k2:2*k / 2=k:=aa;have k1:(2*k % 2 == 1)=false:=ab;have hsx:x.cells.size=sz:=by rw[←mc,hx,hxl]
  have hst:store P h t (bq (.slice (some ⟨2*k,0,none⟩) n (2*n)) (i*sz)) x=h.wr (2*k) (i*sz) xs:=by simp only[bq,fy,store,asAddr,ptr,hT,hx,hsx,hc,pW,sV,cg]
  have hle:Nat.ble (i*sz+xs.length) cs.length=true:=by rw[ch,hxl];exact hle
  rw[hst]
  cases fam with
  | none =>
   refine⟨h.put k (.cells (IH.bf cs (i*sz) xs) sz none),?_,⟨hz,hsl,.inr ⟨k,none,rfl,hn,h1,h2,aj _ _ rfl,trivial⟩⟩,e0.put aa _,rfl⟩
   ·simp only[IH.wr,k1,k2,h3,hle,cg,fU];rfl
  | some f =>
   obtain⟨a1,a2,rest,a3,a4⟩:=h4;refine⟨{ h with ext:=(IH.gC h.ext (((k :: rest).filter (· != k)))).set k (.cells (IH.bf cs (i*sz) xs) sz none) },?_,⟨hz,hsl,.inr ⟨k,none,rfl,hn,h1,h2,?_,trivial⟩⟩,⟨e0.n,e0.base,fun j hj=>?_,e0.eP⟩,rfl⟩;·simp only[IH.wr,k1,k2,h3,hle,cg,fU,a3]
   ·simp[Tr.cD]
   ·have hjk:j≠k:=aa
    rw[Tr.cD,ah hjk,kP,ah];·exact e0.get j hj
    ·intro hm;simp only[qY,dV,mL,ne_eq] at hm;rcases hm with⟨rfl|hm,hne⟩
     ·exact hne rfl
     ·have:=a4 j hm;omega
theorem BD : ∀(l:List (Nat×Nat)) (i:Nat) (p:Nat×Nat),i<l.length→IH.bf (shL l) (i*16) (shC p.1 p.2)=shL (l.set i p)
 | [],i,p,h=>by simp at h
 | a :: l,0,p,_=>by show IH.bf (shC a.1 a.2 ++ shL l) (0*16) (shC p.1 p.2)=shC p.1 p.2 ++ shL l;simp only[IH.bf,kf,List.take_zero,kG,fy];rw[List.drop_append_of_le_length (by rw[ba,ba];omega),zG (by rw[ba,ba];omega),kG]
 | a :: l,i+1,p,h=>by
  have ih:=BD l i p (by simpa using h);show IH.bf (shC a.1 a.2 ++ shL l) ((i+1)*16) (shC p.1 p.2)=shC a.1 a.2 ++ shL (l.set i p);rw[←ih];have e1:(i+1)*16=(shC a.1 a.2).length+i*16:=by rw[ba];omega
  simp only[IH.bf];rw[e1,List.take_length_add_append,ma,List.drop_length_add_append,List.append_assoc]
section
theorem Fw (l:List (Nat×Nat)) (p:Nat×Nat):shL (l ++ [p])=shL l ++ shC p.1 p.2:=by simp[shL]
theorem DJ (s:Nat) : ∀(l:List Nat) (a:Rat),(l.map fun y=>Rat.divInt (y:Nat) (s:Nat)).foldl (· + ·) a=a+Rat.divInt (l.sum:Nat) (s:Nat)
 | [],a=>by rw[nJ,List.foldl_nil,List.sum_nil,show(((0:Nat):Int))=0 from rfl,Rat.zero_divInt,Rat.add_zero]
 | x :: l,a=>by
  rw[jJ,Gw,DJ s l,zF,wW,wW,wW];have e:(((x+l.sum:Nat):Int):Rat)=((x:Int):Rat)+((l.sum:Int):Rat):=by rw[←Rat.intCast_add];rfl
  rw[e];grind
variable {ys:List Nat}
def Uw (h0:0<ys.sum) (hb:ys.sum≤1000) (hy : ∀y∈ys,y≤1000):mw (ys.map fun y=>shq (Rat.divInt (y:Nat) (ys.sum:Nat))):=by
 have hq : ∀y∈ys,QW (Rat.divInt (y:Nat) (ys.sum:Nat)):=fun y h=>by have:=hy y h;exact CZ ⟨aa,aa⟩ ⟨aa,aa⟩ aa
 refine⟨fun p hp=>?_,?_⟩
 ·obtain⟨y,hm,rfl⟩:=ir.1 hp;obtain⟨e1,e2⟩:=BC (hq y hm);rintro(hb|hb)
  ·exact hb e2
  ·have e3:wdI (shq (Rat.divInt (y:Nat) (ys.sum:Nat))).1=(Rat.divInt (y:Nat) (ys.sum:Nat)).num:=eE (hq y hm).1;rw[e3] at hb;have:0≤Rat.divInt (y:Nat) (ys.sum:Nat):=Rat.divInt_nonneg aa aa;have:=BX.2 this;omega
 ·have e:(ys.map fun y=>shq (Rat.divInt (y:Nat) (ys.sum:Nat))).map rOf=ys.map fun y=>Rat.divInt (y:Nat) (ys.sum:Nat):=by rw[uh];exact List.map_congr_left fun y hm=>(BC (hq y hm)).1
  rw[e];unfold jV;rw[DJ,wW,Rat.zero_add];have hne:(((ys.sum:Nat):Int):Rat)≠0:=fun h=>by have:((ys.sum:Nat):Int)=0:=Rat.intCast_inj.1 h;omega
  grind
def smR (S:Nat) (l:List (Nat×Nat)):Prop:=0<S∧S≤1000 ∧ ∀p∈l,p.1≤1000∧0<p.2∧p.2∣S
def KU (l:List (Nat×Nat)):Prop:=mw l∧(∃S,smR S l) ∧ ∃q∈l,0<q.1
def za {y S:Nat} (hS:0<S) : ∃m:Nat,0<m∧(y:Int)=(Rat.divInt (y:Nat) (S:Nat)).num*m∧S=(Rat.divInt (y:Nat) (S:Nat)).den*m:=by
 obtain⟨q,hq⟩ : ∃q,q=Rat.divInt (y:Nat) (S:Nat):=⟨_,rfl⟩;obtain⟨m,_,e1,e2⟩:=Rat.divInt_num_den (n:=(y:Int)) (d:=(S:Int)) (n':=q.num) (d':=q.den) (z':=q.den_nz) (c:=q.reduced) aa (by rw[←hq]);rw[←hq];have dp:0<q.den:=q.den_pos;have m0:0<m:=by apply di;intro hn;have:(q.den:Int)*m≤0:=Int.mul_nonpos_of_nonneg_of_nonpos aa aa;omega
 obtain⟨k,rfl⟩:=fV (Int.le_of_lt m0);exact⟨k,aa,e1,by exact_mod_cast e2⟩
def Pb (h : ∀y∈ys,y=0):ys.sum=0:=by
 induction ys with
 | nil=>rfl
 | cons a l ih=>rw[zF,h a ab,ih fun y hy=>h y (by simp[hy])]
def Jj (h0:0<ys.sum) (hb:ys.sum≤1000) (hy : ∀y∈ys,y≤1000):KU (ys.map fun y=>shq (Rat.divInt (y:Nat) (ys.sum:Nat))):=by
 have key : ∀y,y≤1000 → ∃m:Nat,0<m∧y=(shq (Rat.divInt (y:Nat) (ys.sum:Nat))).1*m∧ys.sum=(shq (Rat.divInt (y:Nat) (ys.sum:Nat))).2*m:=fun y hy1=>by
  obtain⟨m,m0,e1,e2⟩:=za (y:=y) h0;have n0:0≤(Rat.divInt (y:Nat) (ys.sum:Nat)).num:=BX.2 (Rat.divInt_nonneg aa aa);obtain⟨k,hk⟩:=fV n0;refine⟨m,m0,?_,?_⟩
  ·show y=bN _*m;rw[rD n0,hk,iv];rw[hk] at e1
   exact_mod_cast e1
  ·show ys.sum=bN ((Rat.divInt (y:Nat) (ys.sum:Nat)).den:Int)*m;rw[rD aa,iv];exact e2
 refine⟨Uw h0 hb hy,⟨ys.sum,h0,hb,fun p hp=>?_⟩,?_⟩
 ·obtain⟨y,hm,rfl⟩:=ir.1 hp;have y1:=hy y hm;obtain⟨m,m0,e1,e2⟩:=key y y1;refine⟨?_,?_,⟨m,e2⟩⟩
  ·have:=Ke (shq (Rat.divInt (y:Nat) (ys.sum:Nat))).1 m0;omega
  ·apply pY;intro hz;rw[hz,kf] at e2;omega
 ·have : ∃y∈ys,0<y:=by apply di;intro hn;have hz : ∀y∈ys,y=0:=fun y hy=>Nat.eq_zero_of_not_pos fun h=>hn ⟨y,hy,h⟩;have:ys.sum=0:=Pb hz;omega
  obtain⟨y,hm,y0⟩:=this;refine⟨_,ir.2 ⟨y,hm,rfl⟩,?_⟩;obtain⟨m,m0,e1,e2⟩:=key y (hy y hm);apply pY;intro hz;rw[hz,kf] at e1;omega
theorem MG (ys:List Nat) (i:Nat) (hi:i<ys.length) (h0:ys.sum=0):(ys.set i 1).sum=1:=by
 induction ys generalizing i with
 | nil=>simp at hi
 | cons a l ih =>
  rw[zF] at h0;cases i with
  | zero=>rw[List.set_cons_zero,zF];omega
  | succ i =>
   rw[List.set_cons_succ,zF,ih i (by simpa using hi) aa];omega
def Jm (l:List Int) (i:Nat) (x:Int) (hi:i<l.length):IH.bf (l.map KI) (i*1) [KI x]=(l.set i x).map KI:=by rw[fI];simp only[IH.bf,xh,qZ];rw[List.set_eq_take_append_cons_drop,aq (by simpa using hi)];rfl
def Mc {h:IH} {sz:Nat} {v:QQ} {lN:List Nat} (hv:kB h v lN) (hsz:sz<256) :WV prog (.func (.func 8) #[] #[]) [.agg #[B8 sz,v]] h fun r h'=>Ext h h' ∧ ∃ll,iN h' r ll∧ll.length=1+sz % 4 ∧ ∀x∈ll,x.length=1+sz % 4∧KU x:=by
 have cv:=hv.1.cells;have co:=hv.1.cok;have lv:=hv.2.1;obtain⟨n,hn⟩ : ∃n,n=1+sz % 4:=⟨_,rfl⟩;have nb4:1≤n∧n≤4:=aa;rw[←hn];have g0:(h.new (.cells [B8 sz,v] 0 none)).ext.get h.n=some (.cells [B8 sz,v] 0 none):=by simp (disch:=try exact dx) only[ar]
 have E0:Ext h (h.new (.cells [B8 sz,v] 0 none)):=(Ext.refl h).new _;obtain⟨Hb,hHb⟩ : ∃H,H=h.new (.cells [B8 sz,v] 0 none):=⟨_,rfl⟩;have nb:Hb.n=h.n+1:=by rw[hHb];rfl
 have hr : ∀ox oy,binop prog .rem 5 ox oy (B8 sz) (.int .u8 4)=some (.int .u8 ((sz % 4:Nat):Int)):=fun ox oy=>mX _ _ .u8 ox oy sz 4 aa;have en:(1:Int)+((sz % 4:Nat):Int)=(n:Int):=aa;refine enter (nt:=84) (rs:=[.tmp 2]) Proofs.Tryz.func8 rfl rfl rfl ab ?_;rw[←hHb] at g0 E0;simp -dsimp (disch:=try exact dx) only[wpS,zE,Xz,ld5,zf,hr,en];rw[←hHb];clear hHb;refine loop (fun m fr hh => ∃(i:Nat) (out:QQ) (vs:List QQ) (ll:List (List (Nat×Nat))),i+m=n∧ll.length=i∧vs.length=i∧Ext Hb hh∧Acc hh Hb.n 1 out i vs∧(∀(k:Nat) x,ll[k]?=some x → ∃w,vs[k]?=some w∧kU hh w x)∧(∀x∈ll,x.length=n∧KU x)∧ax fr 1=some (ptr (2*h.n) 0)∧ax fr 3=some (KN n)∧ax fr 4=some out∧ax fr 5=some (KN i)) n ⟨0,.slice none 0 0,[],[],aa,rfl,rfl,Ext.refl _,Acc.nil _ _ aa,fun k x hx=>by simp at hx,fun x hx=>by simp at hx,ab,ab,ab,ab⟩ ?_;rintro m fr hh ⟨i,out,vs,ll,him,hil,hvl,hE,hA,hll,hro,f1,f3,f4,f5⟩;have hg:=hE.kept aa g0;have hnn:=hE.n;have hEh:=E0.trans hE;simp -dsimp (disch:=try exact dx) only[wpS,zE,f3,f5];refine aG ?_ ?_<;>intro hc<;>simp only[aS,aV] at hc
 ·have hin:i<n:=aa;simp -dsimp (disch:=try exact dx) only[wpS,wpT];refine loop (fun m2 fr h2 => ∃(j:Nat) (o2:QQ) (xs:List Nat),j+m2=n∧xs.length=j∧(∀x∈xs,x<6)∧Ext hh h2∧Acc h2 hh.n 1 o2 xs.length (xs.map KN)∧ax fr 1=some (ptr (2*h.n) 0)∧ax fr 3=some (KN n)∧ax fr 4=some out∧ax fr 5=some (KN i)∧ax fr 6=some o2∧ax fr 7=some (KN xs.sum)∧ax fr 8=some (KN j)) n ⟨0,.slice none 0 0,[],aa,rfl,(fun x hx=>by cases hx),Ext.refl _,Acc.nil _ _ aa,by simp[f1],by simp[f3],by simp[f4],by simp[f5],ab,ab,ab⟩ ?_;clear f1 f3 f4 f5;rintro m2 fr h2 ⟨j,o2,xs,hjm,hjl,hx6,hE2,hA2,f1,f3,f4,f5,f6,f7,f8⟩;have hg2:=hE2.kept aa hg;have hn2:=hE2.n;have UN:=hEh.trans hE2;have Js:xs.sum≤6*xs.length:=by
   clear hA2 f7 hjl hjm
   induction xs with
   | nil=>simp
   | cons a l ih =>
    rw[zF,nL];have:=hx6 a ab;have:=ih fun x hx=>hx6 x (by simp[hx]);omega
  simp -dsimp (disch:=try exact dx) only[wpS,zE,f3,f8];refine aG ?_ ?_<;>intro hc2<;>simp only[aS,aV] at hc2
  ·have hjn:j<n:=aa;have enm:(n:Int)*(i:Int)=((n*i:Nat):Int):=(uj _ _).symm;have hni:n*i≤4*4:=jg nb4.2 aa;obtain⟨t,ht⟩ : ∃t,t=n*i+j:=⟨_,rfl⟩;have et:((n*i:Nat):Int)+(j:Int)=(t:Int):=aa;have fin : ∀y:Nat,y<6 → ∀fr':Fr,ax fr' 1=some (ptr (2*h.n) 0)→True:=fun _ _ _ _=>trivial;by_cases c:t<lN.length
   ·obtain⟨x,hx⟩ : ∃x,lN[t]?=some x:=⟨_,aK c⟩;have xb:=hv.2.2 x (bh hx);have hr6 : ∀ox oy,binop prog .rem 5 ox oy (B8 x) (.int .u8 6)=some (.int .u8 ((x % 6:Nat):Int)):=fun ox oy=>mX _ _ .u8 ox oy x 6 aa;obtain⟨y,hy⟩ : ∃y,y=x % 6:=⟨_,rfl⟩;have yb:y<6:=aa;rw[←hy] at hr6;obtain⟨cV,h8,hap,hA8,hG8,hE8⟩:=hA2.xY (P:=prog) (t:=25) wg (x:=KN y) rfl aa aa hE2 aa;simp -dsimp (disch:=try exact dx) only[wpS,wpT,zE,zL,zA,zf,Hx,Hg,kS,ju,f1,f3,f5,f6,f7,f8,enm,et,ay hg2,hv.1.len Ei,hv.1.idx Sk c,hv.ld UN.ai hx,hr6,hap];refine⟨m2 - 1,aa,j+1,cV,xs ++ [y],aa,by simp[hjl],?_,hE8,?_,by simp[f1],by simp[f3],by simp[f4],by simp[f5],ab,?_,ab⟩
    ·intro q hq;rcases fC.1 hq with hq|hq
     ·exact hx6 q hq
     ·rw[gQ.1 hq];exact yb
    ·rw[gF,dG];exact hA8
    ·simp[List.sum_append]
   ·obtain⟨cV,h8,hap,hA8,hG8,hE8⟩:=hA2.xY (P:=prog) (t:=25) wg (x:=KI 0) rfl aa aa hE2 aa;simp -dsimp (disch:=try exact dx) only[wpS,wpT,zE,zL,zA,Hx,Hg,kS,ju,f1,f3,f5,f6,f7,f8,enm,et,ay hg2,hv.1.len Ei,hap];refine⟨m2 - 1,aa,j+1,cV,xs ++ [0],aa,by simp[hjl],?_,hE8,?_,by simp[f1],by simp[f3],by simp[f4],by simp[f5],ab,?_,ab⟩
    ·intro q hq;rcases fC.1 hq with hq|hq
     ·exact hx6 q hq
     ·rw[gQ.1 hq];decide
    ·rw[gF,dG];exact hA8
    ·simp[List.sum_append]
  ·have hxn:xs.length=n:=aa;clear hc2;by_cases c0:xs.sum=0
   ·have dz:(((xs.sum:Nat):Int) == 0)=true:=by simp[c0]
    have hix:i<xs.length:=aa;obtain⟨h3,st0,A3,e3,n3⟩:=hA2.TZ (P:=prog) (t:=3) sz3 hix (x:=KI 1) (xs:=[KI 1]) rfl rfl rfl hE2 (aA _);have st:store prog h2 3 (bq o2 i) (.int .i64 1)=some h3:=by rw[fI] at st0;exact st0
    have ix:=hA2.sl.idx (P:=prog) (k:=.i64) gl hix;have A3':Acc h3 hh.n 1 o2 n ((xs.set i 1).map KN):=by
     have e:IH.bf (xs.map KN) (i*1) [KI 1]=(xs.set i 1).map KN:=by have:=Jm (xs.map fun y:Nat=>(y:Int)) i 1 (by simpa using hix);rw[uh] at this;rw[show(xs.map KN)=xs.map (KI ∘ fun y:Nat=>(y:Int)) from rfl,this,xh,uh,xh];rfl
     rw[←e,←hxn];exact A3
    have hsv:(xs.set i 1).sum=1:=MG xs i hix c0;have hy6 : ∀y∈xs.set i 1,y≤1000:=fun y hy=>(xg hy).elim (fun h=>by have:=hx6 y h;omega) (fun h=>aa);have hyl:(xs.set i 1).length=n:=by rw[dB];exact hxn
    obtain⟨s,hs⟩ : ∃s,s=(xs.set i 1).sum:=⟨_,rfl⟩;have hs1:(s:Int)=1:=by rw[hs,hsv];rfl
    have hsb:0<s∧s≤100:=by rw[hs,MG xs i aa c0];exact⟨aa,aa⟩
    have A3:Acc h3 hh.n 1 o2 n ((xs.set i 1).map KN):=A3';have E3:Ext hh h3:=e3;have hn3:=E3.n;have sO:fF h3 o2 ((xs.set i 1).map fun y:Nat=>(y:Int)):=⟨by rw[cz,hyl,uh];exact A3.sl,by rw[cz];omega,fun x hx=>by
     obtain⟨y,hy,rfl⟩:=ir.1 hx;have:=hy6 y hy;constructor<;>omega⟩
    obtain⟨ys,hys⟩ : ∃ys,ys=xs.set i 1:=⟨_,rfl⟩;rw[←hys] at hy6 hyl hs sO;simp -dsimp (disch:=try exact dx) only[wpS,wpT,zE,f5,f6,f7,ix,st,dz];refine loop (fun m4 fr h4 => ∃(j:Nat) (o3:QQ),j+m4=n∧Ext h3 h4∧Acc h4 h3.n 16 o3 j (shL ((ys.take j).map fun y=>shq (Rat.divInt (y:Nat) (s:Nat))))∧ax fr 1=some (ptr (2*h.n) 0)∧ax fr 3=some (KN n)∧ax fr 4=some out∧ax fr 5=some (KN i)∧ax fr 6=some o2∧ax fr 7=some (KN s)∧ax fr 10=some o3∧ax fr 11=some (KN j)) n ⟨0,.slice none 0 0,aa,Ext.refl _,Acc.nil _ _ aa,by simp[f1],by simp[f3],by simp[f4],by simp[f5],by simp[f6],by simp[hs1],ab,ab⟩ ?_;clear f1 f3 f4 f5 f6 f7 f8;rintro m4 fr h4 ⟨j,o3,hjm4,hE4,hA4,f1,f3,f4,f5,f6,f7,f10,f11⟩;have hn4:=hE4.n;have qwy : ∀y∈ys,QW (Rat.divInt (y:Nat) (s:Nat)):=fun y hy=>by have:=hy6 y hy;exact CZ ⟨aa,aa⟩ ⟨aa,aa⟩ aa
    simp -dsimp (disch:=try exact dx) only[wpS,zE,f3,f11];refine aG ?_ ?_<;>intro hc4<;>simp only[aS,aV] at hc4
    ·have hj:j<ys.length:=aa;obtain⟨y,hy⟩ : ∃y,ys[j]?=some y:=⟨_,aK hj⟩;have hym:=bh hy;have yb:=hy6 y hym;have hyi:(ys.map fun y:Nat=>(y:Int))[j]?=some (y:Int):=by rw[dM,hy];rfl
     have ixo:=sO.1.idx (P:=prog) (k:=.i64) gl (j:=j) (by rw[cz];exact hj);simp -dsimp (disch:=try exact dx) only[wpS,wpT,zE,f6,f7,f11,ixo,fc sO hE4.ai hyi];refine call (xF (y:Int) (s:Int) ⟨aa,aa⟩ ⟨aa,aa⟩ aa) ?_;rintro _ h5 ⟨X5,rfl⟩;rw[iD];have pw:=rq (qwy y hym);obtain⟨p,hp⟩ : ∃p,p=shq (Rat.divInt (y:Nat) (s:Nat)):=⟨_,rfl⟩;have etk:shL ((ys.take (j+1)).map fun y=>shq (Rat.divInt (y:Nat) (s:Nat)))=shL ((ys.take j).map fun y=>shq (Rat.divInt (y:Nat) (s:Nat))) ++ shC p.1 p.2:=by rw[jA hy,gF,jJ,nJ,Fw,hp]
     rw[←hp] at pw ⊢;obtain⟨H6,hH6⟩ : ∃H,H=(h5.new (.cells Z16 0 none)).put h5.n (.cells (shC p.1 p.2) 0 none):=⟨_,rfl⟩;have E6:Ext h5 H6:=by rw[hH6];exact((Ext.refl h5).new _).put (aA _) _
     have n6:H6.n=h5.n+1:=by rw[hH6];rfl
     have k6:H6.ext.get h5.n=some (.cells (shC p.1 p.2) 0 none):=by rw[hH6];simp (disch:=try exact dx) only[aj]
     have m5:=X5.n;simp -dsimp (disch:=try exact dx) only[wpS,wpT,zE,zL,zA,pj,jT,bR,ba,cT,fD];rw[←hH6];clear hH6;have E56:=X5.trans E6;obtain⟨cV,h8,hap,hA8,hG8,hE8⟩:=(hA4.ext E56).qC (P:=prog) (t:=61) Ms (m:=1) (new:=shC p.1 p.2) aa (by rw[ba]) (cT _ _) aa aa (hE4.trans E56) (aA _);have lD:append prog (H6.new (.cells (shC p.1 p.2) 16 none)) 61 o3 (.slice (some ⟨2*H6.n,0,none⟩) 1 3)=some (cV,h8):=hap;simp -dsimp (disch:=try exact dx) only[wpS,wpT,zE,zL,zA,iY,Mm,tN,f10,f11,ay k6,ba,dJ,bR,fD,show(.agg (shC p.1 p.2).toArray:QQ)=shV p.1 p.2 from rfl,lD];exact⟨m4 - 1,aa,j+1,cV,aa,hE8,by rw[etk];exact hA8,by simp[f1],by simp[f3],by simp[f4],by simp[f5],by simp[f6],by simp[f7],ab,ab⟩
    ·have hjn:j=n:=aa;subst hjn;rw[fB aa] at hA4;obtain⟨l,hl⟩ : ∃l,l=ys.map fun y=>shq (Rat.divInt (y:Nat) (s:Nat)):=⟨_,rfl⟩;have RJ:l.length=j:=by rw[hl,cz,hyl]
     rw[←hl] at hA4;have rok:KU l:=by rw[hl,hs];exact Jj aa aa hy6
     have S4:kU h4 o3 l:=⟨by rw[RJ];exact hA4.sl,aa,fun p hp=>by
      rw[hl] at hp;obtain⟨y,hy,rfl⟩:=ir.1 hp;exact rq (qwy y hy)⟩
     have E34:=E3.trans hE4;obtain⟨cV,h8,hap,hA8,hG8,hE8⟩:=(hA.ext E34).xY (P:=prog) (t:=38) PV (x:=o3) S4.1.cok aa aa (hE.trans E34) (aA _);have lD:append prog (h4.new (.cells [o3] 1 none)) 38 out (.slice (some ⟨2*h4.n,0,none⟩) 1 3)=some (cV,h8):=hap;simp -dsimp (disch:=try exact dx) only[wpS,wpT,zE,zL,zA,JY,vW,f4,f5,f10,S4.1.cells,lD];refine⟨m - 1,aa,i+1,cV,vs ++ [o3],ll ++ [l],aa,by simp[hil],by simp[hvl],hE8,hA8,?_,?_,by simp[f1],by simp[f3],ab,ab⟩
     ·intro k x hx;by_cases hk:k<i
      ·rw[ef aa] at hx;obtain⟨w,c3,c4⟩:=hll k x hx;exact⟨w,by rw[ef aa];exact c3,c4.ai (E34.ai.trans hG8.ai)⟩
      ·have hki:k=i:=by have:=(bU.1 hx).1;simp at this;omega
       subst hki;rw[gI aa,hil,nD] at hx;simp at hx;subst hx;exact⟨o3,by rw[gI aa,hvl,nD];rfl,S4.ai hG8.ai⟩
     ·intro x hx;rcases fC.1 hx with hx|hx
      ·exact hro x hx
      ·rw[gQ.1 hx];exact⟨RJ,rok⟩
   ·have dz:(((xs.sum:Nat):Int) == 0)=false:=aT;have hy6 : ∀y∈xs,y≤1000:=fun y hy=>by have:=hx6 y hy;omega
    have hyl:(xs).length=n:=hxn;obtain⟨s,hs⟩ : ∃s,s=(xs).sum:=⟨_,rfl⟩;have hsb:0<s∧s≤100:=⟨aa,aa⟩;have A3:Acc h2 hh.n 1 o2 n ((xs).map KN):=by rw[←hxn];exact hA2
    have E3:Ext hh h2:=hE2;have hn3:=E3.n;have sO:fF h2 o2 ((xs).map fun y:Nat=>(y:Int)):=⟨by rw[cz,hyl,uh];exact A3.sl,by rw[cz];omega,fun x hx=>by
     obtain⟨y,hy,rfl⟩:=ir.1 hx;have:=hy6 y hy;constructor<;>omega⟩
    obtain⟨ys,hys⟩ : ∃ys,ys=xs:=⟨_,rfl⟩;rw[←hys] at hy6 hyl hs sO;simp -dsimp (disch:=try exact dx) only[wpS,wpT,zE,f7,dz];refine loop (fun m4 fr h4 => ∃(j:Nat) (o3:QQ),j+m4=n∧Ext h2 h4∧Acc h4 h2.n 16 o3 j (shL ((ys.take j).map fun y=>shq (Rat.divInt (y:Nat) (s:Nat))))∧ax fr 1=some (ptr (2*h.n) 0)∧ax fr 3=some (KN n)∧ax fr 4=some out∧ax fr 5=some (KN i)∧ax fr 6=some o2∧ax fr 7=some (KN s)∧ax fr 10=some o3∧ax fr 11=some (KN j)) n ⟨0,.slice none 0 0,aa,Ext.refl _,Acc.nil _ _ aa,by simp[f1],by simp[f3],by simp[f4],by simp[f5],by simp[f6],by simp[f7,hs,hys],ab,ab⟩ ?_;clear f1 f3 f4 f5 f6 f7 f8;rintro m4 fr h4 ⟨j,o3,hjm4,hE4,hA4,f1,f3,f4,f5,f6,f7,f10,f11⟩;have hn4:=hE4.n;have qwy : ∀y∈ys,QW (Rat.divInt (y:Nat) (s:Nat)):=fun y hy=>by have:=hy6 y hy;exact CZ ⟨aa,aa⟩ ⟨aa,aa⟩ aa
    simp -dsimp (disch:=try exact dx) only[wpS,zE,f3,f11];refine aG ?_ ?_<;>intro hc4<;>simp only[aS,aV] at hc4
    ·have hj:j<ys.length:=aa;obtain⟨y,hy⟩ : ∃y,ys[j]?=some y:=⟨_,aK hj⟩;have hym:=bh hy;have yb:=hy6 y hym;have hyi:(ys.map fun y:Nat=>(y:Int))[j]?=some (y:Int):=by rw[dM,hy];rfl
     have ixo:=sO.1.idx (P:=prog) (k:=.i64) gl (j:=j) (by rw[cz];exact hj);simp -dsimp (disch:=try exact dx) only[wpS,wpT,zE,f6,f7,f11,ixo,fc sO hE4.ai hyi];refine call (xF (y:Int) (s:Int) ⟨aa,aa⟩ ⟨aa,aa⟩ aa) ?_;rintro _ h5 ⟨X5,rfl⟩;rw[iD];have pw:=rq (qwy y hym);obtain⟨p,hp⟩ : ∃p,p=shq (Rat.divInt (y:Nat) (s:Nat)):=⟨_,rfl⟩;have etk:shL ((ys.take (j+1)).map fun y=>shq (Rat.divInt (y:Nat) (s:Nat)))=shL ((ys.take j).map fun y=>shq (Rat.divInt (y:Nat) (s:Nat))) ++ shC p.1 p.2:=by rw[jA hy,gF,jJ,nJ,Fw,hp]
     rw[←hp] at pw ⊢;obtain⟨H6,hH6⟩ : ∃H,H=(h5.new (.cells Z16 0 none)).put h5.n (.cells (shC p.1 p.2) 0 none):=⟨_,rfl⟩;have E6:Ext h5 H6:=by rw[hH6];exact((Ext.refl h5).new _).put (aA _) _
     have n6:H6.n=h5.n+1:=by rw[hH6];rfl
     have k6:H6.ext.get h5.n=some (.cells (shC p.1 p.2) 0 none):=by rw[hH6];simp (disch:=try exact dx) only[aj]
     have m5:=X5.n;simp -dsimp (disch:=try exact dx) only[wpS,wpT,zE,zL,zA,pj,jT,bR,ba,cT,fD];rw[←hH6];clear hH6;have E56:=X5.trans E6;obtain⟨cV,h8,hap,hA8,hG8,hE8⟩:=(hA4.ext E56).qC (P:=prog) (t:=61) Ms (m:=1) (new:=shC p.1 p.2) aa (by rw[ba]) (cT _ _) aa aa (hE4.trans E56) (aA _);have lD:append prog (H6.new (.cells (shC p.1 p.2) 16 none)) 61 o3 (.slice (some ⟨2*H6.n,0,none⟩) 1 3)=some (cV,h8):=hap;simp -dsimp (disch:=try exact dx) only[wpS,wpT,zE,zL,zA,iY,Mm,tN,f10,f11,ay k6,ba,dJ,bR,fD,show(.agg (shC p.1 p.2).toArray:QQ)=shV p.1 p.2 from rfl,lD];exact⟨m4 - 1,aa,j+1,cV,aa,hE8,by rw[etk];exact hA8,by simp[f1],by simp[f3],by simp[f4],by simp[f5],by simp[f6],by simp[f7],ab,ab⟩
    ·have hjn:j=n:=aa;subst hjn;rw[fB aa] at hA4;obtain⟨l,hl⟩ : ∃l,l=ys.map fun y=>shq (Rat.divInt (y:Nat) (s:Nat)):=⟨_,rfl⟩;have RJ:l.length=j:=by rw[hl,cz,hyl]
     rw[←hl] at hA4;have rok:KU l:=by rw[hl,hs];exact Jj aa aa hy6
     have S4:kU h4 o3 l:=⟨by rw[RJ];exact hA4.sl,aa,fun p hp=>by
      rw[hl] at hp;obtain⟨y,hy,rfl⟩:=ir.1 hp;exact rq (qwy y hy)⟩
     have E34:=E3.trans hE4;obtain⟨cV,h8,hap,hA8,hG8,hE8⟩:=(hA.ext E34).xY (P:=prog) (t:=38) PV (x:=o3) S4.1.cok aa aa (hE.trans E34) (aA _);have lD:append prog (h4.new (.cells [o3] 1 none)) 38 out (.slice (some ⟨2*h4.n,0,none⟩) 1 3)=some (cV,h8):=hap;simp -dsimp (disch:=try exact dx) only[wpS,wpT,zE,zL,zA,JY,vW,f4,f5,f10,S4.1.cells,lD];refine⟨m - 1,aa,i+1,cV,vs ++ [o3],ll ++ [l],aa,by simp[hil],by simp[hvl],hE8,hA8,?_,?_,by simp[f1],by simp[f3],ab,ab⟩
     ·intro k x hx;by_cases hk:k<i
      ·rw[ef aa] at hx;obtain⟨w,c3,c4⟩:=hll k x hx;exact⟨w,by rw[ef aa];exact c3,c4.ai (E34.ai.trans hG8.ai)⟩
      ·have hki:k=i:=by have:=(bU.1 hx).1;simp at this;omega
       subst hki;rw[gI aa,hil,nD] at hx;simp at hx;subst hx;exact⟨o3,by rw[gI aa,hvl,nD];rfl,S4.ai hG8.ai⟩
     ·intro x hx;rcases fC.1 hx with hx|hx
      ·exact hro x hx
      ·rw[gQ.1 hx];exact⟨RJ,rok⟩
 ·have hin:i=n:=aa;subst hin;simp -dsimp (disch:=try exact dx) only[wpS,wpT,zE,f4];exact⟨hEh,ll,⟨vs,by rw[hil];exact hA.sl,aa,hll⟩,hil,hro⟩
end
section
def kM (l:List (Nat×Nat)):Nat→Nat
 | 0=>1
 | i+1=>Nat.lcm (kM l i) (l.getD i (0,1)).2
variable {i:Nat}{p:Nat×Nat}{l:List (Nat×Nat)}
theorem vK (h:l[i]?=some p):kM l (i+1)=Nat.lcm (kM l i) p.2:=by rw[kM,bH,h];rfl
def Ry {j:Nat} (hj:j<i) (hp:l[j]?=some p) (hi:i≤l.length):p.2∣kM l i:=by
 induction i with
 | zero=>omega
 | succ i ih =>
  obtain⟨q,hq⟩ : ∃p,l[i]?=some p:=⟨_,aK hi⟩
  rw[vK hq];by_cases c:j=i;·subst c;rw[hp] at hq;cases hq;exact Nat.dvd_lcm_right _ _
  ·exact qV (ih aa aa) (Nat.dvd_lcm_left _ _)
def Nu (a d:Nat):(a:Int)*((d:Int) / ((Int.gcd (a:Int) (d:Int):Nat):Int))=((Nat.lcm a d:Nat):Int):=by rw[Ck,←oV,←uj,Nat.lcm,Nat.mul_div_assoc _ (zw a d)]
def wL (l:List (Nat×Nat)):List Nat:=l.map fun p=>p.1*(kM l l.length / p.2)
theorem uv (l:List (Nat×Nat)):(wL l).length=l.length:=by simp[wL]
theorem Vo (h:l[i]?=some p):(wL l)[i]?=some (p.1*(kM l l.length / p.2)):=by simp[wL,h]
def Wz {l:List Nat} {b:Nat} (h : ∀x∈l,x≤b) (hi:i≤l.length):du l i≤i*b:=by
 induction i with
 | zero=>simp[du]
 | succ i ih =>
  obtain⟨p,hp⟩ : ∃p,l[i]?=some p:=⟨_,aK hi⟩;have:=h p (bh hp);have:=ih aa;rw[tg l hp,dA,Nat.one_mul];omega
def Og:1000000000000<H8:=by unfold H8;decide +kernel
theorem Wu {n:Nat} (hn:n≤1000000000000):wdI n=(n:Int):=gU (il hn Og)
end

def kerS (ll:List (List (Nat×Nat))):Prop:=1≤ll.length∧ll.length≤60 ∧ ∀x∈ll,x.length=ll.length∧(∃S,smR S x) ∧ ∃q∈x,0<q.1
abbrev pI (p:List Nat):List Int:=p.map fun n:Nat=>((n:Nat):Int)
def Ux {ll:List (List (Nat×Nat))} (h1:1≤ll.length) (h2:ll.length≤60) (h : ∀x∈ll,x.length=ll.length∧KU x):kerS ll∧jH ll :=
 ⟨⟨h1,h2,fun x hx=>⟨(h x hx).1,(h x hx).2.2⟩⟩,h1,h2,fun x hx=>⟨(h x hx).1,(h x hx).2.1⟩⟩
end Go.Id
namespace Go.Id
open Go
open Go renaming Operand→QY,Program→QX,TypeId→QZ,Value→QQ
open Nat renaming reduceAdd→zA,reduceEqDiff→zE,reduceLeDiff→zL
open Nat (reduceMul)
set_option maxHeartbeats 16000000
section
def PY (h:IH) (n0 n1:Nat) (v:QQ) (n:Nat) (cs:List QQ):Prop :=
 cs.length=n ∧ ∃k c fam,v=.slice (some ⟨2*k,0,none⟩) n c∧(c=2*n∨(c=2*n+1∧fam=none))∧0<n∧n0≤k∧k<n1∧n1≤h.n∧h.ext.get k=some (.cells cs 1 fam)∧match fam with
  | none=>True
  | some f=>n0≤f∧f<h.n ∧ ∃rest,h.eP.get f=some (k :: rest) ∧ ∀j∈rest,n0≤j∧j<n1
variable {h:IH}{n:Nat}{cs:List QQ}{n0:Nat}{v:QQ}
def Acc.groB (a:Acc h n0 1 v n cs) (hn:0<n):PY h n0 h.n v n cs:=by
 obtain⟨hz,hl,⟨rfl,rfl⟩|⟨k,fam,rfl,hn,h1,h2,h3,h4⟩⟩:=a;·omega
 ·refine⟨aa,k,2*n,fam,rfl,.inl rfl,hn,h1,h2,aA _,h3,?_⟩;cases fam with
  | none=>trivial
  | some f=>exact h4
variable {n1:Nat}
def PY.sl (g:PY h n0 n1 v n cs):df h 1 v n cs:=by obtain⟨hl,k,c,fam,rfl,hc,hn,h1,h2,h3,h4,_⟩:=g;exact fX h4 aa aa aa aa aa
def Sim (n0 n1:Nat) (h h':IH):Prop:=h'.n=h.n∧h'.base=h.base∧(∀j,j<n0∨n1≤j→h'.ext.get j=h.ext.get j)∧h'.eP=h.eP
def Sim.trans {a b c:IH} (x:Sim n0 n1 a b) (y:Sim n0 n1 b c):Sim n0 n1 a c:=⟨y.1.trans x.1,y.2.1.trans x.2.1,fun j hj=>(y.2.2.1 j hj).trans (x.2.2.1 j hj),y.2.2.2.trans x.2.2.2⟩
def Sim.ext {g h':IH} (s:Sim n0 n1 h h') (e:Ext g h) (hg:g.n≤n0):Ext g h' :=
 ⟨by rw[s.1];exact e.n,by rw[s.2.1];exact e.base,fun j hj=>(s.2.2.1 j (.inl aa)).trans (e.get j hj),fun f hf=>by rw[s.2.2.2];exact e.eP f hf⟩
def PY.set (g:PY h n0 n1 v n cs) {P:Program} {t:TypeId} (hT:bK P t=some 1) {i:Nat} (hi:i<n) {x:QQ} (hx:x.cells = #[x]) (hc:bB x=true) :∃h',store P h t (bq v i) x=some h'∧PY h' n0 n1 v n (cs.set i x)∧Sim n0 n1 h h':=by
 obtain⟨hl,k,c,fam,rfl,hcc,hn,h1,h2,h2',h3,h4⟩:=g;have hsp:IH.bf cs i [x]=cs.set i x:=jM aa;have k2:2*k / 2=k:=aa;have k1:(2*k % 2 == 1)=false:=ab;have hst:store P h t (bq (.slice (some ⟨2*k,0,none⟩) n c) i) x=h.wr (2*k) i [x]:=by simp only[bq,fy,store,asAddr,ptr,hT,hx];simp[hc]
 have hle:Nat.ble (i + [x].length) cs.length=true:=by rw[ch];simp;omega
 rw[hst]
 cases fam with
 | none =>
  refine⟨h.put k (.cells (cs.set i x) 1 none),?_,⟨by simpa using hl,k,c,none,rfl,hcc,hn,h1,h2,h2',aj _ _ rfl,trivial⟩,rfl,rfl,fun j hj=>au _ _ aa,rfl⟩
  simp only[IH.wr,k1,k2,h3,hle,cg,fU,hsp];rfl
 | some f =>
  obtain⟨a1,a2,rest,a3,a4⟩:=h4
  refine⟨{ h with ext:=(IH.gC h.ext (((k :: rest).filter (· != k)))).set k (.cells (cs.set i x) 1 none) },?_,⟨by simpa using hl,k,c,none,rfl,hcc.imp id (fun h=>⟨h.1,rfl⟩),hn,h1,h2,h2',?_,trivial⟩,rfl,rfl,fun j hj=>?_,rfl⟩
  ·simp only[IH.wr,k1,k2,h3,hle,cg,fU,hsp,a3]
  ·simp[Tr.cD]
  ·have hjk:j≠k:=aa
   rw[Tr.cD,ah hjk,kP,ah];intro hm;simp only[qY,dV,mL,ne_eq] at hm;rcases hm with⟨rfl|hm,hne⟩
   ·exact hne rfl
   ·have:=a4 j hm;omega
end
open Go.Proofs.Tryz (prog)


end Go.Id
namespace Go.Id
open Go
open Go renaming Operand→QY,Program→QX,TypeId→QZ,Value→QQ
open Nat renaming reduceAdd→zA,reduceEqDiff→zE,reduceLeDiff→zL
open Nat (reduceMul)
set_option maxHeartbeats 16000000


open Go.Proofs.Tryz (prog)



end Go.Id
namespace Go.Id
open Go
open Go renaming Operand→QY,Program→QX,TypeId→QZ,Value→QQ
open Nat renaming reduceAdd→zA,reduceEqDiff→zE,reduceLeDiff→zL
open Nat (reduceMul)
set_option maxHeartbeats 16000000
noncomputable section
end

end Go.Id
namespace Go.Id
open Go Go.RowKit
def partAt:Code→Nat→Code
 | .seq a _,0=>a
 | .seq _ b,n+1=>partAt b n
 | c,_=>c
def xE:Code→Nat→Code
 | c,0=>c
 | .seq _ b,n+1=>xE b n
 | c,_=>c
end Go.Id
namespace Go.Id
open Go
open Go renaming Operand→QY,Program→QX,TypeId→QZ,Value→QQ
open Nat renaming reduceAdd→zA,reduceEqDiff→zE,reduceLeDiff→zL
open Nat (reduceMul)
set_option maxHeartbeats 16000000
open Go.Proofs.Tryz (prog)
section
section
variable {h:IH} {fr:Fr} {vN:Value} {lN:List Nat} {sz bx cx s:Nat} {from_ steps:Nat}
end
end
def Po {h:IH} {v w:Value} {a b:List Int} (ha:mH h 1 v a.length (a.map KI)) (hb:mH h 1 w b.length (b.map KI)) (la:a.length≤1000000000) :WV Proofs.Tryz.prog (.func (.func 14) #[] #[]) [v,w] h fun r h'=>h'=h∧r=.bool (decide (a=b)):=by
 have hln:a.length=b.length∨a.length≠b.length:=aa;refine enter (nt:=26) (rs:=[.tmp 4]) Proofs.Tryz.func14 rfl rfl rfl ab ?_;simp -dsimp (disch:=try exact dx) only[wpS,Nat.reduceEqDiff,Nat.reduceAdd,ha.len dY,hb.len dY];refine aG ?_ ?_<;>intro hc<;>simp only[mL,zr,ne_eq] at hc
 ·simp -dsimp (disch:=try exact dx) only[wpS,wpT,Nat.reduceEqDiff];rw[bF];rintro rfl;exact hc rfl
 ·have hl:a.length=b.length:=aa;simp -dsimp (disch:=try exact dx) only[wpS,wpT,Nat.reduceEqDiff,ha.len dY];refine loop (fun m fr h1=>h1=h ∧ ∃i:Nat,i+m=a.length∧ax fr 0=some v∧ax fr 1=some w∧ax fr 12=some (KI a.length)∧ax fr 13=some (KI i) ∧ ∀j,j<i→a[j]?=b[j]?) a.length ⟨rfl,0,ab,ab,ab,ab,ab,ab⟩ ?_;rintro m fr h1 ⟨rfl,i,him,f0,f1,f12,f13,hz⟩;simp -dsimp (disch:=try exact dx) only[wpS,f12,f13];refine aG ?_ ?_<;>intro hc2<;>simp only[aS,aV] at hc2
  ·have hi:i<a.length:=aa;obtain⟨x,hx⟩ : ∃x,a[i]?=some x:=⟨a[i],aK hi⟩;obtain⟨y,hy⟩ : ∃y,b[i]?=some y:=⟨b[i]' aa,aK aa⟩;simp -dsimp (disch:=try exact dx) only[wpS,wpT,Nat.reduceEqDiff,f0,f1,f13,ha.idx gl hi,ha.ld (P:=Proofs.Tryz.prog) (t:=3) (c:=i) (by simpa using hi) ag3,hb.idx gl (show i<b.length by omega),hb.ld (P:=Proofs.Tryz.prog) (t:=3) (c:=i) aT ag3,dM,hx,hy];refine aG ?_ ?_<;>intro hc3<;>simp only[mL,zr,ne_eq] at hc3
   ·simp -dsimp (disch:=try exact dx) only[wpS,wpT,Nat.reduceEqDiff];rw[bF];rintro rfl;rw[hx] at hy;cases hy;exact hc3 rfl
   ·simp -dsimp (disch:=try exact dx) only[wpS,wpT,Nat.reduceEqDiff,f13];refine⟨m - 1,aa,rfl,i+1,aa,by simp[f0],by simp[f1],by simp[f12],ab,fun j hj=>?_⟩;by_cases hji:j=i
    ·subst hji;rw[hx,hy];congr 1
    ·exact hz j aa
  ·simp -dsimp (disch:=try exact dx) only[wpS,wpT];rw[ct];apply iO;intro j;by_cases hj:j<i
   ·exact hz j hj
   ·rw[cy aa,cy aa]
section
def JT (a b:Int):aI prog (Op.equal 36 (.agg #[.int .u64 a]) (.agg #[.int .u64 b]))=some (a == b):=by
 have key:=Bt (P:=prog) u36 ae 9999 #[.int .u64 a] #[.int .u64 b] (fun _=>a == b) (by
  intro f hf;simp only[dV,List.not_mem_nil,or_false] at hf;subst hf;exact⟨aC,.int .u64 a,.int .u64 b,yE uf rfl,yE uf rfl,yF u28 _ _ _⟩)
 refine key.trans (kC some ?_);simp
theorem XI (a b:Int) (ox oy:Operand):binop prog .neq 36 ox oy (.agg #[.int .u64 a]) (.agg #[.int .u64 b])=some (.bool (!(a == b))) :=
 wR ae (by simp[plain,dN]) (by simp[plain,dN]) (JT a b) ox oy
def U6 (s:Nat) (ox oy:Operand):binop prog .neq 36 ox oy (.agg #[K64 s]) (.agg #[K64 s])=some (.bool false):=by rw[XI];simp
section
variable {h:IH} {fr:Fr} {m k e3 v18:Value} {X N:Nat}
structure WX (hh:IH) (fr:Fr) (m v12 v18:Value) (ll:List (List (Nat×Nat))) (N kn:Nat) (p t:List Nat):Prop where
 f9:ax fr 9=some m
 f11:ax fr 11=some (KN N)
 f12:ax fr 12=some v12
 f18:ax fr 18=some v18
 f19:ax fr 19=some (KN kn)
 hm:iN hh m ll
 sp:df hh 1 v12 (N+1) ((pI p).map KI)
 st:df hh 1 v18 (N+1) ((pI t).map KI)
end
end

end Go.Id
