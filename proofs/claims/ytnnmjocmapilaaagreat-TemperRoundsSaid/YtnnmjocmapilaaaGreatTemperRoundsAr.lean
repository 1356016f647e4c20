/-
  Contracts: the program's wide numbers: sums and differences (of numbers that are not negat
-/
import Derived.Test.YtnnmjocmapilaaaGreatTemperRoundsAp
set_option linter.unusedVariables false
set_option linter.unusedSimpArgs false
set_option linter.defProp false
set_option linter.deprecated false
namespace Go.Id
open Go
open Go renaming Operand→QY,Program→QX,TypeId→QZ,Value→QQ
open Nat renaming reduceAdd→zA,reduceEqDiff→zE,reduceLeDiff→zL
open Nat (reduceMul)
set_option maxHeartbeats 16000000
open Go.Proofs.Tryz (prog)
section
variable {h:IH}
set_option maxHeartbeats 2000000 in
def Iw (a b:Nat) (ha:a<W8) (hb:b<W8):WV Proofs.Tryz.prog (.func (.func 269) #[] #[]) [wdV a,wdV b] h fun r h'=>Ext h h' ∧ ∃m bor,r=.tuple #[wdV m,K64 bor]∧m<W8∧bor≤1∧a+b=m+bor*W8:=by
 refine enter (nt:=27) (rs:=[.cell 4 244,.tmp 5]) Proofs.Tryz.func269 rfl rfl rfl ab ?_;simp -dsimp (maxSteps:=1000000) (disch:=first|omega|(simp only[aH,aJ];omega)|decide +kernel|(repeat first|rw[aH]|rw[aJ])) only[wpS,Nat.reduceEqDiff,Nat.reduceAdd,ED,bA];rw[mR a,mR b];have lA:=lW a;have lB:=lW b;refine loop (fun m fr h1 => ∃(i bor:Nat) (os:List Nat),i+m=8∧Ext h h1∧h.n+3≤h1.n∧h1.ext.get h.n=some (.cells (os.map K64) 0 none)∧h1.ext.get (h.n+1)=some (.cells ((wds b).map K64) 0 none)∧(∃c,h1.ext.get (h.n+1+1)=some (.cells c 0 none)∧c.length=8)∧bor≤1∧os.length=8∧B.dh os∧(∀j,i≤j→os.getD j 0=(wds a).getD j 0) ∧B.bm (wds a) i+B.bm (wds b) i=B.bm os i+bor*18446744073709551616 ^ i∧ax fr 2=some (ptr (2*h.n) 0)∧ax fr 3=some (ptr (2*(h.n+1)) 0)∧ax fr 4=some (ptr (2*(h.n+1+1)) 0)∧ax fr 6=some (K64 bor)∧ax fr 8=some (KN i)) 8 ⟨0,0,wds a,rfl,(((Ext.refl h).new _).new _).new _,bd,by simp (disch:=first|omega|(simp only[aH,aJ];omega)|(repeat first|rw[aH]|rw[aJ])) only[ar,aE],by simp (disch:=first|omega|(simp only[aH,aJ];omega)|(repeat first|rw[aH]|rw[aJ])) only[ar,aE],⟨[ZW,ZW,ZW,ZW,ZW,ZW,ZW,ZW],by simp (disch:=first|omega|(simp only[aH,aJ];omega)|(repeat first|rw[aH]|rw[aJ])) only[ar],rfl⟩,aa,lA,px a,fun _ _=>rfl,by simp[B.bm],ab,ab,ab,ab,ab⟩ ?_;rintro m fr h1 ⟨i,bor,os,him,hE,hn,hg,hg1,hg2,Jv,hol,hod,hoa,hv,f2,f3,f4,f6,f8⟩;simp -dsimp (maxSteps:=1000000) (disch:=first|omega|(simp only[aH,aJ];omega)|decide +kernel|(repeat first|rw[aH]|rw[aJ])) only[wpS,f8];refine aG ?_ ?_<;>intro hc<;>simp only[aS,aV] at hc
 ·have hi:i<8:=aa;have r0:=cJ hg;have r1:=cJ hg1;have go:=get_some (show i<os.length by omega);have gb:=get_some (show i<(wds b).length by omega);have hx:=hoa i (aA _);have dx:=B.cK hod i;have dy:=B.cK (px b) i;obtain⟨x,hx1⟩ : ∃x,x=os.getD i 0:=⟨_,rfl⟩;obtain⟨y,hy1⟩ : ∃x,x=(wds b).getD i 0:=⟨_,rfl⟩;rw[←hx1] at go dx hx;rw[←hy1] at gb dy;simp -dsimp (maxSteps:=1000000) (disch:=first|omega|(simp only[aH,aJ];omega)|decide +kernel|(repeat first|rw[aH]|rw[aJ])) only[wpS,wpT,Nat.reduceEqDiff,Gd,oa,f2,f3,f6,f8,r0,r1,dF,go,gb];refine call (D4 x y bor Jv) ?_;rintro _ _ ⟨rfl,rfl⟩;generalize hdd:(x+y+bor) % 18446744073709551616=d;generalize hbb:(x+y+bor) / 18446744073709551616=b2;have hb1:b2≤1:=aa;have ml:x+y+bor=d+b2*18446744073709551616:=aa;have hd2:d<18446744073709551616:=aa;have spl:=mU d (show i<os.length by omega);rename_i h3;simp -dsimp (maxSteps:=1000000) (disch:=first|omega|(simp only[aH,aJ];omega)|decide +kernel|(repeat first|rw[aH]|rw[aJ])) only[wpS,wpT,Nat.reduceEqDiff,Nat.reduceLeDiff,Gd,rp,f2,f8,hg,spl,cz,hol];obtain⟨c,hgc,hcl⟩:=hg2;refine⟨m - 1,aa,i+1,b2,os.set i d,aa,hE.put (aA _) _,hn,aj _ _ rfl,by simp (disch:=first|omega|(simp only[aH,aJ];omega)|(repeat first|rw[aH]|rw[aJ])) only[au];exact hg1,⟨c,by simp (disch:=first|omega|(simp only[aH,aJ];omega)|(repeat first|rw[aH]|rw[aJ])) only[au];exact hgc,hcl⟩,hb1,by rw[dB,hol],hod.set _ hd2,?_,?_,by simp[f2],by simp[f3],by simp[f4],ab,ab⟩
  ·intro j hj;rw[B.fZ aa,ah aa];exact hoa j aa
  ·rw[lK aa,B.bm,B.bm,←hx,←hy1,eH];have e3:d*18446744073709551616 ^ i+b2*(18446744073709551616 ^ i*18446744073709551616)=(x+y+bor)*18446744073709551616 ^ i:=by rw[ml];grind
   have e4:(x+y+bor)*18446744073709551616 ^ i=x*18446744073709551616 ^ i+y*18446744073709551616 ^ i+bor*18446744073709551616 ^ i:=gh;omega
 ·obtain rfl:i=8:=aa;have r0:=cJ hg;have lm:(os.map K64).length=8:=by rw[cz,hol]
  have all:=Hi os;have tk8:List.take 8 (List.drop 0 (os.map K64))=os.map K64:=by rw[cC,fB aa]
  obtain⟨c,hgc,hcl⟩:=hg2;have hsp:IH.bf c 0 (os.map K64)=os.map K64:=jN (by rw[hcl,lm]);simp -dsimp (maxSteps:=1000000) (disch:=first|omega|(simp only[aH,aJ];omega)|decide +kernel|(repeat first|rw[aH]|rw[aJ])) only[wpS,wpT,Nat.reduceEqDiff,Nat.reduceLeDiff,lg,AI,f2,f4,f6,r0,lm,all,tk8,hgc,hcl,hsp];rw[←GF hol hod,←mR] ;have e8 : ∀n,n<W8→B.bm (wds n) 8=n:=fun n hn=>by rw[yg n 8 (aA _),←zo,dR hn]
  rw[e8 a ha,e8 b hb,←zo] at hv;have hvo:B.bm os 8=B.aM os:=by rw[B.aM,hol]
  rw[hvo] at hv;exact⟨hE.put aa _,B.aM os,bor,rfl,MC hol hod,Jv,hv⟩
variable {n:Nat}
theorem Qs {m:Nat} (hn:n<W8) (hm:m<W8) (ox oy:Operand):binop Proofs.Tryz.prog .eql 244 ox oy (.agg (wdC n).toArray) (.agg (wdC m).toArray)=some (.bool (decide (n=m))):=by rw[qH,qH,wT Ww u28 Ee Z2 _ _ _ _ ab ab,GH hn hm]
set_option maxHeartbeats 1000000 in
def Iv (n:Nat) (hn:n<W8):WV Proofs.Tryz.prog (.func (.func 273) #[] #[]) [wdV n] h fun r h'=>Ext h h'∧r=.bool (decide (n=0)):=by
 have hz : ∀ox oy,binop Proofs.Tryz.prog .eql 244 ox oy (.agg (wdC n).toArray) (.agg #[ZW,ZW,ZW,ZW,ZW,ZW,ZW,ZW])=some (.bool (decide (n=0))):=fun ox oy=>by rw[iL,wdV,Qs hn (by have:=dD;have:=lE;omega)]
 have E1:Ext h (h.new (.cells (wdC n) 0 none)):=(Ext.refl h).new _;refine enter (nt:=6) (rs:=[.tmp 2]) Proofs.Tryz.func273 rfl rfl rfl ab ?_;simp -dsimp (maxSteps:=1000000) (disch:=first|omega|(simp only[aH,aJ];omega)|decide +kernel|(repeat first|rw[aH]|rw[aJ])) only[wpS,wpT,Nat.reduceEqDiff,Nat.reduceLeDiff,lg,JX,bA,aD,aY,hz];exact E1
def N4 {b:Bool} :iP Proofs.Tryz.prog 246 [(0,.bool b),(1,wdV n)]=some (oL b n):=by kernel_rfl
set_option maxHeartbeats 1000000 in
def Kx (b:Bool) (n:Nat) (hn:n<W8):WV Proofs.Tryz.prog (.func (.func 270) #[] #[]) [.bool b,wdV n] h fun r h'=>Ext h h'∧r=oL (b && !decide (n=0)) n:=by
 obtain⟨H0,hH0,n0,E0,k0,k1⟩:=ko h (wdC n) [.bool false,ZW,ZW,ZW,ZW,ZW,ZW,ZW,ZW];refine enter (nt:=13) (rs:=[.cell 4 246]) Proofs.Tryz.func270 rfl rfl rfl ab ?_;simp -dsimp (maxSteps:=1000000) (disch:=first|omega|(simp only[aH,aJ];omega)|decide +kernel|(repeat first|rw[aH]|rw[aJ])) only[wpS,Nat.reduceEqDiff,Nat.reduceAdd,wk,bA];rw[←hH0];clear hH0;have X0:=Ext.refl H0;have L1:load Proofs.Tryz.prog H0 244 (ptr (2*h.n) 0)=some (wdV n):=by have r:=ay k0;simp -dsimp (maxSteps:=1000000) (disch:=first|omega|(simp only[aH,aJ];omega)|decide +kernel|(repeat first|rw[aH]|rw[aJ])) only[wpS,Nat.reduceLeDiff,lg,r,aD,aY];rfl
 refine drawn [(6,[3])] ae ae rfl ?_;cases b with
 | true =>
  simp -dsimp (maxSteps:=1000000) (disch:=first|omega|(simp only[aH,aJ];omega)|decide +kernel|(repeat first|rw[aH]|rw[aJ])) only[wpS,wpT,Nat.reduceEqDiff,Nat.reduceLeDiff,lg,ay k0,aD,aY];refine call (Iv n hn) ?_;rintro _ h1 ⟨X1,rfl⟩;have m1:=X1.n;have q0:=X1.kept aa k0;have q1:=X1.kept aa k1;simp -dsimp (maxSteps:=1000000) (disch:=first|omega|(simp only[aH,aJ];omega)|decide +kernel|(repeat first|rw[aH]|rw[aJ])) only[wpS,wpT,Nat.reduceEqDiff,Nat.reduceLeDiff,Nat.reduceAdd,lg,tT,ay q0,q1,aD,aY,show(.agg (wdC n).toArray:Value)=wdV n from rfl,N4,ic,aW,bD];refine⟨az rfl rfl rfl rfl (aP (H0:=H0) rfl aa X1 X0 L1),?_⟩;simp -dsimp (maxSteps:=1000000) (disch:=first|omega|(simp only[aH,aJ];omega)|decide +kernel|(repeat first|rw[aH]|rw[aJ])) only[wpS,wpT,Nat.reduceEqDiff,Nat.reduceLeDiff,Nat.reduceAdd,tZ,iU,aD];exact⟨(E0.trans X1).put aa _,rfl⟩
 | false =>
  simp -dsimp (maxSteps:=1000000) (disch:=first|omega|(simp only[aH,aJ];omega)|decide +kernel|(repeat first|rw[aH]|rw[aJ])) only[wpS,wpT,Nat.reduceEqDiff,Nat.reduceLeDiff,Nat.reduceAdd,lg,tT,ay k0,k1,aD,aY,show(.agg (wdC n).toArray:Value)=wdV n from rfl,N4,ic,aW,bD];refine⟨az rfl rfl rfl rfl (aP (H0:=H0) rfl aa X0 X0 L1),?_⟩;simp -dsimp (maxSteps:=1000000) (disch:=first|omega|(simp only[aH,aJ];omega)|decide +kernel|(repeat first|rw[aH]|rw[aJ])) only[wpS,wpT,Nat.reduceEqDiff,Nat.reduceLeDiff,Nat.reduceAdd,tZ,iU,aD];exact⟨E0.put aa _,rfl⟩
set_option maxHeartbeats 2000000 in
def Ql (a b:Nat) (hab:a+b<W8) :WV Proofs.Tryz.prog (.func (.func 266) #[] #[]) [oL false a,oL false b] h fun r h'=>Ext h h'∧r=.tuple #[oL false (a+b),.bool false]:=by
 have ha:a<W8:=aa;have hb:b<W8:=aa;obtain⟨H0,hH0,n0,E0,k0,k1,k2⟩:=jC h (.bool false :: wdC a) (.bool false :: wdC b) [.bool false,ZW,ZW,ZW,ZW,ZW,ZW,ZW,ZW];have ee:((false:Bool) == false)=true:=rfl;refine enter (nt:=61) (rs:=[.cell 4 246,.tmp 5]) Proofs.Tryz.func266 rfl rfl rfl ab ?_;simp -dsimp (maxSteps:=1000000) (disch:=first|omega|(simp only[aH,aJ];omega)|decide +kernel|(repeat first|rw[aH]|rw[aJ])) only[wpS,wpT,Nat.reduceEqDiff,Nat.reduceLeDiff,Nat.reduceAdd,wk,nc,ld4,be4,jt,lg,ic];rw[←hH0];clear hH0;simp -dsimp (maxSteps:=1000000) (disch:=first|omega|(simp only[aH,aJ];omega)|decide +kernel|(repeat first|rw[aH]|rw[aJ])) only[wpS,wpT,Nat.reduceEqDiff,Nat.reduceLeDiff,Nat.reduceAdd,jt,lg,ay k1,jW,aD];refine call (Iw a b ha hb) ?_;rintro _ h1 ⟨X1,m,c,rfl,hm,hc,ml⟩;have c0:c=0:=by apply di;intro hn;have:c=1:=aa;subst this;omega
 subst c0;obtain rfl:m=a+b:=aa;have m1:=X1.n;have e1:Ext h1 ((h1.new (.cells [ZW,ZW,ZW,ZW,ZW,ZW,ZW,ZW] 0 none)).put h1.n (.cells (wdC (a+b)) 0 none)):=((Ext.refl _).new _).put (aA _) _;have X2:=X1.trans e1;have q0:=X1.kept aa k0;have q2:=X2.kept aa k2;simp -dsimp (maxSteps:=1000000) (disch:=first|omega|(simp only[aH,aJ];omega)|decide +kernel|(repeat first|rw[aH]|rw[aJ])) only[wpS,wpT,Nat.reduceEqDiff,Nat.reduceLeDiff,Nat.reduceAdd,nc,ld4,lg,ED,AI,bA,aD,aW,bD,ay q0,aY];refine call (Kx false (a+b) hab) ?_;rintro _ h3 ⟨X3,rfl⟩;have q3:=X3.kept (by simp only[aH,aJ];omega) q2;rw[Cm];simp -dsimp (maxSteps:=1000000) (disch:=first|omega|(simp only[aH,aJ];omega)|decide +kernel|(repeat first|rw[aH]|rw[aJ])) only[wpS,wpT,Nat.reduceEqDiff,Nat.reduceLeDiff,Nat.reduceAdd,tT,tZ,q3,ic,iU,aD,aW,bD];exact⟨((E0.trans X2).trans X3).put aa _,rfl⟩
set_option maxHeartbeats 2000000 in
def Qm (a b:Nat) (ha:a<W8) (hab:b≤a) :WV Proofs.Tryz.prog (.func (.func 266) #[] #[]) [oL false a,oL true b] h fun r h'=>Ext h h'∧r=.tuple #[oL false (a - b),.bool false]:=by
 have hb:b<W8:=aa;obtain⟨H0,hH0,n0,E0,k0,k1,k2⟩:=jC h (.bool false :: wdC a) (.bool true :: wdC b) [.bool false,ZW,ZW,ZW,ZW,ZW,ZW,ZW,ZW];have ee:((false:Bool) == true)=false:=rfl;refine enter (nt:=61) (rs:=[.cell 4 246,.tmp 5]) Proofs.Tryz.func266 rfl rfl rfl ab ?_;simp -dsimp (maxSteps:=1000000) (disch:=first|omega|(simp only[aH,aJ];omega)|decide +kernel|(repeat first|rw[aH]|rw[aJ])) only[wpS,wpT,Nat.reduceEqDiff,Nat.reduceLeDiff,Nat.reduceAdd,wk,nc,ld4,be4,jt,lg,ic];rw[←hH0];clear hH0;simp -dsimp (maxSteps:=1000000) (disch:=first|omega|(simp only[aH,aJ];omega)|decide +kernel|(repeat first|rw[aH]|rw[aJ])) only[wpS,wpT,Nat.reduceEqDiff,Nat.reduceLeDiff,Nat.reduceAdd,jt,lg,ay k1,jW,aD];refine call (pD a b ha hb) ?_;rintro _ h1 ⟨X1,rfl⟩;rw[ah aa];obtain⟨z,hz,hz0⟩ : ∃z:Int,(if a=b then (0:Int) else 1)=z∧0≤z:=⟨_,rfl,by split<;>omega⟩;rw[hz];have m1:=X1.n;simp -dsimp (maxSteps:=1000000) (disch:=first|omega|(simp only[aH,aJ];omega)|decide +kernel|(repeat first|rw[aH]|rw[aJ])) only[wpS,wpT,Nat.reduceEqDiff,Nat.reduceLeDiff,Nat.reduceAdd,jt,lg,ay (X1.kept aa k0),ay (X1.kept aa k1),jW,aD];refine call (pE a b ha hb) ?_;rintro _ h2 ⟨X2,m,c,rfl,hm,hc,ml⟩;have c0:c=0:=by apply di;intro hn;have:c=1:=aa;subst this;omega
 subst c0;obtain rfl:m=a - b:=aa;have m2:=X2.n;have e1:Ext h2 ((h2.new (.cells [ZW,ZW,ZW,ZW,ZW,ZW,ZW,ZW] 0 none)).put h2.n (.cells (wdC (a - b)) 0 none)):=((Ext.refl _).new _).put (aA _) _;have X3:=(X1.trans X2).trans e1;have q0:=(X1.trans X2).kept aa k0;have q2:=X3.kept aa k2;simp -dsimp (maxSteps:=1000000) (disch:=first|omega|(simp only[aH,aJ];omega)|decide +kernel|(repeat first|rw[aH]|rw[aJ])) only[wpS,wpT,Nat.reduceEqDiff,Nat.reduceLeDiff,Nat.reduceAdd,nc,ld4,lg,ED,AI,bA,aD,aW,bD,ay q0,aY];refine call (Kx false (a - b) aa) ?_;rintro _ h3 ⟨X4,rfl⟩;have q3:=X4.kept (by simp only[aH,aJ];omega) q2;rw[Cm];simp -dsimp (maxSteps:=1000000) (disch:=first|omega|(simp only[aH,aJ];omega)|decide +kernel|(repeat first|rw[aH]|rw[aJ])) only[wpS,wpT,Nat.reduceEqDiff,Nat.reduceLeDiff,Nat.reduceAdd,tT,tZ,q3,ic,iU,aD,aW,bD];exact⟨((E0.trans X3).trans X4).put aa _,rfl⟩
set_option maxHeartbeats 2000000 in
def Ov (b:Nat) (hb:b<W8) (b0:0<b) :WV Proofs.Tryz.prog (.func (.func 271) #[] #[]) [oL false b] h fun r h'=>Ext h h'∧r=oL true b:=by obtain⟨H0,hH0,n0,E0,k0,k1⟩:=ko h (.bool false :: wdC b) [.bool false,ZW,ZW,ZW,ZW,ZW,ZW,ZW,ZW];refine enter (nt:=9) (rs:=[.cell 2 246]) Proofs.Tryz.func271 rfl rfl rfl ab ?_;simp -dsimp (maxSteps:=1000000) (disch:=first|omega|(simp only[aH,aJ];omega)|decide +kernel|(repeat first|rw[aH]|rw[aJ])) only[wpS,wpT,Nat.reduceEqDiff,Nat.reduceLeDiff,Nat.reduceAdd,wk,nc,ld4,jt,lg,ic];rw[←hH0];clear hH0;simp -dsimp (maxSteps:=1000000) (disch:=first|omega|(simp only[aH,aJ];omega)|decide +kernel|(repeat first|rw[aH]|rw[aJ])) only[wpS,Nat.reduceEqDiff,Nat.reduceLeDiff,jW,aD];refine call (Kx true b hb) ?_;rintro _ h1 ⟨X1,rfl⟩;rw[Bool.true_and,bF aa,Bool.not_false];have q1:=X1.kept aa k1;have m1:=X1.n;simp -dsimp (maxSteps:=1000000) (disch:=first|omega|(simp only[aH,aJ];omega)|decide +kernel|(repeat first|rw[aH]|rw[aJ])) only[wpS,wpT,Nat.reduceEqDiff,Nat.reduceLeDiff,Nat.reduceAdd,tT,tZ,q1,ic,iU,aD,aW,bD];exact⟨(E0.trans X1).put aa _,rfl⟩
set_option maxHeartbeats 2000000 in
def Ew (a b:Nat) (ha:a<W8) (b0:0<b) (hab:b≤a) :WV Proofs.Tryz.prog (.func (.func 267) #[] #[]) [oL false a,oL false b] h fun r h'=>Ext h h'∧r=.tuple #[oL false (a - b),.bool false]:=by
 obtain⟨H0,hH0,n0,E0,k0,k1,k2⟩:=jC h (.bool false :: wdC a) (.bool false :: wdC b) [.bool false,ZW,ZW,ZW,ZW,ZW,ZW,ZW,ZW];refine enter (nt:=12) (rs:=[.cell 4 246,.tmp 5]) Proofs.Tryz.func267 rfl rfl rfl ab ?_;simp -dsimp (maxSteps:=1000000) (disch:=first|omega|(simp only[aH,aJ];omega)|decide +kernel|(repeat first|rw[aH]|rw[aJ])) only[wpS,Nat.reduceEqDiff,Nat.reduceAdd,wk,ic];rw[←hH0];clear hH0;have X0:=Ext.refl H0;have L0:load Proofs.Tryz.prog H0 246 (ptr (2*h.n) 0)=some (oL false a):=by have r:=ay k0;simp -dsimp (maxSteps:=1000000) (disch:=first|omega|(simp only[aH,aJ];omega)|decide +kernel|(repeat first|rw[aH]|rw[aJ])) only[wpS,wpT,Nat.reduceLeDiff,Nat.reduceAdd,tZ,r,iU,aD];rfl
 refine drawn [(0,[3])] ae ae rfl ?_;simp -dsimp (maxSteps:=1000000) (disch:=first|omega|(simp only[aH,aJ];omega)|decide +kernel|(repeat first|rw[aH]|rw[aJ])) only[wpS,wpT,Nat.reduceEqDiff,Nat.reduceLeDiff,Nat.reduceAdd,tZ,ay k0,ay k1,iU,aD];refine call (Ov b aa b0) ?_;rintro _ h1 ⟨X1,rfl⟩;have m1:=X1.n;simp -dsimp (maxSteps:=1000000) (disch:=first|omega|(simp only[aH,aJ];omega)|decide +kernel|(repeat first|rw[aH]|rw[aJ])) only[wpS,Nat.reduceEqDiff];refine call (Qm a b ha hab) ?_;rintro _ h2 ⟨X2,rfl⟩;have X12:=X1.trans X2;have q2:=X12.kept aa k2;simp -dsimp (maxSteps:=1000000) (disch:=first|omega|(simp only[aH,aJ];omega)|decide +kernel|(repeat first|rw[aH]|rw[aJ])) only[wpS,wpT,Nat.reduceEqDiff,Nat.reduceLeDiff,Nat.reduceAdd,tT,q2,ic,aD,aW,bD];refine⟨az rfl rfl rfl rfl (aP (H0:=H0) rfl aa X0 X1 L0),?_⟩;simp -dsimp (maxSteps:=1000000) (disch:=first|omega|(simp only[aH,aJ];omega)|decide +kernel|(repeat first|rw[aH]|rw[aJ])) only[wpS,wpT,Nat.reduceEqDiff,Nat.reduceLeDiff,Nat.reduceAdd,tZ,iU,aD];exact⟨(E0.trans X12).put aa _,rfl⟩
end
section
theorem Hc:Yd prog 307 5 .nilFunc:=⟨_,u307,ae,rfl⟩
def OY:D6:=[(.int .u8 43,(.func (.func 266) #[] #[])),(.int .u8 45,(.func (.func 267) #[] #[])),(.int .u8 42,(.func (.func 268) #[] #[]))]
theorem OW : ∀e∈OY,∃a,e.1=.int .u8 a:=by intro e he;simp[OY] at he;rcases he with rfl|rfl|rfl<;>exact⟨_,rfl⟩
theorem Fj : ∀{l:D6} {k:QQ},(∀e∈l,e.1≠k)→place l k=none
 | [],_,_=>rfl
 | e :: l,k,h=>by rw[place,ah (h e ab),Fj fun x hx=>h x (by simp[hx])];rfl
variable {v:QQ}{l:D6}{k:QQ}
theorem GJ (h : ∀e∈l,e.1≠k):upd l k v=l ++ [(k,v)]:=by unfold upd;rw[Fj h]
def Te (k v:QQ) (l:D6):asc ((k,v) :: l) k=some v:=by rw[asc,aq rfl]
def XU {k':QQ} (h:k'≠k):asc ((k',v) :: l) k=asc l k:=by rw[asc,ah h]
theorem Qe {a b:Int} (h:a≠b):(QQ.int .u8 a)≠.int .u8 b:=fun e=>h (by injection e)
def Zaf:asc OY (.int .u8 43)=some (.func (.func 266) #[] #[]):=Te _ _ _
def Zae:asc OY (.int .u8 45)=some (.func (.func 267) #[] #[]):=(XU (Qe aC)).trans (Te _ _ _)
variable {h:IH}
def Ep :WV prog (.func (.func 261) #[] #[]) [] h fun r h'=>Ext h h'∧h'.ext.get h.n=some (.map OY)∧h.n<h'.n∧r=.map (some (2*h.n)):=by
 have kt:=Jl (P:=prog) u5;have u1 : ∀v,mapUpdate prog (h.new (.map [])) 307 (.map (some (2*h.n))) (.int .u8 43) v=some ((h.new (.map [])).put h.n (.map [(.int .u8 43,v)])):=fun v=>by rw[tC Hc kt (ar _ _ rfl) ⟨_,rfl⟩ ab v,GJ ab];rfl
 have u2 : ∀(H:IH) (w v:QQ),mapUpdate prog (H.put h.n (.map [(.int .u8 43,w)])) 307 (.map (some (2*h.n))) (.int .u8 45) v=some ((H.put h.n (.map [(.int .u8 43,w)])).put h.n (.map [(.int .u8 43,w),(.int .u8 45,v)])):=fun H w v=>by rw[tC Hc kt (aj _ _ rfl) ⟨_,rfl⟩ (by intro e he;simp at he;subst he;exact⟨_,rfl⟩) v,GJ (by intro e he;simp at he;subst he;exact Qe aC)];rfl
 have u3 : ∀(H:IH) (w x v:QQ),mapUpdate prog (H.put h.n (.map [(.int .u8 43,w),(.int .u8 45,x)])) 307 (.map (some (2*h.n))) (.int .u8 42) v=some ((H.put h.n (.map [(.int .u8 43,w),(.int .u8 45,x)])).put h.n (.map [(.int .u8 43,w),(.int .u8 45,x),(.int .u8 42,v)])):=fun H w x v=>by rw[tC Hc kt (aj _ _ rfl) ⟨_,rfl⟩ (by intro e he;simp at he;rcases he with rfl|rfl<;>exact⟨_,rfl⟩) v,GJ (by intro e he;simp at he;rcases he with rfl|rfl<;>exact Qe aC)];rfl
 refine enter (nt:=3) (rs:=[.tmp 0]) Proofs.Tryz.func261 rfl rfl rfl ab ?_;simp -dsimp (disch:=try exact dx) only[wpS,wpT,zE,u1,u2,u3];exact⟨((((Ext.refl h).new _).put (aA _) _).put (aA _) _).put (aA _) _,rfl,aa⟩
def ES {P:Program} {fr:Fr} {mt:TypeId} {m k:Operand} {h':IH} {mv kv:QQ} (hm:opd fr m=some mv) (hk:opd fr k=some kv) (h1:lookup P h mt mv kv false=some v) (h2:lookup P h' mt mv kv false=some v):jS P fr (.lookup mt m k false) h h'=true :=
 qK (v:=v) (x:=h) (y:=h') (by simp[iop,hm,hk,h1]) (by simp[iop,hm,hk,h2])
def N3 (a b m:Nat) (ha:a<H8) (hb:b<H8) (sg:Int) (f:QQ) (hasc:asc OY (.int .u8 sg)=some f) (hm:m<W8)(hf : ∀h1,WV prog f [oL false a,oL false b] h1 fun r h2=>Ext h1 h2∧r=.tuple #[oL false m,.bool false]) :WV prog (.func (.func 249) #[] #[]) [wdV a,wdV b,.int .u8 sg] h fun r h'=>Ext h h'∧r=if m<H8 then .tuple #[wdV m,KI 0] else .tuple #[wdV 0,KI 6]:=by
 have kt:=Jl (P:=prog) u5;have aw:a<W8:=by have:=dD;omega
 have bw:b<W8:=by have:=dD;omega
 have ia:wdI a=(a:Int):=by unfold wdI;rw[aq ha]
 have ib:wdI b=(b:Int):=by unfold wdI;rw[aq hb]
 obtain⟨H0,hH0,n0,E0,k0,k1,k2⟩:=jC h (wdC a) (wdC b) [ZW,ZW,ZW,ZW,ZW,ZW,ZW,ZW];refine enter (nt:=27) (rs:=[.cell 6 30,.tmp 7]) Proofs.Tryz.func249 rfl rfl rfl ab ?_;simp -dsimp (disch:=try exact dx) only[wpS,zE,zA,fa,bA];rw[←hH0];clear hH0;have X0:=Ext.refl H0;have La:load prog H0 30 (ptr (2*h.n) 0)=some (wdV a):=by have r:=ay k0;simp -dsimp (disch:=try exact dx) only[wpS,zL,bY,r,aD,aY];rfl
 have Lb:load prog H0 30 (ptr (2*(h.n+1)) 0)=some (wdV b):=by have r:=ay k1;simp -dsimp (disch:=try exact dx) only[wpS,zL,bY,r,aD,aY];rfl
 refine drawn [(2,[6,7]),(3,[0]),(5,[0,4])] ae ae rfl ?_;simp -dsimp (disch:=try exact dx) only[wpS];refine call Ep ?_;rintro _ h1 ⟨X1,gm,mn,rfl⟩;have m1:=X1.n;have lk : ∀H,Ext h1 H→lookup prog H 307 (.map (some (2*H0.n))) (.int .u8 sg) false=some f:=fun H X=>by rw[Ly Hc kt (X.kept mn gm) ⟨_,rfl⟩ OW,hasc];rfl
 simp -dsimp (disch:=try exact dx) only[wpS,zE,zL,bY,lk h1 (Ext.refl _),ay (X1.kept aa k0),aD,aY];refine call (BG a aw) ?_;rintro _ h2 ⟨X2,rfl⟩;have m2:=X2.n;have X12:=X1.trans X2;rw[ia,bF aa,jz];simp -dsimp (disch:=try exact dx) only[wpS,zE,zL,bY,ay (X12.kept aa k1),aD,aY];refine call (BG b bw) ?_;rintro _ h3 ⟨X3,rfl⟩;have m3:=X3.n;have X13:=X12.trans X3;rw[ib,bF aa,jz];simp -dsimp (disch:=try exact dx) only[wpS,zE];refine call (hf h3) ?_;rintro _ h4 ⟨X4,rfl⟩;have m4:=X4.n;have X14:=X13.trans X4;have q2:=X14.kept aa k2;have Z1:=Ext.refl h1;have X23:=X2.trans X3;simp -dsimp (disch:=try exact dx) only[wpS,wpT,zE,zL,zA,wk,tT,ic,aD,aW,bD];refine⟨aU (bg (az rfl rfl rfl rfl (ES rfl rfl (lk h1 Z1) (lk h2 X2))) (az rfl rfl rfl rfl (ES rfl rfl (lk h1 Z1) (lk h3 X23)))) (aU (az rfl rfl rfl rfl (aP (H0:=H0) rfl aa X1 X0 La)) (bg (az rfl rfl rfl rfl (aP (H0:=H0) rfl aa X12 X0 Lb)) (az rfl rfl rfl rfl (aP (H0:=H0) rfl aa X12 X1 Lb)))),?_⟩;simp -dsimp (disch:=try exact dx) only[wpS,wpT,zE,zL,zA,tZ,iU,aD,show(.agg (QQ.bool false :: wdC m).toArray:QQ)=oL false m from rfl];refine call (Dc false m hm) ?_;rintro _ h5 ⟨X5,rfl⟩;have e4:Ext h4 ((h4.new (.cells [.bool false,ZW,ZW,ZW,ZW,ZW,ZW,ZW,ZW] 0 none)).put h4.n (.cells (.bool false :: wdC m) 0 none)):=((Ext.refl _).new _).put (aA _) _;have q4:((h4.new (.cells [.bool false,ZW,ZW,ZW,ZW,ZW,ZW,ZW,ZW] 0 none)).put h4.n (.cells (.bool false :: wdC m) 0 none)).ext.get (h.n+1+1)=some (.cells [ZW,ZW,ZW,ZW,ZW,ZW,ZW,ZW] 0 none):=e4.kept aa q2;have q5:=X5.kept (by simp only[aH,aJ];omega) q4;have m5:=X5.n;simp only[aH,aJ] at m5;have EE:=((E0.trans X14).trans e4).trans X5;by_cases cm:m<H8
 ·rw[ah (show ¬(H8<m∨(m=H8∧false=false)) from fun hh=>by rcases hh with h|⟨h,_⟩<;>omega),ah (show ¬(false=true) by decide),aq cm];simp -dsimp (disch:=try exact dx) only[wpS,wpT,zE,zL,zA,bY,dw,q5,bA,aD,aW,bD,aY];exact⟨EE.put aa _,rfl⟩
 ·rw[aq (show(H8<m∨(m=H8∧false=false)) from by by_cases hh:H8<m;exact .inl hh;exact .inr ⟨aa,rfl⟩),ah cm];simp -dsimp (disch:=try exact dx) only[wpS,wpT,zE,zL,zA,bY,dw,q5,bA,aD,aW,bD,aY];exact⟨EE.put aa _,rfl⟩
def Oa (a b:Nat) (ha:a<H8) (hb:b<H8):a+b<W8:=by have:=dD;omega
def Ib (a b:Nat) (ha:a<H8) (hb:b<H8):WV prog (.func (.func 212) #[] #[]) [wdV a,wdV b] h fun r h'=>Ext h h'∧r=if a+b<H8 then .tuple #[wdV (a+b),KI 0] else .tuple #[wdV 0,KI 6]:=by
 have w0:(0:Nat)<W8:=by have:=dD;have:=lE;omega
 obtain⟨H0,hH0,n0,E0,k0,k1,k2⟩:=jC h (wdC a) (wdC b) [ZW,ZW,ZW,ZW,ZW,ZW,ZW,ZW];refine enter (nt:=11) (rs:=[.cell 4 30,.tmp 5]) Proofs.Tryz.func212 rfl rfl rfl ab ?_;simp -dsimp (disch:=try exact dx) only[wpS,zE,zL,zA,fa,bY,bA,aD,aY];rw[←hH0];clear hH0;refine call (N3 a b (a+b) ha hb 43 _ Zaf (Oa a b ha hb) (fun h1=>Ql a b (Oa a b ha hb))) ?_;rintro _ h1 ⟨X1,rfl⟩;have q2:=X1.kept aa k2;by_cases c:a+b<H8
 ·rw[aq c];simp -dsimp (disch:=try exact dx) only[wpS,wpT,zE,zL,zA,bY,dw,q2,bA,aD,aW,bD,aY];exact⟨(E0.trans X1).put aa _,rfl⟩
 ·rw[ah c];simp -dsimp (disch:=try exact dx) only[wpS,wpT,zE,zL,zA,bY,dw,q2,bA,aD,aW,bD,aY];exact⟨(E0.trans X1).put aa _,rfl⟩
def P3 (a b:Nat) (ha:a<H8) (b0:0<b) (hab:b≤a):WV prog (.func (.func 251) #[] #[]) [wdV a,wdV b] h fun r h'=>Ext h h'∧r=.tuple #[wdV (a - b),KI 0]:=by
 obtain⟨H0,hH0,n0,E0,k0,k1,k2⟩:=jC h (wdC a) (wdC b) [ZW,ZW,ZW,ZW,ZW,ZW,ZW,ZW];refine enter (nt:=11) (rs:=[.cell 4 30,.tmp 5]) Proofs.Tryz.func251 rfl rfl rfl ab ?_;simp -dsimp (disch:=try exact dx) only[wpS,zE,zL,zA,fa,bY,bA,aD,aY];rw[←hH0];clear hH0;have aw:a<W8:=by have:=dD;omega
 refine call (N3 a b (a - b) ha aa 45 _ Zae aa (fun h1=>Ew a b aw b0 hab)) ?_;rintro _ h1 ⟨X1,rfl⟩;have q2:=X1.kept aa k2;rw[aq (show a - b<H8 by omega)];simp -dsimp (disch:=try exact dx) only[wpS,wpT,zE,zL,zA,bY,dw,q2,bA,aD,aW,bD,aY];exact⟨(E0.trans X1).put aa _,rfl⟩
end
end Go.Id
namespace Go.Id
section
def nxS (s : Nat) : Nat := (s + 11400714819323198485) % 18446744073709551616
def vZ (z : Nat) : Nat := (z ^^^ z / 1073741824) * 13787848793156543929 % 18446744073709551616
def Es (z : Nat) : Nat := (z ^^^ z / 134217728) * 10723151780598845931 % 18446744073709551616
def Uq (z : Nat) : Nat := z ^^^ z / 2147483648
def nxO (s : Nat) : Nat := Uq (Es (vZ (nxS s)))
def Da (s : Nat) : nxS s < 18446744073709551616 := ec _ aa
def Nq (s : Nat) : vZ s < 18446744073709551616 := ec _ aa
def G9 (s : Nat) : Es s < 18446744073709551616 := ec _ aa
variable {s:Nat}
def Up (h : s < 18446744073709551616) : Uq s < 18446744073709551616 :=
  Gl (n := 64) h (il (oU _ _) h)
def Db (s : Nat) : nxO s < 18446744073709551616 := Up (G9 _)
def rA (n : Nat) : Nat := 18446744073709551616 / n * n
variable {n:Nat}
def Jg (h0 : 0 < n) (hn : n < 18446744073709551616) : (18446744073709551616 - n) % n = 18446744073709551616 - rA n ∧ rA n ≤ 18446744073709551616 ∧ n ≤ rA n := by
  unfold rA;have h1 := mN 18446744073709551616 n;have h2 : 18446744073709551616 % n = (18446744073709551616 - n) % n := by rw [Nat.mod_eq_sub_mod (kF hn)]
  have h3 : 1 ≤ 18446744073709551616 / n := (Nat.one_le_div_iff h0).2 (kF hn);have h4 : 1 * n ≤ 18446744073709551616 / n * n := dU _ h3;rw [gE] at h1;generalize 18446744073709551616 / n * n = m at *;omega
def Wk : ∃ T : Nat, T = 200 := ⟨200, rfl⟩
noncomputable def TR : Nat := Classical.choose Wk
def Gh : TR = 200 := Classical.choose_spec Wk
def jR (n : Nat) : Nat → Nat → Option (Nat × Nat)
  | 0, _ => none
  | k + 1, s => if nxO s < rA n then some (nxO s % n, nxS s) else jR n k (nxS s)
variable {x t k:Nat}
def Ay (h0 : 0 < n) (h : jR n k s = some (x, t)) : x < n ∧ t < 18446744073709551616 := by
  induction k generalizing s with
  | zero => cases h
  | succ k ih =>
    rw [jR] at h
    split at h;· cases h; exact ⟨ec _ h0, Da _⟩
    · exact ih h
def dP : Nat → Nat → Nat × Nat
  | 0, s => (0, s)
  | m + 1, s => ((dP m s).1 + nxO (dP m s).2 * 18446744073709551616 ^ m, nxS (dP m s).2)
def u0 (m s : Nat) : (dP m s).1 < 18446744073709551616 ^ m := by
  induction m with
  | zero => exact Nat.one_pos
  | succ m ih =>
    have h1 := Db (dP m s).2;have h2 : (nxO (dP m s).2 + 1) * 18446744073709551616 ^ m ≤ 18446744073709551616 * 18446744073709551616 ^ m := dU _ h1;rw [dP, eH, gE (18446744073709551616 ^ m)];rw [dA, Nat.one_mul] at h2;generalize 18446744073709551616 ^ m = p at *;show (dP m s).1 + nxO (dP m s).2 * p < _;omega
def uZ {m:Nat} (h : s < 18446744073709551616) : (dP m s).2 < 18446744073709551616 := by
  cases m with
  | zero => exact h
  | succ m => exact Da _
def tL (n : Nat) : Nat := if n = 0 then 0 else Nat.log2 n + 1
theorem sD (n N : Nat) : N < tL n ↔ 2 ^ N ≤ n := by
  unfold tL;by_cases h : n = 0
  · subst h
    have := pX N;rw [aq rfl]; omega
  · rw [ah h, Nat.lt_succ_iff, Nat.le_log2 h]
def N6 (h : ∀ N, N < k ↔ 2 ^ N ≤ n) : k = tL n := by have h1 : ∀ N, N < k ↔ N < tL n := fun N => (h N).trans (sD n N).symm;have a := h1 k;have b := h1 (tL n);omega
def qG (n k : Nat) : Nat → Nat → Option (Nat × Nat)
  | 0, _ => none
  | t + 1, s => if (dP ((k + 63) / 64) s).1 % 2 ^ k < n then some ((dP ((k + 63) / 64) s).1 % 2 ^ k, (dP ((k + 63) / 64) s).2) else qG n k t (dP ((k + 63) / 64) s).2
variable {u:Nat}
def P6 (hs : s < 18446744073709551616) (h : qG n k t s = some (x, u)) : x < n ∧ u < 18446744073709551616 := by
  induction t generalizing s with
  | zero => cases h
  | succ t ih =>
    rw [qG] at h
    split at h;· rename_i hx; cases h; exact ⟨hx, uZ hs⟩
    · exact ih (uZ hs) h
noncomputable def mD (n s : Nat) : Option (Nat × Nat) := if tL (n - 1) = 0 then some (0, s) else qG n (tL (n - 1)) TR s
def sh (h0 : 0 < n) (hs : s < 18446744073709551616) (h : mD n s = some (x, u)) : x < n ∧ u < 18446744073709551616 := by
  unfold mD at h;split at h;· cases h; exact ⟨h0, hs⟩
  · exact P6 hs h
def du (l : List Nat) : Nat → Nat
  | 0 => 0
  | i + 1 => du l i + l.getD i 0
def nR (l : List Nat) {i j : Nat} (h : i ≤ j) : du l i ≤ du l j := by
  induction j with
  | zero => obtain rfl : i = 0 := by omega
            exact aA _
  | succ j ih =>
    by_cases c : i = j + 1;· subst c; exact aA _
    · have := ih aa
      rw [du]; omega
def nw (l : List Nat) (x : Nat) : Nat → Nat → Nat
  | 0, k => k
  | f + 1, k => if du l (k + 1) ≤ x then nw l x f (k + 1) else k
variable {l:List Nat}
def Q8 {f:Nat} (h : x < du l (k + f)) (h0 : k ≤ 0 ∨ du l k ≤ x) : k ≤ nw l x f k ∧ nw l x f k < k + f ∧ du l (nw l x f k) ≤ x ∧ x < du l (nw l x f k + 1) := by
  have z : du l k ≤ x := by
    rcases h0 with h0 | h0
    · obtain rfl : k = 0 := by omega
      exact dQ _
    · exact h0
  induction f generalizing k with
  | zero => rw [gN] at h; omega
  | succ f ih =>
    rw [nw];split
    · rename_i hle
      have := ih (k := k + 1) (by rw [show k + 1 + f = k + (f + 1) by omega]; exact h) (.inr hle) hle;omega
    · rename_i hn
      omega
def OV (h : x < du l l.length) : nw l x l.length 0 < l.length ∧ 0 < l.getD (nw l x l.length 0) 0 := by obtain ⟨_, h1, h2, h3⟩ := Q8 (l := l) (x := x) (f := l.length) (k := 0) (by rw [fy]; exact h) (.inl (aA _));rw [du] at h3;omega
end
open Go
open Go renaming Operand→QY,Program→QX,TypeId→QZ,Value→QQ
open Nat renaming reduceAdd→zA,reduceEqDiff→zE,reduceLeDiff→zL
open Nat (reduceMul)
set_option maxHeartbeats 16000000
open Go.Proofs.Tryz (prog)
section
def lV (P:QX) (t:QZ) (ox oy:QY) (a b:Nat) (ha:a<18446744073709551616) (hb:b<18446744073709551616):binop P .xor t ox oy (.int .u64 a) (.int .u64 b)=some (.int .u64 ((a ^^^ b:Nat):Int)):=by
 have e:(BitVec.ofInt 64 (a:Int) ^^^ BitVec.ofInt 64 (b:Int)).toNat=a ^^^ b:=by simp[dR ha,dR hb]
 rw[wQ,show(BitVec.ofInt IntKind.u64.bits (a:Int) ^^^ BitVec.ofInt IntKind.u64.bits (b:Int)).toNat=a ^^^ b from e,gv (Gl (n:=64) ha hb)]
variable {z:Nat}
def GQ (P:QX) (t:QZ) (ox oy:QY) (hz:z<18446744073709551616) (n:Nat) (hn:n≤64):binop P .shr t ox oy (.int .u64 (z:Int)) (.int .u64 (n:Int))=some (.int .u64 ((z / 2 ^ n:Nat):Int)):=by rw[Qu P t ox oy aa aa,iv,iv,qj,kE]
def G5 (P:QX) (t:QZ) (ox oy:QY) (hz:z<18446744073709551616) (n:Nat) (hn:0<n):binop P .quo t ox oy (.int .u64 (z:Int)) (.int .u64 (n:Int))=some (.int .u64 ((z / n:Nat):Int)):=by rw[QL P t ox oy aa aa,oV]
def vm {P:QX} {t:QZ} (hz:z<18446744073709551616) (c:Nat) (ox oy:QY):binop P .xor t ox oy (.int .u64 (z:Int)) (.int .u64 ((z / c:Nat):Int))=some (.int .u64 ((z ^^^ z / c:Nat):Int)) :=
 lV P t ox oy z (z / c) hz (il (oU _ _) hz)
def EG (z:Nat):IntKind.u64.wrap (((z ^^^ z / 1073741824:Nat):Int)*13787848793156543929)=((vZ z:Nat):Int):=by unfold vZ;show(((z ^^^ z / 1073741824:Nat):Int)*13787848793156543929) % 18446744073709551616=_;omega
def EF (z:Nat):IntKind.u64.wrap (((z ^^^ z / 134217728:Nat):Int)*10723151780598845931)=((Es z:Nat):Int):=by unfold Es;show(((z ^^^ z / 134217728:Nat):Int)*10723151780598845931) % 18446744073709551616=_;omega
def Mx (s:Nat):IntKind.u64.wrap ((s:Int)+11400714819323198485)=((nxS s:Nat):Int):=by unfold nxS;show((s:Int)+11400714819323198485) % 18446744073709551616=_;omega
variable {h:IH}{s:Nat}
def Nm {k:Nat} (g:h.ext.get k=some (.cells [K64 s] 0 none)) :WV prog (.func (.func 213) #[ptr (2*k) 0] #[]) [] h fun r h'=>h'=h.put k (.cells [K64 (nxS s)] 0 none)∧r=K64 (nxO s):=by
 refine enter (nt:=32) (rs:=[.tmp 2]) Proofs.Tryz.func213 rfl rfl rfl ab ?_;have g1:(h.put k (.cells [K64 (nxS s)] 0 none)).ext.get k=some (.cells [K64 (nxS s)] 0 none):=by simp (disch:=try exact dx) only[aj]
 have b1:=Da s;have s1 : ∀ox oy,binop prog .shr 28 ox oy (K64 (nxS s)) (.int .u64 30)=some (K64 (nxS s / 1073741824)):=fun ox oy=>GQ _ _ ox oy b1 30 aC;have x1:=vm (P:=prog) (t:=28) b1 1073741824;simp -dsimp (disch:=try exact dx) only[wpS,wpT,zE,zL,Hy,Sa,oa,rp,ay g,ay g1,Mx,g,s1,x1,EG];rw[show nxO s=Uq (Es (vZ (nxS s))) from rfl];generalize nxS s=z;have b2:=Nq z;have s2 : ∀ox oy,binop prog .shr 28 ox oy (K64 (vZ z)) (.int .u64 27)=some (K64 (vZ z / 134217728)):=fun ox oy=>GQ _ _ ox oy b2 27 aC;have x2:=vm (P:=prog) (t:=28) b2 134217728;simp -dsimp (disch:=try exact dx) only[wpS,zE,s2,x2,EF];have b3:=G9 (vZ z);have s3 : ∀ox oy,binop prog .shr 28 ox oy (K64 (Es (vZ z))) (.int .u64 31)=some (K64 (Es (vZ z) / 2147483648)):=fun ox oy=>GQ _ _ ox oy b3 31 aC;have x3:=vm (P:=prog) (t:=28) b3 2147483648;simp -dsimp (disch:=try exact dx) only[wpS,wpT,zE,s3,x3];rfl
def chV (s:Nat):QQ:=.agg #[K64 s]
def tk1 (a:QQ):List.take 1 (List.drop 0 [a]) = [a]:=rfl
def IJ (hs:s<18446744073709551616) :WV prog (.func (.func 145) #[] #[]) [chV s] h fun r h'=>Ext h h'∧r=.tuple #[K64 (nxO s),chV (nxS s)]:=by
 have E1:Ext h ((h.new (.cells [K64 s] 0 none)).new (.cells [K64 0] 0 none)):=((Ext.refl h).new _).new _;have g1:((h.new (.cells [K64 s] 0 none)).new (.cells [K64 0] 0 none)).ext.get h.n=some (.cells [K64 s] 0 none):=by simp (disch:=try exact dx) only[ar,aE]
 have g2:((h.new (.cells [K64 s] 0 none)).new (.cells [K64 0] 0 none)).ext.get (h.n+1)=some (.cells [K64 0] 0 none):=by simp (disch:=try exact dx) only[ar]
 have b1:=Da s;refine enter (nt:=26) (rs:=[.tmp 2,.cell 3 36]) Proofs.Tryz.func145 rfl rfl rfl ab ?_;have s1 : ∀ox oy,binop prog .quo 28 ox oy (K64 (nxS s)) (.int .u64 1073741824)=some (K64 (nxS s / 1073741824)):=fun ox oy=>G5 _ _ ox oy b1 1073741824 aC;have x1:=vm (P:=prog) (t:=28) b1 1073741824;simp -dsimp (disch:=try exact dx) only[wpS,zE,lz,Sa,oa,chV,Mx,s1,x1,EG];rw[show nxO s=Uq (Es (vZ (nxS s))) from rfl];generalize nxS s=z;have b2:=Nq z;have s2 : ∀ox oy,binop prog .quo 28 ox oy (K64 (vZ z)) (.int .u64 134217728)=some (K64 (vZ z / 134217728)):=fun ox oy=>G5 _ _ ox oy b2 134217728 aC;have x2:=vm (P:=prog) (t:=28) b2 134217728;simp -dsimp (disch:=try exact dx) only[wpS,zE,s2,x2,EF];have b3:=G9 (vZ z);have s3 : ∀ox oy,binop prog .quo 28 ox oy (K64 (Es (vZ z))) (.int .u64 2147483648)=some (K64 (Es (vZ z) / 2147483648)):=fun ox oy=>G5 _ _ ox oy b3 2147483648 aC;have x3:=vm (P:=prog) (t:=28) b3 2147483648;simp -dsimp (disch:=try exact dx) only[wpS,wpT,zE,zL,fw,WN,dX,cP,s3,x3,tk1];exact⟨E1.put aa _,rfl⟩
def FQ :WV prog (.func (.func 126) #[] #[]) [chV s] h fun r h'=>h'=(h.new (.cells [K64 s] 0 none)).new (.cells [K64 s] 0 none)∧r=ptr (2*(h.n+1)) 0:=by
 have g1:(h.new (.cells [K64 s] 0 none)).ext.get h.n=some (.cells [K64 s] 0 none):=by simp (disch:=try exact dx) only[ar]
 refine enter (nt:=7) (rs:=[.tmp 2]) Proofs.Tryz.func126 rfl rfl rfl ab ?_;simp -dsimp (disch:=try exact dx) only[wpS,wpT,zE,zL,cP,Z7,Ud,Z6,Uc,chV,ay g1,tk1]
variable {F:QQ}
def PF (cF:F.cells = #[F]) (cO:bB F=true):WV prog (.func (.func 214) #[] #[]) [F] h fun r h'=>h'=h.new (.cells [F] 0 none)∧r=.func (.func 250) #[] #[ptr (2*h.n) 0]:=by refine enter (nt:=4) (rs:=[.tmp 2]) Proofs.Tryz.func214 rfl rfl rfl ab ?_;simp -dsimp (disch:=try exact dx) only[wpS,wpT,zE,cF]
set_option maxRecDepth 100000 in
def Ml {b:Nat} {y:QQ} (J:Nat→IH→Prop) (Fin:IH→Prop) (j0:J 0 h) (jb : ∀i hh,J i hh→hh.ext.get b=some (.cells [F] 0 none))(st : ∀i hh,i<TR→J i hh→WV prog F [] hh fun x h1=>WV prog y [x] h1 fun r h2=>(r=.bool true∧J (i+1) h2)∨(r=.bool false∧Fin h2)) :WV prog (.func (.func 250) #[] #[ptr (2*b) 0]) [y] h fun _ h'=>J TR h'∨Fin h':=by
 refine enter (nt:=11) (rs:=[]) Proofs.Tryz.func250 rfl rfl rfl ab ?_;simp -dsimp (disch:=try exact dx) only[wpS,zA];have hT:=Gh;refine loop (fun m fr hh => ∃i:Nat,i+m=TR∧J i hh∧ax fr 0=some y∧ax fr 1=some (ptr (2*b) 0)∧ax fr 3=some (KN i)) TR ⟨0,aa,j0,ab,ab,ab⟩ ?_;rintro m fr hh ⟨i,him,hj,f0,f1,f3⟩;simp -dsimp (disch:=try exact dx) only[wpS,f3];refine aG ?_ ?_<;>intro hc<;>simp only[aS,aV] at hc
 ·have g:=jb i hh hj;simp -dsimp (disch:=try exact dx) only[wpS,wpT,zE,YU,f0,f1,ay g];refine call (st i hh aa hj) ?_;intro x h1 w1;simp -dsimp (disch:=try exact dx) only[wpS,zE];refine call w1 ?_;rintro _ h2 (⟨rfl,w2⟩|⟨rfl,w2⟩)
  ·simp -dsimp (disch:=try exact dx) only[wpS,wpT,zE,f3];exact⟨m - 1,aa,i+1,aa,w2,by simp[f0],by simp[f1],ab⟩
  ·simp -dsimp (disch:=try exact dx) only[wpS,wpT,zE];exact .inr w2
 ·obtain rfl:i=TR:=aa;simp -dsimp (disch:=try exact dx) only[wpS,wpT];exact .inl hj
end
section
variable {n:Nat}
def P4 (h0:0<n) (hn:n<18446744073709551616):IntKind.u64.wrap (-(n:Int))=((18446744073709551616 - n:Nat):Int):=by show(-(n:Int)) % 18446744073709551616=_;omega
def T4 (P:Program) (t:TypeId) (ox oy:Operand) (a n:Nat) (hn:0<n):binop P .rem t ox oy (.int .u64 (a:Int)) (.int .u64 (n:Int))=some (.int .u64 ((a % n:Nat):Int)):=by rw[As P t ox oy aa,Ki aa,xj]
def OE {h0 h:IH} {k s:Nat} (E:Ext h0 h) (hk:h0.n≤k) (hk2:k<h.n) (g:h.ext.get k=some (.cells [K64 s] 0 none)) (n0:0<n) (hn:n<18446744073709551616) :WV Proofs.Tryz.prog (.func (.func 127) #[] #[]) [ptr (2*k) 0,K64 n] h fun r h'=>Ext h0 h'∧h.n≤h'.n∧((∃x t,jR n TR s=some (x,t)∧r=.tuple #[K64 x,KI 0]∧h'.ext.get k=some (.cells [K64 t] 0 none))∨(jR n TR s=none∧r=.tuple #[K64 0,KI 9])):=by
 obtain⟨l1,l2,l3⟩:=Jg n0 hn;obtain⟨R,hR⟩ : ∃R,R=18446744073709551616 - rA n:=⟨_,rfl⟩;have rb:R<18446744073709551616:=aa;have wn:=P4 n0 hn;have hr : ∀ox oy,binop Proofs.Tryz.prog .rem 28 ox oy (K64 (18446744073709551616 - n)) (K64 n)=some (K64 R):=fun ox oy=>by rw[hR,←l1];exact T4 _ _ ox oy _ n n0
 obtain⟨A,wA⟩ : ∃A:Nat,IntKind.u64.wrap (-(R:Int))=(A:Int)∧IntKind.u64.wrap ((A:Int) - 1)=((rA n - 1:Nat):Int):=by
  by_cases c:R=0;·refine⟨0,by rw[c];rfl,?_⟩;show(((0:Nat):Int) - 1) % 18446744073709551616=_;omega
  ·refine⟨rA n,?_,?_⟩
   ·show(-(R:Int)) % 18446744073709551616=_;omega
   ·show(((rA n:Nat):Int) - 1) % 18446744073709551616=_;omega
 obtain⟨wA,wB⟩:=wA;have gx1:(((h.new (.cells [K64 n] 0 none)).new (.cells [.int .u64 0] 0 none)).new (.cells [KI 0] 0 none)).ext.get h.n=some (.cells [K64 n] 0 none):=by simp (disch:=try exact dx) only[ar,aE]
 obtain⟨H1,hH1⟩ : ∃H,H=((((h.new (.cells [K64 n] 0 none)).new (.cells [.int .u64 0] 0 none)).new (.cells [KI 0] 0 none)).new (.cells [.int .u64 0] 0 none)).put (h.n+1+1+1) (.cells [K64 R] 0 none):=⟨_,rfl⟩;have n1:H1.n=h.n+4:=by rw[hH1];rfl
 have E1:Ext h H1:=by rw[hH1];exact((((Ext.refl h).new _).new _).new _).new _ |>.put aa _
 have c1:H1.ext.get h.n=some (.cells [K64 n] 0 none):=by rw[hH1];simp (disch:=try exact dx) only[ar,aE,au]
 have c2:H1.ext.get (h.n+1)=some (.cells [.int .u64 0] 0 none):=by rw[hH1];simp (disch:=try exact dx) only[ar,aE,au]
 have c3:H1.ext.get (h.n+2)=some (.cells [KI 0] 0 none):=by rw[hH1];simp (disch:=try exact dx) only[ar,aE,au]
 have c4:H1.ext.get (h.n+3)=some (.cells [K64 R] 0 none):=by rw[hH1];simp (disch:=try exact dx) only[aj]
 refine enter (nt:=32) (rs:=[.cell 4 28,.cell 5 47]) Proofs.Tryz.func127 rfl rfl rfl ab ?_;simp -dsimp (disch:=try exact dx) only[wpS,wpT,zE,zL,zA,zc28,zI,BQ,oa,rp,ay gx1,wn,hr];rw[←hH1];clear hH1;obtain⟨F,hF⟩ : ∃F,F=(.func (.func 213) #[ptr (2*k) 0] #[]:Value):=⟨_,rfl⟩;rw[←hF];refine call (PF (F:=F) (by rw[hF];rfl) (by rw[hF];rfl)) ?_;rintro _ _ ⟨rfl,rfl⟩;obtain⟨H2,hH2⟩ : ∃H,H=H1.new (.cells [F] 0 none):=⟨_,rfl⟩;have n2:H2.n=h.n+5:=by rw[hH2,aH];omega
 have E2:Ext H1 H2:=by rw[hH2];exact(Ext.refl _).new _
 have cF:H2.ext.get H1.n=some (.cells [F] 0 none):=by rw[hH2];simp (disch:=try exact dx) only[ar]
 rw[←hH2];clear hH2;simp -dsimp (disch:=try exact dx) only[wpS];refine QJ (p:=19) (nt:=32) rfl rfl aC (fun r y hfn hnt hbd hy=>?_);have hT:=Gh;have EE:=E.trans (E1.trans E2);have en:=EE.n;let J:Nat→IH→Prop:=fun i hh => ∃si,Ext h0 hh∧H2.n<hh.n∧hh.ext.get H2.n=some (.loop r)∧hh.ext.get H1.n=some (.cells [F] 0 none)∧hh.ext.get k=some (.cells [K64 si] 0 none)∧hh.ext.get h.n=some (.cells [K64 n] 0 none)∧hh.ext.get (h.n+1)=some (.cells [.int .u64 0] 0 none)∧hh.ext.get (h.n+2)=some (.cells [KI 0] 0 none)∧hh.ext.get (h.n+3)=some (.cells [K64 R] 0 none)∧jR n TR s=jR n (TR - i) si;let Fin:IH→Prop:=fun hh => ∃x t,jR n TR s=some (x,t)∧Ext h0 hh∧H2.n<hh.n∧hh.ext.get H2.n=some (.loop (u6 r .ret))∧hh.ext.get k=some (.cells [K64 t] 0 none)∧hh.ext.get (h.n+1)=some (.cells [K64 x] 0 none)∧hh.ext.get (h.n+2)=some (.cells [KI 0] 0 none);have gk:=(E1.trans E2).kept hk2 g
 have J0:J 0 (H2.new (.loop r)):=by
  refine⟨s,EE.new _,ab,ar _ _ rfl,?_,?_,?_,?_,?_,?_,rfl⟩;·rw[aE _ _ aa];exact cF
  ·rw[aE _ _ aa];exact gk
  ·rw[aE _ _ aa];exact E2.kept aa c1
  ·rw[aE _ _ aa];exact E2.kept aa c2
  ·rw[aE _ _ aa];exact E2.kept aa c3
  ·rw[aE _ _ aa];exact E2.kept aa c4
 refine WV.mono (Ml (b:=H1.n) (F:=F) (y:=y) J Fin J0 (fun i hh hj=>by obtain⟨_,_,_,_,a,_⟩:=hj;exact a) ?_) ?_
 ·rintro i hh hi ⟨si,a1,a2,a3,a4,a5,a6,a7,a8,a9,a10⟩;rw[hF];refine WV.mono (Nm a5) ?_;rintro _ _ ⟨rfl,rfl⟩;obtain⟨H3,hH3⟩ : ∃H,H=hh.put k (.cells [K64 (nxS si)] 0 none):=⟨_,rfl⟩;have an:=a1.n;have e3:Ext h0 H3:=by rw[hH3];exact a1.put hk _
  have n3:H3.n=hh.n:=by rw[hH3];rfl
  have z0 : ∀j,j≠k→H3.ext.get j=hh.ext.get j:=fun j hj=>by rw[hH3];exact au _ _ hj
  have b5:H3.ext.get k=some (.cells [K64 (nxS si)] 0 none):=by rw[hH3];simp (disch:=try exact dx) only[aj]
  rw[←hH3];clear hH3;have b3:=(z0 H2.n aa).trans a3;have b4:=(z0 H1.n aa).trans a4;have b6:=(z0 h.n aa).trans a6;have b7:=(z0 (h.n+1) aa).trans a7;have b8:=(z0 (h.n+2) aa).trans a8;have b9:=(z0 (h.n+3) aa).trans a9;obtain⟨x,hx⟩ : ∃x,x=nxO si:=⟨_,rfl⟩;have xb:=Db si;rw[←hx] at xb ⊢;refine hy _ _ _ b3 ?_;simp -dsimp (disch:=try exact dx) only[wpS,zE];refine⟨rfl,b3,?_⟩;rw[hfn,hnt,hbd];obtain⟨H6,hH6⟩ : ∃H,H=H3.put H2.n (.loop (oP r)):=⟨_,rfl⟩;have e6:Ext h0 H6:=by rw[hH6];exact e3.put aa _
  have w0 : ∀j,j≠H2.n→H6.ext.get j=H3.ext.get j:=fun j hj=>by rw[hH6];exact au _ _ hj
  have zl:H6.ext.get H2.n=some (.loop (oP r)):=by rw[hH6];exact aj _ _ rfl
  have zn:H6.n=H3.n:=by rw[hH6];rfl
  rw[←hH6];clear hH6;have d4:=(w0 H1.n aa).trans b4;have d5:=(w0 k aa).trans b5;have d6:=(w0 h.n aa).trans b6;have d7:=(w0 (h.n+1) aa).trans b7;have d8:=(w0 (h.n+2) aa).trans b8;have d9:=(w0 (h.n+3) aa).trans b9;obtain⟨q,hq⟩ : ∃q,TR - i=q+1:=⟨TR - i - 1,aa⟩;have a11:=a10;rw[hq,jR,←hx] at a11;by_cases hc:x<rA n
  ·rw[aq hc] at a11;have dc:decide ((x:Int)≤((rA n - 1:Nat):Int))=true:=ct aa;simp -dsimp (disch:=try exact dx) only[wpS,wpT,zE,zL,oa,rp,nS,ay d9,ay d6,wA,wB,dc,d7,d8];rw[←xj];refine⟨by rw[au _ _ aa,au _ _ aa];exact zl,.inr ⟨rfl,x % n,nxS si,a11,((e6.put aa _).put aa _).put aa _,by show H2.n<H6.n;omega,aj _ _ rfl,?_,?_,?_⟩⟩
   ·rw[au _ _ aa,au _ _ aa,au _ _ aa];exact d5
   ·rw[au _ _ aa,au _ _ aa];exact aj _ _ rfl
   ·rw[au _ _ aa];exact aj _ _ rfl
  ·rw[ah hc] at a11;have dc:decide ((x:Int)≤((rA n - 1:Nat):Int))=false:=bF aa;have d0:((R:Int) == 0)=false:=aT;simp -dsimp (disch:=try exact dx) only[wpS,wpT,zE,oa,ay d9,wA,wB,dc,d0];refine⟨zl,.inl ⟨rfl,nxS si,e6.put aa _,by show H2.n<H6.n;omega,aj _ _ rfl,?_,?_,?_,?_,?_,?_,by rw[show TR - (i+1)=q by omega];exact a11⟩⟩
   ·rw[au _ _ aa];exact d4
   ·rw[au _ _ aa];exact d5
   ·rw[au _ _ aa];exact d6
   ·rw[au _ _ aa];exact d7
   ·rw[au _ _ aa];exact d8
   ·rw[au _ _ aa];exact d9
 ·rintro _ hd (⟨si,x1,x2,x3,x4,x5,x6,x7,x8,x9,x10⟩|⟨x,t,x0,x1,x2,x3,x4,x5,x6⟩)
  ·rw[nD,jR] at x10;refine .inl ⟨x3,?_⟩;have xn:=x1.n;obtain⟨K0,hK0⟩ : ∃K0,K0=hd.put H2.n .dead:=⟨_,rfl⟩;have ed:Ext h0 K0:=by rw[hK0];exact x1.put aa _
   have kn:K0.n=hd.n:=by rw[hK0];rfl
   have z0 : ∀j,j≠H2.n→K0.ext.get j=hd.ext.get j:=fun j hj=>by rw[hK0];exact au _ _ hj
   have z7:=(z0 (h.n+1) aa).trans x7;have z8:=(z0 (h.n+2) aa).trans x8;rw[←hK0];clear hK0;simp -dsimp (disch:=try exact dx) only[wpS,wpT,zE,zL,oa,rp,nS,pG,z7,z8];exact⟨(ed.put aa _).put aa _,aa,.inr ⟨x10,rfl⟩⟩
  ·refine .inr (.inr ⟨x3,?_⟩);have xn:=x1.n;obtain⟨K0,hK0⟩ : ∃K0,K0=hd.put H2.n .dead:=⟨_,rfl⟩;have ed:Ext h0 K0:=by rw[hK0];exact x1.put aa _
   have kn:K0.n=hd.n:=by rw[hK0];rfl
   have z0 : ∀j,j≠H2.n→K0.ext.get j=hd.ext.get j:=fun j hj=>by rw[hK0];exact au _ _ hj
   have z4:=(z0 k aa).trans x4;have z7:=(z0 (h.n+1) aa).trans x5;have z8:=(z0 (h.n+2) aa).trans x6;rw[←hK0];clear hK0;simp -dsimp (disch:=try exact dx) only[wpS,zE,oa,pG,ay z7,ay z8];exact⟨ed,aa,.inl ⟨x,t,x0,rfl,z4⟩⟩
end
noncomputable def Ax (s:Nat) (n:Int):Value:=if n<1 then .tuple #[KI 0,chV 0,KI 2] else match jR n.toNat TR s with
 | none=>.tuple #[KI 0,chV 0,KI 9]
 | some p=>.tuple #[KN p.1,chV p.2,KI 0]
def Mi {h:IH} {s:Nat} {n:Int} (hn:fS n) :WV Proofs.Tryz.prog (.func (.func 49) #[] #[]) [chV s,KI n] h fun r h'=>Ext h h'∧r=Ax s n:=by
 unfold Ax;obtain⟨H0,hH0,n0,E0,k0,k1⟩:=ko h [K64 s] [.int .u64 0];refine enter (nt:=33) (rs:=[.tmp 4,.cell 5 36,.tmp 6]) Proofs.Tryz.func49 rfl rfl rfl ab ?_;simp -dsimp (disch:=try exact dx) only[wpS,zE,zA,lz,chV];rw[←hH0];clear hH0;by_cases c1:n<1
 ·have d1:decide (n<1)=true:=ct c1;rw[aq c1];simp -dsimp (disch:=try exact dx) only[wpS,wpT,zE,zL,fw,dX,cP,d1,k1,tk1];exact⟨E0.put aa _,rfl⟩
 have d1:decide (n<1)=false:=bF c1;rw[ah c1];obtain⟨m,rfl⟩ : ∃m:Nat,n=(m:Int):=⟨n.toNat,aa⟩;have hn2:=hn.2;rw[iv];simp -dsimp (disch:=try exact dx) only[wpS,wpT,zE,zL,cP,d1,ay k0,tk1];refine call (FQ (s:=s)) ?_;rintro _ _ ⟨rfl,rfl⟩;obtain⟨H1,hH1⟩ : ∃H,H=(H0.new (.cells [K64 s] 0 none)).new (.cells [K64 s] 0 none):=⟨_,rfl⟩;have n1:H1.n=H0.n+2:=by rw[hH1];rfl
 have E1:Ext H0 H1:=by rw[hH1];exact((Ext.refl _).new _).new _
 have gk:H1.ext.get (H0.n+1)=some (.cells [K64 s] 0 none):=by rw[hH1];simp (disch:=try exact dx) only[ar]
 rw[←hH1];clear hH1;simp -dsimp (disch:=try exact dx) only[wpS,zE,An];refine call (OE (n:=m) E1 (jh _) aa gk aa aa) ?_;rintro _ h2 ⟨X2,hn2,⟨x,t,ht,rfl,gt⟩|⟨ht,rfl⟩⟩
 ·rw[ht];have hx:=Ay aa ht;have q1:=X2.kept aa k1;simp -dsimp (disch:=try exact dx) only[wpS,wpT,zE,zL,dX,cP,Ao,BQ,Hy,ay gt,tk1,q1];exact⟨(E0.trans X2).put aa _,rfl⟩
 ·rw[ht];have q1:=X2.kept aa k1;simp -dsimp (disch:=try exact dx) only[wpS,wpT,zE,zL,fw,dX,cP,q1,tk1];exact⟨(E0.trans X2).put aa _,rfl⟩
section
theorem Bz {x:Nat} (hx:x<9223372036854775808):x ^^^ 9223372036854775808=x+9223372036854775808:=by
 have h1:x<2 ^ 63:=hx;have h2:=Nat.two_pow_add_eq_or_of_lt h1 1;rw[fI] at h2;rw[show(9223372036854775808:Nat)=2 ^ 63 from rfl,xf,h2];apply Nat.eq_of_testBit_eq;intro i;rw[Nat.testBit_xor,Nat.testBit_or,Nat.testBit_two_pow];by_cases hi:63=i;·subst hi;rw[Nat.testBit_lt_two_pow h1];decide
 ·simp[hi]
variable {a:Nat}
theorem ya (ha:a<H8):wrd a 7<9223372036854775808:=(Wo (by have:=dD;omega)).2 ha
def BB (ha:a<H8):IH.bf (wdC a) 7 [K64 (wrd a 7+9223372036854775808)]=wdC (a+H8):=by
 have ht:=ya ha;have hw:a<18446744073709551616 ^ (7+1):=by rw[←Gg];have:=dD;omega
 have e:H8=9223372036854775808*18446744073709551616 ^ 7:=by unfold H8;rfl
 apply iO;intro j;have hl:(IH.bf (wdC a) 7 [K64 (wrd a 7+9223372036854775808)]).length=8:=by simp[IH.bf,aD]
 by_cases h8:j<8
 ·rw[dI _ _ h8,e];by_cases h7:j=7
  ·subst h7;rw[xo hw aa];simp[IH.bf,aD]
  ·rw[um aa];have hj:j<7:=aa;simp only[IH.bf];rw[ef (by rw[gG,aD];omega),gR,aq hj,dI _ _ h8]
 ·rw[cy aa,cy (by rw[aD];omega)]
variable {h:IH}
def Ia (a b:Nat) (ha:a<H8) (hb:b<H8):WV prog (.func (.func 129) #[] #[]) [wdV a,wdV b] h fun r h'=>Ext h h'∧r=KI (if a<b then -1 else if a=b then 0 else 1):=by
 have ja:(7:Nat)<8:=aC;have j7:ua 7 8=some 7:=rfl;have ga:=dI a 7 aa;have gb:=dI b 7 aa;have ta:=ya ha;have tb:=ya hb;have xa : ∀ox oy,binop prog .xor 28 ox oy (K64 (wrd a 7)) (.int .u64 9223372036854775808)=some (K64 (wrd a 7+9223372036854775808)):=fun ox oy=>by rw[←Bz ta];exact lV _ _ ox oy _ 9223372036854775808 aa aC
 have xb : ∀ox oy,binop prog .xor 28 ox oy (K64 (wrd b 7)) (.int .u64 9223372036854775808)=some (K64 (wrd b 7+9223372036854775808)):=fun ox oy=>by rw[←Bz tb];exact lV _ _ ox oy _ 9223372036854775808 aa aC
 have sa:=BB ha;have sb:=BB hb;obtain⟨H0,hH0,n0,E0,k0,k1⟩:=ko h (wdC a) (wdC b);refine enter (nt:=16) (rs:=[.tmp 4]) Proofs.Tryz.func129 rfl rfl rfl ab ?_;simp -dsimp (disch:=try exact dx) only[wpS,zE,zA,pN,bA];rw[←hH0];clear hH0;simp -dsimp (disch:=try exact dx) only[wpS,wpT,zE,zL,zA,pN,oa,rp,bY,ay k0,ay k1,k0,k1,pN,j7,ga,gb,xa,xb,aD,sa,sb,aY];refine call (pD (a+H8) (b+H8) (by have:=dD;omega) (by have:=dD;omega)) ?_;rintro _ h1 ⟨X1,rfl⟩;have e:(if a+H8<b+H8 then (-1:Int) else if a+H8=b+H8 then 0 else 1)=if a<b then -1 else if a=b then 0 else 1:=by
  by_cases c1:a<b;·rw[aq c1,aq aa]
  ·rw[ah c1,ah aa];by_cases c2:a=b
   ·rw[aq c2,aq aa]
   ·rw[ah c2,ah aa]
 rw[e];have EE:Ext h ((H0.put h.n (.cells (wdC (a+H8)) 0 none)).put (h.n+1) (.cells (wdC (b+H8)) 0 none)):=(E0.put (aA _) _).put aa _;simp -dsimp (disch:=try exact dx) only[wpS,wpT,zE];exact EE.trans X1
def S8 {n i:Nat} (hn:n<18446744073709551616 ^ (i+1)) (hw:wrd n i≠0):tL n=64*i+tL (wrd n i):=by
 have hp:0<18446744073709551616 ^ i:=gM aa;have hd:n / 18446744073709551616 ^ i=wrd n i:=by rw[wrd,dR];rw[oT hp,gE,←eH];exact hn
 symm;refine N6 fun N=>?_;have e64:18446744073709551616 ^ i=2 ^ (64*i):=by rw[wY]
 by_cases h:N<64*i
 ·have h1:2 ^ N≤18446744073709551616 ^ i:=by rw[e64];exact fA aa aa
  have h2:18446744073709551616 ^ i≤n:=by have:=(Gp hp (x:=1) (y:=n)).1 (by rw[hd];omega);omega
  exact⟨fun _=>bV h1 h2,fun _=>aa⟩
 ·obtain⟨M,rfl⟩ : ∃M,N=64*i+M:=⟨N - 64*i,aa⟩;have h1:2 ^ (64*i+M)=2 ^ M*18446744073709551616 ^ i:=by rw[dT,e64,gE]
  rw[h1,←Gp hp,hd,←sD];omega
def JS (n:Nat) (hn:n<W8):WV prog (.func (.func 252) #[] #[]) [wdV n] h fun r h'=>Ext h h'∧r=KN (tL n):=by
 obtain⟨H0,hH0⟩ : ∃H,H=h.new (.cells (wdC n) 0 none):=⟨_,rfl⟩;have E0:Ext h H0:=by rw[hH0];exact(Ext.refl h).new _
 have g0:H0.ext.get h.n=some (.cells (wdC n) 0 none):=by rw[hH0];simp (disch:=try exact dx) only[ar]
 refine enter (nt:=21) (rs:=[.tmp 2]) Proofs.Tryz.func252 rfl rfl rfl ab ?_;simp -dsimp (disch:=try exact dx) only[wpS,bA];rw[←hH0];clear hH0;refine loop (fun m fr hh=>hh=H0∧m≤8∧n<18446744073709551616 ^ m∧ax fr 1=some (ptr (2*h.n) 0)∧ax fr 3=some (KI 0)∧ax fr 4=some (KI ((m:Int) - 1))) 8 ⟨rfl,aA _,by rw[←Gg];exact hn,ab,ab,ab⟩ ?_;rintro m fr hh ⟨rfl,hm,hlt,f1,f3,f4⟩;rcases im m with rfl|hp
 ·have n0:n=0:=by rw[sF] at hlt;omega
  subst n0;simp -dsimp (disch:=try exact dx) only[wpS,wpT,zE,f3,f4];exact⟨E0,rfl⟩
 ·obtain⟨i,rfl⟩ : ∃i,m=i+1:=⟨m - 1,aa⟩;have h2:(((i+1:Nat):Int) - 1)=(i:Int):=aa;rw[h2] at f4;have gi:=dI n i aa;have wl:=xk n i;by_cases c:wrd n i=0
  ·have d:(((wrd n i:Nat):Int) != 0)=false:=by simp[c]
   simp -dsimp (disch:=try exact dx) only[wpS,wpT,zE,pN,oa,f1,f4,ay g0,pN,gi,d];refine⟨i,aa,rfl,aa,?_,by simp[f1],by simp[f3],ab⟩;have:=BN n i;rw[c,Nat.mul_zero,gN,dR hlt] at this;rw[this];exact ec _ (gM aa)
  ·have d:(((wrd n i:Nat):Int) != 0)=true:=by simp[c]
   simp -dsimp (disch:=try exact dx) only[wpS,wpT,zE,pN,oa,f1,f4,ay g0,pN,gi,d];refine call (Ji (wrd n i) wl) ?_;rintro _ _ ⟨rfl,k,rfl,hk,hkN⟩;have ek:=N6 hkN;have et:=S8 hlt c;simp -dsimp (disch:=try exact dx) only[wpS,zE];exact⟨E0,kC (Value.int .i64) (by rw[et,←ek];omega)⟩
end
section
def iN (h:IH) (v:Value) (ll:List (List (Nat×Nat))):Prop:=∃vs:List Value,df h 1 v ll.length vs∧ll.length<1152921504606846976 ∧ ∀(i:Nat) (x:List (Nat×Nat)),ll[i]?=some x → ∃w,vs[i]?=some w∧kU h w x
variable {h:IH}{v:Value}{ll:List (List (Nat×Nat))}{h':IH}
def iN.ai (s:iN h v ll) (e:bj h h'):iN h' v ll:=by obtain⟨vs,a,b,c⟩:=s;refine⟨vs,a.ai e,b,fun i x hx=>?_⟩;obtain⟨w,h1,h2⟩:=c i x hx;exact⟨w,h1,h2.ai e⟩
theorem iN.at (s:iN h v ll) (e:bj h h') {i:Nat} {x:List (Nat×Nat)} (hx:ll[i]?=some x) :∃w,load Proofs.Tryz.prog h' 61 (bq v i)=some w∧kU h' w x ∧ ∀k:IntKind,indexAddr Proofs.Tryz.prog 38 v (.int k (i:Int))=some (bq v i):=by obtain⟨vs,a,b,c⟩:=s;obtain⟨w,h1,h2⟩:=c i x hx;have hi:=(bU.1 hx).1;refine⟨w,?_,h2.ai e,fun k=>by rw[a.idx UX hi,fI]⟩;rw[a.ld e (by rw[a.2.1];omega) Tk];exact h1
def iN.co (s:iN h v ll):v.cells = #[v]∧bB v=true ∧ ∀h',tE Proofs.Tryz.prog h' 38 v=some (.int .i64 ll.length):=by obtain⟨vs,a,_⟩:=s;exact⟨a.cells,a.cok,fun h'=>a.len WG h'⟩
def kU.co {l:List (Nat×Nat)} (s:kU h v l):v.cells = #[v]∧bB v=true:=⟨s.1.cells,s.1.cok⟩
end
end Go.Id
