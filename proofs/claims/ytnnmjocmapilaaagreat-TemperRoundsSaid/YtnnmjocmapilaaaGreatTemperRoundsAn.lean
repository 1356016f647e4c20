/-
  Contracts: the program's magnitudes and numbers, read and told.
-/
import Derived.Test.YtnnmjocmapilaaaGreatTemperRoundsAm
set_option linter.unusedVariables false
set_option linter.unusedSimpArgs false
set_option linter.defProp false
set_option linter.deprecated false
namespace Go.Id
open Go
open Go renaming Operand→QY,Program→QX,TypeId→QZ,Value→QQ
open Nat renaming reduceAdd→zA,reduceEqDiff→zE,reduceLeDiff→zL
open Nat (reduceMul)
set_option maxHeartbeats 16000000
open Go.Proofs.Tryz (prog)
section
def wds (n:Nat):List Nat:=(List.range 8).map (wrd n)
theorem lW (n:Nat):(wds n).length=8:=by simp[wds]
def px (n:Nat):B.dh (wds n):=fun d hd=>by simp only[wds,ir] at hd;obtain⟨i,_,rfl⟩:=hd;exact xk _ _
theorem mR (n:Nat):wdC n=(wds n).map K64:=by simp[wdC,wds]
theorem MA (n:Nat) {i:Nat} (hi:i<8):(wds n).getD i 0=wrd n i:=by rw[bH];simp[wds,hi]
theorem yg (n:Nat) : ∀i,i≤8→B.bm (wds n) i=n % 18446744073709551616 ^ i
 | 0,_=>by simp[B.bm,Nat.mod_one]
 | i+1,h=>by rw[B.bm,yg n i aa,MA n aa,wrd,eH,Nat.mod_mul,gE]
theorem zo:W8=18446744073709551616 ^ 8:=by unfold W8;rfl
theorem dD:H8+H8=W8:=by unfold W8 H8;rfl
theorem lE:0<H8:=by unfold H8;decide
theorem GD {n:Nat} (h:n<W8):B.aM (wds n)=n:=by rw[B.aM,lW,yg n 8 (aA _),←zo,dR h]
variable {ds:List Nat}
theorem GF (hl:ds.length=8) (hd:B.dh ds):wds (B.aM ds)=ds:=by apply List.ext_getElem (by rw[lW,hl]);intro i h1 h2;rw[lW] at h1;have e1:=MA (B.aM ds) h1;have e2:=B.u7 hd i;rw[wrd,←e2] at e1;rw[bH,bH,aK (by rw[lW];exact h1),aK h2] at e1;simpa using e1
def MC (hl:ds.length=8) (hd:B.dh ds):B.aM ds<W8:=by have:=B.mS hd;rwa [hl,←zo] at this
def bA (n:Nat):(wdV n).cells.toList=wdC n:=rfl
set_option maxHeartbeats 2000000 in
def pE {h:IH} (a b:Nat) (ha:a<W8) (hb:b<W8):WV Proofs.Tryz.prog (.func (.func 243) #[] #[]) [wdV a,wdV b] h fun r h'=>Ext h h' ∧ ∃m bor,r=.tuple #[wdV m,K64 bor]∧m<W8∧bor≤1∧a+bor*W8=b+m:=by
 refine enter (nt:=27) (rs:=[.cell 4 244,.tmp 5]) Proofs.Tryz.func243 rfl rfl rfl ab ?_;simp -dsimp (maxSteps:=1000000) (disch:=first|omega|(simp only[aH,aJ];omega)|decide +kernel|(repeat first|rw[aH]|rw[aJ])) only[wpS,Nat.reduceEqDiff,Nat.reduceAdd,ED,bA];rw[mR a,mR b];have lA:=lW a;have lB:=lW b;refine loop (fun m fr h1 => ∃(i bor:Nat) (os:List Nat),i+m=8∧Ext h h1∧h.n+3≤h1.n∧h1.ext.get h.n=some (.cells (os.map K64) 0 none)∧h1.ext.get (h.n+1)=some (.cells ((wds b).map K64) 0 none)∧(∃c,h1.ext.get (h.n+1+1)=some (.cells c 0 none)∧c.length=8)∧bor≤1∧os.length=8∧B.dh os∧(∀j,i≤j→os.getD j 0=(wds a).getD j 0) ∧B.bm (wds a) i+bor*18446744073709551616 ^ i=B.bm (wds b) i+B.bm os i∧ax fr 2=some (ptr (2*h.n) 0)∧ax fr 3=some (ptr (2*(h.n+1)) 0)∧ax fr 4=some (ptr (2*(h.n+1+1)) 0)∧ax fr 6=some (K64 bor)∧ax fr 8=some (KN i)) 8 ⟨0,0,wds a,rfl,(((Ext.refl h).new _).new _).new _,bd,by simp (disch:=first|omega|(simp only[aH,aJ];omega)|(repeat first|rw[aH]|rw[aJ])) only[ar,aE],by simp (disch:=first|omega|(simp only[aH,aJ];omega)|(repeat first|rw[aH]|rw[aJ])) only[ar,aE],⟨[ZW,ZW,ZW,ZW,ZW,ZW,ZW,ZW],by simp (disch:=first|omega|(simp only[aH,aJ];omega)|(repeat first|rw[aH]|rw[aJ])) only[ar],rfl⟩,aa,lA,px a,fun _ _=>rfl,by simp[B.bm],ab,ab,ab,ab,ab⟩ ?_;rintro m fr h1 ⟨i,bor,os,him,hE,hn,hg,hg1,hg2,Jv,hol,hod,hoa,hv,f2,f3,f4,f6,f8⟩;simp -dsimp (maxSteps:=1000000) (disch:=first|omega|(simp only[aH,aJ];omega)|decide +kernel|(repeat first|rw[aH]|rw[aJ])) only[wpS,f8];refine aG ?_ ?_<;>intro hc<;>simp only[aS,aV] at hc
 ·have hi:i<8:=aa;have r0:=cJ hg;have r1:=cJ hg1;have go:=get_some (show i<os.length by omega);have gb:=get_some (show i<(wds b).length by omega);have hx:=hoa i (aA _);have dx:=B.cK hod i;have dy:=B.cK (px b) i;obtain⟨x,hx1⟩ : ∃x,x=os.getD i 0:=⟨_,rfl⟩;obtain⟨y,hy1⟩ : ∃x,x=(wds b).getD i 0:=⟨_,rfl⟩;rw[←hx1] at go dx hx;rw[←hy1] at gb dy;simp -dsimp (maxSteps:=1000000) (disch:=first|omega|(simp only[aH,aJ];omega)|decide +kernel|(repeat first|rw[aH]|rw[aJ])) only[wpS,wpT,Nat.reduceEqDiff,Gd,oa,f2,f3,f6,f8,r0,r1,dF,go,gb];refine call (Ip x y bor Jv) ?_;rintro _ _ ⟨rfl,rfl⟩;generalize hdd:(x+18446744073709551616 - y - bor) % 18446744073709551616=d;obtain⟨b2,hb2,hb1,ml⟩ : ∃b2:Nat,(bif Nat.blt x (y+bor) then 1 else 0)=b2∧b2≤1∧x+b2*18446744073709551616=y+bor+d:=by
   by_cases hlt:x<y+bor
   ·have e:Nat.blt x (y+bor)=true:=by simp only[Nat.blt,ch];exact hlt
    refine⟨1,by rw[e];rfl,aa,aa⟩
   ·have e:Nat.blt x (y+bor)=false:=by rw[sU];intro h;simp[Nat.blt] at h;omega
    refine⟨0,by rw[e];rfl,aa,aa⟩
  rw[hb2];have hd2:d<18446744073709551616:=aa;have spl:=mU d (show i<os.length by omega);rename_i h3;simp -dsimp (maxSteps:=1000000) (disch:=first|omega|(simp only[aH,aJ];omega)|decide +kernel|(repeat first|rw[aH]|rw[aJ])) only[wpS,wpT,Nat.reduceEqDiff,Nat.reduceLeDiff,Gd,rp,f2,f8,hg,spl,cz,hol];obtain⟨c,hgc,hcl⟩:=hg2;refine⟨m - 1,aa,i+1,b2,os.set i d,aa,hE.put (aA _) _,hn,aj _ _ rfl,by simp (disch:=first|omega|(simp only[aH,aJ];omega)|(repeat first|rw[aH]|rw[aJ])) only[au];exact hg1,⟨c,by simp (disch:=first|omega|(simp only[aH,aJ];omega)|(repeat first|rw[aH]|rw[aJ])) only[au];exact hgc,hcl⟩,hb1,by rw[dB,hol],hod.set _ hd2,?_,?_,by simp[f2],by simp[f3],by simp[f4],ab,ab⟩;·intro j hj;rw[B.fZ aa,ah aa];exact hoa j aa
  ·rw[lK aa,B.bm,B.bm,←hx,←hy1,eH];have e3:x*18446744073709551616 ^ i+b2*(18446744073709551616 ^ i*18446744073709551616)=(y+bor+d)*18446744073709551616 ^ i:=by rw[←ml];grind
   have e4:(y+bor+d)*18446744073709551616 ^ i=y*18446744073709551616 ^ i+bor*18446744073709551616 ^ i+d*18446744073709551616 ^ i:=gh;omega
 ·obtain rfl:i=8:=aa;have r0:=cJ hg;have lm:(os.map K64).length=8:=by rw[cz,hol]
  have all:=Hi os;have tk8:List.take 8 (List.drop 0 (os.map K64))=os.map K64:=by rw[cC,fB aa]
  obtain⟨c,hgc,hcl⟩:=hg2;have hsp:IH.bf c 0 (os.map K64)=os.map K64:=jN (by rw[hcl,lm]);simp -dsimp (maxSteps:=1000000) (disch:=first|omega|(simp only[aH,aJ];omega)|decide +kernel|(repeat first|rw[aH]|rw[aJ])) only[wpS,wpT,Nat.reduceEqDiff,Nat.reduceLeDiff,lg,AI,f2,f4,f6,r0,lm,all,tk8,hgc,hcl,hsp];rw[←GF hol hod,←mR] ;have e8 : ∀n,n<W8→B.bm (wds n) 8=n:=fun n hn=>by rw[yg n 8 (aA _),←zo,dR hn]
  rw[e8 a ha,e8 b hb,←zo] at hv;have hvo:B.bm os 8=B.aM os:=by rw[B.aM,hol]
  rw[hvo] at hv;exact⟨hE.put aa _,B.aM os,bor,rfl,MC hol hod,Jv,hv⟩
end
section
variable {h:IH}
def pD (a b:Nat) (ha:a<W8) (hb:b<W8):WV prog (.func (.func 215) #[] #[]) [wdV a,wdV b] h fun r h'=>Ext h h'∧r=KI (if a<b then -1 else if a=b then 0 else 1):=by
 refine enter (nt:=24) (rs:=[.tmp 4]) Proofs.Tryz.func215 rfl rfl rfl ab ?_;simp -dsimp (disch:=try exact dx) only[wpS,zE,zA,bA];rw[mR a,mR b];have lA:=lW a;have lB:=lW b;have e2 : ∀o1 o2,Ext h ((h.new o1).new o2):=fun o1 o2=>((Ext.refl h).new _).new _;have hA:B.aM (wds a)=a:=GD ha;have hB:B.aM (wds b)=b:=GD hb;refine loop (fun m fr h1=>h1=((h.new (.cells ((wds a).map K64) 0 none)).new (.cells ((wds b).map K64) 0 none))∧m≤8∧(∀j,m≤j→j<8→(wds a).getD j 0=(wds b).getD j 0) ∧ax fr 2=some (ptr (2*h.n) 0)∧ax fr 3=some (ptr (2*(h.n+1)) 0)∧ax fr 5=some (KI ((m:Int) - 1))) 8 ⟨rfl,aA _,fun j h1 h2=>aa,ab,ab,ab⟩ ?_;rintro m fr h1 ⟨rfl,hm,hz,f2,f3,f5⟩;rcases im m with rfl|hp
 ·simp -dsimp (disch:=try exact dx) only[wpS,wpT,zE,f5];refine⟨e2 _ _,?_⟩;have:=B.pV (lA.trans lB.symm) (fun j hj=>hz j (dQ _) aa);rw[hA,hB] at this;rw[ah aa,aq this]
 ·obtain⟨k,rfl⟩ : ∃k,m=k+1:=⟨m - 1,aa⟩;have h2:(((k+1:Nat):Int) - 1)=(k:Int):=aa;rw[h2] at f5;have ga:=get_some (show k<(wds a).length by omega);have gb:=get_some (show k<(wds b).length by omega);have da:=B.cK (px a) k;have db:=B.cK (px b) k;have key:((wds a).getD k 0<(wds b).getD k 0→a<b)∧((wds b).getD k 0<(wds a).getD k 0→b<a):=by have k1:=fun h=>B.nW (px a) (lA.trans lB.symm) (show k<(wds a).length by omega) h (fun j x y=>hz j aa aa);have k2:=fun h=>B.nW (px b) (lB.trans lA.symm) (show k<(wds b).length by omega) h (fun j x y=>(hz j aa aa).symm);rw[hA,hB] at k1 k2;exact⟨k1,k2⟩
  obtain⟨x,hx⟩ : ∃x,x=(wds a).getD k 0:=⟨_,rfl⟩;obtain⟨y,hy⟩ : ∃x,x=(wds b).getD k 0:=⟨_,rfl⟩;rw[←hx] at ga da key;rw[←hy] at gb db key;simp -dsimp (disch:=try exact dx) only[wpS,wpT,zE,Gd,oa,f2,f3,f5,dF,ga,gb];refine aG ?_ ?_<;>intro hc<;>simp only[mL,zr,ne_eq] at hc
  ·simp -dsimp (disch:=try exact dx) only[wpS,wpT,zE,Gd,oa,f2,f3,f5,dF,ga,gb];refine aG ?_ ?_<;>intro hc2<;>simp only[aS,aV] at hc2
   ·simp -dsimp (disch:=try exact dx) only[wpS,wpT,zE];have:=key.1 aa;exact⟨e2 _ _,by rw[aq this]⟩
   ·simp -dsimp (disch:=try exact dx) only[wpS,wpT];have:=key.2 aa;exact⟨e2 _ _,by rw[ah aa,ah aa]⟩
  ·simp -dsimp (disch:=try exact dx) only[wpS,wpT,zE,f5];refine⟨k,aa,rfl,aa,fun j h1 h2=>?_,by simp[f2],by simp[f3],ab⟩;by_cases hj:j=k
   ·subst hj;omega
   ·exact hz j aa h2
def oL (b:Bool) (n:Nat):QQ:=.agg (QQ.bool b :: wdC n).toArray
def ic (b:Bool) (n:Nat):(oL b n).cells.toList=.bool b :: wdC n:=rfl
def bD (n:Nat):IH.bf [ZW,ZW,ZW,ZW,ZW,ZW,ZW,ZW] 0 (wdC n)=wdC n:=jN (by rw[aD];rfl)
def sW (m n:Nat):IH.bf (wdC m) 0 (wdC n)=wdC n:=jN (by rw[aD,aD])
def jW (b:QQ) (n:Nat):List.take 8 (List.drop 1 (b :: wdC n))=wdC n:=by rw[List.drop_succ_cons,cC,fB (by rw[aD];omega)]
def iU (b:QQ) (n:Nat):List.take 9 (List.drop 0 (b :: wdC n))=b :: wdC n:=by rw[cC,fB (by simp[aD])]
def P7:List.take 8 (List.drop 0 [ZW,ZW,ZW,ZW,ZW,ZW,ZW,ZW]) = [ZW,ZW,ZW,ZW,ZW,ZW,ZW,ZW]:=rfl
theorem iL:QQ.agg #[ZW,ZW,ZW,ZW,ZW,ZW,ZW,ZW]=wdV 0:=by rw[wdV,lJ]
def BG (n:Nat) (hn:n<W8):WV prog (.func (.func 192) #[] #[]) [wdV n] h fun r h'=>Ext h h'∧r=oL (decide (wdI n<0)) (wdI n).natAbs:=by
 have h7:=Wo hn;have l7:=xk n 7;have hs:qj (wrd n 7) 63=wrd n 7 / 9223372036854775808:=kE _ _;have Xq:((((wrd n 7 / 9223372036854775808:Nat):Int)) == 1)=decide (wdI n<0):=by
  have h2:=dD;by_cases hlt:n<H8
  ·have e1:wrd n 7 / 9223372036854775808=0:=by have:=h7.2 hlt;omega
   rw[e1,wdI,aq hlt];simp
  ·have e1:wrd n 7 / 9223372036854775808=1:=by have : ¬wrd n 7<9223372036854775808:=fun h=>hlt (h7.1 h);omega
   rw[e1,wdI,ah hlt];simp;omega
 refine enter (nt:=21) (rs:=[.cell 2 246]) Proofs.Tryz.func192 rfl rfl rfl ab ?_;simp -dsimp (disch:=try exact dx) only[wpS,wpT,zE,zL,zA,Int.reduceToNat,wk,pN,oa,bY,Wa,MY,Ua,tT,nc,ld4,bA,aD,aW,fW,pN,dI n 7 aa,show ua 7 8=some 7 from rfl,hs,Xq,bD];refine aG ?_ ?_<;>intro hc<;>simp only[aS,aV] at hc
 ·have h2:=dD;have hge:H8≤n:=by unfold wdI at hc;split at hc<;>omega
  have hw:wdI n = -((W8 - n:Nat):Int):=by unfold wdI;rw[ah aa];omega
  simp -dsimp (disch:=try exact dx) only[wpS,wpT,zE,zL,zA,JX,jt,lg,jW,aD];rw[iL];refine call (pE 0 n aa hn) ?_;rintro _ h1 ⟨hE,m,bor,rfl,hm,hb,ml⟩;have hp:=lE
  have hb1:bor=1:=by
   rcases im bor with h0|h0;·subst h0;omega
   ·omega
  subst hb1;have hmm:(wdI n).natAbs=m:=aa;rw[hmm];have n1:=(hE).n;try simp only[aH,aJ] at n1
  have g2:h1.ext.get (h.n+1+1)=some (.cells (.bool true :: wdC n) 0 none):=by rw[hE.get _ ab];simp (disch:=try exact dx) only[aj]
  have g1:h1.ext.get (h.n+1)=some (.cells [.bool false,ZW,ZW,ZW,ZW,ZW,ZW,ZW,ZW] 0 none):=by rw[hE.get _ ab];simp (disch:=try exact dx) only[ar,aE,au]
  simp -dsimp (disch:=try exact dx) only[wpS,wpT,zE,zL,zA,tT,jt,AI,tZ,g2,bA,aD,aW,sW,iU,g1,bD];refine⟨?_,by simp[oL]⟩;exact(((((Ext.refl h).new _).new _).new _).put aa _).trans hE |>.put aa _ |>.put aa _
 ·have hlt:n<H8:=by apply di;intro hne;apply hc;unfold wdI;rw[ah hne];omega
  have hw:(wdI n).natAbs=n:=by unfold wdI;rw[aq hlt];omega
  simp -dsimp (disch:=try exact dx) only[wpS,wpT,zE,zL,zA,tT,tZ,aD,aW,iU,bD];rw[hw];exact⟨((((Ext.refl h).new _).new _).new _).put aa _ |>.put aa _,by simp[oL]⟩
def j5 (n:Nat) (hn:n<W8):WV prog (.func (.func 103) #[] #[]) [wdV n] h fun r h'=>Ext h h'∧cW h' r (wdI n):=by
 have h2:=dD;have hab:(wdI n).natAbs<W8:=by unfold wdI;split<;>omega
 refine enter (nt:=13) (rs:=[.cell 2 135]) Proofs.Tryz.func103 rfl rfl rfl ab ?_;simp -dsimp (disch:=try exact dx) only[wpS,zE,zL,kH,bY,bA,aD,fW];refine call (BG n hn) ?_;rintro _ h1 ⟨hE,rfl⟩;have n1:=(hE).n;try simp only[aH] at n1
 simp -dsimp (disch:=try exact dx) only[wpS,wpT,zE,zL,zA,wk,tT,ic,aD,aW,bD];obtain⟨H2,hH2⟩ : ∃H2,H2=(h1.new (.cells [.bool false,ZW,ZW,ZW,ZW,ZW,ZW,ZW,ZW] 0 none)).put h1.n (.cells (.bool (decide (wdI n<0)) :: wdC (wdI n).natAbs) 0 none):=⟨_,rfl⟩;have n2:H2.n=h1.n+1:=by rw[hH2];rfl
 have g3:H2.ext.get h1.n=some (.cells (.bool (decide (wdI n<0)) :: wdC (wdI n).natAbs) 0 none):=by rw[hH2];simp (disch:=try exact dx) only[aj]
 have g1:H2.ext.get (h.n+1)=some (.cells ZL 0 none):=by rw[hH2];simp (disch:=try exact dx) only[aE,au];rw[hE.get _ ab];simp (disch:=try exact dx) only[ar]
 have E2:Ext h H2:=by rw[hH2];exact(((((Ext.refl h).new _).new _).trans hE).new _).put aa _
 rw[←hH2];have r3:=cJ g3;have r4:(H2.new (.cells [] 1 none)).row (2*h1.n)=some (.bool (decide (wdI n<0)) :: wdC (wdI n).natAbs):=cJ (by simp (disch:=try exact dx) only[aE];exact g3);have hnow:mH (H2.new (.cells [] 1 none)) 1 (.slice (some ⟨2*h1.n,1,none⟩) 8 (2*8+1)) 8 (wdC (wdI n).natAbs):=Ve r4 aa (by rw[aD]) (jW _ _) (by simp[aD]);have hap:=vf Zat (H2.new (.cells [] 1 none)) hnow aa (aW _) aa (2*H2.n) 0;refine drawn [(1,[5,6])] ae ae rfl ?_;simp -dsimp (disch:=try exact dx) only[wpS,wpT,zE,zA,reduceMul,nc,ld4,SZ,jt,PR,r3,EW (P:=prog) Ww Ee aa,hap];have hW:kT ((H2.new (.cells [] 1 none)).new (.cells (wdC (wdI n).natAbs) 1 none)) (.slice (some ⟨2*(H2.n+1),0,none⟩) 8 16) (wds (wdI n).natAbs):=by refine⟨?_,px _,by rw[lW];omega⟩;rw[←mR,lW];exact(Od (h:=H2.new (.cells [] 1 none)) (sz:=1) (m:=8) aa (by rw[aD]) aa).sl
 refine call (jL hW _) ?_;rintro _ h3 ⟨hE3,hr⟩;rw[GD hab] at hr;have hz:(if decide (wdI n<0)=true then -((wdI n).natAbs:Int) else (wdI n).natAbs)=wdI n:=by by_cases h0:wdI n<0<;>simp[h0]<;>omega
 rw[hz] at hr;obtain⟨s1,n3,rfl,c3,o3,l3,z3⟩:=hr.form;have m3:=(hE3).n;try simp only[aH] at m3
 have hg:h3.ext.get (h.n+1)=some (.cells ZL 0 none):=by rw[hE3.get _ (by simp only[aH];omega)];simp (disch:=try exact dx) only[aE];exact g1
 have r5:((H2.new (.cells [] 1 none)).new (.cells (wdC (wdI n).natAbs) 1 none)).row (2*h1.n)=some (.bool (decide (wdI n<0)) :: wdC (wdI n).natAbs):=cJ (by simp (disch:=try exact dx) only[aE];exact g3);have r6:h3.row (2*h1.n)=some (.bool (decide (wdI n<0)) :: wdC (wdI n).natAbs):=cJ (by rw[hE3.get _ (by simp only[aH];omega)];simp (disch:=try exact dx) only[aE];exact g3);simp -dsimp (disch:=try exact dx) only[wpS,wpT,zE,zL,zA,gY,hg,o3];refine⟨ye (az rfl rfl rfl rfl (aO (av:=ptr (2*h1.n) 0) (v:=.bool (decide (wdI n<0))) rfl ?_ ?_)) (az rfl rfl rfl rfl (aO (av:=ptr (2*h1.n) 0) (v:=.bool (decide (wdI n<0))) rfl ?_ ?_)),?_⟩
 ·simp -dsimp (disch:=try exact dx) only[wpS,ld4,r3]
 ·simp -dsimp (disch:=try exact dx) only[wpS,ld4,r4]
 ·simp -dsimp (disch:=try exact dx) only[wpS,ld4,r3]
 ·simp -dsimp (disch:=try exact dx) only[wpS,ld4,r5]
 simp -dsimp (disch:=try exact dx) only[wpS,wpT,zE,zL,zA,cM];exact⟨(((E2.new _).new _).trans hE3).put aa _,hr.ai ((bj.refl _).put hg _)⟩
theorem RX : [ZW,ZW,ZW,ZW,ZW,ZW,ZW,.int .u64 9223372036854775808]=wdC H8:=by
 have h2:B.aM [0,0,0,0,0,0,0,9223372036854775808]=H8:=by unfold H8;simp[B.aM,B.bm]
 have h3:=GF (ds:=[0,0,0,0,0,0,0,9223372036854775808]) rfl (by intro d hd;simp at hd;omega);rw[h2] at h3;rw[mR,h3];rfl
def Dc (b:Bool) (n:Nat) (hn:n<W8):WV prog (.func (.func 195) #[] #[]) [oL b n] h fun r h'=>Ext h h'∧r=if H8<n∨(n=H8∧b=false) then .tuple #[wdV 0,KI 6] else .tuple #[wdV (if b=true then (W8 - n) % W8 else n),KI 0]:=by
 have h2:=dD;have hp:=lE;refine enter (nt:=35) (rs:=[.cell 2 30,.tmp 3]) Proofs.Tryz.func195 rfl rfl rfl ab ?_;simp -dsimp (disch:=try exact dx) only[wpS,wpT,zE,zL,zA,fa,JX,Ub,ED,AI,jt,lg,ic,aD,jW];rw[RX];simp -dsimp (disch:=try exact dx) only[fW];refine call (pD n H8 hn aa) ?_;rintro _ h1 ⟨hE,rfl⟩;have n1:=(hE).n;try simp only[aH,aJ] at n1
 have g0:h1.ext.get h.n=some (.cells (.bool b :: wdC n) 0 none):=by rw[hE.get _ bd];simp (disch:=try exact dx) only[ar,aE,au]
 have g1:h1.ext.get (h.n+1)=some (.cells [ZW,ZW,ZW,ZW,ZW,ZW,ZW,ZW] 0 none):=by rw[hE.get _ ab];simp (disch:=try exact dx) only[ar,aE,au]
 have hE1:=((((Ext.refl h).new _).new _).new _).put aa _ |>.trans hE;have r0:=cJ g0;have r1:=cJ g1;rcases Nat.lt_trichotomy n H8 with hlt|heq|hgt
 ·rw[aq hlt,ah aa];cases b
  ·simp -dsimp (disch:=try exact dx) only[wpS,wpT,zE,zL,zA,jt,lg,nc,ld4,dw,bY,r0,g1,aD,aW,jW,bD,fW];exact⟨hE1.put aa _,by simp;rfl⟩
  ·simp -dsimp (disch:=try exact dx) only[wpS,wpT,zE,zL,zA,JX,jt,lg,nc,ld4,r0,aD,jW];rw[iL];refine call (pE 0 n aa hn) ?_;rintro _ h3 ⟨hE3,m,bor,rfl,hm,hb,ml⟩;have hmm:(W8 - n) % W8=m:=by
    rcases im bor with h0|h0;·subst h0;have h5:n=0:=aa;rw[h5,Nat.sub_zero,Nat.mod_self];omega
    ·have h5:bor=1:=aa;subst h5;by_cases h6:n=0
     ·exfalso;omega
     ·rw[dR aa];omega
   have n3:=(hE3).n;try simp only[aH,aJ] at n3
   have k0:=(hE3.get _ aa).trans g0;have k1:=(hE3.get _ aa).trans g1;simp -dsimp (disch:=try exact dx) only[wpS,wpT,zE,zL,zA,AI,jt,lg,dw,bY,k0,k1,bA,aD,aW,jW,sW,bD,fW];refine⟨((hE1.trans hE3).put aa _).put aa _,?_⟩;rw[hmm];simp;try rfl
 ·subst heq;rw[ah aa,aq rfl];cases b
  ·simp -dsimp (disch:=try exact dx) only[wpS,wpT,zE,zL,zA,nc,ld4,kQ,dw,bY,r0,g1,P7];refine⟨hE1.put aa _,?_⟩;simp[iL]
  ·simp -dsimp (disch:=try exact dx) only[wpS,wpT,zE,zL,zA,JX,jt,lg,nc,ld4,r0,aD,jW];rw[iL];refine call (pE 0 H8 aa hn) ?_;rintro _ h3 ⟨hE3,m,bor,rfl,hm,hb,ml⟩;have hmm:(W8 - H8) % W8=m:=by
    rcases im bor with h0|h0;·subst h0;have h5:H8=0:=aa;rw[h5,Nat.sub_zero,Nat.mod_self];omega
    ·have h5:bor=1:=aa;subst h5;by_cases h6:H8=0
     ·exfalso;omega
     ·rw[dR aa];omega
   have n3:=(hE3).n;try simp only[aH,aJ] at n3
   have k0:=(hE3.get _ aa).trans g0;have k1:=(hE3.get _ aa).trans g1;simp -dsimp (disch:=try exact dx) only[wpS,wpT,zE,zL,zA,AI,jt,lg,dw,bY,k0,k1,bA,aD,aW,jW,sW,bD,fW];refine⟨((hE1.trans hE3).put aa _).put aa _,?_⟩;rw[hmm];simp;try rfl
 ·rw[ah aa,ah aa];simp -dsimp (disch:=try exact dx) only[wpS,wpT,zE,zL,zA,kQ,dw,bY,g1,P7];refine⟨hE1.put aa _,?_⟩;rw[iL,aq (.inl hgt)]
end
section
def Py {P:Program} {t e:TypeId} {sz:Nat} (hu:P.underlying t=some (.slice e)) (hS:bK P e=some sz) (h:IH) (b o n c:Nat) {s:Value} {ss:List Value} (hs:mH h sz s 0 ss) (ts:Array TypeId) (ht:ts[0]?=some t) :builtin P h .copy ts [.slice (some ⟨b,o,none⟩) n c,s]=some (.int .i64 0,h):=by
 have hf:fe h sz 0 s=some []:=by
  obtain⟨hz,hl,⟨rfl,_⟩|⟨b,o,k,rfl,s⟩⟩:=hs;·rfl
  ·simp[fe];rfl
 obtain⟨a',k,rfl⟩:=hs.form;simp only[builtin,ht,xV,hu,lenOf,hS,show Nat.min 0 n=0 from Nat.zero_min _,hf];rfl
variable {ds:List Nat}
theorem Q9 (hl:ds.length≤8) (hd:B.dh ds):IH.bf [ZW,ZW,ZW,ZW,ZW,ZW,ZW,ZW] 0 (ds.map K64)=wdC (B.aM ds):=by
 have hv : ∀k,B.aM (ds ++ List.replicate k 0)=B.aM ds:=by
  intro k;rw[show B.aM ds=B.bm (ds ++ List.replicate k 0) ds.length from B.jk fun j hj=>by
   rw[bH,bH,ef hj]]
  rw[B.aM];have:(ds ++ List.replicate k 0).length=ds.length+k:=ab;rw[this];apply B.nP;intro j h1 h2;rw[bH,gI h1];rw[←bH];exact B.oe _ _
 have hD:B.dh (ds ++ List.replicate (8 - ds.length) 0):=fun d h=>by
  rcases fC.1 h with h|h;·exact hd d h
  ·simp at h;omega
 have h8:(ds ++ List.replicate (8 - ds.length) 0).length=8:=aT;have:=GF h8 hD;rw[hv] at this;rw[mR,this,gF,List.map_replicate];have hz : [ZW,ZW,ZW,ZW,ZW,ZW,ZW,ZW]=List.replicate 8 ZW:=rfl;rw[hz,IH.bf,List.take_zero,kG,cz,List.drop_replicate,fy];rfl
def Uu (n:B.Norm ds) (h:8<ds.length):W8≤B.aM ds:=by have h1:=n.ge (by intro h0;rw[h0] at h;simp at h);rw[zo];exact bV (fA aa aa) h1
variable {h:IH}
def yD {v:Value} {z:Int} (hv:cW h v z):WV prog (.func (.func 105) #[] #[]) [v] h fun r h'=>Ext h h'∧r=if InW z then .tuple #[pf z,KI 0] else .tuple #[wdV 0,KI 6]:=by
 obtain⟨s,rfl,ds,hD,hN,hx⟩:=hv;have hb:=hD.2.2;have h2:=dD;have hp:=lE;refine enter (nt:=22) (rs:=[.cell 2 30,.tmp 3]) Proofs.Tryz.func105 rfl rfl rfl ab ?_;simp -dsimp (disch:=try exact dx) only[wpS,zE,fa,ni,uQ,hD.1.len jm];refine aG ?_ ?_<;>intro hc<;>simp only[aS,aV] at hc
 ·have hgt:=Uu hN aa;have hin : ¬InW z:=by rintro⟨h3,h4⟩;omega
  rw[ah hin];simp -dsimp (disch:=try exact dx) only[wpS,wpT,zE,zL,zA,kQ,dw,bY,P7];exact⟨(((Ext.refl h).new _).new _).put aa _,by rw[iL]⟩
 ·have hl:ds.length≤8:=aa;have hlt:B.aM ds<W8:=by have:=B.mS hD.2.1;rw[zo];exact cB this (fA aa hl)
  simp -dsimp (disch:=try exact dx) only[wpS,wpT,zE,zL,zA,l6,ld4,Wa,MY,wk,tT,jt];obtain⟨H2,hH2⟩ : ∃H2,H2=((((h.new (.cells [.bool (decide (z<0)),s] 0 none)).new (.cells [ZW,ZW,ZW,ZW,ZW,ZW,ZW,ZW] 0 none)).new (.cells [.bool false,ZW,ZW,ZW,ZW,ZW,ZW,ZW,ZW] 0 none)).put (h.n+1+1) (.cells [.bool (decide (z<0)),ZW,ZW,ZW,ZW,ZW,ZW,ZW,ZW] 0 none)):=⟨_,rfl⟩;have n2:H2.n=h.n+3:=by rw[hH2];rfl
  have g0:H2.ext.get h.n=some (.cells [.bool (decide (z<0)),s] 0 none):=by rw[hH2];simp (disch:=try exact dx) only[ar,aE,au]
  have g1:H2.ext.get (h.n+1)=some (.cells [ZW,ZW,ZW,ZW,ZW,ZW,ZW,ZW] 0 none):=by rw[hH2];simp (disch:=try exact dx) only[ar,aE,au]
  have g2:H2.ext.get (h.n+1+1)=some (.cells [.bool (decide (z<0)),ZW,ZW,ZW,ZW,ZW,ZW,ZW,ZW] 0 none):=by rw[hH2];simp (disch:=try exact dx) only[aj]
  have E2:Ext h H2:=by rw[hH2];exact((((Ext.refl h).new _).new _).new _).put aa _
  rw[←hH2];have r0:=cJ g0;have sa:=EW (P:=prog) Ww Ee aa;have hs2:=(hD.ai E2.ai).1.now;have hcp : ∃H3,builtin prog H2 .copy #[133,133] [.slice (some ⟨2*(h.n+1+1),1,none⟩) 8 17,s]=some (.int .i64 (ds.length:Int),H3)∧Ext h H3∧H3.n=h.n+3∧H3.ext.get (h.n+1)=some (.cells [ZW,ZW,ZW,ZW,ZW,ZW,ZW,ZW] 0 none)∧H3.ext.get (h.n+1+1)=some (.cells (.bool (decide (z<0)) :: wdC z.natAbs) 0 none):=by
   rcases im ds.length with h0|h0
   ·have hd0:ds = []:=jK.1 h0;subst hd0;have hz0:z.natAbs=0:=by rw[←hx];rfl
    refine⟨H2,Py TL Ee H2 _ _ _ _ hs2 _ rfl,E2,n2,g1,?_⟩;rw[hz0,lJ];exact g2
   ·have hm:min ds.length 8=ds.length:=aa;have:=copy_eq (P:=prog) TL Ee g2 (o:=1) (dn:=8) (c:=17) hs2 (Hi _) aa aT #[133,133] rfl;rw[hm,fI,fB ab,AJ,Q9 hl hD.2.1,hx] at this;exact⟨_,this,E2.put aa _,n2,by simp (disch:=try exact dx) only[au];exact g1,aj _ _ rfl⟩
  obtain⟨H3,hcp,E3,n3,g3,g4⟩:=hcp;have r4:=cJ g4;simp -dsimp (disch:=try exact dx) only[wpS,wpT,zE,zL,zA,reduceMul,ni,uQ,tZ,r0,sa,hcp,r4,iU,aD];refine call (Dc (decide (z<0)) z.natAbs aa) ?_;rintro _ h4 ⟨hE4,rfl⟩;have g5:=(hE4.get _ aa).trans g3;by_cases hin:InW z
  ·have e1 : ¬(H8<z.natAbs∨z.natAbs=H8∧decide (z<0)=false):=by
    obtain⟨i1,i2⟩:=hin;rintro(h5|⟨h5,h6⟩);·omega
    ·have : ¬z<0:=by simpa using h6
     omega
   have e2:(if decide (z<0)=true then (W8 - z.natAbs) % W8 else z.natAbs)=bN z:=by
    obtain⟨i1,i2⟩:=hin;unfold bN;by_cases h6:z<0;·rw[aq (by simpa using h6),ah aa,dR aa]
    ·rw[ah (by simpa using h6),aq aa];omega
   rw[ah e1,aq hin,e2];simp -dsimp (disch:=try exact dx) only[wpS,wpT,zE,zL,zA,dw,bY,g5,bA,aD,aW,bD,fW];exact⟨(E3.trans hE4).put aa _,rfl⟩
  ·have e1:H8<z.natAbs∨z.natAbs=H8∧decide (z<0)=false:=by
    unfold InW at hin;by_cases h6:z<0;·left;omega
    ·by_cases h7:z.natAbs=H8
     ·right;exact⟨h7,by simpa using h6⟩
     ·left;omega
   rw[aq e1,ah hin];simp -dsimp (disch:=try exact dx) only[wpS,wpT,zE,zL,zA,dw,bY,g5,bA,aD,aW,bD,fW];exact⟨(E3.trans hE4).put aa _,rfl⟩
def oK (n:Int) (hn:fS n):WV prog (.func (.func 101) #[] #[]) [KI n] h fun r h'=>Ext h h'∧cW h' r n:=by
 have hw:InW n:=by
  have:=AB;constructor;·have:=hn.1;omega
  ·have:=hn.2;omega
 refine enter (nt:=6) (rs:=[.cell 2 135]) Proofs.Tryz.func101 rfl rfl rfl ab ?_;simp -dsimp (disch:=try exact dx) only[wpS,zE,kH];refine call (pP n hn) ?_;rintro _ h1 ⟨hE,rfl⟩;simp -dsimp (disch:=try exact dx) only[wpS,zE];refine call (j5 _ (gJ hw)) ?_;rintro _ h2 ⟨hE2,hr⟩;rw[eE hw] at hr;obtain⟨s1,n3,rfl,c3,o3,l3,z3⟩:=hr.form;have m1:=(hE).n;try simp only[aH] at m1
 have m2:=(hE2).n;try simp only[aH,aJ] at m2
 have hg:h2.ext.get h.n=some (.cells ZL 0 none):=by rw[hE2.get _ aa,hE.get _ ab];simp (disch:=try exact dx) only[ar]
 simp -dsimp (disch:=try exact dx) only[wpS,wpT,zE,zL,zA,gY,cM,hg,o3];exact⟨((((Ext.refl h).new _).trans hE).trans hE2).put aa _,hr.ai ((bj.refl _).put hg _)⟩
end
section
variable {h:IH}{x y:Int}{w v:Value}
def xI (hv:cW h v x) (hw:cW h w y) (sx:bQ x) (sy:bQ y) :WV prog (.func (.func 207) #[] #[]) [v,w] h fun r h'=>Ext h h'∧cW h' r (Int.gcd x y):=by
 obtain⟨s,rfl,hS⟩:=hv;obtain⟨t,rfl,hT⟩:=hw;obtain⟨ds,hD,hN,hx⟩:=id hS;obtain⟨es,hE,hM,hy⟩:=id hT;refine enter (nt:=26) (rs:=[.cell 4 135]) Proofs.Tryz.func207 rfl rfl rfl ab ?_;simp -dsimp (disch:=try exact dx) only[wpS,zE,zA,kH,ni,uQ];have kk : ∀o1 o2 o3,Ext h (((h.new o1).new o2).new o3):=fun o1 o2 o3=>(((Ext.refl h).new _).new _).new _;refine loop (fun m fr h1 => ∃(xv yv:Value) (a:Nat),Ext (((h.new (.cells [.bool (decide (x<0)),s] 0 none)).new (.cells [.bool (decide (y<0)),t] 0 none)).new (.cells ZL 0 none)) h1∧Wrd h1 xv a∧Wrd h1 yv m∧Small a∧Small m∧Nat.gcd a m=Int.gcd x y∧ax fr 4=some (ptr (2*(h.n+1+1)) 0)∧ax fr 5=some xv∧ax fr 6=some yv) y.natAbs ⟨s,t,x.natAbs,Ext.refl _,hS.ai (kk _ _ _).ai,hT.ai (kk _ _ _).ai,sx,sy,rfl,ab,ab,ab⟩ ?_;clear hS hT hD hN hx hE hM hy ds es;rintro m fr h1 ⟨xv,yv,a,hE1,hA,hB,sa,sb,LP,f4,f5,f6⟩;obtain⟨ds,hD,hN,hx⟩:=id hA;obtain⟨es,hE,hM,hy⟩:=id hB;have hz:=hM.ow;rw[hy] at hz;have l1:ds.length≤1000000:=rI hN (by rw[hx];exact sa);have l2:es.length≤1000000:=rI hM (by rw[hy];exact sb);by_cases hm:m=0
 ·have hes:es = []:=hz.1 hm
  have WZ:tE prog h1 133 yv=some (.int .i64 ((0:Nat):Int)):=by have:=hE.1.len (P:=prog) jm h1;rw[hes] at this;exact this
  have hg:h1.ext.get (h.n+1+1)=some (.cells ZL 0 none):=by rw[hE1.get _ ab];exact ar _ _ rfl
  simp -dsimp (disch:=try exact dx) only[wpS,wpT,zE,zL,zA,DT,tv,gY,cM,f4,f5,f6,WZ,hD.1.cells,hD.1.cok,hg];refine⟨((kk _ _ _).trans hE1).put aa _,xv,?_,?_⟩;·simp
  ·subst hm
   rw[Nat.gcd_zero_right] at LP;rw[jz,←LP];exact hA.ai ((bj.refl _).put hg _)
 ·have hl:0<es.length:=by apply pY;intro h0;exact hm (hz.2 (jK.1 h0))
  simp -dsimp (disch:=try exact dx) only[wpS,wpT,zE,f5,f6,hE.1.len jm];refine call (DH hD hE hN hM (by rw[hy];exact hm) l1 l2) ?_;rintro _ h2 ⟨hE2,q,r,rfl,hq,hr⟩;rw[hx,hy] at hr;have hlt:=ec a (pY hm);simp -dsimp (disch:=try exact dx) only[wpS,zE,f6];refine⟨a % m,hlt,yv,r,m,hE1.trans hE2,hB.ai hE2.ai,hr,sb,sb.le (kF hlt),?_,by simp[f4],ab,ab⟩;rw[←LP,Nat.gcd_comm a m,Nat.gcd_rec m a,Nat.gcd_comm]
def Tx :Wrd (h.new (.cells [.int .u64 1] 1 none)) (.slice (some ⟨2*h.n,0,none⟩) 1 3) 1 :=
 ⟨[1],⟨oQ (h:=h) (sz:=1) (m:=1) (cs:=[K64 1]) aa rfl aa,fun x hx=>by simp at hx;omega,ab⟩,.inr ab,by simp[B.aM,B.bm]⟩
def vC (hv:cW h v x) (hw:cW h w y) (sx:bQ x) (sy:bQ y) (y0:y≠0) :WV prog (.func (.func 206) #[] #[]) [v,w] h fun r h'=>Ext h h' ∧ ∃q t,r=.tuple #[q,t]∧cW h' q (x / y)∧cW h' t (x % y):=by
 obtain⟨s,rfl,hS⟩:=hv;obtain⟨t,rfl,hT⟩:=hw;obtain⟨ds,hD,hN,hx⟩:=id hS;obtain⟨es,hE,hM,hy⟩:=id hT;have l1:ds.length≤1000000:=rI hN (by rw[hx];exact sx);have l2:es.length≤1000000:=rI hM (by rw[hy];exact sy);refine enter (nt:=47) (rs:=[.cell 4 135,.cell 5 135]) Proofs.Tryz.func206 rfl rfl rfl ab ?_;simp -dsimp (disch:=try exact dx) only[wpS,zE,zA,kH,ni,uQ];have kk : ∀o1 o2 o3 o4,Ext h ((((h.new o1).new o2).new o3).new o4):=fun o1 o2 o3 o4=>((((Ext.refl h).new _).new _).new _).new _;refine call (DH (hD.ai (kk _ _ _ _).ai) (hE.ai (kk _ _ _ _).ai) hN hM (by rw[hy];omega) l1 l2) ?_;rintro _ h1 ⟨hE1,q,r,rfl,⟨qs,hq,hqv⟩,⟨rs,hr,hrn,hrv⟩⟩;rw[hx,hy] at hqv hrv;have n1:h.n+4≤h1.n:=hE1.n;have g0:h1.ext.get h.n=some (.cells [.bool (decide (x<0)),s] 0 none):=by rw[hE1.get _ bd];simp (disch:=try exact dx) only[ar,aE]
 have g1:h1.ext.get (h.n+1)=some (.cells [.bool (decide (y<0)),t] 0 none):=by rw[hE1.get _ bd];simp (disch:=try exact dx) only[ar,aE]
 have g2:h1.ext.get (h.n+1+1)=some (.cells ZL 0 none):=by rw[hE1.get _ bd];simp (disch:=try exact dx) only[ar,aE]
 have g3:h1.ext.get (h.n+1+1+1)=some (.cells ZL 0 none):=by rw[hE1.get _ bd];simp (disch:=try exact dx) only[ar]
 have x1:Ext h h1:=(kk _ _ _ _).trans hE1;have eT1:=hE.ai x1.ai;clear hE1 kk;have r0:=cJ g0;have r1:=cJ g1;simp -dsimp (disch:=try exact dx) only[wpS,zE];refine drawn [(8,[6])] ae ae rfl ?_;simp -dsimp (disch:=try exact dx) only[wpS,zE,l6,ld4,bn4,r0,r1,zj];refine call (jL hq _) ?_;rintro q2 h2 ⟨hE2,hq2⟩;have r02:h2.row (2*h.n)=some [.bool (decide (x<0)),s]:=by rw[hE2.row (.inr aa)];exact r0
 simp -dsimp (disch:=try exact dx) only[wpS,zE,l6,ld4,r02];refine call (jL (hr.ai hE2.ai) _) ?_;rintro t2 h3 ⟨hE3,ht2⟩;rw[hqv] at hq2;rw[hrv] at ht2;have pa:=Nf (x:=x) y0;have pb:=Nd (x:=x) y0;have aQ:=BE (decide (x<0) != decide (y<0)) (x.natAbs / y.natAbs);have aR:=BE (decide (x<0)) (x.natAbs % y.natAbs);generalize (if (decide (x<0) != decide (y<0))=true then -((x.natAbs / y.natAbs:Nat):Int) else ((x.natAbs / y.natAbs:Nat):Int))=Q at *;generalize (if decide (x<0)=true then -((x.natAbs % y.natAbs:Nat):Int) else ((x.natAbs % y.natAbs:Nat):Int))=R at *;have sQ:bQ Q:=Small.le sx (by rw[aQ];exact oU _ _);have sR:bQ R:=Small.le sy (by rw[aR];exact kF (ec _ aa));obtain⟨sq,n3,rfl,c3,o3,_,_⟩:=hq2.form;obtain⟨st,n4,rfl,c4,o4,_,_⟩:=ht2.form;have x3:Ext h h3:=(x1.trans hE2).trans hE3;have n2:=hE2.n;have n3':=hE3.n;have g2':=(hE3.get _ aa).trans ((hE2.get _ aa).trans g2);have g3':=(hE3.get _ aa).trans ((hE2.get _ aa).trans g3);have g1':=(hE3.get _ aa).trans ((hE2.get _ aa).trans g1);simp -dsimp (disch:=try exact dx) only[wpS,wpT,zE,zL,zA,gY,o3,o4,g2',g3'];refine⟨az rfl rfl rfl rfl (aO (av:=ptr (2*h.n) 0) (v:=.bool (decide (x<0))) rfl ?_ ?_),?_⟩
 ·simp -dsimp (disch:=try exact dx) only[wpS,ld4,r02]
 ·simp -dsimp (disch:=try exact dx) only[wpS,ld4,r0]
 simp -dsimp (disch:=try exact dx) only[wpS,wpT,zE,zA,l6,ld4];obtain⟨h4,hh4⟩ : ∃h4,h4=(h3.put (h.n+1+1) (.cells [.bool (decide (Q<0)),sq] 0 none)).put (h.n+1+1+1) (.cells [.bool (decide (R<0)),st] 0 none):=⟨_,rfl⟩;have g8:h4.ext.get (h.n+1+1)=some (.cells [.bool (decide (Q<0)),sq] 0 none):=by rw[hh4];simp (disch:=try exact dx) only[aj,au]
 have g9:h4.ext.get (h.n+1+1+1)=some (.cells [.bool (decide (R<0)),st] 0 none):=by rw[hh4];simp (disch:=try exact dx) only[aj]
 have g7:h4.ext.get (h.n+1)=some (.cells [.bool (decide (y<0)),t] 0 none):=by rw[hh4];simp (disch:=try exact dx) only[au];exact g1'
 have n5:h4.n=h3.n:=by rw[hh4];rfl
 have k4:bj h3 h4:=by rw[hh4];exact((bj.refl h3).put g2' _).put (by rw[au _ _ aa];exact g3') _
 have x4:Ext h h4:=by rw[hh4];exact(x3.put aa _).put aa _
 have hQ0:=hq2.ai (hE3.ai.trans k4);have hR0:=ht2.ai k4;have eT4:=eT1.ai ((hE2.trans hE3).ai.trans k4);rw[←hh4];clear hh4 g2' g3' g1' r0 r1 g0 g1 g2 g3;have r9:=cJ g9;have r8:=cJ g8;have r7:=cJ g7;refine jQ (fun fr2 h5 => ∃sq st,Ext h h5∧h5.ext.get (h.n+1+1)=some (.cells [.bool (decide (x / y<0)),sq] 0 none)∧h5.ext.get (h.n+1+1+1)=some (.cells [.bool (decide (x % y<0)),st] 0 none)∧cW h5 (.agg #[.bool (decide (x / y<0)),sq]) (x / y)∧cW h5 (.agg #[.bool (decide (x % y<0)),st]) (x % y) ∧ax fr2 4=some (ptr (2*(h.n+1+1)) 0)∧ax fr2 5=some (ptr (2*(h.n+1+1+1)) 0)) (fun hb=>?_) (fun hb=>?_) ?_
 ·have hb':R<0:=by simpa using hb
  obtain⟨b1,b2⟩:=pb hb';rw[ct hb'] at hR0 r9 g9;simp -dsimp (disch:=try exact dx) only[wpS,wpT,zE,zL,zA,kH,ni,uQ,gY,DT,tv,cM,r7,r9,cC,iA,hE.1.cells,hE.1.cok];have xA:Ext h ((h4.new (.cells ZL 0 none)).put h4.n (.cells [.bool false,t] 0 none)):=(x4.new _).put aa _;have xB:Ext h4 ((h4.new (.cells ZL 0 none)).put h4.n (.cells [.bool false,t] 0 none)):=((Ext.refl h4).new _).put aa _;have hY:cW ((h4.new (.cells ZL 0 none)).put h4.n (.cells [.bool false,t] 0 none)) (.agg #[.bool false,t]) (y.natAbs:Int):=⟨t,ab,by rw[jz];exact⟨es,eT4.ai xB.ai,hM,hy⟩⟩;refine call (yG (hR0.ai xB.ai) hY sR (mu sy)) ?_;rintro t5 h5 ⟨hE5,ht5⟩;rw[b2] at ht5;obtain⟨s5,_,rfl,c5,o5,_,_⟩:=ht5.form;have n6:=(hE5).n;try simp only[aH,aJ] at n6
  have x5:=xB.trans hE5;have k9:=(x5.get _ aa).trans g9;have k8:=(x5.get _ aa).trans g8;have k7:=(x5.get _ aa).trans g7;have rr7:=cJ k7;have rr8:=cJ k8;simp -dsimp (disch:=try exact dx) only[wpS,wpT,zE,zL,zA,kH,l6,ld4,gY,DT,tv,cM,SZ,yH,k9,o5,rr7,rr8,cC,iA];obtain⟨h6,hh6⟩ : ∃h6,h6=((((h5.put (h.n+1+1+1) (.cells [.bool (decide (x % y<0)),s5] 0 none)).new (.cells [.int .u64 1] 1 none)).new (.cells ZL 0 none)).put (h5.n+1) (.cells [.bool (!decide (y<0)),.slice (some ⟨2*h5.n,0,none⟩) 1 3] 0 none)):=⟨_,rfl⟩;have k5:bj h5 h6:=by rw[hh6];exact((((bj.refl h5).put k9 _).new _).new _).put (cs:=ZL) (f:=none) (by simp (disch:=try exact dx) only[ar]) _
  have y6:Ext h h6:=by rw[hh6];exact(((((xA.trans hE5).put aa _).new _).new _).put (by first|omega|(simp only[aH,aJ];omega)) _)
  have j9:h6.ext.get (h.n+1+1+1)=some (.cells [.bool (decide (x % y<0)),s5] 0 none):=by rw[hh6];simp (disch:=try exact dx) only[aE,aj,au]
  have j8:h6.ext.get (h.n+1+1)=some (.cells [.bool (decide (Q<0)),sq] 0 none):=by rw[hh6];simp (disch:=try exact dx) only[aE,au];exact k8
  have n7:h6.n=h5.n+2:=by rw[hh6];rfl
  have hOne:cW h6 (.agg #[.bool (!decide (y<0)),.slice (some ⟨2*h5.n,0,none⟩) 1 3]) (if y<0 then 1 else -1):=by
   refine⟨.slice (some ⟨2*h5.n,0,none⟩) 1 3,?_,?_⟩;·by_cases hy0:y<0<;>simp[hy0]<;>rfl
   ·rw[show(if y<0 then (1:Int) else -1).natAbs=1 by split<;>rfl,hh6];have w1:=Tx (h:=h5.put (h.n+1+1+1) (.cells [.bool (decide (x % y<0)),s5] 0 none));exact w1.ai (((bj.refl _).new _).put (cs:=ZL) (f:=none) (by simp (disch:=try exact dx) only[ar]) _)
  have jr8:=cJ j8;rw[←hh6];have sOne:bQ (if y<0 then (1:Int) else -1):=by split<;>exact GO
  refine call (yG (hQ0.ai (x5.ai.trans k5)) hOne sQ sOne) ?_;rintro t7 h7 ⟨hE7,ht7⟩;have hqq:Q+(if y<0 then (1:Int) else -1)=x / y:=by rw[←b1]
  rw[hqq] at ht7;obtain⟨s7,_,rfl,c7,o7,_,_⟩:=ht7.form;have n8:=(hE7).n;try simp only[aH,aJ] at n8
  have i8:=(hE7.get _ aa).trans j8;have i9:=(hE7.get _ aa).trans j9;simp -dsimp (disch:=try exact dx) only[wpS,wpT,zE,zL,zA,gY,i8,o7];have k7':=(bj.refl h7).put i8 (.cells [.bool (decide (x / y<0)),s7] 0 none);refine⟨s7,s5,(y6.trans hE7).put aa _,aj _ _ rfl,by simp (disch:=try exact dx) only[au];exact i9,ht7.ai k7',ht5.ai ((k5.trans hE7.ai).trans k7'),ab,ab⟩
 ·have hb' : ¬R<0:=by simpa using hb
  obtain⟨b1,b2⟩:=pa hb';simp -dsimp (disch:=try exact dx) only[wpS,wpT];subst b1;subst b2;exact⟨sq,st,x4,g8,g9,hQ0,hR0,ab,ab⟩
 rintro fr2 h5 ⟨sq,st,x5,k8,k9,hQ,hR,f4,f5⟩;have q8:=cJ k8;have q9:=cJ k9;obtain⟨s8,n8,e8,c8,o8,_,_⟩:=hQ.form;obtain⟨s9,n9,e9,c9,o9,_,_⟩:=hR.form;cases e8;cases e9;rw[mE];refine drawn [(1,[3])] ae ae rfl ?_;simp -dsimp (disch:=try exact dx) only[wpS,wpT,zE,zL,zA,gY,cM,f4,f5,q8,q9,k8,k9,o8,o9,cC,iA];have k5:=(bj.refl h5).put k8 (.cells [.bool (decide (x / y<0)),sq] 0 none);have k3':(h5.put (h.n+1+1) (.cells [.bool (decide (x / y<0)),sq] 0 none)).ext.get (h.n+1+1+1)=some (.cells [.bool (decide (x % y<0)),st] 0 none):=by rw[au _ _ aa];exact k9
 have k6:=k5.put k3' (.cells [.bool (decide (x % y<0)),st] 0 none);refine⟨az rfl rfl rfl rfl (aO (av:=ptr (2*(h.n+1+1+1)) 0) (v:=.agg #[.bool (decide (x % y<0)),st]) ?_ ?_ ?_),?_⟩
 ·simp -dsimp (disch:=try exact dx) only[wpS,zE,f5]
 ·simp -dsimp (disch:=try exact dx) only[wpS,wpT,zL,zA,cM,q9,cC,iA]
 ·simp -dsimp (disch:=try exact dx) only[wpS,wpT,zL,zA,cM,q9,cC,iA]
 simp -dsimp (disch:=try exact dx) only[wpS,wpT,zE,zL,zA,cM,f4,f5,cC,iA];exact⟨(x5.put aa _).put aa _,_,_,rfl,hQ.ai k6,hR.ai k6⟩
end
section
abbrev ZR:List QQ:=[.bool false,.slice none 0 0,.bool false,.slice none 0 0]
def Bn (h:IH) (v:QQ) (n d:Int):Prop:=∃a s b t,v=.agg #[a,s,b,t]∧cW h (.agg #[a,s]) n∧cW h (.agg #[b,t]) d
variable {h:IH}{d n:Int}{v:QQ}{h':IH}
def Bn.ai (p:Bn h v n d) (e:bj h h'):Bn h' v n d:=let ⟨a,s,b,t,h1,h2,h3⟩:=p;⟨a,s,b,t,h1,h2.ai e,h3.ai e⟩
def jr (h:IH) (v:QQ) (q:Rat):Prop:=Bn h v q.num q.den
def jr.ai {q:Rat} (p:jr h v q) (e:bj h h'):jr h' v q:=Bn.ai p e
variable {z:Int}
def cW.eV (d:cW h v z) : ∃s,v=.agg #[.bool (decide (z<0)),s]∧s.cells = #[s]∧bB s=true:=let ⟨s,n,a,b,c,_⟩:=d.form;⟨s,a,b,c⟩
def cW.co {a s:QQ} (d:cW h (.agg #[a,s]) z):a=.bool (decide (z<0))∧s.cells = #[s]∧bB s=true:=by obtain⟨s',h1,h2,h3⟩:=d.eV;cases h1;exact⟨rfl,h2,h3⟩
variable {x k:Nat}
def bE (h:x≤2 ^ k) (hk:k<16000000):wh x:=by refine .mk (il h ?_);rw[QU 4294967296 2 500000 32 16000000 aC aC];exact T8 2 k 16000000 aC hk
def dj (h:x≤2 ^ k) (hk:k<16000000):Small x:=(bE h hk).small
def vG {w:QQ} (hv:cW h v n) (hw:cW h w d) (sn:bQ n) (sd:bQ d) (d0:d≠0) :WV Proofs.Tryz.prog (.func (.func 186) #[] #[]) [v,w] h fun r h'=>Ext h h'∧jr h' r (Rat.divInt n d):=by
 obtain⟨s,rfl,c1,o1⟩:=hv.eV;obtain⟨t,rfl,c2,o2⟩:=hw.eV;have sg:bQ (Int.gcd n d:Int):=by have h1:Int.gcd n d≤d.natAbs:=sJ aa (zw _ _);exact mu (sd.le h1)
 refine enter (nt:=34) (rs:=[.cell 4 137]) Proofs.Tryz.func186 rfl rfl rfl ab ?_;simp -dsimp (disch:=try exact dx) only[wpS,wpT,zE,zL,zA,oF,cM];obtain⟨H0,hH0,n0,E0,g0,g1,g2⟩:=jC h [.bool (decide (n<0)),s] [.bool (decide (d<0)),t] ZR;rw[←hH0];refine call (xI (hv.ai E0.ai) (hw.ai E0.ai) sn sd) ?_;rintro _ h1 ⟨hE1,hg⟩;obtain⟨sg1,rfl,c3,o3⟩:=hg.eV;have hng:decide ((Int.gcd n d:Int)<0)=false:=bF aa;rw[hng] at hg;have x1:=E0.trans hE1;have n1:=(hE1).n;try simp only[aH,aJ] at n1
 have r0:=ay (hE1.kept aa g0);simp -dsimp (disch:=try exact dx) only[wpS,wpT,zE,zL,zA,cM,kH,gY,o3,r0,Ed];obtain⟨H2,hH2⟩ : ∃H2,H2=(h1.new (.cells ZL 0 none)).put h1.n (.cells [.bool false,sg1] 0 none):=⟨_,rfl⟩;have e2:Ext h1 H2:=by rw[hH2];exact((Ext.refl _).new _).put (aA _) _
 have n2:H2.n=h1.n+1:=by rw[hH2];rfl
 have gg:H2.ext.get h1.n=some (.cells [.bool false,sg1] 0 none):=by rw[hH2];simp (disch:=try exact dx) only[aj]
 rw[←hH2];have x2:=x1.trans e2;refine call (vC (hv.ai x2.ai) (hg.ai e2.ai) sn sg (Dz d0)) ?_;rintro _ h3 ⟨hE3,q,u,rfl,hq,hu⟩;obtain⟨sq,rfl,c4,o4⟩:=hq.eV;obtain⟨su,rfl,c5,o5⟩:=hu.eV;have n3:=(hE3).n;try simp only[aH,aJ] at n3
 have x3:=x2.trans hE3;have r1:=ay (hE3.kept aa (e2.kept aa (hE1.kept aa g1)));have r3:=ay (hE3.kept aa gg);simp -dsimp (disch:=try exact dx) only[wpS,wpT,zE,zL,zA,cM,kH,gY,o4,o5,r1,r3,Ed];obtain⟨H4,hH4⟩ : ∃H4,H4=((((h3.new (.cells ZL 0 none)).new (.cells ZL 0 none)).put h3.n (.cells [.bool (decide (n / (Int.gcd n d:Int)<0)),sq] 0 none)).put (h3.n+1) (.cells [.bool (decide (n % (Int.gcd n d:Int)<0)),su] 0 none)):=⟨_,rfl⟩;have e4:Ext h3 H4:=by rw[hH4];exact((((Ext.refl _).new _).new _).put (aA _) _).put aa _
 have n4:H4.n=h3.n+2:=by rw[hH4];rfl
 have gq:H4.ext.get h3.n=some (.cells [.bool (decide (n / (Int.gcd n d:Int)<0)),sq] 0 none):=by rw[hH4];simp (disch:=try exact dx) only[aj,au]
 rw[←hH4];have x4:=x3.trans e4;refine call (vC (hw.ai x4.ai) (hg.ai ((e2.trans hE3).trans e4).ai) sd sg (Dz d0)) ?_;rintro _ h5 ⟨hE5,q2,u2,rfl,hq2,hu2⟩;obtain⟨sq2,rfl,c6,o6⟩:=hq2.eV;obtain⟨su2,rfl,c7,o7⟩:=hu2.eV;have n5:=(hE5).n;try simp only[aH,aJ] at n5
 have x5:=x4.trans hE5;simp -dsimp (disch:=try exact dx) only[wpS,wpT,zE,zL,zA,kH,gY,l6,ld4,o6,o7];obtain⟨H6,hH6⟩ : ∃H6,H6=((((h5.new (.cells ZL 0 none)).new (.cells ZL 0 none)).put h5.n (.cells [.bool (decide (d / (Int.gcd n d:Int)<0)),sq2] 0 none)).put (h5.n+1) (.cells [.bool (decide (d % (Int.gcd n d:Int)<0)),su2] 0 none)):=⟨_,rfl⟩;have e6:Ext h5 H6:=by rw[hH6];exact((((Ext.refl _).new _).new _).put (aA _) _).put aa _
 have n6:H6.n=h5.n+2:=by rw[hH6];rfl
 have gd:H6.ext.get h5.n=some (.cells [.bool (decide (d / (Int.gcd n d:Int)<0)),sq2] 0 none):=by rw[hH6];simp (disch:=try exact dx) only[aj,au]
 have x6:=x5.trans e6;have gn:=e6.kept aa (hE5.kept aa gq);have gr:=e6.kept aa (hE5.kept aa (e4.kept aa (hE3.kept aa (e2.kept aa (hE1.kept aa g2)))));have hqA:=hq.ai ((e4.trans hE5).trans e6).ai;have hqB:=hq2.ai e6.ai;rw[←hH6];clear hH0 hH2 hH4 hH6;have rn:=ay gn;have rd:=ay gd;have hls:=Ro (n:=n) d0;refine jQ (fun fr2 h7 => ∃sa sb,Ext h h7∧h7.ext.get h3.n=some (.cells [.bool (decide ((Rat.divInt n d).num<0)),sa] 0 none)∧h7.ext.get h5.n=some (.cells [.bool (decide (((Rat.divInt n d).den:Int)<0)),sb] 0 none)∧h7.ext.get (h.n+1+1)=some (.cells ZR 0 none)∧cW h7 (.agg #[.bool (decide ((Rat.divInt n d).num<0)),sa]) (Rat.divInt n d).num∧cW h7 (.agg #[.bool (decide (((Rat.divInt n d).den:Int)<0)),sb]) (Rat.divInt n d).den ∧ax fr2 4=some (ptr (2*(h.n+1+1)) 0)∧ax fr2 6=some (ptr (2*h3.n) 0)∧ax fr2 8=some (ptr (2*h5.n) 0)) (fun hb=>?_) (fun hb=>?_) ?_
 ·have hd:d<0:=hls.1 (by simpa using hb);obtain⟨b1,b2⟩:=BO (n:=n) hd;rw[hb] at hqB gd rd;refine drawn [(2,[1])] ae ae rfl ?_;simp -dsimp (disch:=try exact dx) only[wpS,wpT,zE,zL,zA,cM,rn,cC,iA];refine call (tt hqA) ?_;rintro _ h7 ⟨hE7,hA⟩;rw[b1] at hA;obtain⟨sa,rfl,c8,o8⟩:=hA.eV;have n7:=(hE7).n;try simp only[aH,aJ] at n7
  have kd:=hE7.kept aa gd;have rd7:=ay kd;simp -dsimp (disch:=try exact dx) only[wpS,wpT,zE,zL,zA,cM,rd7,cC,iA];refine call (tt (hqB.ai hE7.ai)) ?_;rintro _ h8 ⟨hE8,hB⟩;rw[b2] at hB;obtain⟨sb,rfl,c9,o9⟩:=hB.eV;have n8:=(hE8).n;try simp only[aH,aJ] at n8
  have kn8:=hE8.kept aa (hE7.kept aa gn);have kd8:=hE8.kept aa kd;have kr8:=hE8.kept aa (hE7.kept aa gr);simp -dsimp (disch:=try exact dx) only[wpS,wpT,zE,zL,zA,gY,kn8,kd8,o8,o9];refine⟨az rfl rfl rfl rfl (aO (av:=ptr (2*h5.n) 0) (v:=.agg #[.bool true,sq2]) rfl ?_ ?_),?_⟩
  ·simp -dsimp (disch:=try exact dx) only[wpS,wpT,zL,zA,cM,rd7,cC,iA];try rfl
  ·simp -dsimp (disch:=try exact dx) only[wpS,wpT,zL,zA,cM,rd,cC,iA];try rfl
  simp -dsimp (disch:=try exact dx) only[wpS,wpT,zA];have kpA:=(bj.refl h8).put kn8 (.cells [.bool (decide ((Rat.divInt n d).num<0)),sa] 0 none);have gB:(h8.put h3.n (.cells [.bool (decide ((Rat.divInt n d).num<0)),sa] 0 none)).ext.get h5.n=some (.cells [.bool true,sq2] 0 none):=by rw[au _ _ aa];exact kd8
  have kpB:=kpA.put gB (.cells [.bool (decide (((Rat.divInt n d).den:Int)<0)),sb] 0 none);have hdf:decide (((Rat.divInt n d).den:Int)<0)=false:=bF aa;rw[hdf] at kpB hB ⊢;refine⟨sa,sb,(((x6.trans hE7).trans hE8).put aa _).put aa _,by simp (disch:=try exact dx) only[aj,au],aj _ _ rfl,by simp (disch:=try exact dx) only[au];exact kr8,hA.ai (hE8.ai.trans kpB),hB.ai kpB,ab,ab,ab⟩
 ·have hd:0<d:=by
   have : ¬d<0:=fun h=>by have:=hls.2 h;simp at hb;omega
   omega
  obtain⟨b1,b2⟩:=vH (n:=n) hd;simp -dsimp (disch:=try exact dx) only[wpS,wpT];rw[b1] at gn hqA;rw[b2] at gd hqB;exact⟨sq,sq2,x6,gn,gd,gr,hqA,hqB,ab,ab,ab⟩
 rintro fr2 h7 ⟨sa,sb,x7,k1,k2,k3,hA,hB,f4,f6,f8⟩;have q1:=ay k1;have q2:=ay k2;obtain⟨_,c8,o8⟩:=hA.co;obtain⟨_,c9,o9⟩:=hB.co;rw[mE];simp -dsimp (disch:=try exact dx) only[wpS,wpT,zE,zL,zA,cM,N1,BL,BK,nv,mB,f4,f6,f8,q1,q2,k3,o8,o9,cC,iA];have hdf:decide (((Rat.divInt n d).den:Int)<0)=false:=bF aa;rw[hdf] at hB;have kp:=(bj.refl h7).put k3 (.cells [.bool (decide ((Rat.divInt n d).num<0)),sa,.bool false,sb] 0 none);exact⟨x7.put aa _,_,_,_,_,rfl,hA.ai kp,hB.ai kp⟩
end
section
variable {h:IH}{v:QQ}
def jr.parts {q:Rat} (p:jr h v q) : ∃a s b t,v=.agg #[a,s,b,t]∧cW h (.agg #[a,s]) q.num∧cW h (.agg #[b,t]) q.den∧s.cells = #[s]∧bB s=true∧t.cells = #[t]∧bB t=true∧bB a=true∧bB b=true:=by obtain⟨a,s,b,t,rfl,h1,h2⟩:=p;obtain⟨rfl,c1,o1⟩:=h1.co;obtain⟨rfl,c2,o2⟩:=h2.co;exact⟨_,s,_,t,rfl,h1,h2,c1,o1,c2,o2,rfl,rfl⟩
variable {H:IH}{s:QQ}{k:Nat}
def pl4 {a b t:QQ} (g:H.ext.get k=some (.cells [a,s,b,t] 0 none)):load prog H 135 (ptr (2*k) 0)=some (.agg #[a,s])∧load prog H 135 (ptr (2*k) 2)=some (.agg #[b,t])∧load prog H 137 (ptr (2*k) 0)=some (.agg #[a,s,b,t]):=by
 have r:=ay g;refine⟨?_,?_,?_⟩
 ·simp -dsimp (disch:=try exact dx) only[wpS,wpT,zL,zA,cM,r];rfl
 ·simp -dsimp (disch:=try exact dx) only[wpS,wpT,zL,zA,cM,r];rfl
 ·simp -dsimp (disch:=try exact dx) only[wpS,wpT,zL,zA,mB,r];rfl
def pl2 {a:QQ} (g:H.ext.get k=some (.cells [a,s] 0 none)):load prog H 135 (ptr (2*k) 0)=some (.agg #[a,s]):=by have r:=ay g;simp -dsimp (disch:=try exact dx) only[wpS,wpT,zL,zA,cM,r];rfl
variable {x y:Rat}{b:Nat}{w:QQ}{a:Nat}
def IF (hv:jr h v x) (hw:jr h w y) (qx:QB a x) (qy:QB b y) (hk:a+b+1<16000000) :WV prog (.func (.func 83) #[] #[]) [v,w] h fun r h'=>Ext h h'∧jr h' r (x+y):=by obtain⟨a1,s1,b1,t1,rfl,hn1,hd1,c1,o1,c2,o2,o3,o4⟩:=hv.parts;obtain⟨a2,s2,b2,t2,rfl,hn2,hd2,c5,o5,c6,o6,o7,o8⟩:=hw.parts;refine enter (nt:=22) (rs:=[.cell 4 137]) Proofs.Tryz.func83 rfl rfl rfl ab ?_;simp -dsimp (disch:=try exact dx) only[wpS,zE,zA,oF];obtain⟨H0,hH0,n0,E0,g0,g1,g2⟩:=jC h [a1,s1,b1,t1] [a2,s2,b2,t2] ZR;rw[←hH0];clear hH0;have X0:=Ext.refl H0;obtain⟨L1,L2,_⟩:=pl4 g0;obtain⟨L3,L4,_⟩:=pl4 g1;refine drawn [(6,[4]),(8,[4]),(12,[4,9,10]),(14,[4,9,10])] ae ae rfl ?_;simp -dsimp (disch:=try exact dx) only[wpS,wpT,zE,zL,zA,oB,cM,l5,ay g0,ay g1,tkA,tkB];refine call (hZ (hn1.ai E0.ai) (hd2.ai E0.ai) (bE qx.1 aa) (bE qy.ij aa)) ?_;rintro r1 h1 ⟨X1,p1⟩;have m1:=X1.n;simp -dsimp (disch:=try exact dx) only[wpS,wpT,zE,zL,zA,oB,cM,l5,ay (X1.kept aa g0),ay (X1.kept aa g1),tkA,tkB];refine call (hZ (hn2.ai (E0.trans X1).ai) (hd1.ai (E0.trans X1).ai) (bE qy.1 aa) (bE qx.ij aa)) ?_;rintro r2 h2 ⟨hE2,p2⟩;have m2:=hE2.n;have X2:=X1.trans hE2;simp -dsimp (disch:=try exact dx) only[wpS,zE];have b1':=dC qx.1 qy.ij;have b2':=dC qy.1 qx.ij;have b3':=qx.XZ qy;have b4':=dC qx.ij qy.ij;have sb1:bQ (x.num*y.den):=dj b1' aa;have sb2:bQ (y.num*x.den):=dj b2' aa;have sb3:bQ (x.num*y.den+y.num*x.den):=dj b3' hk;have sb4:bQ ((x.den:Int)*y.den):=dj b4' aa;refine call (yG (p1.ai hE2.ai) p2 sb1 sb2) ?_;rintro r3 h3 ⟨hE3,p3⟩;have m3:=hE3.n;have X3:=X2.trans hE3;simp -dsimp (disch:=try exact dx) only[wpS,wpT,zE,zL,zA,cM,l5,ay (X3.kept aa g0),ay (X3.kept aa g1),tkB];refine call (hZ (hd1.ai (E0.trans X3).ai) (hd2.ai (E0.trans X3).ai) (bE qx.ij aa) (bE qy.ij aa)) ?_;rintro r4 h4 ⟨hE4,p4⟩;have m4:=hE4.n;have X4:=X3.trans hE4;simp -dsimp (disch:=try exact dx) only[wpS,zE];refine call (vG (p3.ai hE4.ai) p4 sb3 sb4 (FK x y)) ?_;rintro r5 h5 ⟨hE5,p5⟩;have m5:=hE5.n;have X5:=X4.trans hE5;rw[←G4] at p5;obtain⟨a3,s3,b3,t3,rfl,_,_,d1,o1,d2,o2,o3,o4⟩:=p5.parts;have kg:=X5.kept aa g2;simp -dsimp (disch:=try exact dx) only[wpS,wpT,zE,zL,zA,nv,kg,o1,o2,o3,o4];refine⟨by repeat' first|refine aU ?_ ?_|refine bg ?_ ?_|exact az rfl rfl rfl rfl (aP (H0:=H0) rfl aa aN aN bX),?_⟩;simp -dsimp (disch:=try exact dx) only[wpS,wpT,zE,zL,zA,mB,kA];exact⟨(E0.trans X5).put aa _,p5.ai ((bj.refl _).put kg _)⟩
def OG (hv:jr h v x) (hw:jr h w y) (qx:QB a x) (qy:QB b y) (hk:a+b<16000000) :WV prog (.func (.func 87) #[] #[]) [v,w] h fun r h'=>Ext h h'∧jr h' r (x*y):=by obtain⟨a1,s1,b1,t1,rfl,hn1,hd1,c1,o1,c2,o2,o3,o4⟩:=hv.parts;obtain⟨a2,s2,b2,t2,rfl,hn2,hd2,c5,o5,c6,o6,o7,o8⟩:=hw.parts;refine enter (nt:=16) (rs:=[.cell 4 137]) Proofs.Tryz.func87 rfl rfl rfl ab ?_;simp -dsimp (disch:=try exact dx) only[wpS,zE,zA,oF];obtain⟨H0,hH0,n0,E0,g0,g1,g2⟩:=jC h [a1,s1,b1,t1] [a2,s2,b2,t2] ZR;rw[←hH0];clear hH0;have X0:=Ext.refl H0;obtain⟨L1,L2,_⟩:=pl4 g0;obtain⟨L3,L4,_⟩:=pl4 g1;have sb1:bQ (x.num*y.num):=dj (dC qx.1 qy.1) hk;have sb2:bQ ((x.den:Int)*y.den):=dj (dC qx.ij qy.ij) hk;refine drawn [(6,[4]),(8,[4])] ae ae rfl ?_;simp -dsimp (disch:=try exact dx) only[wpS,wpT,zE,zL,zA,oB,cM,ay g0,ay g1,tkA];refine call (hZ (hn1.ai E0.ai) (hn2.ai E0.ai) (bE qx.1 aa) (bE qy.1 aa)) ?_;rintro r1 h1 ⟨X1,p1⟩;have m1:=X1.n;simp -dsimp (disch:=try exact dx) only[wpS,wpT,zE,zL,zA,cM,l5,ay (X1.kept aa g0),ay (X1.kept aa g1),tkB];refine call (hZ (hd1.ai (E0.trans X1).ai) (hd2.ai (E0.trans X1).ai) (bE qx.ij aa) (bE qy.ij aa)) ?_;rintro r2 h2 ⟨hE2,p2⟩;have m2:=hE2.n;have X2:=X1.trans hE2;simp -dsimp (disch:=try exact dx) only[wpS,zE];refine call (vG (p1.ai hE2.ai) p2 sb1 sb2 (FK x y)) ?_;rintro r5 h5 ⟨hE5,p5⟩;have m5:=hE5.n;have X5:=X2.trans hE5;rw[←GZ] at p5;obtain⟨a3,s3,b3,t3,rfl,_,_,d1,o1,d2,o2,o3,o4⟩:=p5.parts;have kg:=X5.kept aa g2;simp -dsimp (disch:=try exact dx) only[wpS,wpT,zE,zL,zA,nv,kg,o1,o2,o3,o4];refine⟨by repeat' first|refine aU ?_ ?_|refine bg ?_ ?_|exact az rfl rfl rfl rfl (aP (H0:=H0) rfl aa aN aN bX),?_⟩;simp -dsimp (disch:=try exact dx) only[wpS,wpT,zE,zL,zA,mB,kA];exact⟨(E0.trans X5).put aa _,p5.ai ((bj.refl _).put kg _)⟩
def CU (hv:jr h v x) (hw:jr h w y) (qx:QB a x) (qy:QB b y) (hk:a+b<16000000) (y0:y≠0) :WV prog (.func (.func 84) #[] #[]) [v,w] h fun r h'=>Ext h h'∧jr h' r (x / y):=by obtain⟨a1,s1,b1,t1,rfl,hn1,hd1,c1,o1,c2,o2,o3,o4⟩:=hv.parts;obtain⟨a2,s2,b2,t2,rfl,hn2,hd2,c5,o5,c6,o6,o7,o8⟩:=hw.parts;refine enter (nt:=16) (rs:=[.cell 4 137]) Proofs.Tryz.func84 rfl rfl rfl ab ?_;simp -dsimp (disch:=try exact dx) only[wpS,zE,zA,oF];obtain⟨H0,hH0,n0,E0,g0,g1,g2⟩:=jC h [a1,s1,b1,t1] [a2,s2,b2,t2] ZR;rw[←hH0];clear hH0;have X0:=Ext.refl H0;obtain⟨L1,L2,_⟩:=pl4 g0;obtain⟨L3,L4,_⟩:=pl4 g1;have sb1:bQ (x.num*y.den):=dj (dC qx.1 qy.ij) hk;have sb2:bQ ((x.den:Int)*y.num):=dj (dC qx.ij qy.1) hk;refine drawn [(6,[4]),(8,[4])] ae ae rfl ?_;simp -dsimp (disch:=try exact dx) only[wpS,wpT,zE,zL,zA,oB,cM,l5,ay g0,ay g1,tkA,tkB];refine call (hZ (hn1.ai E0.ai) (hd2.ai E0.ai) (bE qx.1 aa) (bE qy.ij aa)) ?_;rintro r1 h1 ⟨X1,p1⟩;have m1:=X1.n;simp -dsimp (disch:=try exact dx) only[wpS,wpT,zE,zL,zA,oB,cM,l5,ay (X1.kept aa g0),ay (X1.kept aa g1),tkA,tkB];refine call (hZ (hd1.ai (E0.trans X1).ai) (hn2.ai (E0.trans X1).ai) (bE qx.ij aa) (bE qy.1 aa)) ?_;rintro r2 h2 ⟨hE2,p2⟩;have m2:=hE2.n;have X2:=X1.trans hE2;simp -dsimp (disch:=try exact dx) only[wpS,zE];refine call (vG (p1.ai hE2.ai) p2 sb1 sb2 (Int.mul_ne_zero (DK x) (Lo y0))) ?_;rintro r5 h5 ⟨hE5,p5⟩;have m5:=hE5.n;have X5:=X2.trans hE5;rw[←G0] at p5;obtain⟨a3,s3,b3,t3,rfl,_,_,d1,o1,d2,o2,o3,o4⟩:=p5.parts;have kg:=X5.kept aa g2;simp -dsimp (disch:=try exact dx) only[wpS,wpT,zE,zL,zA,nv,kg,o1,o2,o3,o4];refine⟨by repeat' first|refine aU ?_ ?_|refine bg ?_ ?_|exact az rfl rfl rfl rfl (aP (H0:=H0) rfl aa aN aN bX),?_⟩;simp -dsimp (disch:=try exact dx) only[wpS,wpT,zE,zL,zA,mB,kA];exact⟨(E0.trans X5).put aa _,p5.ai ((bj.refl _).put kg _)⟩
theorem U4 (x y:Rat):(if x.num*y.den<y.num*x.den then (-1:Int) else if x.num*y.den=y.num*x.den then 0 else 1)=if x<y then -1 else if x=y then 0 else 1:=by simp only[Rat.lt_iff,Rat.eq_iff_mul_eq_mul]
def MS (hv:jr h v x) (hw:jr h w y) (qx:QB a x) (qy:QB b y) (hk:a+b<16000000) :WV prog (.func (.func 90) #[] #[]) [v,w] h fun r h'=>Ext h h'∧r=KI (if x<y then -1 else if x=y then 0 else 1):=by obtain⟨a1,s1,b1,t1,rfl,hn1,hd1,c1,o1,c2,o2,o3,o4⟩:=hv.parts;obtain⟨a2,s2,b2,t2,rfl,hn2,hd2,c5,o5,c6,o6,o7,o8⟩:=hw.parts;refine enter (nt:=16) (rs:=[.tmp 4]) Proofs.Tryz.func90 rfl rfl rfl ab ?_;simp -dsimp (disch:=try exact dx) only[wpS,zE,zA];obtain⟨H0,hH0,n0,E0,g0,g1⟩:=ko h [a1,s1,b1,t1] [a2,s2,b2,t2];rw[←hH0];clear hH0;have X0:=Ext.refl H0;obtain⟨L1,L2,_⟩:=pl4 g0;obtain⟨L3,L4,_⟩:=pl4 g1;have sb1:bQ (x.num*y.den):=dj (dC qx.1 qy.ij) hk;have sb2:bQ (y.num*x.den):=dj (by rw[xf];exact dC qy.1 qx.ij) hk;refine drawn [(6,[4]),(8,[4])] ae ae rfl ?_;simp -dsimp (disch:=try exact dx) only[wpS,wpT,zE,zL,zA,oB,cM,l5,ay g0,ay g1,tkA,tkB];refine call (hZ (hn1.ai E0.ai) (hd2.ai E0.ai) (bE qx.1 aa) (bE qy.ij aa)) ?_;rintro r1 h1 ⟨X1,p1⟩;have m1:=X1.n;simp -dsimp (disch:=try exact dx) only[wpS,wpT,zE,zL,zA,oB,cM,l5,ay (X1.kept aa g0),ay (X1.kept aa g1),tkA,tkB];refine call (hZ (hn2.ai (E0.trans X1).ai) (hd1.ai (E0.trans X1).ai) (bE qy.1 aa) (bE qx.ij aa)) ?_;rintro r2 h2 ⟨hE2,p2⟩;have m2:=hE2.n;have X2:=X1.trans hE2;simp -dsimp (disch:=try exact dx) only[wpS,zE];refine call (Nc (p1.ai hE2.ai) p2 sb1 sb2) ?_;rintro _ h5 ⟨hE5,rfl⟩;have X5:=X2.trans hE5;rw[U4];simp -dsimp (disch:=try exact dx) only[wpS,zE];refine⟨by repeat' first|refine aU ?_ ?_|refine bg ?_ ?_|exact az rfl rfl rfl rfl (aP (H0:=H0) rfl aa aN aN bX),?_⟩;simp -dsimp (disch:=try exact dx) only[wpS,wpT,zE,zA];exact E0.trans X5
def KT (hv:jr h v x) :WV prog (.func (.func 247) #[] #[]) [v] h fun r h'=>Ext h h'∧jr h' r (-x):=by obtain⟨a1,s1,b1,t1,rfl,hn1,hd1,c1,o1,c2,o2,o3,o4⟩:=hv.parts;refine enter (nt:=9) (rs:=[.cell 2 137]) Proofs.Tryz.func247 rfl rfl rfl ab ?_;simp -dsimp (disch:=try exact dx) only[wpS,oF];obtain⟨H0,hH0,n0,E0,g0,g1⟩:=ko h [a1,s1,b1,t1] ZR;rw[←hH0];clear hH0;have X0:=Ext.refl H0;obtain⟨L1,L2,_⟩:=pl4 g0;refine drawn [(4,[2])] ae ae rfl ?_;simp -dsimp (disch:=try exact dx) only[wpS,wpT,zE,zL,zA,oB,cM,ay g0,tkA];refine call (tt (hn1.ai E0.ai)) ?_;rintro r1 h1 ⟨X1,p1⟩;have m1:=X1.n;obtain⟨s3,rfl,c5,o5⟩:=p1.eV;have kg:=X1.kept aa g1;simp -dsimp (disch:=try exact dx) only[wpS,wpT,zE,zL,zA,cM,l5,N1,BL,BK,nv,ay (X1.kept aa g0),kg,tkB,o5,o2,o4];refine⟨by repeat' first|refine aU ?_ ?_|refine bg ?_ ?_|exact az rfl rfl rfl rfl (aP (H0:=H0) rfl aa aN aN bX),?_⟩;simp -dsimp (disch:=try exact dx) only[wpS,wpT,zE,zL,zA,mB,kA];have kp:=(bj.refl h1).put kg (.cells [.bool (decide (-x.num<0)),s3,b1,t1] 0 none);exact⟨(E0.trans X1).put aa _,_,_,_,_,rfl,p1.ai kp,hd1.ai ((E0.trans X1).ai.trans kp)⟩
def OI (hv:jr h v x) (hw:jr h w y) (qx:QB a x) (qy:QB b y) (hk:a+b+1<16000000) :WV prog (.func (.func 198) #[] #[]) [v,w] h fun r h'=>Ext h h'∧jr h' r (x - y):=by obtain⟨a1,s1,b1,t1,rfl,hn1,hd1,c1,o1,c2,o2,o3,o4⟩:=hv.parts;obtain⟨a2,s2,b2,t2,rfl,hn2,hd2,c5,o5,c6,o6,o7,o8⟩:=hw.parts;refine enter (nt:=9) (rs:=[.cell 4 137]) Proofs.Tryz.func198 rfl rfl rfl ab ?_;simp -dsimp (disch:=try exact dx) only[wpS,zE,zA,oF];obtain⟨H0,hH0,n0,E0,g0,g1,g2⟩:=jC h [a1,s1,b1,t1] [a2,s2,b2,t2] ZR;rw[←hH0];clear hH0;have X0:=Ext.refl H0;obtain⟨_,_,L1⟩:=pl4 g0;obtain⟨_,_,L2⟩:=pl4 g1;refine drawn [(0,[3])] ae ae rfl ?_;simp -dsimp (disch:=try exact dx) only[wpS,wpT,zE,zL,zA,mB,ay g0,ay g1,kA];refine call (KT (hw.ai E0.ai)) ?_;rintro r1 h1 ⟨X1,p1⟩;have m1:=X1.n;simp -dsimp (disch:=try exact dx) only[wpS,zE];refine call (IF (hv.ai (E0.trans X1).ai) p1 qx qy.neg hk) ?_;rintro r2 h2 ⟨hE2,p2⟩;have X2:=X1.trans hE2;have m2:=hE2.n;rw[←Rat.sub_eq_add_neg] at p2;obtain⟨a3,s3,b3,t3,rfl,_,_,d1,o1,d2,o2,o3,o4⟩:=p2.parts;have kg:=X2.kept aa g2;simp -dsimp (disch:=try exact dx) only[wpS,wpT,zE,zL,zA,nv,kg,o1,o2,o3,o4];refine⟨by repeat' first|refine aU ?_ ?_|refine bg ?_ ?_|exact az rfl rfl rfl rfl (aP (H0:=H0) rfl aa aN aN bX),?_⟩;simp -dsimp (disch:=try exact dx) only[wpS,wpT,zE,zL,zA,mB,kA];exact⟨(E0.trans X2).put aa _,p2.ai ((bj.refl _).put kg _)⟩
end
end Go.Id
