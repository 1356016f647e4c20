/-
  Contracts: wide integers of the program: from and to integers.
-/
import Derived.Test.YtnnmjocmapilaaaGreatOutlierRisesAn
set_option linter.unusedVariables false
set_option linter.unusedSimpArgs false
set_option linter.defProp false
set_option linter.deprecated false
namespace Go.Id
open Go
open Go.Proofs.Tryz (prog)
open Nat renaming reduceAdd→zA,reduceEqDiff→zE,reduceLeDiff→zL
theorem sC (n:Nat):wdC n=((List.range 8).map fun i=>(wrd n i:Int)).map (Value.int .u64):=by simp[wdC]
variable {m n:Nat}
def TV (hn:n<W8) (hm:m<W8) (h : ∀i,i<8→wrd n i=wrd m i):n=m:=by
 have key : ∀i,i≤8→n % 18446744073709551616 ^ i=m % 18446744073709551616 ^ i:=by
  intro i
  induction i with
  | zero=>intro _;rw[Nat.pow_zero,Nat.mod_one,Nat.mod_one]
  | succ i ih=>intro hi;rw[EU,EU,ih (by omega),h i (by omega)]
 have:=key 8 (Nat.le_refl _)
 rw[←wF] at this
 rwa [Nat.mod_eq_of_lt hn,Nat.mod_eq_of_lt hm] at this
theorem Jb (hn:n<W8) (hm:m<W8):decide (((List.range 8).map fun i=>(wrd n i:Int))=((List.range 8).map fun i=>(wrd m i:Int)))=decide (n=m):=by
 rw[Bool.eq_iff_iff];simp only[decide_eq_true_eq]
 constructor
 ·intro h
  refine TV hn hm fun i hi=>?_
  have:=congrArg (fun l=>l[i]?) h
  simp[hi] at this
  omega
 ·rintro rfl;rfl
theorem Qi (hn:n<W8) (hm:m<W8) (ox oy:Operand):binop prog .eql 30 ox oy (.agg (wdC n).toArray) (.agg (wdC m).toArray)=some (.bool (decide (n=m))):=by
 rw[sC,sC,Ce u30 u28 Ei eg30 _ _ _ _ (by simp) (by simp),Jb hn hm]
def Qh (hn:n<W8) (hm:m<W8) (ox oy:Operand):binop prog .neq 30 ox oy (.agg (wdC n).toArray) (.agg (wdC m).toArray)=some (.bool (!decide (n=m))):=by
 rw[sC,sC,Cc u30 u28 Ei eg30 _ _ _ _ (by simp) (by simp),Jb hn hm]
theorem Gn {n:Int} (h:0≤n):aY n=n.toNat:=by simp[aY,h]
def DS {n:Int} (hn:fZ n) (i:Nat) (hi:i<8):(wrd (aY n) i:Int)=if i=0 then n % 18446744073709551616 else if n<0 then 18446744073709551615 else 0:=by
 by_cases h0:0≤n
 ·rw[aY,if_pos h0]
  by_cases hz:i=0
  ·subst hz
   rw[if_pos rfl,wrd,Nat.pow_zero,Nat.div_one];omega
  ·rw[if_neg hz,if_neg (by omega),uJ (i:=1) (by omega) (by omega)];rfl
 ·rw[aY,if_neg h0]
  obtain⟨u,hu⟩:=aT (n.natAbs:Nat)
  rw[←hu]
  have e:W8 - u=(18446744073709551616 - u)+18446744073709551616*(18446744073709551616 ^ 7 - 1):=by
   rw[wF];omega
  by_cases hz:i=0
  ·subst hz
   rw[if_pos rfl,wrd,Nat.pow_zero,Nat.div_one,e,Nat.add_mul_mod_self_left];omega
  ·rw[if_neg hz,if_pos (by omega)]
   obtain⟨k,rfl⟩ : ∃k,i=k+1:=⟨i - 1,by omega⟩
   have e3:((18446744073709551616 - u)+18446744073709551616*(18446744073709551616 ^ 7 - 1)) / 18446744073709551616=18446744073709551616 ^ 7 - 1:=by
    rw[Nat.add_mul_div_left _ _ (by omega),Nat.div_eq_of_lt (by omega),Nat.zero_add]
   rw[wrd,Nat.pow_succ',←Nat.div_div_eq_div_mul,e,e3]
   have hk:k<7:=by omega
   have hk2:k=0∨k=1∨k=2∨k=3∨k=4∨k=5∨k=6:=by omega
   rcases hk2 with rfl|rfl|rfl|rfl|rfl|rfl|rfl<;>rfl
def mo (w0:Int) (i:Nat):List Value:=(List.range 8).map fun j=>.int .u64 (if j=0 then w0 else if j<i then 18446744073709551615 else 0)
theorem jP (w0:Int) (i:Nat):(mo w0 i).length=8:=by simp[mo]
theorem Ci (w0:Int):mo w0 1 = [.int .u64 w0,.int .u64 0,.int .u64 0,.int .u64 0,.int .u64 0,.int .u64 0,.int .u64 0,.int .u64 0]:=by
 simp[mo,List.range_succ]
def NS (w0:Int) {i:Nat} (h0:0<i) (hi:i<8):(mo w0 i).set i (.int .u64 18446744073709551615)=mo w0 (i+1):=by
 apply List.ext_getElem?
 intro j
 rw[List.getElem?_set,jP]
 by_cases hij:i=j
 ·subst hij
  rw[if_pos rfl,if_pos hi]
  simp[mo,hi,show ¬i=0 by omega]
 ·rw[if_neg hij]
  by_cases hj:j<8
  ·simp only[mo,List.getElem?_map,List.getElem?_range hj,Option.map_some]
   by_cases hz:j=0
   ·simp[hz]
   ·by_cases hlt:j<i
    ·simp[hz,hlt,show j<i+1 by omega]
    ·simp[hz,hlt,show ¬j<i+1 by omega]
  ·rw[List.getElem?_eq_none (by rw[jP];omega),List.getElem?_eq_none (by rw[jP];omega)]
theorem NU {n:Int} (hn:fZ n) (h0:n<0):mo (n % 18446744073709551616) 8=wdC (aY n):=by
 apply List.ext_getElem?
 intro j
 by_cases hj:j<8
 ·rw[dG _ _ hj]
  simp only[mo,List.getElem?_map,List.getElem?_range hj,Option.map_some,K64,DS hn j hj]
  simp[h0,hj]
 ·rw[List.getElem?_eq_none (by rw[jP];omega),List.getElem?_eq_none (by rw[aA];omega)]
theorem NT {n:Int} (hn:fZ n) (h0 : ¬n<0):mo (n % 18446744073709551616) 1=wdC (aY n):=by
 apply List.ext_getElem?
 intro j
 by_cases hj:j<8
 ·rw[dG _ _ hj]
  simp only[mo,List.getElem?_map,List.getElem?_range hj,Option.map_some,K64,DS hn j hj]
  by_cases hz:j=0
  ·simp[hz]
  ·simp[h0,hz]
 ·rw[List.getElem?_eq_none (by rw[jP];omega),List.getElem?_eq_none (by rw[aA];omega)]
variable {h:IH}
set_option maxRecDepth 100000 in
def oB (n:Int) (hn:fZ n):WV prog (.func (.func 106) #[] #[]) [KI n] h fun r h'=>Ext h h'∧r=qe n:=by
 have hw:IntKind.u64.wrap n=n % 18446744073709551616:=tw n
 have hE : ∀a b c,Ext h (((h.new a).new b).put (h.n+1) c):=fun a b c=>(((Ext.refl h).new _).new _).put (by omega) _
 have fin : ∀h1:IH,Ext h h1→h.n+1<h1.n→h1.ext.get (h.n+1)=some (.cells (wdC (aY n)) 0 none)→h1.ext.get h.n=some (.cells [ZW,ZW,ZW,ZW,ZW,ZW,ZW,ZW] 0 none)→True:=fun _ _ _ _ _=>trivial
 refine enter (nt:=17) (rs:=[.cell 2 30]) Proofs.Tryz.func106 rfl rfl rfl (by simp) ?_
 simp -dsimp (disch:=omega) only[wpR]
 rw[kX]
 simp -dsimp (disch:=try exact dx) only[wpR,nW]
 rw[kX]
 simp -dsimp (disch:=try exact dx) only[wpR,wpT,zE,zL,zA,nW,FE,FL,Yd,lh,hw]
 rw[kX]
 refine cut (fun fr2 h2=>Ext h h2∧ab fr2 2=some (ptr (2*h.n) 0)∧ab fr2 3=some (ptr (2*(h.n+1)) 0)∧h.n+1<h2.n∧h2.ext.get (h.n+1)=some (.cells (wdC (aY n)) 0 none)∧h2.ext.get h.n=some (.cells [ZW,ZW,ZW,ZW,ZW,ZW,ZW,ZW] 0 none)) ?_ ?_
 ·by_cases h0:n<0
  ·simp -dsimp (disch:=try exact dx) only[wpS,zE,wh h0]
   refine loop (fun m fr h2 => ∃i:Nat,i+m=8∧0<i∧ab fr 2=some (ptr (2*h.n) 0)∧ab fr 3=some (ptr (2*(h.n+1)) 0)∧ab fr 4=some (KN i)∧Ext h h2∧h.n+1<h2.n∧h2.ext.get (h.n+1)=some (.cells (mo (n % 18446744073709551616) i) 0 none)∧h2.ext.get h.n=some (.cells [ZW,ZW,ZW,ZW,ZW,ZW,ZW,ZW] 0 none)) 7 ⟨1,by simp,by simp,by simp,by simp,by simp,hE _ _ _,by simp,?_,?_⟩ ?_
   ·rw[Ci];exact ae _ _ rfl
   ·simp -dsimp (disch:=try exact dx) only[wpS]
   ·rintro m fr h2 ⟨i,him,hi0,f2,f3,f4,hE2,hlt,hg1,hg0⟩
    simp -dsimp (disch:=omega) only[wpS,zE,f4]
    refine au ?_ ?_<;>intro hc<;>simp only[decide_eq_true_eq,decide_eq_false_iff_not] at hc
    ·have hi:i<8:=by omega
     have hsp:IH.aJ (mo (n % 18446744073709551616) i) i [.int .u64 18446744073709551615]=mo (n % 18446744073709551616) (i+1):=by
      rw[gS (by rw[jP];exact hi),NS _ hi0 hi]
     simp -dsimp (disch:=omega) only[wpS,wpT,zE,zL,uG,wP,f3,f4,uG,hg1,jP,hsp]
     refine⟨m - 1,by omega,i+1,by omega,by omega,by simp[f2],by simp[f3],by simp,hE2.put (by omega) _,by simpa using hlt,ae _ _ rfl,?_⟩
     rw[ak _ _ (by omega)];exact hg0
    ·obtain rfl:i=8:=by omega
     simp -dsimp (disch:=try exact dx) only[wpS,wpT]
     exact⟨hE2,by simp[f2],by simp[f3],hlt,by rw[hg1,NU hn h0],hg0⟩
  ·simp -dsimp (disch:=try exact dx) only[wpS,zE,wk h0]
   refine⟨hE _ _ _,by simp,by simp,by simp,?_,?_⟩
   ·rw[←NT hn h0,Ci];exact ae _ _ rfl
   ·simp -dsimp (disch:=try exact dx) only[wpS]
 ·rintro fr2 h2 ⟨hE2,f2,f3,hlt,hg1,hg0⟩
  have fA:h2.row (2*(h.n+1))=some (wdC (aY n)):=by rw[jD];exact By hg1
  have Kd:IH.aJ [ZW,ZW,ZW,ZW,ZW,ZW,ZW,ZW] 0 (wdC (aY n))=wdC (aY n):=iX (by rw[aA];rfl)
  simp -dsimp (disch:=omega) only[wpS,wpT,zE,zL,zA,lh,fh,f2,f3,fA,hg0,aA,bZ,cm,Kd]
  exact⟨hE2.put (by omega) _,rfl⟩
set_option maxRecDepth 100000 in
def I9 (a:Nat) (ha:a<W8):WV prog (.func (.func 182) #[] #[]) [wdV a] h fun r h'=>Ext h h'∧r=if fZ (wdI a) then .tuple #[KI (wdI a),KI 0] else .tuple #[KI 0,KI 6]:=by
 have h0:=wK a 0
 obtain⟨n,hn⟩:=aT (IntKind.i64.wrap (wrd a 0:Int))
 have hn64:fZ n:=by rw[hn,V4];omega
 have inw:InW (wdI a):=by
  have:=ow
  unfold InW wdI
  split<;>omega
 have hiff:aY n=a↔fZ (wdI a)∧wdI a=n:=by
  constructor
  ·intro h1
   have h2:wdI a=n:=by
    rw[←h1]
    exact cB (by have:=se;unfold InW;omega)
   exact⟨by rw[h2];exact hn64,h2⟩
  ·rintro⟨h1,h2⟩
   rw[←h2]
   have:=ow
   unfold aY wdI
   split<;>split<;>omega
 have hn2:fZ (wdI a)→wdI a=n:=by
  intro h1
  have h2:aY (wdI a)=a:=by
   have:=ow
   unfold aY wdI
   split<;>split<;>omega
  have h3:=DS h1 0 (by omega)
  rw[h2,if_pos rfl] at h3
  rw[hn,h3,V4];omega
 refine enter (nt:=13) (rs:=[.tmp 2,.tmp 3]) Proofs.Tryz.func182 rfl rfl rfl (by simp) ?_
 simp -dsimp (disch:=omega) only[wpS,zE,uG,tj,Bu,Gs,uG,dG a 0 (by omega),show qj 0 8=some 0 from rfl,←hn]
 refine drawn [(2,[1])] (by kernel_rfl) (by kernel_rfl) rfl ?_
 simp -dsimp (disch:=omega) only[wpS,zE]
 refine call (oB n hn64) ?_
 rintro r h1 ⟨hE,rfl⟩
 have hr:h1.row (2*h.n)=some (wdC a):=by rw[hE.row (by simp)];exact jC _ _ _ _ rfl
 have hEE:=((Ext.refl h).new _).trans hE
 simp -dsimp (disch:=omega) only[wpS,zE,zL,fh,hr,aA,bZ,wdV,Qh (ec (show InW n by have:=se;unfold InW;omega)) ha]
 refine⟨ad rfl rfl rfl rfl (ai (av:=ptr (2*h.n) 0) (v:=wdV a) rfl ?_ ?_),?_⟩
 ·simp -dsimp (disch:=omega) only[wpS,zL,fh,hr,aA,bZ]
  rfl
 ·simp -dsimp (disch:=omega) only[wpS,zL,fh,aA,bZ]
  rfl
 ·by_cases he:aY n=a
  ·have h2:=hiff.1 he
   simp -dsimp (disch:=omega) only[wpS,wpT,zE,zA,show decide (aY n=a)=true by simpa using he]
   refine⟨hEE,?_⟩
   rw[if_pos h2.1,h2.2]
  ·simp -dsimp (disch:=omega) only[wpS,wpT,zE,zA,show decide (aY n=a)=false by simpa using he]
   refine⟨hEE,?_⟩
   rw[if_neg]
   intro h2
   exact he (hiff.2 ⟨h2,hn2 h2⟩)
end Go.Id
namespace Go.Id
open Go
def wds (n:Nat):List Nat:=(List.range 8).map (wrd n)
theorem kB (n:Nat):(wds n).length=8:=by simp[wds]
def pd (n:Nat):B.bJ (wds n):=fun d hd=>by
 simp only[wds,List.mem_map] at hd
 obtain⟨i,_,rfl⟩:=hd
 exact wK _ _
theorem nm (n:Nat):wdC n=(wds n).map K64:=by simp[wdC,wds]
theorem Lk (n:Nat) {i:Nat} (hi:i<8):(wds n).getD i 0=wrd n i:=by
 rw[List.getD_eq_getElem?_getD];simp[wds,hi]
theorem zF (n:Nat) : ∀i,i≤8→B.aI (wds n) i=n % 18446744073709551616 ^ i
 | 0,_=>by simp[B.aI,Nat.mod_one]
 | i+1,h=>by
  rw[B.aI,zF n i (by omega),Lk n (by omega),wrd,Nat.pow_succ,Nat.mod_mul,Nat.mul_comm]
theorem DO:W8=18446744073709551616 ^ 8:=by unfold W8;rfl
theorem eP:H8+H8=W8:=by unfold W8 H8;rfl
theorem iJ:0<H8:=by unfold H8;decide
theorem DY {n:Nat} (h:n<W8):B.ao (wds n)=n:=by
 rw[B.ao,kB,zF n 8 (Nat.le_refl _),←DO,Nat.mod_eq_of_lt h]
variable {ds:List Nat}
theorem Ja (hl:ds.length=8) (hd:B.bJ ds):wds (B.ao ds)=ds:=by
 apply List.ext_getElem (by rw[kB,hl])
 intro i h1 h2
 rw[kB] at h1
 have e1:=Lk (B.ao ds) h1
 have e2:=B.rR hd i
 rw[wrd,←e2] at e1
 rw[List.getD_eq_getElem?_getD,List.getD_eq_getElem?_getD,List.getElem?_eq_getElem (by rw[kB];exact h1),List.getElem?_eq_getElem h2] at e1
 simpa using e1
def Ua (hl:ds.length=8) (hd:B.bJ ds):B.ao ds<W8:=by
 have:=B.jz hd
 rwa [hl,←DO] at this
def cM (n:Nat):(wdV n).cells.toList=wdC n:=rfl
set_option maxHeartbeats 2000000 in
def pC {h:IH} (a b:Nat) (ha:a<W8) (hb:b<W8):WV Proofs.Tryz.prog (.func (.func 243) #[] #[]) [wdV a,wdV b] h fun r h'=>Ext h h' ∧ ∃m bor,r=.tuple #[wdV m,K64 bor]∧m<W8∧bor≤1∧a+bor*W8=b+m:=by
 refine enter (nt:=27) (rs:=[.cell 4 244,.tmp 5]) Proofs.Tryz.func243 rfl rfl rfl (by simp) ?_
 simp -dsimp (maxSteps:=1000000) (disch:=first|omega|(simp only[aH,aM];omega)|decide +kernel|(repeat first|rw[aH]|rw[aM])) only[wpS,Nat.reduceEqDiff,Nat.reduceAdd,P3,cM]
 rw[nm a,nm b]
 have lA:=kB a
 have lB:=kB b
 refine loop (fun m fr h1 => ∃(i bor:Nat) (os:List Nat),i+m=8∧Ext h h1∧h.n+3≤h1.n∧h1.ext.get h.n=some (.cells (os.map K64) 0 none)∧h1.ext.get (h.n+1)=some (.cells ((wds b).map K64) 0 none)∧(∃c,h1.ext.get (h.n+1+1)=some (.cells c 0 none)∧c.length=8)∧bor≤1∧os.length=8∧B.bJ os∧(∀j,i≤j→os.getD j 0=(wds a).getD j 0) ∧
   B.aI (wds a) i+bor*18446744073709551616 ^ i=B.aI (wds b) i+B.aI os i∧ab fr 2=some (ptr (2*h.n) 0)∧ab fr 3=some (ptr (2*(h.n+1)) 0)∧ab fr 4=some (ptr (2*(h.n+1+1)) 0)∧ab fr 6=some (K64 bor)∧ab fr 8=some (KN i)) 8
  ⟨0,0,wds a,rfl,(((Ext.refl h).new _).new _).new _,by simp<;>omega,by simp (disch:=first|omega|(simp only[aH,aM];omega)|(repeat first|rw[aH]|rw[aM])) only[ah,aq],by simp (disch:=first|omega|(simp only[aH,aM];omega)|(repeat first|rw[aH]|rw[aM])) only[ah,aq],⟨[ZW,ZW,ZW,ZW,ZW,ZW,ZW,ZW],by simp (disch:=first|omega|(simp only[aH,aM];omega)|(repeat first|rw[aH]|rw[aM])) only[ah],rfl⟩,by omega,lA,pd a,fun _ _=>rfl,by simp[B.aI]⟩ ?_
 rintro m fr h1 ⟨i,bor,os,him,hE,hn,hg,hg1,hg2,Sj,hol,hod,hoa,hv,f2,f3,f4,f6,f8⟩
 simp -dsimp (maxSteps:=1000000) (disch:=first|omega|(simp only[aH,aM];omega)|decide +kernel|(repeat first|rw[aH]|rw[aM])) only[wpS,f8]
 refine au ?_ ?_<;>intro hc<;>simp only[decide_eq_true_eq,decide_eq_false_iff_not] at hc
 ·have hi:i<8:=by omega
  have r0:=bT hg
  have r1:=bT hg1
  have go:=get_some (show i<os.length by omega)
  have gb:=get_some (show i<(wds b).length by omega)
  have hx:=hoa i (Nat.le_refl _)
  have dx:=B.bS hod i
  have dy:=B.bS (pd b) i
  obtain⟨x,hx1⟩:=aT (os.getD i 0)
  obtain⟨y,hy1⟩:=aT ((wds b).getD i 0)
  rw[←hx1] at go dx hx
  rw[←hy1] at gb dy
  simp -dsimp (maxSteps:=1000000) (disch:=first|omega|(simp only[aH,aM];omega)|decide +kernel|(repeat first|rw[aH]|rw[aM])) only[wpS,wpT,Nat.reduceEqDiff,ND,tj,f2,f3,f6,f8,r0,r1,cp,go,gb]
  refine call (GI x y bor Sj) ?_
  rintro _ _ ⟨rfl,rfl⟩
  generalize hdd:(x+18446744073709551616 - y - bor) % 18446744073709551616=d
  obtain⟨b2,hb2,hb1,jY⟩ : ∃b2:Nat,(bif Nat.blt x (y+bor) then 1 else 0)=b2∧b2≤1∧x+b2*18446744073709551616=y+bor+d:=by
   by_cases hlt:x<y+bor
   ·have e:Nat.blt x (y+bor)=true:=by simp only[Nat.blt,Nat.ble_eq];exact hlt
    refine⟨1,by rw[e];rfl,by omega,by omega⟩
   ·have e:Nat.blt x (y+bor)=false:=by rw[Bool.eq_false_iff];intro h;simp[Nat.blt] at h;omega
    refine⟨0,by rw[e];rfl,by omega,by omega⟩
  rw[hb2]
  have hd2:d<18446744073709551616:=by omega
  have spl:=kE d (show i<os.length by omega)
  rename_i h3
  simp -dsimp (maxSteps:=1000000) (disch:=first|omega|(simp only[aH,aM];omega)|decide +kernel|(repeat first|rw[aH]|rw[aM])) only[wpS,wpT,Nat.reduceEqDiff,Nat.reduceLeDiff,ND,wP,f2,f8,hg,spl,List.length_map,hol]
  obtain⟨c,hgc,hcl⟩:=hg2
  refine⟨m - 1,by omega,i+1,b2,os.set i d,by omega,hE.put (Nat.le_refl _) _,hn,ae _ _ rfl,by simp (disch:=first|omega|(simp only[aH,aM];omega)|(repeat first|rw[aH]|rw[aM])) only[ak];exact hg1,⟨c,by simp (disch:=first|omega|(simp only[aH,aM];omega)|(repeat first|rw[aH]|rw[aM])) only[ak];exact hgc,hcl⟩,hb1,by rw[List.length_set,hol],hod.set _ hd2,?_,?_,by simp[f2,f3,f4]⟩
  ·intro j hj
   rw[B.dD (by omega),if_neg (by omega)]
   exact hoa j (by omega)
  ·rw[kC (by omega),B.aI,B.aI,←hx,←hy1,Nat.pow_succ]
   have e3:x*18446744073709551616 ^ i+b2*(18446744073709551616 ^ i*18446744073709551616)=(y+bor+d)*18446744073709551616 ^ i:=by rw[←jY];grind
   have e4:(y+bor+d)*18446744073709551616 ^ i=y*18446744073709551616 ^ i+bor*18446744073709551616 ^ i+d*18446744073709551616 ^ i:=by grind
   omega
 ·obtain rfl:i=8:=by omega
  have r0:=bT hg
  have lm:(os.map K64).length=8:=by rw[List.length_map,hol]
  have all:=MQ os
  have tk8:List.take 8 (List.drop 0 (os.map K64))=os.map K64:=by rw[List.drop_zero,List.take_of_length_le (by omega)]
  obtain⟨c,hgc,hcl⟩:=hg2
  have hsp:IH.aJ c 0 (os.map K64)=os.map K64:=iX (by rw[hcl,lm])
  simp -dsimp (maxSteps:=1000000) (disch:=first|omega|(simp only[aH,aM];omega)|decide +kernel|(repeat first|rw[aH]|rw[aM])) only[wpS,wpT,Nat.reduceEqDiff,Nat.reduceLeDiff,yd,GP,f2,f4,f6,r0,lm,all,tk8,hgc,hcl,hsp]
  rw[←Ja hol hod,←nm] 
  have e8 : ∀n,n<W8→B.aI (wds n) 8=n:=fun n hn=>by rw[zF n 8 (Nat.le_refl _),←DO,Nat.mod_eq_of_lt hn]
  rw[e8 a ha,e8 b hb,←DO] at hv
  have hvo:B.aI os 8=B.ao os:=by rw[B.ao,hol]
  rw[hvo] at hv
  exact⟨hE.put (by omega) _,B.ao os,bor,rfl,Ua hol hod,Sj,hv⟩
open Go.Proofs.Tryz (prog)
open Nat (reduceMul)
open Nat renaming reduceAdd→zA,reduceEqDiff→zE,reduceLeDiff→zL
variable {h:IH}
def u6 (a b:Nat) (ha:a<W8) (hb:b<W8):WV prog (.func (.func 215) #[] #[]) [wdV a,wdV b] h fun r h'=>Ext h h'∧r=KI (if a<b then -1 else if a=b then 0 else 1):=by
 refine enter (nt:=24) (rs:=[.tmp 4]) Proofs.Tryz.func215 rfl rfl rfl (by simp) ?_
 simp -dsimp (disch:=omega) only[wpS,zE,zA,cM]
 rw[nm a,nm b]
 have lA:=kB a
 have lB:=kB b
 have e2 : ∀o1 o2,Ext h ((h.new o1).new o2):=fun o1 o2=>((Ext.refl h).new _).new _
 have hA:B.ao (wds a)=a:=DY ha
 have hB:B.ao (wds b)=b:=DY hb
 refine loop (fun m fr h1=>h1=((h.new (.cells ((wds a).map K64) 0 none)).new (.cells ((wds b).map K64) 0 none))∧m≤8∧(∀j,m≤j→j<8→(wds a).getD j 0=(wds b).getD j 0) ∧
   ab fr 2=some (ptr (2*h.n) 0)∧ab fr 3=some (ptr (2*(h.n+1)) 0)∧ab fr 5=some (KI ((m:Int) - 1))) 8
  ⟨rfl,Nat.le_refl _,fun j h1 h2=>by omega,by simp⟩ ?_
 rintro m fr h1 ⟨rfl,hm,hz,f2,f3,f5⟩
 rcases Nat.eq_zero_or_pos m with rfl|hp
 ·simp -dsimp (disch:=omega) only[wpS,wpT,zE,f5]
  refine⟨e2 _ _,?_⟩
  have:=B.mj (lA.trans lB.symm) (fun j hj=>hz j (Nat.zero_le _) (by omega))
  rw[hA,hB] at this
  rw[if_neg (by omega),if_pos this]
 ·obtain⟨k,rfl⟩ : ∃k,m=k+1:=⟨m - 1,by omega⟩
  have h2:(((k+1:Nat):Int) - 1)=(k:Int):=by omega
  rw[h2] at f5
  have ga:=get_some (show k<(wds a).length by omega)
  have gb:=get_some (show k<(wds b).length by omega)
  have da:=B.bS (pd a) k
  have db:=B.bS (pd b) k
  have key:((wds a).getD k 0<(wds b).getD k 0→a<b)∧((wds b).getD k 0<(wds a).getD k 0→b<a):=by
   have k1:=fun h=>B.jW (pd a) (lA.trans lB.symm) (show k<(wds a).length by omega) h (fun j x y=>hz j (by omega) (by omega))
   have k2:=fun h=>B.jW (pd b) (lB.trans lA.symm) (show k<(wds b).length by omega) h (fun j x y=>(hz j (by omega) (by omega)).symm)
   rw[hA,hB] at k1 k2
   exact⟨k1,k2⟩
  obtain⟨x,hx⟩:=aT ((wds a).getD k 0)
  obtain⟨y,hy⟩ : ∃x,x=(wds b).getD k 0:=⟨_,rfl⟩
  rw[←hx] at ga da key
  rw[←hy] at gb db key
  simp -dsimp (disch:=try exact dx) only[wpS,wpT,zE,ND,tj,f2,f3,f5,cp,ga,gb]
  refine au ?_ ?_<;>intro hc<;>simp only[bne_iff_ne,bne_eq_false_iff_eq,ne_eq] at hc
  ·simp -dsimp (disch:=try exact dx) only[wpS,wpT,zE,ND,tj,f2,f3,f5,cp,ga,gb]
   refine au ?_ ?_<;>intro hc2<;>simp only[decide_eq_true_eq,decide_eq_false_iff_not] at hc2
   ·simp -dsimp (disch:=omega) only[wpS,wpT,zE]
    have:=key.1 (by omega)
    exact⟨e2 _ _,by rw[if_pos this]⟩
   ·simp -dsimp (disch:=omega) only[wpS,wpT]
    have:=key.2 (by omega)
    exact⟨e2 _ _,by rw[if_neg (by omega),if_neg (by omega)]⟩
  ·simp -dsimp (disch:=try exact dx) only[wpS,wpT,zE,f5]
   refine⟨k,by omega,rfl,by omega,fun j h1 h2=>?_,by simp[f2],by simp[f3],by simp⟩
   by_cases hj:j=k
   ·subst hj;omega
   ·exact hz j (by omega) h2
def RA (b:Bool) (n:Nat):Value:=.agg (Value.bool b :: wdC n).toArray
def CQ (b:Bool) (n:Nat):(RA b n).cells.toList=.bool b :: wdC n:=rfl
def eK (n:Nat):IH.aJ [ZW,ZW,ZW,ZW,ZW,ZW,ZW,ZW] 0 (wdC n)=wdC n:=iX (by rw[aA];rfl)
def DZ (m n:Nat):IH.aJ (wdC m) 0 (wdC n)=wdC n:=iX (by rw[aA,aA])
def kV (b:Value) (n:Nat):List.take 8 (List.drop 1 (b :: wdC n))=wdC n:=by
 rw[List.drop_succ_cons,List.drop_zero,List.take_of_length_le (by rw[aA];omega)]
def w5 (b:Value) (n:Nat):List.take 9 (List.drop 0 (b :: wdC n))=b :: wdC n:=by
 rw[List.drop_zero,List.take_of_length_le (by simp[aA])]
def Qg:List.take 8 (List.drop 0 [ZW,ZW,ZW,ZW,ZW,ZW,ZW,ZW]) = [ZW,ZW,ZW,ZW,ZW,ZW,ZW,ZW]:=rfl
theorem nk:Value.agg #[ZW,ZW,ZW,ZW,ZW,ZW,ZW,ZW]=wdV 0:=by rw[wdV,mq]
def UC (n:Nat) (hn:n<W8):WV prog (.func (.func 192) #[] #[]) [wdV n] h fun r h'=>Ext h h'∧r=RA (decide (wdI n<0)) (wdI n).natAbs:=by
 have h7:=Xv hn
 have l7:=wK n 7
 have hs:m8 (wrd n 7) 63=wrd n 7 / 9223372036854775808:=Nat.shiftRight_eq_div_pow _ _
 have YW:((((wrd n 7 / 9223372036854775808:Nat):Int)) == 1)=decide (wdI n<0):=by
  have h2:=eP
  by_cases hlt:n<H8
  ·have e1:wrd n 7 / 9223372036854775808=0:=by have:=h7.2 hlt;omega
   rw[e1,wdI,if_pos hlt];simp
  ·have e1:wrd n 7 / 9223372036854775808=1:=by
    have : ¬wrd n 7<9223372036854775808:=fun h=>hlt (h7.1 h)
    omega
   rw[e1,wdI,if_neg hlt];simp;omega
 refine enter (nt:=21) (rs:=[.cell 2 246]) Proofs.Tryz.func192 rfl rfl rfl (by simp) ?_
 simp -dsimp (disch:=try exact dx) only[wpS,wpT,zE,zL,zA,Int.reduceToNat,Lc,uG,tj,fh,W9,Mi,UJ,GO,sV,ld4,cM,aA,cm,bZ,uG,dG n 7 (by omega),show qj 7 8=some 7 from rfl,hs,YW,eK]
 refine au ?_ ?_<;>intro hc<;>simp only[decide_eq_true_eq,decide_eq_false_iff_not] at hc
 ·have h2:=eP
  have hge:H8≤n:=by
   unfold wdI at hc
   split at hc<;>omega
  have hw:wdI n = -((W8 - n:Nat):Int):=by
   unfold wdI
   rw[if_neg (by omega)]
   omega
  simp -dsimp (disch:=try exact dx) only[wpS,wpT,zE,zL,zA,Nq,kL,yd,kV,aA]
  rw[nk]
  refine call (pC 0 n (by omega) hn) ?_
  rintro _ h1 ⟨hE,m,bor,rfl,hm,hb,jY⟩
  have hp:=iJ
  have hb1:bor=1:=by
   rcases Nat.eq_zero_or_pos bor with h0|h0
   ·subst h0;omega
   ·omega
  subst hb1
  have hmm:(wdI n).natAbs=m:=by omega
  rw[hmm]
  have n1:=(hE).n;try simp only[aH,aM] at n1
  have g2:h1.ext.get (h.n+1+1)=some (.cells (.bool true :: wdC n) 0 none):=by rw[hE.get _ (by simp)];simp (disch:=try exact dx) only[ae]
  have g1:h1.ext.get (h.n+1)=some (.cells [.bool false,ZW,ZW,ZW,ZW,ZW,ZW,ZW,ZW] 0 none):=by rw[hE.get _ (by simp)];simp (disch:=try exact dx) only[ah,aq,ak]
  simp -dsimp (disch:=try exact dx) only[wpS,wpT,zE,zL,zA,GO,kL,GP,RZ,g2,cM,aA,cm,DZ,w5,g1,eK]
  refine⟨?_,by simp[RA]⟩
  exact(((((Ext.refl h).new _).new _).new _).put (by omega) _).trans hE |>.put (by omega) _ |>.put (by omega) _
 ·have hlt:n<H8:=by
   apply Classical.byContradiction;intro hne
   apply hc
   unfold wdI
   rw[if_neg hne];omega
  have hw:(wdI n).natAbs=n:=by unfold wdI;rw[if_pos hlt];omega
  simp -dsimp (disch:=try exact dx) only[wpS,wpT,zE,zL,zA,GO,RZ,aA,cm,w5,eK]
  rw[hw]
  exact⟨((((Ext.refl h).new _).new _).new _).put (by omega) _ |>.put (by omega) _,by simp[RA]⟩
def jt (n:Nat) (hn:n<W8):WV prog (.func (.func 103) #[] #[]) [wdV n] h fun r h'=>Ext h h'∧a9 h' r (wdI n):=by
 have h2:=eP
 have hab:(wdI n).natAbs<W8:=by unfold wdI;split<;>omega
 refine enter (nt:=13) (rs:=[.cell 2 135]) Proofs.Tryz.func103 rfl rfl rfl (by simp) ?_
 simp -dsimp (disch:=try exact dx) only[wpS,zE,zL,jI,fh,cM,aA,bZ]
 refine call (UC n hn) ?_
 rintro _ h1 ⟨hE,rfl⟩
 have n1:=(hE).n;try simp only[aH] at n1
 simp -dsimp (disch:=try exact dx) only[wpS,wpT,zE,zL,zA,Lc,GO,CQ,aA,cm,eK]
 obtain⟨H2,hH2⟩ : ∃H2,H2=(h1.new (.cells [.bool false,ZW,ZW,ZW,ZW,ZW,ZW,ZW,ZW] 0 none)).put h1.n (.cells (.bool (decide (wdI n<0)) :: wdC (wdI n).natAbs) 0 none):=⟨_,rfl⟩
 have n2:H2.n=h1.n+1:=by rw[hH2];rfl
 have g3:H2.ext.get h1.n=some (.cells (.bool (decide (wdI n<0)) :: wdC (wdI n).natAbs) 0 none):=by rw[hH2];simp (disch:=try exact dx) only[ae]
 have g1:H2.ext.get (h.n+1)=some (.cells ZL 0 none):=by rw[hH2];simp (disch:=try exact dx) only[aq,ak];rw[hE.get _ (by simp)];simp (disch:=try exact dx) only[ah]
 have E2:Ext h H2:=by rw[hH2];exact(((((Ext.refl h).new _).new _).trans hE).new _).put (by omega) _
 rw[←hH2]
 have r3:=bT g3
 have r4:(H2.new (.cells [] 1 none)).row (2*h1.n)=some (.bool (decide (wdI n<0)) :: wdC (wdI n).natAbs):=bT (by simp (disch:=try exact dx) only[aq];exact g3)
 have hnow:lF (H2.new (.cells [] 1 none)) 1 (.slice (some ⟨2*h1.n,1,none⟩) 8 (2*8+1)) 8 (wdC (wdI n).natAbs):=VQ r4 (by omega) (by rw[aA]) (kV _ _) (by simp[aA])
 have hap:=rT ZcM (H2.new (.cells [] 1 none)) hnow (by omega) (cm _) (by omega) (2*H2.n) 0
 refine drawn [(1,[5,6])] (by kernel_rfl) (by kernel_rfl) rfl ?_
 simp -dsimp (disch:=try exact dx) only[wpS,wpT,zE,zA,reduceMul,sV,ld4,Tu,kL,PS,r3,Ct (P:=prog) Z9 Ei (by omega),hap]
 have hW:il ((H2.new (.cells [] 1 none)).new (.cells (wdC (wdI n).natAbs) 1 none)) (.slice (some ⟨2*(H2.n+1),0,none⟩) 8 16) (wds (wdI n).natAbs):=by
  refine⟨?_,pd _,by rw[kB];omega⟩
  rw[←nm,kB]
  exact(zo (h:=H2.new (.cells [] 1 none)) (sz:=1) (m:=8) (by omega) (by rw[aA]) (by omega)).sl
 refine call (fT hW _) ?_
 rintro _ h3 ⟨hE3,hr⟩
 rw[DY hab] at hr
 have hz:(if decide (wdI n<0)=true then -((wdI n).natAbs:Int) else (wdI n).natAbs)=wdI n:=by
  by_cases h0:wdI n<0<;>simp[h0]<;>omega
 rw[hz] at hr
 obtain⟨s1,n3,rfl,c3,o3,l3,z3⟩:=hr.form
 have m3:=(hE3).n;try simp only[aH] at m3
 have hg:h3.ext.get (h.n+1)=some (.cells ZL 0 none):=by rw[hE3.get _ (by simp only[aH];omega)];simp (disch:=try exact dx) only[aq];exact g1
 have r5:((H2.new (.cells [] 1 none)).new (.cells (wdC (wdI n).natAbs) 1 none)).row (2*h1.n)=some (.bool (decide (wdI n<0)) :: wdC (wdI n).natAbs):=bT (by simp (disch:=try exact dx) only[aq];exact g3)
 have r6:h3.row (2*h1.n)=some (.bool (decide (wdI n<0)) :: wdC (wdI n).natAbs):=bT (by rw[hE3.get _ (by simp only[aH];omega)];simp (disch:=try exact dx) only[aq];exact g3)
 simp -dsimp (disch:=omega) only[wpS,wpT,zE,zL,zA,gH,hg,o3]
 refine⟨uL (ad rfl rfl rfl rfl (ai (av:=ptr (2*h1.n) 0) (v:=.bool (decide (wdI n<0))) rfl ?_ ?_)) (ad rfl rfl rfl rfl (ai (av:=ptr (2*h1.n) 0) (v:=.bool (decide (wdI n<0))) rfl ?_ ?_)),?_⟩
 ·simp -dsimp (disch:=omega) only[wpS,ld4,r3]
 ·simp -dsimp (disch:=try exact dx) only[wpS,ld4,r4]
 ·simp -dsimp (disch:=try exact dx) only[wpS,ld4,r3]
 ·simp -dsimp (disch:=try exact dx) only[wpS,ld4,r5]
 simp -dsimp (disch:=try exact dx) only[wpS,wpT,zE,zL,zA,bR]
 exact⟨(((E2.new _).new _).trans hE3).put (by omega) _,hr.aa ((aK.refl _).put hg _)⟩
theorem Sp : [ZW,ZW,ZW,ZW,ZW,ZW,ZW,.int .u64 9223372036854775808]=wdC H8:=by
 have h2:B.ao [0,0,0,0,0,0,0,9223372036854775808]=H8:=by unfold H8;simp[B.ao,B.aI]
 have h3:=Ja (ds:=[0,0,0,0,0,0,0,9223372036854775808]) rfl (by intro d hd;simp at hd;omega)
 rw[h2] at h3
 rw[nm,h3];rfl
def J0 (b:Bool) (n:Nat) (hn:n<W8):WV prog (.func (.func 195) #[] #[]) [RA b n] h fun r h'=>Ext h h'∧r=if H8<n∨(n=H8∧b=false) then .tuple #[wdV 0,KI 6] else .tuple #[wdV (if b=true then (W8 - n) % W8 else n),KI 0]:=by
 have h2:=eP
 have hp:=iJ
 refine enter (nt:=35) (rs:=[.cell 2 30,.tmp 3]) Proofs.Tryz.func195 rfl rfl rfl (by simp) ?_
 simp -dsimp (disch:=try exact dx) only[wpS,wpT,zE,zL,zA,nW,Nq,UK,P3,GP,kL,yd,CQ,aA,kV]
 rw[Sp]
 simp -dsimp (disch:=try exact dx) only[bZ]
 refine call (u6 n H8 hn (by omega)) ?_
 rintro _ h1 ⟨hE,rfl⟩
 have n1:=(hE).n;try simp only[aH,aM] at n1
 have g0:h1.ext.get h.n=some (.cells (.bool b :: wdC n) 0 none):=by rw[hE.get _ (by simp<;>omega)];simp (disch:=try exact dx) only[ah,aq,ak]
 have g1:h1.ext.get (h.n+1)=some (.cells [ZW,ZW,ZW,ZW,ZW,ZW,ZW,ZW] 0 none):=by rw[hE.get _ (by simp)];simp (disch:=try exact dx) only[ah,aq,ak]
 have hE1:=((((Ext.refl h).new _).new _).new _).put (by omega) _ |>.trans hE
 have r0:=bT g0
 have r1:=bT g1
 rcases Nat.lt_trichotomy n H8 with hlt|heq|hgt
 ·rw[if_pos hlt,if_neg (by omega)]
  cases b
  ·simp -dsimp (disch:=omega) only[wpS,wpT,zE,zL,zA,kL,yd,sV,ld4,lh,fh,r0,g1,aA,cm,kV,eK,bZ]
   exact⟨hE1.put (by omega) _,by simp;rfl⟩
  ·simp -dsimp (disch:=omega) only[wpS,wpT,zE,zL,zA,Nq,kL,yd,sV,ld4,r0,aA,kV]
   rw[nk]
   refine call (pC 0 n (by omega) hn) ?_
   rintro _ h3 ⟨hE3,m,bor,rfl,hm,hb,jY⟩
   have hmm:(W8 - n) % W8=m:=by
    rcases Nat.eq_zero_or_pos bor with h0|h0
    ·subst h0
     have h5:n=0:=by omega
     rw[h5,Nat.sub_zero,Nat.mod_self];omega
    ·have h5:bor=1:=by omega
     subst h5
     by_cases h6:n=0
     ·exfalso;omega
     ·rw[Nat.mod_eq_of_lt (by omega)];omega
   have n3:=(hE3).n;try simp only[aH,aM] at n3
   have k0:=(hE3.get _ (by omega)).trans g0
   have k1:=(hE3.get _ (by omega)).trans g1
   simp -dsimp (disch:=omega) only[wpS,wpT,zE,zL,zA,GP,kL,yd,lh,fh,k0,k1,cM,aA,cm,kV,DZ,eK,bZ]
   refine⟨((hE1.trans hE3).put (by omega) _).put (by omega) _,?_⟩
   rw[hmm]
   simp
   try rfl
 ·subst heq
  rw[if_neg (by omega),if_pos rfl]
  cases b
  ·simp -dsimp (disch:=omega) only[wpS,wpT,zE,zL,zA,sV,ld4,FL,lh,fh,r0,g1,Qg]
   refine⟨hE1.put (by omega) _,?_⟩
   simp[nk]
  ·simp -dsimp (disch:=omega) only[wpS,wpT,zE,zL,zA,Nq,kL,yd,sV,ld4,r0,aA,kV]
   rw[nk]
   refine call (pC 0 H8 (by omega) hn) ?_
   rintro _ h3 ⟨hE3,m,bor,rfl,hm,hb,jY⟩
   have hmm:(W8 - H8) % W8=m:=by
    rcases Nat.eq_zero_or_pos bor with h0|h0
    ·subst h0
     have h5:H8=0:=by omega
     rw[h5,Nat.sub_zero,Nat.mod_self];omega
    ·have h5:bor=1:=by omega
     subst h5
     by_cases h6:H8=0
     ·exfalso;omega
     ·rw[Nat.mod_eq_of_lt (by omega)];omega
   have n3:=(hE3).n;try simp only[aH,aM] at n3
   have k0:=(hE3.get _ (by omega)).trans g0
   have k1:=(hE3.get _ (by omega)).trans g1
   simp -dsimp (disch:=omega) only[wpS,wpT,zE,zL,zA,GP,kL,yd,lh,fh,k0,k1,cM,aA,cm,kV,DZ,eK,bZ]
   refine⟨((hE1.trans hE3).put (by omega) _).put (by omega) _,?_⟩
   rw[hmm]
   simp
   try rfl
 ·rw[if_neg (by omega),if_neg (by omega)]
  simp -dsimp (disch:=omega) only[wpS,wpT,zE,zL,zA,FL,lh,fh,g1,Qg]
  refine⟨hE1.put (by omega) _,?_⟩
  rw[nk,if_pos (.inl hgt)]
set_option maxHeartbeats 16000000
def Py {P:Program} {t e:TypeId} {sz:Nat} (hu:P.underlying t=some (.slice e)) (hS:aO P e=some sz) (h:IH) (b o n c:Nat) {s:Value} {ss:List Value} (hs:lF h sz s 0 ss) (ts:Array TypeId) (ht:ts[0]?=some t) :
  builtin P h .copy ts [.slice (some ⟨b,o,none⟩) n c,s]=some (.int .i64 0,h):=by
 have hf:bF h sz 0 s=some []:=by
  obtain⟨hz,hl,⟨rfl,_⟩|⟨b,o,k,rfl,s⟩⟩:=hs
  ·rfl
  ·simp[bF];rfl
 obtain⟨a',k,rfl⟩:=hs.form
 simp only[builtin,ht,uD,hu,lenOf,hS,show Nat.min 0 n=0 from Nat.zero_min _,hf]
 rfl
variable {ds:List Nat}
theorem Ye (hl:ds.length≤8) (hd:B.bJ ds):IH.aJ [ZW,ZW,ZW,ZW,ZW,ZW,ZW,ZW] 0 (ds.map K64)=wdC (B.ao ds):=by
 have hv : ∀k,B.ao (ds ++ List.replicate k 0)=B.ao ds:=by
  intro k
  rw[show B.ao ds=B.aI (ds ++ List.replicate k 0) ds.length from B.fm fun j hj=>by
   rw[List.getD_eq_getElem?_getD,List.getD_eq_getElem?_getD,List.getElem?_append_left hj]]
  rw[B.ao]
  have:(ds ++ List.replicate k 0).length=ds.length+k:=by simp
  rw[this]
  apply B.jQ
  intro j h1 h2
  rw[List.getD_eq_getElem?_getD,List.getElem?_append_right h1]
  rw[←List.getD_eq_getElem?_getD];exact B.jZ _ _
 have hD:B.bJ (ds ++ List.replicate (8 - ds.length) 0):=fun d h=>by
  rcases List.mem_append.1 h with h|h
  ·exact hd d h
  ·simp at h;omega
 have h8:(ds ++ List.replicate (8 - ds.length) 0).length=8:=by simp;omega
 have:=Ja h8 hD
 rw[hv] at this
 rw[nm,this,List.map_append,List.map_replicate]
 have hz : [ZW,ZW,ZW,ZW,ZW,ZW,ZW,ZW]=List.replicate 8 ZW:=rfl
 rw[hz,IH.aJ,List.take_zero,List.nil_append,List.length_map,List.drop_replicate,Nat.zero_add]
 rfl
def Vb (n:B.Norm ds) (h:8<ds.length):W8≤B.ao ds:=by
 have h1:=n.ge (by intro h0;rw[h0] at h;simp at h)
 rw[DO]
 exact Nat.le_trans (Nat.pow_le_pow_right (by omega) (by omega)) h1
variable {h:IH}
def qW {v:Value} {z:Int} (hv:a9 h v z):WV prog (.func (.func 105) #[] #[]) [v] h fun r h'=>Ext h h'∧r=if InW z then .tuple #[qe z,KI 0] else .tuple #[wdV 0,KI 6]:=by
 obtain⟨s,rfl,ds,hD,hN,hx⟩:=hv
 have hb:=hD.2.2
 have h2:=eP
 have hp:=iJ
 refine enter (nt:=22) (rs:=[.cell 2 30,.tmp 3]) Proofs.Tryz.func105 rfl rfl rfl (by simp) ?_
 simp -dsimp (disch:=try exact dx) only[wpS,zE,nW,jH,rD,hD.1.len fE]
 refine au ?_ ?_<;>intro hc<;>simp only[decide_eq_true_eq,decide_eq_false_iff_not] at hc
 ·have hgt:=Vb hN (by omega)
  have hin : ¬InW z:=by rintro⟨h3,h4⟩;omega
  rw[if_neg hin]
  simp -dsimp (disch:=try exact dx) only[wpS,wpT,zE,zL,zA,FL,lh,fh,Qg]
  exact⟨(((Ext.refl h).new _).new _).put (by omega) _,by rw[nk]⟩
 ·have hl:ds.length≤8:=by omega
  have hlt:B.ao ds<W8:=by
   have:=B.jz hD.2.1
   rw[DO]
   exact Nat.lt_of_lt_of_le this (Nat.pow_le_pow_right (by omega) hl)
  simp -dsimp (disch:=try exact dx) only[wpS,wpT,zE,zL,zA,iU,ld4,W9,Mi,Lc,GO,kL]
  obtain⟨H2,hH2⟩ : ∃H2,H2=((((h.new (.cells [.bool (decide (z<0)),s] 0 none)).new (.cells [ZW,ZW,ZW,ZW,ZW,ZW,ZW,ZW] 0 none)).new (.cells [.bool false,ZW,ZW,ZW,ZW,ZW,ZW,ZW,ZW] 0 none)).put (h.n+1+1) (.cells [.bool (decide (z<0)),ZW,ZW,ZW,ZW,ZW,ZW,ZW,ZW] 0 none)):=⟨_,rfl⟩
  have n2:H2.n=h.n+3:=by rw[hH2];rfl
  have g0:H2.ext.get h.n=some (.cells [.bool (decide (z<0)),s] 0 none):=by rw[hH2];simp (disch:=try exact dx) only[ah,aq,ak]
  have g1:H2.ext.get (h.n+1)=some (.cells [ZW,ZW,ZW,ZW,ZW,ZW,ZW,ZW] 0 none):=by rw[hH2];simp (disch:=try exact dx) only[ah,aq,ak]
  have g2:H2.ext.get (h.n+1+1)=some (.cells [.bool (decide (z<0)),ZW,ZW,ZW,ZW,ZW,ZW,ZW,ZW] 0 none):=by rw[hH2];simp (disch:=try exact dx) only[ae]
  have E2:Ext h H2:=by rw[hH2];exact((((Ext.refl h).new _).new _).new _).put (by omega) _
  rw[←hH2]
  have r0:=bT g0
  have sa:=Ct (P:=prog) Z9 Ei (by omega)
  have hs2:=(hD.aa E2.aa).1.now
  have hcp : ∃H3,builtin prog H2 .copy #[133,133] [.slice (some ⟨2*(h.n+1+1),1,none⟩) 8 17,s]=some (.int .i64 (ds.length:Int),H3)∧Ext h H3∧H3.n=h.n+3∧H3.ext.get (h.n+1)=some (.cells [ZW,ZW,ZW,ZW,ZW,ZW,ZW,ZW] 0 none)∧H3.ext.get (h.n+1+1)=some (.cells (.bool (decide (z<0)) :: wdC z.natAbs) 0 none):=by
   rcases Nat.eq_zero_or_pos ds.length with h0|h0
   ·have hd0:ds = []:=List.length_eq_zero_iff.1 h0
    subst hd0
    have hz0:z.natAbs=0:=by rw[←hx];rfl
    refine⟨H2,Py Uf Ei H2 _ _ _ _ hs2 _ rfl,E2,n2,g1,?_⟩
    rw[hz0,mq];exact g2
   ·have hm:min ds.length 8=ds.length:=by omega
    have:=copy_eq (P:=prog) Uf Ei g2 (o:=1) (dn:=8) (c:=17) hs2 (MQ _) (by omega) (by simp;omega) #[133,133] rfl
    rw[hm,Nat.mul_one,List.take_of_length_le (by simp),xP,Ye hl hD.2.1,hx] at this
    exact⟨_,this,E2.put (by omega) _,n2,by simp (disch:=omega) only[ak];exact g1,ae _ _ rfl⟩
  obtain⟨H3,hcp,E3,n3,g3,g4⟩:=hcp
  have r4:=bT g4
  simp -dsimp (disch:=omega) only[wpS,wpT,zE,zL,zA,reduceMul,jH,rD,RZ,r0,sa,hcp,r4,w5,aA]
  refine call (J0 (decide (z<0)) z.natAbs (by omega)) ?_
  rintro _ h4 ⟨hE4,rfl⟩
  have g5:=(hE4.get _ (by omega)).trans g3
  by_cases hin:InW z
  ·have e1 : ¬(H8<z.natAbs∨z.natAbs=H8∧decide (z<0)=false):=by
    obtain⟨i1,i2⟩:=hin
    rintro(h5|⟨h5,h6⟩)
    ·omega
    ·have : ¬z<0:=by simpa using h6
     omega
   have e2:(if decide (z<0)=true then (W8 - z.natAbs) % W8 else z.natAbs)=aY z:=by
    obtain⟨i1,i2⟩:=hin
    unfold aY
    by_cases h6:z<0
    ·rw[if_pos (by simpa using h6),if_neg (by omega),Nat.mod_eq_of_lt (by omega)]
    ·rw[if_neg (by simpa using h6),if_pos (by omega)];omega
   rw[if_neg e1,if_pos hin,e2]
   simp -dsimp (disch:=omega) only[wpS,wpT,zE,zL,zA,lh,fh,g5,cM,aA,cm,eK,bZ]
   exact⟨(E3.trans hE4).put (by omega) _,rfl⟩
  ·have e1:H8<z.natAbs∨z.natAbs=H8∧decide (z<0)=false:=by
    unfold InW at hin
    by_cases h6:z<0
    ·left;omega
    ·by_cases h7:z.natAbs=H8
     ·right;exact⟨h7,by simpa using h6⟩
     ·left;omega
   rw[if_pos e1,if_neg hin]
   simp -dsimp (disch:=omega) only[wpS,wpT,zE,zL,zA,lh,fh,g5,cM,aA,cm,eK,bZ]
   exact⟨(E3.trans hE4).put (by omega) _,rfl⟩
def vB (n:Int) (hn:fZ n):WV prog (.func (.func 101) #[] #[]) [KI n] h fun r h'=>Ext h h'∧a9 h' r n:=by
 have hw:InW n:=by
  have:=se
  constructor
  ·have:=hn.1;omega
  ·have:=hn.2;omega
 refine enter (nt:=6) (rs:=[.cell 2 135]) Proofs.Tryz.func101 rfl rfl rfl (by simp) ?_
 simp -dsimp (disch:=omega) only[wpS,zE,jI]
 refine call (oB n hn) ?_
 rintro _ h1 ⟨hE,rfl⟩
 simp -dsimp (disch:=omega) only[wpS,zE]
 refine call (jt _ (ec hw)) ?_
 rintro _ h2 ⟨hE2,hr⟩
 rw[cB hw] at hr
 obtain⟨s1,n3,rfl,c3,o3,l3,z3⟩:=hr.form
 have m1:=(hE).n;try simp only[aH] at m1
 have m2:=(hE2).n;try simp only[aH,aM] at m2
 have hg:h2.ext.get h.n=some (.cells ZL 0 none):=by rw[hE2.get _ (by omega),hE.get _ (by simp)];simp (disch:=omega) only[ah]
 simp -dsimp (disch:=omega) only[wpS,wpT,zE,zL,zA,gH,bR,hg,o3]
 exact⟨((((Ext.refl h).new _).trans hE).trans hE2).put (by omega) _,hr.aa ((aK.refl _).put hg _)⟩
end Go.Id
namespace Go.Id
open Go
open Go.Proofs.Tryz (prog)
open Nat renaming reduceAdd→zA,reduceEqDiff→zE,reduceLeDiff→zL
set_option maxHeartbeats 16000000
variable {v:Value}{h:IH}{y x:Int}{w:Value}
def uh (hv:a9 h v x) (hw:a9 h w y) (sx:aX x) (sy:aX y) :
  WV prog (.func (.func 207) #[] #[]) [v,w] h fun r h'=>Ext h h'∧a9 h' r (Int.gcd x y):=by
 obtain⟨s,rfl,hS⟩:=hv
 obtain⟨t,rfl,hT⟩:=hw
 obtain⟨ds,hD,hN,hx⟩:=id hS
 obtain⟨es,hE,hM,hy⟩:=id hT
 refine enter (nt:=26) (rs:=[.cell 4 135]) Proofs.Tryz.func207 rfl rfl rfl (by simp) ?_
 simp -dsimp (disch:=try exact dx) only[wpS,zE,zA,jI,jH,rD]
 have kk : ∀o1 o2 o3,Ext h (((h.new o1).new o2).new o3):=fun o1 o2 o3=>(((Ext.refl h).new _).new _).new _
 refine loop (fun m fr h1 => ∃(xv yv:Value) (a:Nat),Ext (((h.new (.cells [.bool (decide (x<0)),s] 0 none)).new (.cells [.bool (decide (y<0)),t] 0 none)).new (.cells ZL 0 none)) h1∧Wrd h1 xv a∧Wrd h1 yv m∧Small a∧Small m∧Nat.gcd a m=Int.gcd x y∧ab fr 4=some (ptr (2*(h.n+1+1)) 0)∧ab fr 5=some xv∧ab fr 6=some yv) y.natAbs
  ⟨s,t,x.natAbs,Ext.refl _,hS.aa (kk _ _ _).aa,hT.aa (kk _ _ _).aa,sx,sy,rfl,by simp,by simp,by simp⟩ ?_
 clear hS hT hD hN hx hE hM hy ds es
 rintro m fr h1 ⟨xv,yv,a,hE1,hA,hB,sa,sb,Ki,f4,f5,f6⟩
 obtain⟨ds,hD,hN,hx⟩:=id hA
 obtain⟨es,hE,hM,hy⟩:=id hB
 have hz:=hM.kI
 rw[hy] at hz
 have l1:ds.length≤1000000:=oF hN (by rw[hx];exact sa)
 have l2:es.length≤1000000:=oF hM (by rw[hy];exact sb)
 by_cases hm:m=0
 ·have hes:es = []:=hz.1 hm
  have Yr:ot prog h1 133 yv=some (.int .i64 ((0:Nat):Int)):=by have:=hE.1.len (P:=prog) fE h1;rw[hes] at this;exact this
  have hg:h1.ext.get (h.n+1+1)=some (.cells ZL 0 none):=by rw[hE1.get _ (by simp)];exact ah _ _ rfl
  simp -dsimp (disch:=omega) only[wpS,wpT,zE,zL,zA,BC,pO,gH,bR,f4,f5,f6,Yr,hD.1.cells,hD.1.cok,hg]
  refine⟨((kk _ _ _).trans hE1).put (by omega) _,xv,?_,?_⟩
  ·simp
  ·subst hm
   rw[Nat.gcd_zero_right] at Ki
   rw[Int.natAbs_natCast,←Ki]
   exact hA.aa ((aK.refl _).put hg _)
 ·have hl:0<es.length:=by
   apply Nat.pos_of_ne_zero;intro h0
   exact hm (hz.2 (List.length_eq_zero_iff.1 h0))
  simp -dsimp (disch:=omega) only[wpS,wpT,zE,f5,f6,hE.1.len fE]
  refine call (Bl hD hE hN hM (by rw[hy];exact hm) l1 l2) ?_
  rintro _ h2 ⟨hE2,q,r,rfl,hq,hr⟩
  rw[hx,hy] at hr
  have hlt:=Nat.mod_lt a (Nat.pos_of_ne_zero hm)
  simp -dsimp (disch:=try exact dx) only[wpS,zE,f6]
  refine⟨a % m,hlt,yv,r,m,hE1.trans hE2,hB.aa hE2.aa,hr,sb,sb.le (Nat.le_of_lt hlt),?_,by simp[f4],by simp,by simp⟩
  rw[←Ki,Nat.gcd_comm a m,Nat.gcd_rec m a,Nat.gcd_comm]
def TU :Wrd (h.new (.cells [.int .u64 1] 1 none)) (.slice (some ⟨2*h.n,0,none⟩) 1 3) 1 :=
 ⟨[1],⟨wy (h:=h) (sz:=1) (m:=1) (cs:=[K64 1]) (by omega) rfl (by omega),fun x hx=>by simp at hx;omega,by simp⟩,.inr (by simp),by simp[B.ao,B.aI]⟩
def sH (hv:a9 h v x) (hw:a9 h w y) (sx:aX x) (sy:aX y) (y0:y≠0) :
  WV prog (.func (.func 206) #[] #[]) [v,w] h fun r h'=>Ext h h' ∧ ∃q t,r=.tuple #[q,t]∧a9 h' q (x / y)∧a9 h' t (x % y):=by
 obtain⟨s,rfl,hS⟩:=hv
 obtain⟨t,rfl,hT⟩:=hw
 obtain⟨ds,hD,hN,hx⟩:=id hS
 obtain⟨es,hE,hM,hy⟩:=id hT
 have l1:ds.length≤1000000:=oF hN (by rw[hx];exact sx)
 have l2:es.length≤1000000:=oF hM (by rw[hy];exact sy)
 refine enter (nt:=47) (rs:=[.cell 4 135,.cell 5 135]) Proofs.Tryz.func206 rfl rfl rfl (by simp) ?_
 simp -dsimp (disch:=try exact dx) only[wpS,zE,zA,jI,jH,rD]
 have kk : ∀o1 o2 o3 o4,Ext h ((((h.new o1).new o2).new o3).new o4):=fun o1 o2 o3 o4=>((((Ext.refl h).new _).new _).new _).new _
 refine call (Bl (hD.aa (kk _ _ _ _).aa) (hE.aa (kk _ _ _ _).aa) hN hM (by rw[hy];omega) l1 l2) ?_
 rintro _ h1 ⟨hE1,q,r,rfl,⟨qs,hq,hqv⟩,⟨rs,hr,hrn,hrv⟩⟩
 rw[hx,hy] at hqv hrv
 have n1:h.n+4≤h1.n:=hE1.n
 have g0:h1.ext.get h.n=some (.cells [.bool (decide (x<0)),s] 0 none):=by rw[hE1.get _ (by simp<;>omega)];simp (disch:=try exact dx) only[ah,aq]
 have g1:h1.ext.get (h.n+1)=some (.cells [.bool (decide (y<0)),t] 0 none):=by rw[hE1.get _ (by simp<;>omega)];simp (disch:=try exact dx) only[ah,aq]
 have g2:h1.ext.get (h.n+1+1)=some (.cells ZL 0 none):=by rw[hE1.get _ (by simp<;>omega)];simp (disch:=try exact dx) only[ah,aq]
 have g3:h1.ext.get (h.n+1+1+1)=some (.cells ZL 0 none):=by rw[hE1.get _ (by simp<;>omega)];simp (disch:=try exact dx) only[ah]
 have x1:Ext h h1:=(kk _ _ _ _).trans hE1
 have eT1:=hE.aa x1.aa
 clear hE1 kk
 have r0:=bT g0
 have r1:=bT g1
 simp -dsimp (disch:=omega) only[wpS,zE]
 refine drawn [(8,[6])] (by kernel_rfl) (by kernel_rfl) rfl ?_
 simp -dsimp (disch:=omega) only[wpS,zE,iU,ld4,bn4,r0,r1,wC]
 refine call (fT hq _) ?_
 rintro q2 h2 ⟨hE2,hq2⟩
 have r02:h2.row (2*h.n)=some [.bool (decide (x<0)),s]:=by rw[hE2.row (.inr (by omega))];exact r0
 simp -dsimp (disch:=omega) only[wpS,zE,iU,ld4,r02]
 refine call (fT (hr.aa hE2.aa) _) ?_
 rintro t2 h3 ⟨hE3,ht2⟩
 rw[hqv] at hq2
 rw[hrv] at ht2
 have pa:=Ml (x:=x) y0
 have pb:=Mk (x:=x) y0
 have aQ:=yT (decide (x<0) != decide (y<0)) (x.natAbs / y.natAbs)
 have aR:=yT (decide (x<0)) (x.natAbs % y.natAbs)
 generalize (if (decide (x<0) != decide (y<0))=true then -((x.natAbs / y.natAbs:Nat):Int) else ((x.natAbs / y.natAbs:Nat):Int))=Q at *
 generalize (if decide (x<0)=true then -((x.natAbs % y.natAbs:Nat):Int) else ((x.natAbs % y.natAbs:Nat):Int))=R at *
 have sQ:aX Q:=Small.le sx (by rw[aQ];exact Nat.div_le_self _ _)
 have sR:aX R:=Small.le sy (by rw[aR];exact Nat.le_of_lt (Nat.mod_lt _ (by omega)))
 obtain⟨sq,n3,rfl,c3,o3,_,_⟩:=hq2.form
 obtain⟨st,n4,rfl,c4,o4,_,_⟩:=ht2.form
 have x3:Ext h h3:=(x1.trans hE2).trans hE3
 have n2:=hE2.n
 have n3':=hE3.n
 have g2':=(hE3.get _ (by omega)).trans ((hE2.get _ (by omega)).trans g2)
 have g3':=(hE3.get _ (by omega)).trans ((hE2.get _ (by omega)).trans g3)
 have g1':=(hE3.get _ (by omega)).trans ((hE2.get _ (by omega)).trans g1)
 simp -dsimp (disch:=omega) only[wpS,wpT,zE,zL,zA,gH,o3,o4,g2',g3']
 refine⟨ad rfl rfl rfl rfl (ai (av:=ptr (2*h.n) 0) (v:=.bool (decide (x<0))) rfl ?_ ?_),?_⟩
 ·simp -dsimp (disch:=omega) only[wpS,ld4,r02]
 ·simp -dsimp (disch:=omega) only[wpS,ld4,r0]
 simp -dsimp (disch:=omega) only[wpS,wpT,zE,zA,iU,ld4]
 obtain⟨h4,hh4⟩:=aT ((h3.put (h.n+1+1) (.cells [.bool (decide (Q<0)),sq] 0 none)).put (h.n+1+1+1) (.cells [.bool (decide (R<0)),st] 0 none))
 have g8:h4.ext.get (h.n+1+1)=some (.cells [.bool (decide (Q<0)),sq] 0 none):=by rw[hh4];simp (disch:=omega) only[ae,ak]
 have g9:h4.ext.get (h.n+1+1+1)=some (.cells [.bool (decide (R<0)),st] 0 none):=by rw[hh4];simp (disch:=omega) only[ae]
 have g7:h4.ext.get (h.n+1)=some (.cells [.bool (decide (y<0)),t] 0 none):=by rw[hh4];simp (disch:=omega) only[ak];exact g1'
 have n5:h4.n=h3.n:=by rw[hh4];rfl
 have k4:aK h3 h4:=by rw[hh4];exact((aK.refl h3).put g2' _).put (by rw[ak _ _ (by omega)];exact g3') _
 have x4:Ext h h4:=by rw[hh4];exact(x3.put (by omega) _).put (by omega) _
 have hQ0:=hq2.aa (hE3.aa.trans k4)
 have hR0:=ht2.aa k4
 have eT4:=eT1.aa ((hE2.trans hE3).aa.trans k4)
 rw[←hh4]
 clear hh4 g2' g3' g1' r0 r1 g0 g1 g2 g3
 have r9:=bT g9
 have r8:=bT g8
 have r7:=bT g7
 refine fB (fun fr2 h5 => ∃sq st,Ext h h5∧h5.ext.get (h.n+1+1)=some (.cells [.bool (decide (x / y<0)),sq] 0 none)∧h5.ext.get (h.n+1+1+1)=some (.cells [.bool (decide (x % y<0)),st] 0 none)∧a9 h5 (.agg #[.bool (decide (x / y<0)),sq]) (x / y)∧a9 h5 (.agg #[.bool (decide (x % y<0)),st]) (x % y) ∧
  ab fr2 4=some (ptr (2*(h.n+1+1)) 0)∧ab fr2 5=some (ptr (2*(h.n+1+1+1)) 0)) (fun hb=>?_) (fun hb=>?_) ?_
 ·have hb':R<0:=by simpa using hb
  obtain⟨b1,b2⟩:=pb hb'
  rw[decide_eq_true hb'] at hR0 r9 g9
  simp -dsimp (disch:=omega) only[wpS,wpT,zE,zL,zA,jI,jH,rD,gH,BC,pO,bR,r7,r9,List.drop_zero,ed,hE.1.cells,hE.1.cok]
  have xA:Ext h ((h4.new (.cells ZL 0 none)).put h4.n (.cells [.bool false,t] 0 none)):=(x4.new _).put (by omega) _
  have xB:Ext h4 ((h4.new (.cells ZL 0 none)).put h4.n (.cells [.bool false,t] 0 none)):=((Ext.refl h4).new _).put (by omega) _
  have hY:a9 ((h4.new (.cells ZL 0 none)).put h4.n (.cells [.bool false,t] 0 none)) (.agg #[.bool false,t]) (y.natAbs:Int):=⟨t,by simp,by rw[Int.natAbs_natCast];exact⟨es,eT4.aa xB.aa,hM,hy⟩⟩
  refine call (qY (hR0.aa xB.aa) hY sR (jm sy)) ?_
  rintro t5 h5 ⟨hE5,ht5⟩
  rw[b2] at ht5
  obtain⟨s5,_,rfl,c5,o5,_,_⟩:=ht5.form
  have n6:=(hE5).n;try simp only[aH,aM] at n6
  have x5:=xB.trans hE5
  have k9:=(x5.get _ (by omega)).trans g9
  have k8:=(x5.get _ (by omega)).trans g8
  have k7:=(x5.get _ (by omega)).trans g7
  have rr7:=bT k7
  have rr8:=bT k8
  simp -dsimp (disch:=try exact dx) only[wpS,wpT,zE,zL,zA,jI,iU,ld4,gH,BC,pO,bR,Tu,vz,k9,o5,rr7,rr8,List.drop_zero,ed]
  obtain⟨h6,hh6⟩ : ∃h6,h6=((((h5.put (h.n+1+1+1) (.cells [.bool (decide (x % y<0)),s5] 0 none)).new (.cells [.int .u64 1] 1 none)).new (.cells ZL 0 none)).put (h5.n+1) (.cells [.bool (!decide (y<0)),.slice (some ⟨2*h5.n,0,none⟩) 1 3] 0 none)):=⟨_,rfl⟩
  have k5:aK h5 h6:=by rw[hh6];exact((((aK.refl h5).put k9 _).new _).new _).put (cs:=ZL) (f:=none) (by simp (disch:=try exact dx) only[ah]) _
  have y6:Ext h h6:=by rw[hh6];exact(((((xA.trans hE5).put (by omega) _).new _).new _).put (by first|omega|(simp only[aH,aM];omega)) _)
  have j9:h6.ext.get (h.n+1+1+1)=some (.cells [.bool (decide (x % y<0)),s5] 0 none):=by rw[hh6];simp (disch:=try exact dx) only[aq,ae,ak]
  have j8:h6.ext.get (h.n+1+1)=some (.cells [.bool (decide (Q<0)),sq] 0 none):=by rw[hh6];simp (disch:=try exact dx) only[aq,ak];exact k8
  have n7:h6.n=h5.n+2:=by rw[hh6];rfl
  have hOne:a9 h6 (.agg #[.bool (!decide (y<0)),.slice (some ⟨2*h5.n,0,none⟩) 1 3]) (if y<0 then 1 else -1):=by
   refine⟨.slice (some ⟨2*h5.n,0,none⟩) 1 3,?_,?_⟩
   ·by_cases hy0:y<0<;>simp[hy0]<;>rfl
   ·rw[show(if y<0 then (1:Int) else -1).natAbs=1 by split<;>rfl,hh6]
    have w1:=TU (h:=h5.put (h.n+1+1+1) (.cells [.bool (decide (x % y<0)),s5] 0 none))
    exact w1.aa (((aK.refl _).new _).put (cs:=ZL) (f:=none) (by simp (disch:=try exact dx) only[ah]) _)
  have jr8:=bT j8
  rw[←hh6]
  have sOne:aX (if y<0 then (1:Int) else -1):=by split<;>exact El
  refine call (qY (hQ0.aa (x5.aa.trans k5)) hOne sQ sOne) ?_
  rintro t7 h7 ⟨hE7,ht7⟩
  have hqq:Q+(if y<0 then (1:Int) else -1)=x / y:=by
   rw[←b1]
  rw[hqq] at ht7
  obtain⟨s7,_,rfl,c7,o7,_,_⟩:=ht7.form
  have n8:=(hE7).n;try simp only[aH,aM] at n8
  have i8:=(hE7.get _ (by omega)).trans j8
  have i9:=(hE7.get _ (by omega)).trans j9
  simp -dsimp (disch:=omega) only[wpS,wpT,zE,zL,zA,gH,i8,o7]
  have k7':=(aK.refl h7).put i8 (.cells [.bool (decide (x / y<0)),s7] 0 none)
  refine⟨s7,s5,(y6.trans hE7).put (by omega) _,ae _ _ rfl,by simp (disch:=omega) only[ak];exact i9,ht7.aa k7',ht5.aa ((k5.trans hE7.aa).trans k7'),by simp⟩
 ·have hb' : ¬R<0:=by simpa using hb
  obtain⟨b1,b2⟩:=pa hb'
  simp -dsimp (disch:=omega) only[wpS,wpT]
  subst b1;subst b2
  exact⟨sq,st,x4,g8,g9,hQ0,hR0,by simp⟩
 rintro fr2 h5 ⟨sq,st,x5,k8,k9,hQ,hR,f4,f5⟩
 have q8:=bT k8
 have q9:=bT k9
 obtain⟨s8,n8,e8,c8,o8,_,_⟩:=hQ.form
 obtain⟨s9,n9,e9,c9,o9,_,_⟩:=hR.form
 cases e8
 cases e9
 rw[kX]
 refine drawn [(1,[3])] (by kernel_rfl) (by kernel_rfl) rfl ?_
 simp -dsimp (disch:=omega) only[wpS,wpT,zE,zL,zA,gH,bR,f4,f5,q8,q9,k8,k9,o8,o9,List.drop_zero,ed]
 have k5:=(aK.refl h5).put k8 (.cells [.bool (decide (x / y<0)),sq] 0 none)
 have k3':(h5.put (h.n+1+1) (.cells [.bool (decide (x / y<0)),sq] 0 none)).ext.get (h.n+1+1+1)=some (.cells [.bool (decide (x % y<0)),st] 0 none):=by rw[ak _ _ (by omega)];exact k9
 have k6:=k5.put k3' (.cells [.bool (decide (x % y<0)),st] 0 none)
 refine⟨ad rfl rfl rfl rfl (ai (av:=ptr (2*(h.n+1+1+1)) 0) (v:=.agg #[.bool (decide (x % y<0)),st]) ?_ ?_ ?_),?_⟩
 ·simp -dsimp (disch:=omega) only[wpS,zE,f5]
 ·simp -dsimp (disch:=omega) only[wpS,wpT,zL,zA,bR,q9,List.drop_zero,ed]
 ·simp -dsimp (disch:=omega) only[wpS,wpT,zL,zA,bR,q9,List.drop_zero,ed]
 simp -dsimp (disch:=omega) only[wpS,wpT,zE,zL,zA,bR,f4,f5,List.drop_zero,ed]
 exact⟨(x5.put (by omega) _).put (by omega) _,_,_,rfl,hQ.aa k6,hR.aa k6⟩
end Go.Id
namespace Go.Id
open Go
open Nat renaming reduceAdd→zA,reduceEqDiff→zE,reduceLeDiff→zL
set_option maxHeartbeats 16000000
abbrev ZR:List Value:=[.bool false,.slice none 0 0,.bool false,.slice none 0 0]
def rW (h:IH) (v:Value) (n d:Int):Prop:=∃a s b t,v=.agg #[a,s,b,t]∧a9 h (.agg #[a,s]) n∧a9 h (.agg #[b,t]) d
variable {v:Value}{h:IH}{n:Int}{h':IH}{d:Int}
def rW.aa (p:rW h v n d) (e:aK h h'):rW h' v n d:=let ⟨a,s,b,t,h1,h2,h3⟩:=p;⟨a,s,b,t,h1,h2.aa e,h3.aa e⟩
def bt (h:IH) (v:Value) (q:Rat):Prop:=rW h v q.num q.den
def bt.aa {q:Rat} (p:bt h v q) (e:aK h h'):bt h' v q:=rW.aa p e
variable {z:Int}
def a9.ct (d:a9 h v z) : ∃s,v=.agg #[.bool (decide (z<0)),s]∧s.cells = #[s]∧aB s=true:=let ⟨s,n,a,b,c,_⟩:=d.form;⟨s,a,b,c⟩
def a9.co {a s:Value} (d:a9 h (.agg #[a,s]) z):a=.bool (decide (z<0))∧s.cells = #[s]∧aB s=true:=by
 obtain⟨s',h1,h2,h3⟩:=d.ct
 cases h1
 exact⟨rfl,h2,h3⟩
variable {x k:Nat}
def aU (h:x≤2 ^ k) (hk:k<16000000):uI x:=by
 refine .mk (Nat.lt_of_le_of_lt h ?_)
 rw[Rj 4294967296 2 500000 32 16000000 (by decide) (by decide)]
 exact UH 2 k 16000000 (by decide) hk
def bC (h:x≤2 ^ k) (hk:k<16000000):Small x:=(aU h hk).small
def sM {w:Value} (hv:a9 h v n) (hw:a9 h w d) (sn:aX n) (sd:aX d) (d0:d≠0) :
  WV Proofs.Tryz.prog (.func (.func 186) #[] #[]) [v,w] h fun r h'=>Ext h h'∧bt h' r (Rat.divInt n d):=by
 obtain⟨s,rfl,c1,o1⟩:=hv.ct
 obtain⟨t,rfl,c2,o2⟩:=hw.ct
 have sg:aX (Int.gcd n d:Int):=by
  have h1:Int.gcd n d≤d.natAbs:=Nat.le_of_dvd (by omega) (Nat.gcd_dvd_right _ _)
  exact jm (sd.le h1)
 refine enter (nt:=34) (rs:=[.cell 4 137]) Proofs.Tryz.func186 rfl rfl rfl (by simp) ?_
 simp -dsimp (disch:=try exact dx) only[wpS,wpT,zE,zL,zA,dW,bR]
 obtain⟨H0,hH0,n0,E0,g0,g1,g2⟩:=gG h [.bool (decide (n<0)),s] [.bool (decide (d<0)),t] ZR
 rw[←hH0]
 refine call (uh (hv.aa E0.aa) (hw.aa E0.aa) sn sd) ?_
 rintro _ h1 ⟨hE1,hg⟩
 obtain⟨sg1,rfl,c3,o3⟩:=hg.ct
 have hng:decide ((Int.gcd n d:Int)<0)=false:=decide_eq_false (by omega)
 rw[hng] at hg
 have x1:=E0.trans hE1
 have n1:=(hE1).n;try simp only[aH,aM] at n1
 have r0:=aj (hE1.kept (by omega) g0)
 simp -dsimp (disch:=try exact dx) only[wpS,wpT,zE,zL,zA,bR,jI,gH,o3,r0,qL]
 obtain⟨H2,hH2⟩ : ∃H2,H2=(h1.new (.cells ZL 0 none)).put h1.n (.cells [.bool false,sg1] 0 none):=⟨_,rfl⟩
 have e2:Ext h1 H2:=by rw[hH2];exact((Ext.refl _).new _).put (Nat.le_refl _) _
 have n2:H2.n=h1.n+1:=by rw[hH2];rfl
 have gg:H2.ext.get h1.n=some (.cells [.bool false,sg1] 0 none):=by rw[hH2];simp (disch:=try exact dx) only[ae]
 rw[←hH2]
 have x2:=x1.trans e2
 refine call (sH (hv.aa x2.aa) (hg.aa e2.aa) sn sg (AZ d0)) ?_
 rintro _ h3 ⟨hE3,q,u,rfl,hq,hu⟩
 obtain⟨sq,rfl,c4,o4⟩:=hq.ct
 obtain⟨su,rfl,c5,o5⟩:=hu.ct
 have n3:=(hE3).n;try simp only[aH,aM] at n3
 have x3:=x2.trans hE3
 have r1:=aj (hE3.kept (by omega) (e2.kept (by omega) (hE1.kept (by omega) g1)))
 have r3:=aj (hE3.kept (by omega) gg)
 simp -dsimp (disch:=try exact dx) only[wpS,wpT,zE,zL,zA,bR,jI,gH,o4,o5,r1,r3,qL]
 obtain⟨H4,hH4⟩ : ∃H4,H4=((((h3.new (.cells ZL 0 none)).new (.cells ZL 0 none)).put h3.n (.cells [.bool (decide (n / (Int.gcd n d:Int)<0)),sq] 0 none)).put (h3.n+1) (.cells [.bool (decide (n % (Int.gcd n d:Int)<0)),su] 0 none)):=⟨_,rfl⟩
 have e4:Ext h3 H4:=by rw[hH4];exact((((Ext.refl _).new _).new _).put (Nat.le_refl _) _).put (by omega) _
 have n4:H4.n=h3.n+2:=by rw[hH4];rfl
 have gq:H4.ext.get h3.n=some (.cells [.bool (decide (n / (Int.gcd n d:Int)<0)),sq] 0 none):=by rw[hH4];simp (disch:=try exact dx) only[ae,ak]
 rw[←hH4]
 have x4:=x3.trans e4
 refine call (sH (hw.aa x4.aa) (hg.aa ((e2.trans hE3).trans e4).aa) sd sg (AZ d0)) ?_
 rintro _ h5 ⟨hE5,q2,u2,rfl,hq2,hu2⟩
 obtain⟨sq2,rfl,c6,o6⟩:=hq2.ct
 obtain⟨su2,rfl,c7,o7⟩:=hu2.ct
 have n5:=(hE5).n;try simp only[aH,aM] at n5
 have x5:=x4.trans hE5
 simp -dsimp (disch:=try exact dx) only[wpS,wpT,zE,zL,zA,jI,gH,iU,ld4,o6,o7]
 obtain⟨H6,hH6⟩ : ∃H6,H6=((((h5.new (.cells ZL 0 none)).new (.cells ZL 0 none)).put h5.n (.cells [.bool (decide (d / (Int.gcd n d:Int)<0)),sq2] 0 none)).put (h5.n+1) (.cells [.bool (decide (d % (Int.gcd n d:Int)<0)),su2] 0 none)):=⟨_,rfl⟩
 have e6:Ext h5 H6:=by rw[hH6];exact((((Ext.refl _).new _).new _).put (Nat.le_refl _) _).put (by omega) _
 have n6:H6.n=h5.n+2:=by rw[hH6];rfl
 have gd:H6.ext.get h5.n=some (.cells [.bool (decide (d / (Int.gcd n d:Int)<0)),sq2] 0 none):=by rw[hH6];simp (disch:=try exact dx) only[ae,ak]
 have x6:=x5.trans e6
 have gn:=e6.kept (by omega) (hE5.kept (by omega) gq)
 have gr:=e6.kept (by omega) (hE5.kept (by omega) (e4.kept (by omega) (hE3.kept (by omega) (e2.kept (by omega) (hE1.kept (by omega) g2)))))
 have hqA:=hq.aa ((e4.trans hE5).trans e6).aa
 have hqB:=hq2.aa e6.aa
 rw[←hH6]
 clear hH0 hH2 hH4 hH6
 have rn:=aj gn
 have rd:=aj gd
 have hls:=RR (n:=n) d0
 refine fB (fun fr2 h7 => ∃sa sb,Ext h h7∧h7.ext.get h3.n=some (.cells [.bool (decide ((Rat.divInt n d).num<0)),sa] 0 none)∧h7.ext.get h5.n=some (.cells [.bool (decide (((Rat.divInt n d).den:Int)<0)),sb] 0 none)∧h7.ext.get (h.n+1+1)=some (.cells ZR 0 none)∧a9 h7 (.agg #[.bool (decide ((Rat.divInt n d).num<0)),sa]) (Rat.divInt n d).num∧a9 h7 (.agg #[.bool (decide (((Rat.divInt n d).den:Int)<0)),sb]) (Rat.divInt n d).den ∧
  ab fr2 4=some (ptr (2*(h.n+1+1)) 0)∧ab fr2 6=some (ptr (2*h3.n) 0)∧ab fr2 8=some (ptr (2*h5.n) 0)) (fun hb=>?_) (fun hb=>?_) ?_
 ·have hd:d<0:=hls.1 (by simpa using hb)
  obtain⟨b1,b2⟩:=zd (n:=n) hd
  rw[hb] at hqB gd rd
  refine drawn [(2,[1])] (by kernel_rfl) (by kernel_rfl) rfl ?_
  simp -dsimp (disch:=omega) only[wpS,wpT,zE,zL,zA,bR,rn,List.drop_zero,ed]
  refine call (mD hqA) ?_
  rintro _ h7 ⟨hE7,hA⟩
  rw[b1] at hA
  obtain⟨sa,rfl,c8,o8⟩:=hA.ct
  have n7:=(hE7).n;try simp only[aH,aM] at n7
  have kd:=hE7.kept (by omega) gd
  have rd7:=aj kd
  simp -dsimp (disch:=omega) only[wpS,wpT,zE,zL,zA,bR,rd7,List.drop_zero,ed]
  refine call (mD (hqB.aa hE7.aa)) ?_
  rintro _ h8 ⟨hE8,hB⟩
  rw[b2] at hB
  obtain⟨sb,rfl,c9,o9⟩:=hB.ct
  have n8:=(hE8).n;try simp only[aH,aM] at n8
  have kn8:=hE8.kept (by omega) (hE7.kept (by omega) gn)
  have kd8:=hE8.kept (by omega) kd
  have kr8:=hE8.kept (by omega) (hE7.kept (by omega) gr)
  simp -dsimp (disch:=omega) only[wpS,wpT,zE,zL,zA,gH,kn8,kd8,o8,o9]
  refine⟨ad rfl rfl rfl rfl (ai (av:=ptr (2*h5.n) 0) (v:=.agg #[.bool true,sq2]) rfl ?_ ?_),?_⟩
  ·simp -dsimp (disch:=omega) only[wpS,wpT,zL,zA,bR,rd7,List.drop_zero,ed]
   try rfl
  ·simp -dsimp (disch:=omega) only[wpS,wpT,zL,zA,bR,rd,List.drop_zero,ed]
   try rfl
  simp -dsimp (disch:=omega) only[wpS,wpT,zA]
  have kpA:=(aK.refl h8).put kn8 (.cells [.bool (decide ((Rat.divInt n d).num<0)),sa] 0 none)
  have gB:(h8.put h3.n (.cells [.bool (decide ((Rat.divInt n d).num<0)),sa] 0 none)).ext.get h5.n=some (.cells [.bool true,sq2] 0 none):=by rw[ak _ _ (by omega)];exact kd8
  have kpB:=kpA.put gB (.cells [.bool (decide (((Rat.divInt n d).den:Int)<0)),sb] 0 none)
  have hdf:decide (((Rat.divInt n d).den:Int)<0)=false:=decide_eq_false (by omega)
  rw[hdf] at kpB hB ⊢
  refine⟨sa,sb,(((x6.trans hE7).trans hE8).put (by omega) _).put (by omega) _,by simp (disch:=omega) only[ae,ak],ae _ _ rfl,by simp (disch:=omega) only[ak];exact kr8,hA.aa (hE8.aa.trans kpB),hB.aa kpB,by simp⟩
 ·have hd:0<d:=by
   have : ¬d<0:=fun h=>by have:=hls.2 h;simp at hb;omega
   omega
  obtain⟨b1,b2⟩:=nD (n:=n) hd
  simp -dsimp (disch:=omega) only[wpS,wpT]
  rw[b1] at gn hqA
  rw[b2] at gd hqB
  exact⟨sq,sq2,x6,gn,gd,gr,hqA,hqB,by simp⟩
 rintro fr2 h7 ⟨sa,sb,x7,k1,k2,k3,hA,hB,f4,f6,f8⟩
 have q1:=aj k1
 have q2:=aj k2
 obtain⟨_,c8,o8⟩:=hA.co
 obtain⟨_,c9,o9⟩:=hB.co
 rw[kX]
 simp -dsimp (disch:=omega) only[wpS,wpT,zE,zL,zA,bR,Nt,y8,y7,df,fO,f4,f6,f8,q1,q2,k3,o8,o9,List.drop_zero,ed]
 have hdf:decide (((Rat.divInt n d).den:Int)<0)=false:=decide_eq_false (by omega)
 rw[hdf] at hB
 have kp:=(aK.refl h7).put k3 (.cells [.bool (decide ((Rat.divInt n d).num<0)),sa,.bool false,sb] 0 none)
 exact⟨x7.put (by omega) _,_,_,_,_,rfl,hA.aa kp,hB.aa kp⟩
end Go.Id
