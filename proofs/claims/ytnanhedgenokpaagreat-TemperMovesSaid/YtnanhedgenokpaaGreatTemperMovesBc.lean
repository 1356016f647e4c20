/-
  Contracts: wide integers of the program: from and to integers. Contracts: the program's magnitudes and numbers, read and told.
-/
import Derived.Test.YtnanhedgenokpaaGreatTemperMovesAt
import Derived.Test.YtnanhedgenokpaaGreatTemperMovesBb
set_option linter.unusedVariables false
set_option linter.unusedSimpArgs false
set_option linter.defProp false
set_option linter.deprecated false
namespace Go.Id
open Go
open Nat renaming reduceAdd→zA,reduceEqDiff→zE,reduceLeDiff→zL
theorem lU (n:Nat):wdC n=((List.range 8).map fun i=>(wrd n i:Int)).map (Value.int .u64):=by simp[wdC]
theorem MN {n m:Nat} (hn:n<W8) (hm:m<W8) (h : ∀i,i<8→wrd n i=wrd m i):n=m:=by
 have key : ∀i,i≤8→n % 18446744073709551616 ^ i=m % 18446744073709551616 ^ i:=by
  intro i
  induction i with
  | zero=>intro _;rw[Nat.pow_zero,Nat.mod_one,Nat.mod_one]
  | succ i ih=>intro hi;rw[vz,vz,ih (by omega),h i (by omega)]
 have:=key 8 (Nat.le_refl _)
 rw[←AH] at this
 rwa [Nat.mod_eq_of_lt hn,Nat.mod_eq_of_lt hm] at this
theorem AP {n m:Nat} (hn:n<W8) (hm:m<W8):decide (((List.range 8).map fun i=>(wrd n i:Int))=((List.range 8).map fun i=>(wrd m i:Int)))=decide (n=m):=by
 rw[Bool.eq_iff_iff];simp only[decide_eq_true_eq]
 constructor
 ·intro h
  refine MN hn hm fun i hi=>?_
  have:=congrArg (fun l=>l[i]?) h
  simp[hi] at this
  omega
 ·rintro rfl;rfl
theorem JB {n m:Nat} (hn:n<W8) (hm:m<W8) (ox oy:Operand):binop Proofs.Tryz.prog .eql 30 ox oy (.agg (wdC n).toArray) (.agg (wdC m).toArray)=some (.bool (decide (n=m))):=by
 rw[lU,lU,qz u30 u28 yz SP _ _ _ _ (by simp) (by simp),AP hn hm]
theorem PO {n m:Nat} (hn:n<W8) (hm:m<W8) (ox oy:Operand):binop Proofs.Tryz.prog .neq 30 ox oy (.agg (wdC n).toArray) (.agg (wdC m).toArray)=some (.bool (!decide (n=m))):=by
 rw[lU,lU,yW u30 u28 yz SP _ _ _ _ (by simp) (by simp),AP hn hm]
theorem vM {n:Int} (h:0≤n):aU n=n.toNat:=by simp[aU,h]
theorem F0 {n:Int} (hn:dH n) (i:Nat) (hi:i<8):(wrd (aU n) i:Int)=if i=0 then n % 18446744073709551616 else if n<0 then 18446744073709551615 else 0:=by
 by_cases h0:0≤n
 ·rw[aU,if_pos h0]
  by_cases hz:i=0
  ·subst hz
   rw[if_pos rfl,wrd,Nat.pow_zero,Nat.div_one];omega
  ·rw[if_neg hz,if_neg (by omega),iN (i:=1) (by omega) (by omega)];rfl
 ·rw[aU,if_neg h0]
  obtain⟨u,hu⟩ : ∃u:Nat,u=n.natAbs:=⟨_,rfl⟩
  rw[←hu]
  have e:W8 - u=(18446744073709551616 - u)+18446744073709551616*(18446744073709551616 ^ 7 - 1):=by
   rw[AH];omega
  by_cases hz:i=0
  ·subst hz
   rw[if_pos rfl,wrd,Nat.pow_zero,Nat.div_one,e,Nat.add_mul_mod_self_left];omega
  ·rw[if_neg hz,if_pos (by omega)]
   obtain⟨k,rfl⟩ : ∃k,i=k+1:=⟨i - 1,by omega⟩
   have e3:((18446744073709551616 - u)+18446744073709551616*(18446744073709551616 ^ 7 - 1)) / 18446744073709551616=18446744073709551616 ^ 7 - 1:=by
    rw[Nat.add_mul_div_left _ _ (by omega),Nat.div_eq_of_lt (by omega),Nat.zero_add]
   rw[wrd,Nat.pow_succ',←Nat.div_div_eq_div_mul,e,e3]
   have hk:k<7:=by omega
   have hk2:k=0∨k=1∨k=2∨k=3∨k=4∨k=5∨k=6:=by omega
   rcases hk2 with rfl|rfl|rfl|rfl|rfl|rfl|rfl<;>rfl
def lg (w0:Int) (i:Nat):List Value:=(List.range 8).map fun j=>.int .u64 (if j=0 then w0 else if j<i then 18446744073709551615 else 0)
theorem jl (w0:Int) (i:Nat):(lg w0 i).length=8:=by simp[lg]
theorem y8 (w0:Int):lg w0 1 = [.int .u64 w0,.int .u64 0,.int .u64 0,.int .u64 0,.int .u64 0,.int .u64 0,.int .u64 0,.int .u64 0]:=by
 simp[lg,List.range_succ]
theorem HN (w0:Int) {i:Nat} (h0:0<i) (hi:i<8):(lg w0 i).set i (.int .u64 18446744073709551615)=lg w0 (i+1):=by
 apply List.ext_getElem?
 intro j
 rw[List.getElem?_set,jl]
 by_cases hij:i=j
 ·subst hij
  rw[if_pos rfl,if_pos hi]
  simp[lg,hi,show ¬i=0 by omega]
 ·rw[if_neg hij]
  by_cases hj:j<8
  ·simp only[lg,List.getElem?_map,List.getElem?_range hj,Option.map_some]
   by_cases hz:j=0
   ·simp[hz]
   ·by_cases hlt:j<i
    ·simp[hz,hlt,show j<i+1 by omega]
    ·simp[hz,hlt,show ¬j<i+1 by omega]
  ·rw[List.getElem?_eq_none (by rw[jl];omega),List.getElem?_eq_none (by rw[jl];omega)]
theorem HP {n:Int} (hn:dH n) (h0:n<0):lg (n % 18446744073709551616) 8=wdC (aU n):=by
 apply List.ext_getElem?
 intro j
 by_cases hj:j<8
 ·rw[bF _ _ hj]
  simp only[lg,List.getElem?_map,List.getElem?_range hj,Option.map_some,K64,F0 hn j hj]
  simp[h0,hj]
 ·rw[List.getElem?_eq_none (by rw[jl];omega),List.getElem?_eq_none (by rw[aj];omega)]
theorem HO {n:Int} (hn:dH n) (h0 : ¬n<0):lg (n % 18446744073709551616) 1=wdC (aU n):=by
 apply List.ext_getElem?
 intro j
 by_cases hj:j<8
 ·rw[bF _ _ hj]
  simp only[lg,List.getElem?_map,List.getElem?_range hj,Option.map_some,K64,F0 hn j hj]
  by_cases hz:j=0
  ·simp[hz]
  ·simp[h0,hz]
 ·rw[List.getElem?_eq_none (by rw[jl];omega),List.getElem?_eq_none (by rw[aj];omega)]
set_option maxRecDepth 100000 in
theorem kU {h:IH} (n:Int) (hn:dH n):WV Proofs.Tryz.prog (.func (.func 34) #[] #[]) [KI n] h fun r h'=>Ext h h'∧r=mj n:=by
 have hw:IntKind.u64.wrap n=n % 18446744073709551616:=pY n
 have hE : ∀a b c,Ext h (((h.new a).new b).put (h.n+1) c):=fun a b c=>(((Ext.refl h).new _).new _).put (by omega) _
 have fin : ∀h1:IH,Ext h h1→h.n+1<h1.n→h1.ext.get (h.n+1)=some (.cells (wdC (aU n)) 0 none)→h1.ext.get h.n=some (.cells [ZW,ZW,ZW,ZW,ZW,ZW,ZW,ZW] 0 none)→True:=fun _ _ _ _ _=>trivial
 refine enter (nt:=17) (rs:=[.cell 2 30]) Proofs.Tryz.func34 rfl rfl rfl (by simp) ?_
 simp -dsimp (disch:=try exact dx) only[wpR]
 rw[kf]
 simp -dsimp (disch:=try exact dx) only[wpR,dB]
 rw[kf]
 simp -dsimp (disch:=try exact dx) only[wpR,wpT,zE,zL,zA,dB,xZ,ra,P4,cj,hw]
 rw[kf]
 refine cut (fun fr2 h2=>Ext h h2∧ah fr2 2=some (ptr (2*h.n) 0)∧ah fr2 3=some (ptr (2*(h.n+1)) 0)∧h.n+1<h2.n∧h2.ext.get (h.n+1)=some (.cells (wdC (aU n)) 0 none)∧h2.ext.get h.n=some (.cells [ZW,ZW,ZW,ZW,ZW,ZW,ZW,ZW] 0 none)) ?_ ?_
 ·by_cases h0:n<0
  ·simp -dsimp (disch:=try exact dx) only[wpS,zE,sU h0]
   refine loop (fun m fr h2 => ∃i:Nat,i+m=8∧0<i∧ah fr 2=some (ptr (2*h.n) 0)∧ah fr 3=some (ptr (2*(h.n+1)) 0)∧ah fr 4=some (KN i)∧Ext h h2∧h.n+1<h2.n∧h2.ext.get (h.n+1)=some (.cells (lg (n % 18446744073709551616) i) 0 none)∧h2.ext.get h.n=some (.cells [ZW,ZW,ZW,ZW,ZW,ZW,ZW,ZW] 0 none)) 7 ⟨1,by simp,by simp,by simp,by simp,by simp,hE _ _ _,by simp,?_,?_⟩ ?_
   ·rw[y8];exact ad _ _ rfl
   ·simp -dsimp (disch:=try exact dx) only[wpS]
   ·rintro m fr h2 ⟨i,him,hi0,f2,f3,f4,hE2,hlt,hg1,hg0⟩
    simp -dsimp (disch:=try exact dx) only[wpS,zE,f4]
    refine ax ?_ ?_<;>intro hc<;>simp only[decide_eq_true_eq,decide_eq_false_iff_not] at hc
    ·have hi:i<8:=by omega
     have hsp:IH.aD (lg (n % 18446744073709551616) i) i [.int .u64 18446744073709551615]=lg (n % 18446744073709551616) (i+1):=by
      rw[fX (by rw[jl];exact hi),HN _ hi0 hi]
     simp -dsimp (disch:=try exact dx) only[wpS,wpT,zE,zL,kS,mb,f3,f4,kS,hg1,jl,hsp]
     refine⟨m - 1,by omega,i+1,by omega,by omega,by simp[f2],by simp[f3],by simp,hE2.put (by omega) _,by simpa using hlt,ad _ _ rfl,?_⟩
     rw[ae _ _ (by omega)];exact hg0
    ·obtain rfl:i=8:=by omega
     simp -dsimp (disch:=try exact dx) only[wpS,wpT]
     exact⟨hE2,by simp[f2],by simp[f3],hlt,by rw[hg1,HP hn h0],hg0⟩
  ·simp -dsimp (disch:=try exact dx) only[wpS,zE,sV h0]
   refine⟨hE _ _ _,by simp,by simp,by simp,?_,?_⟩
   ·rw[←HO hn h0,y8];exact ad _ _ rfl
   ·simp -dsimp (disch:=try exact dx) only[wpS]
 ·rintro fr2 h2 ⟨hE2,f2,f3,hlt,hg1,hg0⟩
  have dE:h2.row (2*(h.n+1))=some (wdC (aU n)):=by rw[iU];exact yd hg1
  have Fk:IH.aD [ZW,ZW,ZW,ZW,ZW,ZW,ZW,ZW] 0 (wdC (aU n))=wdC (aU n):=fY (by rw[aj];rfl)
  simp -dsimp (disch:=try exact dx) only[wpS,wpT,zE,zL,zA,cj,ba,f2,f3,dE,hg0,aj,dV,ay,Fk]
  exact⟨hE2.put (by omega) _,rfl⟩
end Go.Id

namespace Go.Id
open Go
def wds (n:Nat):List Nat:=(List.range 8).map (wrd n)
theorem gW (n:Nat):(wds n).length=8:=by simp[wds]
theorem kJ (n:Nat):B.bz (wds n):=fun d hd=>by
 simp only[wds,List.mem_map] at hd
 obtain⟨i,_,rfl⟩:=hd
 exact qB _ _
theorem iP (n:Nat):wdC n=(wds n).map K64:=by simp[wdC,wds]
theorem F4 (n:Nat) {i:Nat} (hi:i<8):(wds n).getD i 0=wrd n i:=by
 rw[List.getD_eq_getElem?_getD];simp[wds,hi]
theorem ru (n:Nat) : ∀i,i≤8→B.az (wds n) i=n % 18446744073709551616 ^ i
 | 0,_=>by simp[B.az,Nat.mod_one]
 | i+1,h=>by
  rw[B.az,ru n i (by omega),F4 n (by omega),wrd,Nat.pow_succ,Nat.mod_mul,Nat.mul_comm]
theorem uR:W8=18446744073709551616 ^ 8:=by unfold W8;rfl
theorem bV:H8+H8=W8:=by unfold W8 H8;rfl
theorem jg:0<H8:=by unfold H8;decide
theorem AN {n:Nat} (h:n<W8):B.au (wds n)=n:=by
 rw[B.au,gW,ru n 8 (Nat.le_refl _),←uR,Nat.mod_eq_of_lt h]
theorem AO {ds:List Nat} (hl:ds.length=8) (hd:B.bz ds):wds (B.au ds)=ds:=by
 apply List.ext_getElem (by rw[gW,hl])
 intro i h1 h2
 rw[gW] at h1
 have e1:=F4 (B.au ds) h1
 have e2:=B.oX hd i
 rw[wrd,←e2] at e1
 rw[List.getD_eq_getElem?_getD,List.getD_eq_getElem?_getD,List.getElem?_eq_getElem (by rw[gW];exact h1),List.getElem?_eq_getElem h2] at e1
 simpa using e1
theorem F6 {ds:List Nat} (hl:ds.length=8) (hd:B.bz ds):B.au ds<W8:=by
 have:=B.jH hd
 rwa [hl,←uR] at this
theorem aM (n:Nat):(wdV n).cells.toList=wdC n:=rfl
set_option maxHeartbeats 2000000 in
theorem kM {h:IH} (a b:Nat) (ha:a<W8) (hb:b<W8):WV Proofs.Tryz.prog (.func (.func 241) #[] #[]) [wdV a,wdV b] h fun r h'=>Ext h h' ∧ ∃m bor,r=.tuple #[wdV m,K64 bor]∧m<W8∧bor≤1∧a+bor*W8=b+m:=by
 refine enter (nt:=27) (rs:=[.cell 4 234,.tmp 5]) Proofs.Tryz.func241 rfl rfl rfl (by simp) ?_
 simp -dsimp (maxSteps:=1000000) (disch:=first|omega|(simp only[al,aq];omega)|decide +kernel|(repeat first|rw[al]|rw[aq])) only[wpS,Nat.reduceEqDiff,Nat.reduceAdd,y5,aM]
 rw[iP a,iP b]
 have lA:=gW a
 have lB:=gW b
 refine loop (fun m fr h1 => ∃(i bor:Nat) (os:List Nat),i+m=8∧Ext h h1∧h.n+3≤h1.n∧h1.ext.get h.n=some (.cells (os.map K64) 0 none)∧h1.ext.get (h.n+1)=some (.cells ((wds b).map K64) 0 none)∧(∃c,h1.ext.get (h.n+1+1)=some (.cells c 0 none)∧c.length=8)∧bor≤1∧os.length=8∧B.bz os∧(∀j,i≤j→os.getD j 0=(wds a).getD j 0) ∧
   B.az (wds a) i+bor*18446744073709551616 ^ i=B.az (wds b) i+B.az os i∧ah fr 2=some (ptr (2*h.n) 0)∧ah fr 3=some (ptr (2*(h.n+1)) 0)∧ah fr 4=some (ptr (2*(h.n+1+1)) 0)∧ah fr 6=some (K64 bor)∧ah fr 8=some (KN i)) 8
  ⟨0,0,wds a,rfl,(((Ext.refl h).new _).new _).new _,by simp<;>omega,by simp (disch:=first|omega|(simp only[al,aq];omega)|(repeat first|rw[al]|rw[aq])) only[aa,ao],by simp (disch:=first|omega|(simp only[al,aq];omega)|(repeat first|rw[al]|rw[aq])) only[aa,ao],⟨[ZW,ZW,ZW,ZW,ZW,ZW,ZW,ZW],by simp (disch:=first|omega|(simp only[al,aq];omega)|(repeat first|rw[al]|rw[aq])) only[aa],rfl⟩,by omega,lA,kJ a,fun _ _=>rfl,by simp[B.az],by simp,by simp,by simp,by simp,by simp⟩ ?_
 rintro m fr h1 ⟨i,bor,os,him,hE,hn,hg,hg1,hg2,Dv,hol,hod,hoa,hv,f2,f3,f4,f6,f8⟩
 simp -dsimp (maxSteps:=1000000) (disch:=first|omega|(simp only[al,aq];omega)|decide +kernel|(repeat first|rw[al]|rw[aq])) only[wpS,f8]
 refine ax ?_ ?_<;>intro hc<;>simp only[decide_eq_true_eq,decide_eq_false_iff_not] at hc
 ·have hi:i<8:=by omega
  have r0:=bg hg
  have r1:=bg hg1
  have go:=get_some (show i<os.length by omega)
  have gb:=get_some (show i<(wds b).length by omega)
  have hx:=hoa i (Nat.le_refl _)
  have dx:=B.bj hod i
  have dy:=B.bj (kJ b) i
  obtain⟨x,hx1⟩ : ∃x,x=os.getD i 0:=⟨_,rfl⟩
  obtain⟨y,hy1⟩ : ∃x,x=(wds b).getD i 0:=⟨_,rfl⟩
  rw[←hx1] at go dx hx
  rw[←hy1] at gb dy
  simp -dsimp (maxSteps:=1000000) (disch:=first|omega|(simp only[al,aq];omega)|decide +kernel|(repeat first|rw[al]|rw[aq])) only[wpS,wpT,Nat.reduceEqDiff,AD,jY,f2,f3,f6,f8,r0,r1,bD,go,gb]
  refine call (Cp x y bor Dv) ?_
  rintro _ _ ⟨rfl,rfl⟩
  generalize hdd:(x+18446744073709551616 - y - bor) % 18446744073709551616=d
  obtain⟨b2,hb2,hb1,iz⟩ : ∃b2:Nat,(bif Nat.blt x (y+bor) then 1 else 0)=b2∧b2≤1∧x+b2*18446744073709551616=y+bor+d:=by
   by_cases hlt:x<y+bor
   ·have e:Nat.blt x (y+bor)=true:=by simp only[Nat.blt,Nat.ble_eq];exact hlt
    refine⟨1,by rw[e];rfl,by omega,by omega⟩
   ·have e:Nat.blt x (y+bor)=false:=by rw[Bool.eq_false_iff];intro h;simp[Nat.blt] at h;omega
    refine⟨0,by rw[e];rfl,by omega,by omega⟩
  rw[hb2]
  have hd2:d<18446744073709551616:=by omega
  have spl:=iQ d (show i<os.length by omega)
  rename_i h3
  simp -dsimp (maxSteps:=1000000) (disch:=first|omega|(simp only[al,aq];omega)|decide +kernel|(repeat first|rw[al]|rw[aq])) only[wpS,wpT,Nat.reduceEqDiff,Nat.reduceLeDiff,AD,mb,f2,f8,hg,spl,List.length_map,hol]
  obtain⟨c,hgc,hcl⟩:=hg2
  refine⟨m - 1,by omega,i+1,b2,os.set i d,by omega,hE.put (Nat.le_refl _) _,hn,ad _ _ rfl,by simp (disch:=first|omega|(simp only[al,aq];omega)|(repeat first|rw[al]|rw[aq])) only[ae];exact hg1,⟨c,by simp (disch:=first|omega|(simp only[al,aq];omega)|(repeat first|rw[al]|rw[aq])) only[ae];exact hgc,hcl⟩,hb1,by rw[List.length_set,hol],hod.set _ hd2,?_,?_,by simp[f2],by simp[f3],by simp[f4],by simp,by simp⟩
  ·intro j hj
   rw[B.cY (by omega),if_neg (by omega)]
   exact hoa j (by omega)
  ·rw[gR (by omega),B.az,B.az,←hx,←hy1,Nat.pow_succ]
   have e3:x*18446744073709551616 ^ i+b2*(18446744073709551616 ^ i*18446744073709551616)=(y+bor+d)*18446744073709551616 ^ i:=by rw[←iz];grind
   have e4:(y+bor+d)*18446744073709551616 ^ i=y*18446744073709551616 ^ i+bor*18446744073709551616 ^ i+d*18446744073709551616 ^ i:=by grind
   omega
 ·obtain rfl:i=8:=by omega
  have r0:=bg hg
  have lm:(os.map K64).length=8:=by rw[List.length_map,hol]
  have all:=Bj os
  have tk8:List.take 8 (List.drop 0 (os.map K64))=os.map K64:=by rw[List.drop_zero,List.take_of_length_le (by omega)]
  obtain⟨c,hgc,hcl⟩:=hg2
  have hsp:IH.aD c 0 (os.map K64)=os.map K64:=fY (by rw[hcl,lm])
  simp -dsimp (maxSteps:=1000000) (disch:=first|omega|(simp only[al,aq];omega)|decide +kernel|(repeat first|rw[al]|rw[aq])) only[wpS,wpT,Nat.reduceEqDiff,Nat.reduceLeDiff,gK,ui,f2,f4,f6,r0,lm,all,tk8,hgc,hcl,hsp]
  rw[←AO hol hod,←iP] 
  have e8 : ∀n,n<W8→B.az (wds n) 8=n:=fun n hn=>by rw[ru n 8 (Nat.le_refl _),←uR,Nat.mod_eq_of_lt hn]
  rw[e8 a ha,e8 b hb,←uR] at hv
  have hvo:B.az os 8=B.au os:=by rw[B.au,hol]
  rw[hvo] at hv
  exact⟨hE.put (by omega) _,B.au os,bor,rfl,F6 hol hod,Dv,hv⟩
end Go.Id

namespace Go.Id
open Go
open Go.Proofs.Tryz (prog)
open Nat (reduceMul)
open Nat renaming reduceAdd→zA,reduceEqDiff→zE,reduceLeDiff→zL
theorem kL {h:IH} (a b:Nat) (ha:a<W8) (hb:b<W8):WV prog (.func (.func 229) #[] #[]) [wdV a,wdV b] h fun r h'=>Ext h h'∧r=KI (if a<b then -1 else if a=b then 0 else 1):=by
 refine enter (nt:=24) (rs:=[.tmp 4]) Proofs.Tryz.func229 rfl rfl rfl (by simp) ?_
 simp -dsimp (disch:=try exact dx) only[wpS,zE,zA,aM]
 rw[iP a,iP b]
 have lA:=gW a
 have lB:=gW b
 have e2 : ∀o1 o2,Ext h ((h.new o1).new o2):=fun o1 o2=>((Ext.refl h).new _).new _
 have hA:B.au (wds a)=a:=AN ha
 have hB:B.au (wds b)=b:=AN hb
 refine loop (fun m fr h1=>h1=((h.new (.cells ((wds a).map K64) 0 none)).new (.cells ((wds b).map K64) 0 none))∧m≤8∧(∀j,m≤j→j<8→(wds a).getD j 0=(wds b).getD j 0) ∧
   ah fr 2=some (ptr (2*h.n) 0)∧ah fr 3=some (ptr (2*(h.n+1)) 0)∧ah fr 5=some (KI ((m:Int) - 1))) 8
  ⟨rfl,Nat.le_refl _,fun j h1 h2=>by omega,by simp,by simp,by simp⟩ ?_
 rintro m fr h1 ⟨rfl,hm,hz,f2,f3,f5⟩
 rcases Nat.eq_zero_or_pos m with rfl|hp
 ·simp -dsimp (disch:=try exact dx) only[wpS,wpT,zE,f5]
  refine⟨e2 _ _,?_⟩
  have:=B.kW (lA.trans lB.symm) (fun j hj=>hz j (Nat.zero_le _) (by omega))
  rw[hA,hB] at this
  rw[if_neg (by omega),if_pos this]
 ·obtain⟨k,rfl⟩ : ∃k,m=k+1:=⟨m - 1,by omega⟩
  have h2:(((k+1:Nat):Int) - 1)=(k:Int):=by omega
  rw[h2] at f5
  have ga:=get_some (show k<(wds a).length by omega)
  have gb:=get_some (show k<(wds b).length by omega)
  have da:=B.bj (kJ a) k
  have db:=B.bj (kJ b) k
  have key:((wds a).getD k 0<(wds b).getD k 0→a<b)∧((wds b).getD k 0<(wds a).getD k 0→b<a):=by
   have k1:=fun h=>B.jx (kJ a) (lA.trans lB.symm) (show k<(wds a).length by omega) h (fun j x y=>hz j (by omega) (by omega))
   have k2:=fun h=>B.jx (kJ b) (lB.trans lA.symm) (show k<(wds b).length by omega) h (fun j x y=>(hz j (by omega) (by omega)).symm)
   rw[hA,hB] at k1 k2
   exact⟨k1,k2⟩
  obtain⟨x,hx⟩ : ∃x,x=(wds a).getD k 0:=⟨_,rfl⟩
  obtain⟨y,hy⟩ : ∃x,x=(wds b).getD k 0:=⟨_,rfl⟩
  rw[←hx] at ga da key
  rw[←hy] at gb db key
  simp -dsimp (disch:=try exact dx) only[wpS,wpT,zE,AD,jY,f2,f3,f5,bD,ga,gb]
  refine ax ?_ ?_<;>intro hc<;>simp only[bne_iff_ne,bne_eq_false_iff_eq,ne_eq] at hc
  ·simp -dsimp (disch:=try exact dx) only[wpS,wpT,zE,AD,jY,f2,f3,f5,bD,ga,gb]
   refine ax ?_ ?_<;>intro hc2<;>simp only[decide_eq_true_eq,decide_eq_false_iff_not] at hc2
   ·simp -dsimp (disch:=try exact dx) only[wpS,wpT,zE]
    have:=key.1 (by omega)
    exact⟨e2 _ _,by rw[if_pos this]⟩
   ·simp -dsimp (disch:=try exact dx) only[wpS,wpT]
    have:=key.2 (by omega)
    exact⟨e2 _ _,by rw[if_neg (by omega),if_neg (by omega)]⟩
  ·simp -dsimp (disch:=try exact dx) only[wpS,wpT,zE,f5]
   refine⟨k,by omega,rfl,by omega,fun j h1 h2=>?_,by simp[f2],by simp[f3],by simp⟩
   by_cases hj:j=k
   ·subst hj;omega
   ·exact hz j (by omega) h2
def jW (b:Bool) (n:Nat):Value:=.agg (Value.bool b :: wdC n).toArray
theorem dM (b:Bool) (n:Nat):(jW b n).cells.toList=.bool b :: wdC n:=rfl
theorem aO (n:Nat):IH.aD [ZW,ZW,ZW,ZW,ZW,ZW,ZW,ZW] 0 (wdC n)=wdC n:=fY (by rw[aj];rfl)
theorem mP (m n:Nat):IH.aD (wdC m) 0 (wdC n)=wdC n:=fY (by rw[aj,aj])
theorem fK (b:Value) (n:Nat):List.take 8 (List.drop 1 (b :: wdC n))=wdC n:=by
 rw[List.drop_succ_cons,List.drop_zero,List.take_of_length_le (by rw[aj];omega)]
theorem eg (b:Value) (n:Nat):List.take 9 (List.drop 0 (b :: wdC n))=b :: wdC n:=by
 rw[List.drop_zero,List.take_of_length_le (by simp[aj])]
theorem JA:List.take 8 (List.drop 0 [ZW,ZW,ZW,ZW,ZW,ZW,ZW,ZW]) = [ZW,ZW,ZW,ZW,ZW,ZW,ZW,ZW]:=rfl
theorem gC:Value.agg #[ZW,ZW,ZW,ZW,ZW,ZW,ZW,ZW]=wdV 0:=by rw[wdV,gQ]
theorem vn {h:IH} (n:Nat) (hn:n<W8):WV prog (.func (.func 172) #[] #[]) [wdV n] h fun r h'=>Ext h h'∧r=jW (decide (wdI n<0)) (wdI n).natAbs:=by
 have h7:=PJ hn
 have l7:=qB n 7
 have hs:lF (wrd n 7) 63=wrd n 7 / 9223372036854775808:=Nat.shiftRight_eq_div_pow _ _
 have Qz:((((wrd n 7 / 9223372036854775808:Nat):Int)) == 1)=decide (wdI n<0):=by
  have h2:=bV
  by_cases hlt:n<H8
  ·have e1:wrd n 7 / 9223372036854775808=0:=by have:=h7.2 hlt;omega
   rw[e1,wdI,if_pos hlt];simp
  ·have e1:wrd n 7 / 9223372036854775808=1:=by
    have : ¬wrd n 7<9223372036854775808:=fun h=>hlt (h7.1 h)
    omega
   rw[e1,wdI,if_neg hlt];simp;omega
 refine enter (nt:=21) (rs:=[.cell 2 236]) Proofs.Tryz.func172 rfl rfl rfl (by simp) ?_
 simp -dsimp (disch:=try exact dx) only[wpS,wpT,zE,zL,zA,Int.reduceToNat,pX,kS,jY,ba,Pw,Gw,Nn,nJ,iX,ld4,aM,aj,ay,dV,kS,bF n 7 (by omega),show nP 7 8=some 7 from rfl,hs,Qz,aO]
 refine ax ?_ ?_<;>intro hc<;>simp only[decide_eq_true_eq,decide_eq_false_iff_not] at hc
 ·have h2:=bV
  have hge:H8≤n:=by
   unfold wdI at hc
   split at hc<;>omega
  have hw:wdI n = -((W8 - n:Nat):Int):=by
   unfold wdI
   rw[if_neg (by omega)]
   omega
  simp -dsimp (disch:=try exact dx) only[wpS,wpT,zE,zL,zA,DU,fi,gK,fK,aj]
  rw[gC]
  refine call (kM 0 n (by omega) hn) ?_
  rintro _ h1 ⟨hE,m,bor,rfl,hm,hb,iz⟩
  have hp:=jg
  have hb1:bor=1:=by
   rcases Nat.eq_zero_or_pos bor with h0|h0
   ·subst h0;omega
   ·omega
  subst hb1
  have hmm:(wdI n).natAbs=m:=by omega
  rw[hmm]
  have n1:=(hE).n;try simp only[al,aq] at n1
  have g2:h1.ext.get (h.n+1+1)=some (.cells (.bool true :: wdC n) 0 none):=by rw[hE.get _ (by simp)];simp (disch:=try exact dx) only[ad]
  have g1:h1.ext.get (h.n+1)=some (.cells [.bool false,ZW,ZW,ZW,ZW,ZW,ZW,ZW,ZW] 0 none):=by rw[hE.get _ (by simp)];simp (disch:=try exact dx) only[aa,ao,ae]
  simp -dsimp (disch:=try exact dx) only[wpS,wpT,zE,zL,zA,nJ,fi,ui,nO,g2,aM,aj,ay,mP,eg,g1,aO]
  refine⟨?_,by simp[jW]⟩
  exact(((((Ext.refl h).new _).new _).new _).put (by omega) _).trans hE |>.put (by omega) _ |>.put (by omega) _
 ·have hlt:n<H8:=by
   apply Classical.byContradiction;intro hne
   apply hc
   unfold wdI
   rw[if_neg hne];omega
  have hw:(wdI n).natAbs=n:=by unfold wdI;rw[if_pos hlt];omega
  simp -dsimp (disch:=try exact dx) only[wpS,wpT,zE,zL,zA,nJ,nO,aj,ay,eg,aO]
  rw[hw]
  exact⟨((((Ext.refl h).new _).new _).new _).put (by omega) _ |>.put (by omega) _,by simp[jW]⟩
theorem fN {h:IH} (n:Nat) (hn:n<W8):WV prog (.func (.func 86) #[] #[]) [wdV n] h fun r h'=>Ext h h'∧bq h' r (wdI n):=by
 have h2:=bV
 have hab:(wdI n).natAbs<W8:=by unfold wdI;split<;>omega
 refine enter (nt:=13) (rs:=[.cell 2 137]) Proofs.Tryz.func86 rfl rfl rfl (by simp) ?_
 simp -dsimp (disch:=try exact dx) only[wpS,zE,zL,fU,ba,aM,aj,dV]
 refine call (vn n hn) ?_
 rintro _ h1 ⟨hE,rfl⟩
 have n1:=(hE).n;try simp only[al] at n1
 simp -dsimp (disch:=try exact dx) only[wpS,wpT,zE,zL,zA,pX,nJ,dM,aj,ay,aO]
 obtain⟨H2,hH2⟩ : ∃H2,H2=(h1.new (.cells [.bool false,ZW,ZW,ZW,ZW,ZW,ZW,ZW,ZW] 0 none)).put h1.n (.cells (.bool (decide (wdI n<0)) :: wdC (wdI n).natAbs) 0 none):=⟨_,rfl⟩
 have n2:H2.n=h1.n+1:=by rw[hH2];rfl
 have g3:H2.ext.get h1.n=some (.cells (.bool (decide (wdI n<0)) :: wdC (wdI n).natAbs) 0 none):=by rw[hH2];simp (disch:=try exact dx) only[ad]
 have g1:H2.ext.get (h.n+1)=some (.cells ZL 0 none):=by rw[hH2];simp (disch:=try exact dx) only[ao,ae];rw[hE.get _ (by simp)];simp (disch:=try exact dx) only[aa]
 have E2:Ext h H2:=by rw[hH2];exact(((((Ext.refl h).new _).new _).trans hE).new _).put (by omega) _
 rw[←hH2]
 have r3:=bg g3
 have r4:(H2.new (.cells [] 1 none)).row (2*h1.n)=some (.bool (decide (wdI n<0)) :: wdC (wdI n).natAbs):=bg (by simp (disch:=try exact dx) only[ao];exact g3)
 have Ux:ko (H2.new (.cells [] 1 none)) 1 (.slice (some ⟨2*h1.n,1,none⟩) 8 (2*8+1)) 8 (wdC (wdI n).natAbs):=Oy r4 (by omega) (by rw[aj]) (fK _ _) (by simp[aj])
 have hap:=oZ Tn (H2.new (.cells [] 1 none)) Ux (by omega) (ay _) (by omega) (2*H2.n) 0
 refine drawn [(1,[5,6])] (by kernel_rfl) (by kernel_rfl) rfl ?_
 simp -dsimp (disch:=try exact dx) only[wpS,wpT,zE,zA,reduceMul,iX,ld4,Ms,fi,Jp,r3,zm (P:=prog) PS yz (by omega),hap]
 have hW:gu ((H2.new (.cells [] 1 none)).new (.cells (wdC (wdI n).natAbs) 1 none)) (.slice (some ⟨2*(H2.n+1),0,none⟩) 8 16) (wds (wdI n).natAbs):=by
  refine⟨?_,kJ _,by rw[gW];omega⟩
  rw[←iP,gW]
  exact(Hz (h:=H2.new (.cells [] 1 none)) (sz:=1) (m:=8) (by omega) (by rw[aj]) (by omega)).sl
 refine call (fD hW _) ?_
 rintro _ h3 ⟨hE3,hr⟩
 rw[AN hab] at hr
 have hz:(if decide (wdI n<0)=true then -((wdI n).natAbs:Int) else (wdI n).natAbs)=wdI n:=by
  by_cases h0:wdI n<0<;>simp[h0]<;>omega
 rw[hz] at hr
 obtain⟨s1,n3,rfl,c3,o3,l3,z3⟩:=hr.form
 have m3:=(hE3).n;try simp only[al] at m3
 have hg:h3.ext.get (h.n+1)=some (.cells ZL 0 none):=by rw[hE3.get _ (by simp only[al];omega)];simp (disch:=try exact dx) only[ao];exact g1
 have r5:((H2.new (.cells [] 1 none)).new (.cells (wdC (wdI n).natAbs) 1 none)).row (2*h1.n)=some (.bool (decide (wdI n<0)) :: wdC (wdI n).natAbs):=bg (by simp (disch:=try exact dx) only[ao];exact g3)
 have r6:h3.row (2*h1.n)=some (.bool (decide (wdI n<0)) :: wdC (wdI n).natAbs):=bg (by rw[hE3.get _ (by simp only[al];omega)];simp (disch:=try exact dx) only[ao];exact g3)
 simp -dsimp (disch:=try exact dx) only[wpS,wpT,zE,zL,zA,dI,hg,o3]
 refine⟨rp (ak rfl rfl rfl rfl (aA (av:=ptr (2*h1.n) 0) (v:=.bool (decide (wdI n<0))) rfl ?_ ?_)) (ak rfl rfl rfl rfl (aA (av:=ptr (2*h1.n) 0) (v:=.bool (decide (wdI n<0))) rfl ?_ ?_)),?_⟩
 ·simp -dsimp (disch:=try exact dx) only[wpS,ld4,r3]
 ·simp -dsimp (disch:=try exact dx) only[wpS,ld4,r4]
 ·simp -dsimp (disch:=try exact dx) only[wpS,ld4,r3]
 ·simp -dsimp (disch:=try exact dx) only[wpS,ld4,r5]
 simp -dsimp (disch:=try exact dx) only[wpS,wpT,zE,zL,zA,bh]
 exact⟨(((E2.new _).new _).trans hE3).put (by omega) _,hr.ab ((aF.refl _).put hg _)⟩
theorem Lr : [ZW,ZW,ZW,ZW,ZW,ZW,ZW,.int .u64 9223372036854775808]=wdC H8:=by
 have h2:B.au [0,0,0,0,0,0,0,9223372036854775808]=H8:=by unfold H8;simp[B.au,B.az]
 have h3:=AO (ds:=[0,0,0,0,0,0,0,9223372036854775808]) rfl (by intro d hd;simp at hd;omega)
 rw[h2] at h3
 rw[iP,h3];rfl
theorem wY {h:IH} (b:Bool) (n:Nat) (hn:n<W8):WV prog (.func (.func 175) #[] #[]) [jW b n] h fun r h'=>Ext h h'∧r=if H8<n∨(n=H8∧b=false) then .tuple #[wdV 0,KI 6] else .tuple #[wdV (if b=true then (W8 - n) % W8 else n),KI 0]:=by
 have h2:=bV
 have hp:=jg
 refine enter (nt:=35) (rs:=[.cell 2 30,.tmp 3]) Proofs.Tryz.func175 rfl rfl rfl (by simp) ?_
 simp -dsimp (disch:=try exact dx) only[wpS,wpT,zE,zL,zA,dB,DU,No,y5,ui,fi,gK,dM,aj,fK]
 rw[Lr]
 simp -dsimp (disch:=try exact dx) only[dV]
 refine call (kL n H8 hn (by omega)) ?_
 rintro _ h1 ⟨hE,rfl⟩
 have n1:=(hE).n;try simp only[al,aq] at n1
 have g0:h1.ext.get h.n=some (.cells (.bool b :: wdC n) 0 none):=by rw[hE.get _ (by simp<;>omega)];simp (disch:=try exact dx) only[aa,ao,ae]
 have g1:h1.ext.get (h.n+1)=some (.cells [ZW,ZW,ZW,ZW,ZW,ZW,ZW,ZW] 0 none):=by rw[hE.get _ (by simp)];simp (disch:=try exact dx) only[aa,ao,ae]
 have hE1:=((((Ext.refl h).new _).new _).new _).put (by omega) _ |>.trans hE
 have r0:=bg g0
 have r1:=bg g1
 rcases Nat.lt_trichotomy n H8 with hlt|heq|hgt
 ·rw[if_pos hlt,if_neg (by omega)]
  cases b
  ·simp -dsimp (disch:=try exact dx) only[wpS,wpT,zE,zL,zA,fi,gK,iX,ld4,cj,ba,r0,g1,aj,ay,fK,aO,dV]
   exact⟨hE1.put (by omega) _,by simp;rfl⟩
  ·simp -dsimp (disch:=try exact dx) only[wpS,wpT,zE,zL,zA,DU,fi,gK,iX,ld4,r0,aj,fK]
   rw[gC]
   refine call (kM 0 n (by omega) hn) ?_
   rintro _ h3 ⟨hE3,m,bor,rfl,hm,hb,iz⟩
   have hmm:(W8 - n) % W8=m:=by
    rcases Nat.eq_zero_or_pos bor with h0|h0
    ·subst h0
     have h5:n=0:=by omega
     rw[h5,Nat.sub_zero,Nat.mod_self];omega
    ·have h5:bor=1:=by omega
     subst h5
     by_cases h6:n=0
     ·exfalso;omega
     ·rw[Nat.mod_eq_of_lt (by omega)];omega
   have n3:=(hE3).n;try simp only[al,aq] at n3
   have k0:=(hE3.get _ (by omega)).trans g0
   have k1:=(hE3.get _ (by omega)).trans g1
   simp -dsimp (disch:=try exact dx) only[wpS,wpT,zE,zL,zA,ui,fi,gK,cj,ba,k0,k1,aM,aj,ay,fK,mP,aO,dV]
   refine⟨((hE1.trans hE3).put (by omega) _).put (by omega) _,?_⟩
   rw[hmm]
   simp
   try rfl
 ·subst heq
  rw[if_neg (by omega),if_pos rfl]
  cases b
  ·simp -dsimp (disch:=try exact dx) only[wpS,wpT,zE,zL,zA,iX,ld4,ra,cj,ba,r0,g1,JA]
   refine⟨hE1.put (by omega) _,?_⟩
   simp[gC]
  ·simp -dsimp (disch:=try exact dx) only[wpS,wpT,zE,zL,zA,DU,fi,gK,iX,ld4,r0,aj,fK]
   rw[gC]
   refine call (kM 0 H8 (by omega) hn) ?_
   rintro _ h3 ⟨hE3,m,bor,rfl,hm,hb,iz⟩
   have hmm:(W8 - H8) % W8=m:=by
    rcases Nat.eq_zero_or_pos bor with h0|h0
    ·subst h0
     have h5:H8=0:=by omega
     rw[h5,Nat.sub_zero,Nat.mod_self];omega
    ·have h5:bor=1:=by omega
     subst h5
     by_cases h6:H8=0
     ·exfalso;omega
     ·rw[Nat.mod_eq_of_lt (by omega)];omega
   have n3:=(hE3).n;try simp only[al,aq] at n3
   have k0:=(hE3.get _ (by omega)).trans g0
   have k1:=(hE3.get _ (by omega)).trans g1
   simp -dsimp (disch:=try exact dx) only[wpS,wpT,zE,zL,zA,ui,fi,gK,cj,ba,k0,k1,aM,aj,ay,fK,mP,aO,dV]
   refine⟨((hE1.trans hE3).put (by omega) _).put (by omega) _,?_⟩
   rw[hmm]
   simp
   try rfl
 ·rw[if_neg (by omega),if_neg (by omega)]
  simp -dsimp (disch:=try exact dx) only[wpS,wpT,zE,zL,zA,ra,cj,ba,g1,JA]
  refine⟨hE1.put (by omega) _,?_⟩
  rw[gC,if_pos (.inl hgt)]
end Go.Id

namespace Go.Id
open Go
open Go.Proofs.Tryz (prog)
open Nat (reduceMul)
open Nat renaming reduceAdd→zA,reduceEqDiff→zE,reduceLeDiff→zL
set_option maxHeartbeats 16000000
theorem I7 {P:Program} {t e:TypeId} {sz:Nat} (hu:P.underlying t=some (.slice e)) (hS:aP P e=some sz) (h:IH) (b o n c:Nat) {s:Value} {ss:List Value} (hs:ko h sz s 0 ss) (ts:Array TypeId) (ht:ts[0]?=some t) :
  builtin P h .copy ts [.slice (some ⟨b,o,none⟩) n c,s]=some (.int .i64 0,h):=by
 have hf:dr h sz 0 s=some []:=by
  obtain⟨hz,hl,⟨rfl,_⟩|⟨b,o,k,rfl,s⟩⟩:=hs
  ·rfl
  ·simp[dr];rfl
 obtain⟨a',k,rfl⟩:=hs.form
 simp only[builtin,ht,qX,hu,lenOf,hS,show Nat.min 0 n=0 from Nat.zero_min _,hf]
 rfl
theorem P5 {ds:List Nat} (hl:ds.length≤8) (hd:B.bz ds):IH.aD [ZW,ZW,ZW,ZW,ZW,ZW,ZW,ZW] 0 (ds.map K64)=wdC (B.au ds):=by
 have hv : ∀k,B.au (ds ++ List.replicate k 0)=B.au ds:=by
  intro k
  rw[show B.au ds=B.az (ds ++ List.replicate k 0) ds.length from B.fb fun j hj=>by
   rw[List.getD_eq_getElem?_getD,List.getD_eq_getElem?_getD,List.getElem?_append_left hj]]
  rw[B.au]
  have:(ds ++ List.replicate k 0).length=ds.length+k:=by simp
  rw[this]
  apply B.jm
  intro j h1 h2
  rw[List.getD_eq_getElem?_getD,List.getElem?_append_right h1]
  rw[←List.getD_eq_getElem?_getD];exact B.jB _ _
 have hD:B.bz (ds ++ List.replicate (8 - ds.length) 0):=fun d h=>by
  rcases List.mem_append.1 h with h|h
  ·exact hd d h
  ·simp at h;omega
 have h8:(ds ++ List.replicate (8 - ds.length) 0).length=8:=by simp;omega
 have:=AO h8 hD
 rw[hv] at this
 rw[iP,this,List.map_append,List.map_replicate]
 have hz : [ZW,ZW,ZW,ZW,ZW,ZW,ZW,ZW]=List.replicate 8 ZW:=rfl
 rw[hz,IH.aD,List.take_zero,List.nil_append,List.length_map,List.drop_replicate,Nat.zero_add]
 rfl
theorem NN {ds:List Nat} (n:B.Norm ds) (h:8<ds.length):W8≤B.au ds:=by
 have h1:=n.ge (by intro h0;rw[h0] at h;simp at h)
 rw[uR]
 exact Nat.le_trans (Nat.pow_le_pow_right (by omega) (by omega)) h1
theorem rU {h:IH} {v:Value} {z:Int} (hv:bq h v z):WV prog (.func (.func 88) #[] #[]) [v] h fun r h'=>Ext h h'∧r=if InW z then .tuple #[mj z,KI 0] else .tuple #[wdV 0,KI 6]:=by
 obtain⟨s,rfl,ds,hD,hN,hx⟩:=hv
 have hb:=hD.2.2
 have h2:=bV
 have hp:=jg
 refine enter (nt:=22) (rs:=[.cell 2 30,.tmp 3]) Proofs.Tryz.func88 rfl rfl rfl (by simp) ?_
 simp -dsimp (disch:=try exact dx) only[wpS,zE,dB,iZ,oM,hD.1.len ff]
 refine ax ?_ ?_<;>intro hc<;>simp only[decide_eq_true_eq,decide_eq_false_iff_not] at hc
 ·have hgt:=NN hN (by omega)
  have hin : ¬InW z:=by rintro⟨h3,h4⟩;omega
  rw[if_neg hin]
  simp -dsimp (disch:=try exact dx) only[wpS,wpT,zE,zL,zA,ra,cj,ba,JA]
  exact⟨(((Ext.refl h).new _).new _).put (by omega) _,by rw[gC]⟩
 ·have hl:ds.length≤8:=by omega
  have hlt:B.au ds<W8:=by
   have:=B.jH hD.2.1
   rw[uR]
   exact Nat.lt_of_lt_of_le this (Nat.pow_le_pow_right (by omega) hl)
  simp -dsimp (disch:=try exact dx) only[wpS,wpT,zE,zL,zA,ic,ld4,Pw,Gw,pX,nJ,fi]
  obtain⟨H2,hH2⟩ : ∃H2,H2=((((h.new (.cells [.bool (decide (z<0)),s] 0 none)).new (.cells [ZW,ZW,ZW,ZW,ZW,ZW,ZW,ZW] 0 none)).new (.cells [.bool false,ZW,ZW,ZW,ZW,ZW,ZW,ZW,ZW] 0 none)).put (h.n+1+1) (.cells [.bool (decide (z<0)),ZW,ZW,ZW,ZW,ZW,ZW,ZW,ZW] 0 none)):=⟨_,rfl⟩
  have n2:H2.n=h.n+3:=by rw[hH2];rfl
  have g0:H2.ext.get h.n=some (.cells [.bool (decide (z<0)),s] 0 none):=by rw[hH2];simp (disch:=try exact dx) only[aa,ao,ae]
  have g1:H2.ext.get (h.n+1)=some (.cells [ZW,ZW,ZW,ZW,ZW,ZW,ZW,ZW] 0 none):=by rw[hH2];simp (disch:=try exact dx) only[aa,ao,ae]
  have g2:H2.ext.get (h.n+1+1)=some (.cells [.bool (decide (z<0)),ZW,ZW,ZW,ZW,ZW,ZW,ZW,ZW] 0 none):=by rw[hH2];simp (disch:=try exact dx) only[ad]
  have E2:Ext h H2:=by rw[hH2];exact((((Ext.refl h).new _).new _).new _).put (by omega) _
  rw[←hH2]
  have r0:=bg g0
  have sa:=zm (P:=prog) PS yz (by omega)
  have hs2:=(hD.ab E2.ab).1.now
  have hcp : ∃H3,builtin prog H2 .copy #[135,135] [.slice (some ⟨2*(h.n+1+1),1,none⟩) 8 17,s]=some (.int .i64 (ds.length:Int),H3)∧Ext h H3∧H3.n=h.n+3∧H3.ext.get (h.n+1)=some (.cells [ZW,ZW,ZW,ZW,ZW,ZW,ZW,ZW] 0 none)∧H3.ext.get (h.n+1+1)=some (.cells (.bool (decide (z<0)) :: wdC z.natAbs) 0 none):=by
   rcases Nat.eq_zero_or_pos ds.length with h0|h0
   ·have hd0:ds = []:=List.length_eq_zero_iff.1 h0
    subst hd0
    have hz0:z.natAbs=0:=by rw[←hx];rfl
    refine⟨H2,I7 MY yz H2 _ _ _ _ hs2 _ rfl,E2,n2,g1,?_⟩
    rw[hz0,gQ];exact g2
   ·have hm:min ds.length 8=ds.length:=by omega
    have:=copy_eq (P:=prog) MY yz g2 (o:=1) (dn:=8) (c:=17) hs2 (Bj _) (by omega) (by simp;omega) #[135,135] rfl
    rw[hm,Nat.mul_one,List.take_of_length_le (by simp),uj,P5 hl hD.2.1,hx] at this
    exact⟨_,this,E2.put (by omega) _,n2,by simp (disch:=try exact dx) only[ae];exact g1,ad _ _ rfl⟩
  obtain⟨H3,hcp,E3,n3,g3,g4⟩:=hcp
  have r4:=bg g4
  simp -dsimp (disch:=try exact dx) only[wpS,wpT,zE,zL,zA,reduceMul,iZ,oM,nO,r0,sa,hcp,r4,eg,aj]
  refine call (wY (decide (z<0)) z.natAbs (by omega)) ?_
  rintro _ h4 ⟨hE4,rfl⟩
  have g5:=(hE4.get _ (by omega)).trans g3
  by_cases hin:InW z
  ·have e1 : ¬(H8<z.natAbs∨z.natAbs=H8∧decide (z<0)=false):=by
    obtain⟨i1,i2⟩:=hin
    rintro(h5|⟨h5,h6⟩)
    ·omega
    ·have : ¬z<0:=by simpa using h6
     omega
   have e2:(if decide (z<0)=true then (W8 - z.natAbs) % W8 else z.natAbs)=aU z:=by
    obtain⟨i1,i2⟩:=hin
    unfold aU
    by_cases h6:z<0
    ·rw[if_pos (by simpa using h6),if_neg (by omega),Nat.mod_eq_of_lt (by omega)]
    ·rw[if_neg (by simpa using h6),if_pos (by omega)];omega
   rw[if_neg e1,if_pos hin,e2]
   simp -dsimp (disch:=try exact dx) only[wpS,wpT,zE,zL,zA,cj,ba,g5,aM,aj,ay,aO,dV]
   exact⟨(E3.trans hE4).put (by omega) _,rfl⟩
  ·have e1:H8<z.natAbs∨z.natAbs=H8∧decide (z<0)=false:=by
    unfold InW at hin
    by_cases h6:z<0
    ·left;omega
    ·by_cases h7:z.natAbs=H8
     ·right;exact⟨h7,by simpa using h6⟩
     ·left;omega
   rw[if_pos e1,if_neg hin]
   simp -dsimp (disch:=try exact dx) only[wpS,wpT,zE,zL,zA,cj,ba,g5,aM,aj,ay,aO,dV]
   exact⟨(E3.trans hE4).put (by omega) _,rfl⟩
theorem jU {h:IH} (n:Int) (hn:dH n):WV prog (.func (.func 84) #[] #[]) [KI n] h fun r h'=>Ext h h'∧bq h' r n:=by
 have hw:InW n:=by
  have:=ud
  constructor
  ·have:=hn.1;omega
  ·have:=hn.2;omega
 refine enter (nt:=6) (rs:=[.cell 2 137]) Proofs.Tryz.func84 rfl rfl rfl (by simp) ?_
 simp -dsimp (disch:=try exact dx) only[wpS,zE,fU]
 refine call (kU n hn) ?_
 rintro _ h1 ⟨hE,rfl⟩
 simp -dsimp (disch:=try exact dx) only[wpS,zE]
 refine call (fN _ (fk hw)) ?_
 rintro _ h2 ⟨hE2,hr⟩
 rw[cK hw] at hr
 obtain⟨s1,n3,rfl,c3,o3,l3,z3⟩:=hr.form
 have m1:=(hE).n;try simp only[al] at m1
 have m2:=(hE2).n;try simp only[al,aq] at m2
 have hg:h2.ext.get h.n=some (.cells ZL 0 none):=by rw[hE2.get _ (by omega),hE.get _ (by simp)];simp (disch:=try exact dx) only[aa]
 simp -dsimp (disch:=try exact dx) only[wpS,wpT,zE,zL,zA,dI,bh,hg,o3]
 exact⟨((((Ext.refl h).new _).trans hE).trans hE2).put (by omega) _,hr.ab ((aF.refl _).put hg _)⟩
end Go.Id
