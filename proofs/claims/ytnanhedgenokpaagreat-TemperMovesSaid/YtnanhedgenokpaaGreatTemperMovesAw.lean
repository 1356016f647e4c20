/-
  Contracts: the reference's long integers, fifth part: words. Contracts: the reference's long integers, sixth part: wide integers read and written.
-/
import Derived.Test.YtnanhedgenokpaaGreatTemperMovesAt
import Derived.Test.YtnanhedgenokpaaGreatTemperMovesAv
import Derived.Test.YtnanhedgenokpaaGreatTemperMovesAu
set_option linter.unusedVariables false
set_option linter.unusedSimpArgs false
set_option linter.defProp false
set_option linter.deprecated false
namespace Go.Id
open Go
set_option maxHeartbeats 16000000
def wdC (n:Nat):List Value:=(List.range 8).map fun i=>K64 (wrd n i)
def wdV (n:Nat):Value:=.agg (wdC n).toArray
theorem aj (n:Nat):(wdC n).length=8:=by simp[wdC]
theorem bF (n i:Nat) (hi:i<8):(wdC n)[i]?=some (K64 (wrd n i)):=by simp[wdC,hi]
theorem y9 (n:Nat):(wdV n).cells.toList=wdC n:=rfl
theorem ay (n:Nat):(wdC n).all aG=true:=by simp[wdC,aG]
theorem IS {h:IH} (n:Nat):WV Proofs.Tryz.prog (.func (.func 231) #[] #[]) [wdV n] h fun r h'=>Ext h h' ∧ ∃os,gA h' r os∧os.length=16∧au os=n % W8:=by
 refine enter (nt:=23) (rs:=[.tmp 2]) Proofs.Tryz.func231 rfl rfl rfl (by simp) ?_
 simp -dsimp (disch:=try exact dx) only[wpS,y9]
 refine loop (fun m fr h1 => ∃(i:Nat) (os:List Nat) (out:Value),i+m=8∧ah fr 1=some (ptr (2*h.n) 0)∧ah fr 3=some out∧ah fr 4=some (KN i)∧os.length=2*i∧bz os∧au os=n % 18446744073709551616 ^ i ∧
  Acc h1 (h.n+1) 1 out (2*i) (os.map KN)∧Ext (h.new (.cells (wdC n) 0 none)) h1) 8 ⟨0,[],.slice none 0 0,by simp,by simp,by simp,by simp,rfl,fun d hd=>(by cases hd),by simp[au,az,Nat.mod_one],Acc.nil _ _ (by omega),Ext.refl _⟩ ?_
 rintro m fr h1 ⟨i,os,out,him,f1,f3,f4,hos,hd,hv,hA,hE⟩
 have hr:h1.row (2*h.n)=some (wdC n):=by rw[hE.row (by simp)];exact kN _ _ _ _ rfl
 simp -dsimp (disch:=try exact dx) only[wpS,Nat.reduceEqDiff,f4]
 refine ax ?_ ?_<;>intro hc<;>simp only[decide_eq_true_eq,decide_eq_false_iff_not] at hc
 ·have hi:i<8:=by omega
  have hw:=qB n i
  have e1:((wrd n i:Int) % 4294967296)=((wrd n i % 4294967296:Nat):Int):=by omega
  have e2:((wrd n i:Int) / 4294967296)=((wrd n i / 4294967296:Nat):Int):=by omega
  simp -dsimp (disch:=try exact dx) only[wpS,wpT]
  refine drawn [(3,[12]),(8,[12])] (by kernel_rfl) (by kernel_rfl) rfl ?_
  obtain⟨bR,h',hap,hA',hG,hE'⟩:=hA.UZ (P:=Proofs.Tryz.prog) (t:=25) pV (x:=KN (wrd n i % 4294967296)) (y:=KN (wrd n i / 4294967296)) rfl rfl (by omega) hE.n hE (by simp)
  simp -dsimp (disch:=try exact dx) only[wpS,wpT,Nat.reduceEqDiff,Nat.reduceLeDiff,Nat.reduceAdd,Nat.reduceMul,kS,jY,ya,gO,fj,f1,f3,f4,hr,kS,bF n i hi,e1,e2,hap]
  refine⟨jG (ak rfl rfl rfl rfl (aA (av:=ptr (2*h.n) (0+i)) (v:=K64 (wrd n i)) (by simp) ?_ ?_)) (ak rfl rfl rfl rfl (aA (av:=ptr (2*h.n) (0+i)) (v:=K64 (wrd n i)) (by simp) ?_ ?_)),?_⟩
  ·simp -dsimp (disch:=try exact dx) only[wpS,jY,hr,bF n i hi]
  ·have:=hE.n
   simp at this
   simp -dsimp (disch:=try exact dx) only[wpS,jY,hr,bF n i hi]
  ·simp -dsimp (disch:=try exact dx) only[wpS,jY,hr,bF n i hi]
  ·have:=hE.n
   simp at this
   simp -dsimp (disch:=try exact dx) only[wpS,jY,hr,bF n i hi]
  ·simp -dsimp (disch:=try exact dx) only[wpS,wpT,Nat.reduceEqDiff,Nat.reduceAdd,f4]
   refine⟨m - 1,by omega,i+1,os ++ [wrd n i % 4294967296] ++ [wrd n i / 4294967296],bR,by omega,by simp[f1],by simp,by simp,by simp[hos];omega,(hd.append (by omega)).append (by omega),?_,?_,hE'⟩
   ·rw[iE,iE,hv,vz]
    have h1:(os ++ [wrd n i % 4294967296]).length=2*i+1:=by simp[hos]
    rw[h1,hos,pow_two,Ba]
    have h2:wrd n i % 4294967296+4294967296*(wrd n i / 4294967296)=wrd n i:=Nat.mod_add_div _ _
    generalize hx:wrd n i % 4294967296=x at *
    generalize hy:wrd n i / 4294967296=y at *
    rw[←h2]
    grind
   ·have:List.map KN os ++ [KN (wrd n i % 4294967296),KN (wrd n i / 4294967296)]=(os ++ [wrd n i % 4294967296] ++ [wrd n i / 4294967296]).map KN:=by simp
    rw[←this];exact hA'
 ·obtain rfl:i=8:=by omega
  simp -dsimp (disch:=try exact dx) only[wpS,wpT,Nat.reduceEqDiff,f3]
  exact⟨((Ext.refl h).new _).trans hE,os,⟨by rw[hos];exact hA.sl,hd,by omega⟩,hos,by rw[AH];exact hv⟩
end Go.Id

namespace Go.Id
open Go
open Nat (reduceMul)
open Nat renaming reduceAdd→zA,reduceEqDiff→zE,reduceLeDiff→zL
set_option maxHeartbeats 16000000
theorem dV (n:Nat):List.take 8 (List.drop 0 (wdC n))=wdC n:=by
 rw[List.drop_zero,List.take_of_length_le (by rw[aj];omega)]
set_option maxRecDepth 100000 in
theorem GU {h:IH} (n:Nat) (hn:n<W8):WV Proofs.Tryz.prog (.func (.func 152) #[] #[]) [wdV n] h fun r h'=>Ext h h'∧aZ h' r (wdI n):=by
 refine enter (nt:=20) (rs:=[.cell 2 194]) Proofs.Tryz.func152 rfl rfl rfl (by simp) ?_
 simp -dsimp (disch:=try exact dx) only[wpS,zE,zL,kD,ba,y9,aj,dV]
 refine call (IS n) ?_
 rintro d h1 ⟨hE,os,hD,hos,oO⟩
 rw[Nat.mod_eq_of_lt hn] at oO
 have hE1:Ext h h1:=(((Ext.refl h).new _).new _).trans hE
 have hr:h1.row (2*h.n)=some (wdC n):=by
  rw[hE.row (by simp<;>omega)];simp -dsimp (disch:=try exact dx) only[wpS]
 have h7:=PJ hn
 simp -dsimp (disch:=try exact dx) only[wpS,wpT,zE,zA,reduceMul,Int.reduceToNat,kS,jY,EY,fc,hr,kS,bF n 7 (by omega),show nP 7 8=some 7 from rfl]
 refine ax ?_ ?_<;>intro hc<;>simp only[decide_eq_true_eq,decide_eq_false_iff_not] at hc
 ·simp -dsimp (disch:=try exact dx) only[wpS,wpT,zE]
  refine call (jN hD false) ?_
  rintro r h2 ⟨hE2,hr2⟩
  have hg:h2.ext.get (h.n+1)=some (.cells [.bool false,.slice none 0 0] 0 none):=by
   rw[hE2.get _ (by have:=hE.n;simp at this;omega),hE.get _ (by simp)];exact aa _ _ rfl
  obtain⟨s1,n3,rfl,c3,o3,l3,z3⟩:=hr2.form
  simp -dsimp (disch:=try exact dx) only[wpS,wpT,zE,zL,zA,reduceMul,Int.reduceToNat,fW,EY,fc,bZ,hg,o3]
  refine⟨(hE1.trans hE2).put (by omega) _,?_⟩
  have:(if false=true then -(au os:Int) else au os)=wdI n:=by
   rw[wdI,if_pos (h7.1 (by omega)),oO];rfl
  rw[this] at hr2 ⊢
  exact hr2.ab ((aF.refl _).put hg _)
 ·simp -dsimp (disch:=try exact dx) only[wpS,wpT,zE,zA,reduceMul,Int.reduceToNat,EY,fc]
  simp -dsimp (disch:=try exact dx) only[wpS,wpT,zE,zL,zA,st3,show nP 16 17=some 16 from rfl]
  have hE3 : ∀a b:bB,Ext h1 ((h1.new a).put h1.n b):=fun a b=>((Ext.refl h1).new _).put (Nat.le_refl _) _
  refine call (tV (hD.ab (hE3 _ _).ab)) ?_
  rintro c h2 ⟨rfl,ds,hDs,hNs,hvs⟩
  have hW:gA ((h1.new (.cells (List.map KN [0,0,0,0,0,0,0,0,0,0,0,0,0,0,0,0,0]) 1 none)).put h1.n (.cells (List.map KN [0,0,0,0,0,0,0,0,0,0,0,0,0,0,0,0,1]) 1 none)) (.slice (some ⟨2*h1.n,0,none⟩) 17 35) [0,0,0,0,0,0,0,0,0,0,0,0,0,0,0,0,1] :=
   ⟨cV (f:=none) (ad _ _ rfl) (by simp) (by omega) rfl (by omega) (by simp),by intro d hd;simp at hd;omega,by simp⟩
  have hWv:au [0,0,0,0,0,0,0,0,0,0,0,0,0,0,0,0,1]=W8:=by rw[yr];simp[au,az]
  simp -dsimp (disch:=try exact dx) only[wpS,zE]
  refine call (vC hW hDs hNs (by rw[hWv,hvs,oO];omega)) ?_
  rintro e h3 ⟨hE4,es,hDe,hNe,hve⟩
  rw[hWv,hvs,oO] at hve
  simp -dsimp (disch:=try exact dx) only[wpS,zE]
  refine call (jN hDe true) ?_
  rintro r h4 ⟨hE5,hr2⟩
  have hz:(if true=true then -(au es:Int) else au es)=wdI n:=by
   have NX : ¬n<H8:=by rw[←h7];omega
   rw[if_pos rfl,wdI,if_neg NX,hve];omega
  rw[hz] at hr2
  have hE6:=(hE3 _ _).trans (hE4.trans hE5)
  have hg:h4.ext.get (h.n+1)=some (.cells [.bool false,.slice none 0 0] 0 none):=by
   rw[hE6.get _ (by have:=hE.n;simp at this;omega),hE.get _ (by simp)];exact aa _ _ rfl
  obtain⟨s1,n3,rfl,c3,o3,l3,z3⟩:=hr2.form
  simp -dsimp (disch:=try exact dx) only[wpS,wpT,zE,zL,zA,fW,bZ,hg,o3]
  refine⟨(hE1.trans hE6).put (by omega) _,?_⟩
  exact hr2.ab ((aF.refl _).put hg _)
end Go.Id

namespace Go.Id
open Go
open Nat (reduceMul)
open Nat renaming reduceAdd→zA,reduceEqDiff→zE,reduceLeDiff→zL
set_option maxHeartbeats 16000000
def InW (z:Int):Prop:=-(H8:Int)≤z∧z<H8
instance (z:Int):Decidable (InW z):=inferInstanceAs (Decidable (_∧_))
def aU (z:Int):Nat:=if 0≤z then z.toNat else W8 - z.natAbs
theorem fk {z:Int} (h:InW z):aU z<W8:=by
 have:=BS
 unfold InW at h
 unfold aU
 split<;>omega
theorem cK {z:Int} (h:InW z):wdI (aU z)=z:=by
 have:=BS
 unfold InW at h
 unfold wdI aU
 split
 ·rw[if_pos (by omega)];omega
 ·rw[if_neg (by omega)];omega
abbrev mj (z:Int):Value:=wdV (aU z)
abbrev ZW:Value:=.int .u64 0
theorem gQ:wdC 0 = [ZW,ZW,ZW,ZW,ZW,ZW,ZW,ZW]:=by
 simp[wdC,wrd,List.range_succ]
theorem NM:au [0,0,0,0,0,0,0,0,0,0,0,0,0,0,0,2147483648]=H8:=by rw[Q9];simp[au,az]
theorem Hu:au [0,0,0,0,0,0,0,0,0,0,0,0,0,0,0,0,1]=W8:=by rw[yr];simp[au,az]
theorem MS {n i x:Nat} (hi:i<8) (hn:n<18446744073709551616 ^ (i+1)) (hx:wrd n i+x<18446744073709551616):(wdC n).set i (K64 (wrd n i+x))=wdC (n+x*18446744073709551616 ^ i):=by
 apply List.ext_getElem?
 intro j
 rw[List.getElem?_set]
 by_cases hij:i=j
 ·subst hij
  rw[if_pos rfl,bF _ _ hi,aj,if_pos hi,qC hn hx]
 ·rw[if_neg hij]
  by_cases hj:j<8
  ·rw[bF _ _ hj,bF _ _ hj]
   by_cases hlt:j<i
   ·rw[nY hlt]
   ·rw[iN hn (by omega),iN (AF hn hx) (by omega)]
  ·rw[List.getElem?_eq_none (by rw[aj];omega),List.getElem?_eq_none (by rw[aj];omega)]
set_option maxRecDepth 100000 in
theorem ES {h:IH} {v:Value} {z:Int} (hv:aZ h v z) :
  WV Proofs.Tryz.prog (.func (.func 136) #[] #[]) [v] h fun r h'=>Ext h h'∧r=if InW z then .tuple #[mj z,KI 0] else .tuple #[wdV 0,KI 6]:=by
 obtain⟨s,rfl,ds,hD,hN,hx⟩:=hv
 have hl:=hD.2.2
 refine enter (nt:=63) (rs:=[.cell 2 30,.tmp 3]) Proofs.Tryz.func136 rfl rfl rfl (by simp) ?_
 simp -dsimp (disch:=try exact dx) only[wpS,wpT,zE,zL,zA,reduceMul,Int.reduceToNat,dB,EY,fc,st3,eP,fQ,show nP 15 16=some 15 from rfl]
 have hL:gA ((((h.new (.cells [.bool (decide (z<0)),s] 0 none)).new (.cells [ZW,ZW,ZW,ZW,ZW,ZW,ZW,ZW] 0 none)).new (.cells (List.map KN [0,0,0,0,0,0,0,0,0,0,0,0,0,0,0,0]) 1 none)).put (h.n+1+1) (.cells (List.map KN [0,0,0,0,0,0,0,0,0,0,0,0,0,0,0,2147483648]) 1 none)) (.slice (some ⟨2*(h.n+1+1),0,none⟩) 16 33) [0,0,0,0,0,0,0,0,0,0,0,0,0,0,0,2147483648] :=
  ⟨cV (f:=none) (ad _ _ rfl) (by simp) (by omega) rfl (by omega) (by simp),by intro d hd;simp at hd;omega,by simp⟩
 have hE : ∀a b c d:bB,Ext h ((((h.new a).new b).new c).put (h.n+1+1) d):=fun a b c d=>((((Ext.refl h).new _).new _).new _).put (by omega) _
 refine call (wV (hD.ab (hE _ _ _ _).ab) hL hN (.inr (by simp))) ?_
 rintro r h1 ⟨e1,c,rfl,hc1,hc2,hc3,hc4⟩
 have g1:h1.row (2*h.n)=some [.bool (decide (z<0)),s]:=by rw[e1];simp -dsimp (disch:=try exact dx) only[wpS]
 have g2:h1.ext.get (h.n+1)=some (.cells [ZW,ZW,ZW,ZW,ZW,ZW,ZW,ZW] 0 none):=by rw[e1];simp -dsimp (disch:=try exact dx) only[wpS]
 have g3:Ext h h1:=by rw[e1];exact hE _ _ _ _
 have g4:h.n+1<h1.n:=by rw[e1];simp
 clear e1 hL hE
 rw[NM,hx] at hc1 hc2
 have hW8:=BS
 by_cases hW:InW z
 ·have hc:c<0∨c=0∧z<0:=by unfold InW at hW;omega
  simp -dsimp (disch:=try exact dx) only[wpR,zE]
  rw[kf]
  refine cut (fun fr2 h2=>h2=h1∧ah fr2 2=some (ptr (2*(h.n+1)) 0)∧ah fr2 1=some (ptr (2*h.n) 0)) ?_ ?_
  ·rcases hc with hc|⟨rfl,hz⟩
   ·simp -dsimp (disch:=try exact dx) only[wpS,wpT,zE]
    exact⟨rfl,by simp,by simp⟩
   ·simp -dsimp (disch:=try exact dx) only[wpS,wpT,zE,dF,ld4,g1,sU hz]
    exact⟨rfl,by simp,by simp⟩
  ·rintro fr2 h2 ⟨rfl,f2,f1⟩
   simp -dsimp (disch:=try exact dx) only[wpS,zE,dB,eP,fQ,dF,ld4,g1,f1]
   refine fR (fun fr3 h3=>ah fr3 2=some (ptr (2*(h.n+1)) 0)∧Ext h2 h3 ∧ ∃d ds2,ah fr3 6=some d∧gA h3 d ds2∧au ds2=aU z∧ds2.length≤16) (fun hz=>?_) (fun hz=>?_) ?_
   ·simp only[decide_eq_true_eq] at hz
    simp -dsimp (disch:=try exact dx) only[wpS,wpT,zE,zL,zA,reduceMul,Int.reduceToNat,EY,fc,st3,show nP 16 17=some 16 from rfl]
    have hE3 : ∀a b:bB,Ext h2 ((h2.new a).put h2.n b):=fun a b=>((Ext.refl h2).new _).put (Nat.le_refl _) _
    have hWW:gA ((h2.new (.cells (List.map KN [0,0,0,0,0,0,0,0,0,0,0,0,0,0,0,0,0]) 1 none)).put h2.n (.cells (List.map KN [0,0,0,0,0,0,0,0,0,0,0,0,0,0,0,0,1]) 1 none)) (.slice (some ⟨2*h2.n,0,none⟩) 17 35) [0,0,0,0,0,0,0,0,0,0,0,0,0,0,0,0,1] :=
     ⟨cV (f:=none) (ad _ _ rfl) (by simp) (by omega) rfl (by omega) (by simp),by intro d hd;simp at hd;omega,by simp⟩
    refine call (vC hWW (hD.ab (g3.trans (hE3 _ _)).ab) hN (by rw[Hu,hx];unfold InW at hW;omega)) ?_
    rintro e h3 ⟨hE4,es,hDe,hNe,hve⟩
    rw[Hu,hx] at hve
    have hv2:au es=aU z:=by rw[hve,aU,if_neg (by omega)]
    simp -dsimp (disch:=try exact dx) only[wpS,zE]
    refine⟨by simp[f2],(hE3 _ _).trans hE4,e,es,by simp,hDe,hv2,?_⟩
    have h5:=fk hW
    rw[←hv2,yr] at h5
    by_cases hne:es = []
    ·subst hne;simp
    ·have h6:=hNe.ge hne
     have h7:=(Nat.pow_lt_pow_iff_right (a:=4294967296) (by omega)).1 (Nat.lt_of_le_of_lt h6 h5)
     omega
   ·simp only[decide_eq_false_iff_not] at hz
    simp -dsimp (disch:=try exact dx) only[wpS,wpT]
    have hv2:au ds=aU z:=by rw[hx,aU,if_pos (by omega)];omega
    refine⟨by simp[f2],Ext.refl _,s,ds,by simp,hD.ab g3.ab,hv2,?_⟩
    have h5:=fk hW
    rw[←hv2,yr] at h5
    by_cases hne:ds = []
    ·subst hne;simp
    ·have h6:=hN.ge hne
     have h7:=(Nat.pow_lt_pow_iff_right (a:=4294967296) (by omega)).1 (Nat.lt_of_le_of_lt h6 h5)
     omega
   ·rintro fr3 h3 ⟨f2,hE3,d,ds2,f6,hD2,hv2,hl2⟩
    simp -dsimp (disch:=try exact dx) only[wpS,dB]
    have hlen:=hD2.2.2
    refine loop (fun m fr h4 => ∃i:Nat,i+m=ds2.length∧ah fr 2=some (ptr (2*(h.n+1)) 0)∧ah fr 6=some d∧ah fr 8=some (ptr (2*h3.n) 0)∧ah fr 9=some (KN i)∧h3.n<h4.n∧h4.ext.get h3.n=some (.cells (wdC (az ds2 i)) 0 none)∧Ext h3 h4) ds2.length ⟨0,by simp,by simp[f2],by simp[f6],by simp,by simp,by simp,by rw[az,gQ];exact aa _ _ rfl,(Ext.refl h3).new _⟩ ?_
    rintro m fr h4 ⟨i,him,f2,f6,f8,f9,hn4,hg4,hE4⟩
    simp -dsimp (disch:=try exact dx) only[wpS,zE,f6,f9,hD2.1.len cW]
    refine ax ?_ ?_<;>intro hc<;>simp only[decide_eq_true_eq,decide_eq_false_iff_not] at hc
    ·have hi:i<ds2.length:=by omega
     have dd:=bj hD2.2.1 i
     have hvl:=gD hD2.2.1 i
     have dE:h4.row (2*h3.n)=some (wdC (az ds2 i)):=by rw[iU];exact yd hg4
     have e1:((i:Int) / 2)=((i / 2:Nat):Int):=by omega
     have hi8:i / 2<8:=by omega
     obtain⟨x,hsh,hx1,hx2⟩ : ∃x:Nat,(∀t o1 o2,binop Proofs.Tryz.prog .shl t o1 o2 (K64 (ds2.getD i 0)) (.int .i64 (32*((i:Int) % 2)))=some (K64 x))∧az ds2 (i+1)=az ds2 i+x*18446744073709551616 ^ (i / 2)∧wrd (az ds2 i) (i / 2)+x<18446744073709551616:=by
      rcases Nat.mod_two_eq_zero_or_one i with hm|hm
      ·obtain⟨k,rfl⟩ : ∃k,i=2*k:=⟨i / 2,by omega⟩
       have hk:2*k / 2=k:=by omega
       refine⟨ds2.getD (2*k) 0,fun t o1 o2=>?_,?_,?_⟩
       ·have e2:(32*(((2*k:Nat):Int) % 2))=((0:Nat):Int):=by omega
        rw[e2,Gg _ _ _ _ (by omega) (by omega)];simp
       ·rw[az,hk,pow_two]
       ·rw[hk,iN (by rw[←pow_two];exact hvl) (Nat.le_refl _)];omega
      ·obtain⟨k,rfl⟩ : ∃k,i=2*k+1:=⟨i / 2,by omega⟩
       have hk:(2*k+1) / 2=k:=by omega
       refine⟨ds2.getD (2*k+1) 0*4294967296,fun t o1 o2=>?_,?_,?_⟩
       ·have e2:(32*(((2*k+1:Nat):Int) % 2))=((32:Nat):Int):=by omega
        rw[e2,Gg _ _ _ _ (by omega) (by omega)]
       ·rw[az,hk,Ba];grind
       ·rw[hk]
        rw[Ba] at hvl
        have h8:az ds2 (2*k+1) / 18446744073709551616 ^ k<4294967296:=by
         rw[Nat.div_lt_iff_lt_mul (Nat.pow_pos (by omega))];exact hvl
        have h9:wrd (az ds2 (2*k+1)) k≤az ds2 (2*k+1) / 18446744073709551616 ^ k:=Nat.mod_le _ _
        omega
     have hwl:az ds2 i<18446744073709551616 ^ (i / 2+1):=by
      have h8:4294967296 ^ i≤4294967296 ^ (2*(i / 2+1)):=Nat.pow_le_pow_right (by omega) (by omega)
      rw[pow_two] at h8
      omega
     have Fl:=MS hi8 hwl hx2
     rw[←hx1] at Fl
     have Fk:IH.aD (wdC (az ds2 i)) (i / 2) [.int .u64 ((wrd (az ds2 i) (i / 2):Int)+(x:Int))]=wdC (az ds2 (i+1)):=by
      rw[fX (by rw[aj];exact hi8),←Fl];rfl
     have hwr:=qB (az ds2 i) (i / 2)
     simp -dsimp (disch:=try exact dx) only[wpS,wpT,zE,zL,kS,jY,xZ,mb,f6,f8,f9,e1,kS,dE,bF _ _ hi8,hD2.1.idx fc hi,hD2.1.ld hE4.ab (P:=Proofs.Tryz.prog) (t:=3) (c:=i) (by simpa using hi) ag3,bD,get_some hi,hsh,hg4,aj,Fk]
     refine⟨m - 1,by omega,i+1,by omega,by simp[f2],by simp[f6],by simp[f8],by simp,by simpa using hn4,ad _ _ rfl,hE4.put (Nat.le_refl _) _⟩
    ·obtain rfl:i=ds2.length:=by omega
     have hgz:h4.ext.get (h.n+1)=some (.cells [ZW,ZW,ZW,ZW,ZW,ZW,ZW,ZW] 0 none):=by
      rw[hE4.get _ (by have:=hE3.n;omega),hE3.get _ g4];exact g2
     have dE:h4.row (2*h3.n)=some (wdC (aU z)):=by rw[iU,←hv2];exact yd hg4
     have Fk:IH.aD [ZW,ZW,ZW,ZW,ZW,ZW,ZW,ZW] 0 (wdC (aU z))=wdC (aU z):=fY (by rw[aj];rfl)
     simp -dsimp (disch:=try exact dx) only[wpS,wpT,zE,zL,zA,cj,ba,f2,f8,dE,hgz,aj,dV,ay,Fk]
     refine⟨((g3.trans hE3).trans hE4).put (by omega) _,?_⟩
     rw[if_pos hW];rfl
 ·have hc:0<c∨c=0 ∧ ¬z<0:=by unfold InW at hW;omega
  rcases hc with hc|⟨hc,hz⟩
  ·simp -dsimp (disch:=try exact dx) only[wpS,wpT,zE,zL,zA,ra,cj,ba,g2]
   refine⟨g3.put (by omega) _,?_⟩
   rw[if_neg hW,wdV,gQ];rfl
  ·subst hc
   simp -dsimp (disch:=try exact dx) only[wpS,wpT,zE,zL,zA,dF,ld4,ra,cj,ba,g1,g2,sV hz]
   refine⟨g3.put (by omega) _,?_⟩
   rw[if_neg hW,wdV,gQ];rfl
end Go.Id

namespace Go.Id
open Go
open Nat (reduceMul)
open Nat renaming reduceAdd→zA,reduceEqDiff→zE,reduceLeDiff→zL
theorem pY (n:Int):IntKind.u64.wrap n=n % 18446744073709551616:=by simp[IntKind.wrap,IntKind.bits,IntKind.signed]
theorem JC (n:Nat):(wdV n).cells.toList=wdC n:=rfl
abbrev dH (n:Int):Prop:=-9223372036854775808≤n∧n<9223372036854775808
theorem EO (b:Nat) (hb:0<b) (m k:Nat) (h:m≤k):b ^ m≤b ^ k:=Nat.pow_le_pow_right hb h
theorem Ge {n:Int} (h:n.natAbs≤18446744073709551616):aS n:=by
 have h1:=EO 4294967296 (by decide) 3 1000000 (by decide)
 have h2:(4294967296:Nat) ^ 3=79228162514264337593543950336:=by decide
 unfold aS Small
 refine Nat.lt_of_lt_of_le ?_ h1
 omega
theorem P1 {z:Int} (h:InW z):aS z:=by
 have h1:=EO 4294967296 (by decide) 16 1000000 (by decide)
 rw[←yr] at h1
 have h2:=BS
 have h3:=ud
 unfold InW at h
 unfold aS Small
 refine Nat.lt_of_lt_of_le ?_ h1
 omega
set_option maxRecDepth 100000 in
theorem oL {h:IH} (n:Int) (hn:dH n):WV Proofs.Tryz.prog (.func (.func 137) #[] #[]) [KI n] h fun r h'=>Ext h h'∧aZ h' r n:=by
 have hB : ∃u:Nat,u=n.natAbs:=⟨_,rfl⟩
 obtain⟨u,hu⟩:=hB
 refine enter (nt:=21) (rs:=[.cell 2 194]) Proofs.Tryz.func137 rfl rfl rfl (by simp) ?_
 simp -dsimp (disch:=try exact dx) only[wpR]
 rw[kf]
 simp -dsimp (disch:=try exact dx) only[wpR,kD]
 rw[kf]
 simp -dsimp (disch:=try exact dx) only[wpR,zE]
 rw[kf]
 simp -dsimp (disch:=try exact dx) only[wpR,zE,xZ]
 rw[kf]
 refine cut (fun fr2 h2=>h2=h.new (.cells [.bool false,.slice none 0 0] 0 none)∧ah fr2 2=some (ptr (2*h.n) 0)∧ah fr2 3=some (.bool (decide (n<0)))∧ah fr2 4=some (K64 u)) ?_ ?_
 ·by_cases hz:n<0
  ·have e1:IntKind.u64.wrap n=n+18446744073709551616:=by rw[pY];omega
   have e2:IntKind.u64.wrap (-(n+18446744073709551616))=(u:Int):=by rw[pY];omega
   simp -dsimp (disch:=try exact dx) only[wpS,zE,sU hz,e1,e2]
   exact⟨rfl,by simp,by simp[hz],by simp⟩
  ·have e1:n=(u:Int):=by omega
   simp -dsimp (disch:=try exact dx) only[wpS,zE,sV hz]
   exact⟨rfl,by simp,by simp;omega,by simp;exact e1⟩
 ·rintro fr2 h2 ⟨rfl,f2,f3,f4⟩
  have e1:((u:Int) % 4294967296)=((u % 4294967296:Nat):Int):=by omega
  have e2:((u:Int) / 4294967296)=((u / 4294967296:Nat):Int):=by omega
  simp -dsimp (disch:=try exact dx) only[wpS,wpT,zE,zL,zA,reduceMul,ya,gO,f3,f4,e1,e2]
  have hD:gA ((h.new (.cells [.bool false,.slice none 0 0] 0 none)).new (.cells (List.map KN [u % 4294967296,u / 4294967296]) 1 none)) (.slice (some ⟨2*(h.n+1),0,none⟩) 2 5) [u % 4294967296,u / 4294967296] :=
   ⟨cV (f:=none) (aa _ _ rfl) (by simp) (by omega) rfl (by omega) (by simp),by intro d hd;simp at hd;omega,by simp⟩
  refine call (jN hD _) ?_
  rintro r h1 ⟨hE,hr⟩
  have hz:(if decide (n<0)=true then -(au [u % 4294967296,u / 4294967296]:Int) else au [u % 4294967296,u / 4294967296])=n:=by
   have:au [u % 4294967296,u / 4294967296]=u:=by simp[au,az];omega
   rw[this]
   by_cases h0:n<0<;>simp[h0]<;>omega
  rw[hz] at hr
  obtain⟨s1,n3,rfl,c3,o3,l3,z3⟩:=hr.form
  have hg:h1.ext.get h.n=some (.cells [.bool false,.slice none 0 0] 0 none):=by
   rw[hE.get _ (by simp<;>omega)];simp -dsimp (disch:=try exact dx) only[wpS]
  simp -dsimp (disch:=try exact dx) only[wpS,wpT,zE,zL,zA,fW,bZ,f2,hg,o3]
  refine⟨((((Ext.refl h).new _).new _).trans hE).put (by omega) _,?_⟩
  exact hr.ab ((aF.refl _).put hg _)
theorem CO {h:IH} (n:Int) (hn:dH n):WV Proofs.Tryz.prog (.func (.func 56) #[] #[]) [KI n] h fun r h'=>Ext h h'∧r=mj n:=by
 refine enter (nt:=12) (rs:=[.cell 2 30]) Proofs.Tryz.func56 rfl rfl rfl (by simp) ?_
 simp -dsimp (disch:=try exact dx) only[wpS,zE,dB]
 refine call (oL n hn) ?_
 rintro r h1 ⟨hE,hr⟩
 simp -dsimp (disch:=try exact dx) only[wpS,zE]
 refine call (ES hr) ?_
 rintro r2 h2 ⟨hE2,rfl⟩
 have hW:InW n:=by have:=ud;unfold InW;omega
 rw[if_pos hW]
 have hg:h2.ext.get h.n=some (.cells [ZW,ZW,ZW,ZW,ZW,ZW,ZW,ZW] 0 none):=by
  rw[hE2.get _ (by have:=hE.n;simp at this;omega),hE.get _ (by simp)];exact aa _ _ rfl
 have Fk:IH.aD [ZW,ZW,ZW,ZW,ZW,ZW,ZW,ZW] 0 (wdC (aU n))=wdC (aU n):=fY (by rw[aj];rfl)
 have hlt:h.n<h2.n:=by have a1:=hE.n;have a2:=hE2.n;simp only[al] at a1;omega
 simp -dsimp (disch:=try exact dx) only[wpS,wpT,zE,zL,zA,dB,cj,ba,JC,aj,ay,dV,Fk,hg]
 exact⟨((((Ext.refl h).new _).trans hE).trans hE2 |>.new _).put (by omega) _ |>.put (by omega) _,rfl⟩
end Go.Id

namespace Go.Id
theorem cY {ds:List Nat} {k w:Nat} (hk:k<ds.length) (j:Nat):(ds.set k w).getD j 0=if j=k then w else ds.getD j 0:=by
 simp only[List.getD_eq_getElem?_getD,List.getElem?_set]
 by_cases h:k=j
 ·subst h;simp[hk]
 ·rw[if_neg h,if_neg (fun x=>h x.symm)]
theorem oe {ds:List Nat} {k w:Nat} (hk:k<ds.length) : ∀n,az (ds.set k w) n+(if k<n then ds.getD k 0*4294967296 ^ k else 0)=az ds n+(if k<n then w*4294967296 ^ k else 0)
 | 0=>by simp[az]
 | n+1=>by
  have ih:=oe (w:=w) hk n
  rw[az,az,cY hk]
  by_cases h1:k<n
  ·rw[if_pos h1,if_pos h1] at ih
   rw[if_pos (show k<n+1 by omega),if_pos (show k<n+1 by omega),if_neg (show ¬n=k by omega)]
   omega
  ·rw[if_neg h1,if_neg h1] at ih
   by_cases h2:n=k
   ·subst h2
    rw[if_pos (Nat.lt_succ_self n),if_pos (Nat.lt_succ_self n),if_pos rfl]
    omega
   ·rw[if_neg (show ¬k<n+1 by omega),if_neg (show ¬k<n+1 by omega),if_neg h2]
    omega
theorem gS {ds:List Nat} {k:Nat} (w:Nat) (hk:k<ds.length):au (ds.set k w)+ds.getD k 0*4294967296 ^ k=au ds+w*4294967296 ^ k:=by
 have h:=oe (w:=w) hk ds.length
 rw[if_pos hk,if_pos hk] at h
 rw[au,au,List.length_set];exact h
theorem ml (m:Nat) : ∀n,az (List.replicate m 0) n=0
 | 0=>rfl
 | n+1=>by
  rw[az,ml m n]
  have:(List.replicate m 0).getD n 0=0:=by
   rw[List.getD_eq_getElem?_getD,List.getElem?_replicate];split<;>rfl
  rw[this];simp
theorem jn (m:Nat):au (List.replicate m 0)=0:=ml m _
theorem jB (m j:Nat):(List.replicate m 0).getD j 0=0:=by
 rw[List.getD_eq_getElem?_getD,List.getElem?_replicate];split<;>rfl
theorem bz.set {ds:List Nat} (h:bz ds) (k:Nat) {w:Nat} (hw:w<4294967296):bz (ds.set k w):=by
 intro d hd
 rcases List.mem_or_eq_of_mem_set hd with h1|h1
 ·exact h d h1
 ·omega
theorem bz.bA (m:Nat):bz (List.replicate m 0):=by
 intro d hd
 rw[List.mem_replicate] at hd
 omega
theorem Norm.GQ {ds:List Nat} (h:Norm ds) {m:Nat} (hs:au ds<4294967296 ^ m):ds.length≤m:=by
 apply Classical.byContradiction;intro hn
 have hne:ds ≠ []:=by intro h0;subst h0;simp at hn
 have h1:=h.ge hne
 have h2:4294967296 ^ m≤4294967296 ^ (ds.length - 1):=Nat.pow_le_pow_right (by omega) (by omega)
 omega
end Go.Id

namespace Go.Id
theorem rz {ds:List Nat} (h:bz ds) : ∀{n k:Nat},n≤k→az ds k % 4294967296 ^ n=az ds n
 | n,0,hk=>by
  obtain rfl:n=0:=by omega
  simp[az]
 | n,k+1,hk=>by
  by_cases hn:n=k+1
  ·subst hn;exact Nat.mod_eq_of_lt (gD h _)
  ·have ih:=rz h (show n≤k by omega)
   rw[az]
   have hd:4294967296 ^ n∣ds.getD k 0*4294967296 ^ k:=Nat.dvd_trans (Nat.pow_dvd_pow _ (by omega)) (Nat.dvd_mul_left _ _)
   obtain⟨c,hc⟩:=hd
   rw[hc,Nat.add_mul_mod_self_left,ih]
theorem oX {ds:List Nat} (h:bz ds) (j:Nat):ds.getD j 0=au ds / 4294967296 ^ j % 4294967296:=by
 have hp:=oA j
 by_cases hj:j<ds.length
 ·have e1:az ds (j+1)=au ds % 4294967296 ^ (j+1):=(rz h (show j+1≤ds.length by omega)).symm
  have e2:az ds (j+1) / 4294967296 ^ j=ds.getD j 0:=by
   rw[az,Nat.add_mul_div_right _ _ hp,Nat.div_eq_of_lt (gD h j),Nat.zero_add]
  rw[←e2,e1,Nat.pow_succ,Nat.mod_mul_right_div_self]
 ·rw[cH (by omega)]
  have h1:=jH h
  have h2:4294967296 ^ ds.length≤4294967296 ^ j:=Nat.pow_le_pow_right (by omega) (by omega)
  rw[Nat.div_eq_of_lt (by omega)]
theorem Gu (j:Nat):4294967296 ^ j=2 ^ (32*j):=by rw[Nat.pow_mul]
theorem QV {ds:List Nat} (h:bz ds) {i k:Nat} (hk:k<32):ds.getD i 0 / 2 ^ k % 2=au ds / 2 ^ (32*i+k) % 2:=by
 rw[oX h,Gu,Nat.pow_add,←Nat.div_div_eq_div_mul]
 generalize au ds / 2 ^ (32*i)=x
 have e2:4294967296=2 ^ k*2 ^ (32 - k):=by rw[←Nat.pow_add,show k+(32 - k)=32 by omega]
 rw[e2,Nat.mod_mul_right_div_self]
 have:2∣2 ^ (32 - k):=⟨2 ^ (31 - k),by rw[←Nat.pow_succ'];congr 1;omega⟩
 exact Nat.mod_mod_of_dvd _ this
theorem Mu {ds:List Nat} (h:bz ds) {i k:Nat} (hk:k<32) (hd:2 ^ (32*i+k+1)∣au ds):ds.getD i 0+2 ^ k<4294967296:=by
 have hd:2 ^ (k+1)∣ds.getD i 0:=by
  rw[oX h,Gu]
  obtain⟨c,hc⟩:=hd
  have e:2 ^ (32*i+k+1)=2 ^ (32*i)*2 ^ (k+1):=by rw[←Nat.pow_add];congr 1
  rw[hc,e,Nat.mul_assoc,Nat.mul_div_cancel_left _ (Nat.pow_pos (by omega))]
  have e2:4294967296=2 ^ (k+1)*2 ^ (31 - k):=by rw[←Nat.pow_add,show k+1+(31 - k)=32 by omega]
  rw[show(4294967296:Nat)=2 ^ (k+1)*2 ^ (31 - k) from e2]
  exact(Nat.dvd_mod_iff (Nat.dvd_mul_right _ _)).2 (Nat.dvd_mul_right _ _)
 have hlt:2 ^ k<2 ^ (k+1):=Nat.pow_lt_pow_right (by omega) (by omega)
 have hw:=bj h i
 obtain⟨c,hc⟩:=hd
 rw[hc] at hw ⊢
 have e2:4294967296=2 ^ (k+1)*2 ^ (31 - k):=by rw[←Nat.pow_add,show k+1+(31 - k)=32 by omega]
 rw[e2] at hw ⊢
 have hc2:c<2 ^ (31 - k):=Nat.lt_of_mul_lt_mul_left hw
 have:2 ^ (k+1)*(c+1)≤2 ^ (k+1)*2 ^ (31 - k):=Nat.mul_le_mul_left _ hc2
 rw[Nat.mul_add,Nat.mul_one] at this
 omega
def BV (a b K V r:Nat):Prop:=a=b*V+r*2 ^ K+a % 2 ^ K∧2 ^ K∣V∧r<b
theorem GN (a K:Nat):a % 2 ^ (K+1)=a / 2 ^ K % 2*2 ^ K+a % 2 ^ K:=by
 rw[Nat.pow_succ,Nat.mod_mul,Nat.add_comm,Nat.mul_comm]
theorem LK {a b K V r:Nat} (h:BV a b (K+1) V r) (hc:b≤2*r+a / 2 ^ K % 2):BV a b K (V+2 ^ K) (2*r+a / 2 ^ K % 2 - b):=by
 obtain⟨h1,h2,h3⟩:=h
 rw[GN] at h1
 have hb:=Nat.mod_lt (a / 2 ^ K) (show 0<2 by omega)
 generalize a / 2 ^ K % 2=d at *
 obtain⟨e,he⟩ : ∃e,2*r+d=b+e:=⟨2*r+d - b,by omega⟩
 refine⟨?_,?_,by omega⟩
 ·rw[he,Nat.add_sub_cancel_left]
  rw[h1.trans (show _=(b*V+(2*r+d)*2 ^ K)+a % 2 ^ K by rw[Nat.pow_succ];grind)]
  rw[he]
  have e3:(b*V+(b+e)*2 ^ K+a % 2 ^ K) % 2 ^ K=a % 2 ^ K:=by
   obtain⟨c,hc⟩:=Nat.dvd_trans (Nat.pow_dvd_pow 2 (Nat.le_succ K)) h2
   rw[hc]
   have:b*(2 ^ K*c)+(b+e)*2 ^ K+a % 2 ^ K=a % 2 ^ K+2 ^ K*(b*c+(b+e)):=by grind
   rw[this,Nat.add_mul_mod_self_left,Nat.mod_mod]
  rw[e3];grind
 ·exact(Nat.dvd_add_right (Nat.dvd_trans (Nat.pow_dvd_pow _ (by omega)) h2)).2 (Nat.dvd_refl _)
theorem IX {a b K V r:Nat} (h:BV a b (K+1) V r) (hc:2*r+a / 2 ^ K % 2<b):BV a b K V (2*r+a / 2 ^ K % 2):=by
 obtain⟨h1,h2,h3⟩:=h
 rw[GN] at h1
 refine⟨?_,Nat.dvd_trans (Nat.pow_dvd_pow _ (by omega)) h2,hc⟩
 rw[Nat.pow_succ] at h1
 generalize a / 2 ^ K % 2=d at *
 have e:(2*r+d)*2 ^ K=r*(2 ^ K*2)+d*2 ^ K:=by grind
 omega
theorem FE {a b K:Nat} (h:a / 2 ^ K<b):BV a b K 0 (a / 2 ^ K):=by
 refine⟨?_,Nat.dvd_zero _,h⟩
 have:=Nat.div_add_mod a (2 ^ K)
 rw[Nat.mul_comm (a / 2 ^ K)];omega
theorem LL {a b V r:Nat} (h:BV a b 0 V r):V=a / b∧r=a % b:=by
 obtain⟨h1,_,h3⟩:=h
 simp only[Nat.pow_zero,Nat.mul_one,Nat.mod_one,Nat.add_zero] at h1
 have e1:=Nat.mul_add_mod b V r
 have e2:=Nat.mul_add_div (show 0<b by omega) V r
 rw[←h1,Nat.mod_eq_of_lt h3] at e1
 rw[←h1,Nat.div_eq_of_lt h3,Nat.add_zero] at e2
 exact⟨e2.symm,e1.symm⟩
theorem HQ {ds:List Nat} (h:bz ds) (m:Nat):au (ds.drop m)=au ds / 4294967296 ^ m:=by
 induction m generalizing ds with
 | zero=>simp
 | succ m ih =>
  cases ds with
  | nil=>simp[au,az]
  | cons d ds =>
   have hd:bz ds:=fun x hx=>h x (by simp[hx])
   have hd0:d<4294967296:=h d (by simp)
   rw[List.drop_succ_cons,ih hd,HR,Nat.pow_succ,Nat.mul_comm (4294967296 ^ m),←Nat.div_div_eq_div_mul]
   congr 1;omega
theorem Norm.drop {ds:List Nat} (h:Norm ds) (m:Nat):Norm (ds.drop m):=by
 by_cases hm:ds.length≤m
 ·left;exact List.drop_eq_nil_of_le hm
 ·rcases h with rfl|h
  ·left;simp
  ·right
   rw[List.length_drop]
   have:(ds.drop m).getD (ds.length - m - 1) 0=ds.getD (ds.length - 1) 0:=by
    simp only[List.getD_eq_getElem?_getD,List.getElem?_drop]
    rw[show m+(ds.length - m - 1)=ds.length - 1 by omega]
   rw[this];exact h
theorem bz.drop {ds:List Nat} (h:bz ds) (m:Nat):bz (ds.drop m):=fun d hd=>h d (List.mem_of_mem_drop hd)
end Go.Id
