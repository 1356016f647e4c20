/-
  Contracts: the reference's long integers, fourth part: differences, comparisons, integers.
-/
import Derived.Test.YtnnmjocmapilaaaGreatOutlierRisesAk
set_option linter.unusedVariables false
set_option linter.unusedSimpArgs false
set_option linter.defProp false
set_option linter.deprecated false
namespace Go.Id
open Go
open Nat renaming reduceAdd→zA,reduceEqDiff→zE,reduceLeDiff→zL
set_option maxHeartbeats 16000000
variable {v:Value}{h:IH}
def bd.form {z:Int} (d:bd h v z) : ∃s n,v=.agg #[.bool (decide (z<0)),s]∧s.cells = #[s]∧aB s=true∧(∀{P:Program} {t:TypeId} (_:cj P (some t)=true) (h':IH),ot P h' t s=some (.int .i64 ((n:Nat):Int)))∧(n=0↔z=0):=by
 obtain⟨s,rfl,ds,hD,hN,hx⟩:=d
 refine⟨s,ds.length,rfl,hD.1.cells,hD.1.cok,fun hT h'=>hD.1.len hT h',?_⟩
 have:=hN.kI
 rw[hx] at this
 rw[List.length_eq_zero_iff,←this];omega
variable {y x:Int}{w:Value}
def HN (hv:bd h v x) (hw:bd h w y) (sx:aX x) (sy:aX y) :
  WV Proofs.Tryz.prog (.func (.func 220) #[] #[]) [v,w] h fun r h'=>Ext h h'∧bd h' r (x - y):=by
 obtain⟨s,n1,rfl,c1,o1,l1,z1⟩:=hv.form
 obtain⟨t,n2,rfl,c2,o2,l2,z2⟩:=hw.form
 refine enter (nt:=9) (rs:=[.cell 4 175]) Proofs.Tryz.func220 rfl rfl rfl (by simp) ?_
 simp -dsimp (disch:=try exact dx) only[wpS,zE,zA,lD]
 have kk : ∀o1 o2 o3,aK h (((h.new o1).new o2).new o3):=fun o1 o2 o3=>(((aK.refl h).new _).new _).new _
 have ee : ∀o1 o2 o3,Ext h (((h.new o1).new o2).new o3):=fun o1 o2 o3=>(((Ext.refl h).new _).new _).new _
 refine drawn [(0,[3])] (by kernel_rfl) (by kernel_rfl) rfl ?_
 simp -dsimp (disch:=try exact dx) only[wpS,wpT,zE,zL,zA,cg]
 refine call (D4 (hw.aa (kk _ _ _))) ?_
 rintro r h1 ⟨hE,hT⟩
 simp -dsimp (disch:=try exact dx) only[wpS,zE]
 refine call (yX (hv.aa ((kk _ _ _).trans hE.aa)) hT sx (by rw[aX,Int.natAbs_neg];exact sy)) ?_
 rintro r2 h2 ⟨hE2,hr⟩
 obtain⟨s1,n3,rfl,c3,o3,l3,z3⟩:=hr.form
 have hg:h2.ext.get (h.n+1+1)=some (.cells [.bool false,.slice none 0 0] 0 none):=by
  rw[hE2.get _ (by have:=hE.n;simp at this;omega),hE.get _ (by simp)];exact ah _ _ rfl
 have hr0:h1.row (2*h.n)=some [.bool (decide (x<0)),s]:=by
  rw[hE.row (by simp<;>omega)];simp -dsimp (disch:=try exact dx) only[wpS]
 simp -dsimp (disch:=try exact dx) only[wpS,wpT,zE,zL,zA,gR,hg,o3]
 refine⟨ad rfl rfl rfl rfl (ai (av:=ptr (2*h.n) 0) (v:=.agg #[.bool (decide (x<0)),s]) rfl ?_ ?_),?_⟩
 ·simp -dsimp (disch:=try exact dx) only[wpS,wpT,zL,zA,cg]
  rfl
 ·simp -dsimp (disch:=omega) only[wpS,wpT,zL,zA,cg,hr0]
  rfl
 ·simp -dsimp (disch:=omega) only[wpS,wpT,zE,zL,zA,cg]
  refine⟨(((ee _ _ _).trans hE).trans hE2).put (by omega) _,?_⟩
  have:x + -y=x - y:=by omega
  rw[this] at hr ⊢
  exact hr.aa ((aK.refl _).put hg _)
def C0 (hv:bd h v x) (hw:bd h w y) (sx:aX x) (sy:aX y) :
  WV Proofs.Tryz.prog (.func (.func 143) #[] #[]) [v,w] h fun r h'=>Ext h h'∧r=KI (if x<y then -1 else if y<x then 1 else 0):=by
 obtain⟨s,n1,rfl,c1,o1,l1,z1⟩:=hv.form
 obtain⟨t,n2,rfl,c2,o2,l2,z2⟩:=hw.form
 refine enter (nt:=15) (rs:=[.tmp 4]) Proofs.Tryz.func143 rfl rfl rfl (by simp) ?_
 simp -dsimp (disch:=try exact dx) only[wpS,wpT,zE,zL,zA,cg]
 refine call (HN (hv.aa (((aK.refl h).new _).new _)) (hw.aa (((aK.refl h).new _).new _)) sx sy) ?_
 rintro r h1 ⟨hE,hr⟩
 obtain⟨s1,n3,rfl,c3,o3,l3,z3⟩:=hr.form
 have hE2:Ext h h1:=(((Ext.refl h).new _).new _).trans hE
 simp -dsimp (disch:=omega) only[wpS,wpT,zE,zL,zA,lD,gR,dT,ld4,o3]
 refine au ?_ ?_<;>intro hc<;>simp only[decide_eq_true_eq,decide_eq_false_iff_not] at hc
 ·simp -dsimp (disch:=omega) only[wpS,wpT,zE]
  refine⟨(hE2.new _).put hE2.n _,?_⟩
  rw[if_pos (by omega)]
 ·simp -dsimp (disch:=omega) only[wpS,wpT,zE,fk,rC,l3 gh]
  refine au ?_ ?_<;>intro hc2<;>simp only[decide_eq_true_eq,decide_eq_false_iff_not] at hc2
  ·simp -dsimp (disch:=omega) only[wpS,wpT,zE]
   refine⟨(hE2.new _).put hE2.n _,?_⟩
   rw[if_neg (by omega),if_pos (by omega)]
  ·simp -dsimp (disch:=omega) only[wpS,wpT]
   refine⟨(hE2.new _).put hE2.n _,?_⟩
   rw[if_neg (by omega),if_neg (by omega)]
end Go.Id
namespace Go.Id
def wrd (n i:Nat):Nat:=n / 18446744073709551616 ^ i % 18446744073709551616
def wK (n i:Nat):wrd n i<18446744073709551616:=Nat.mod_lt _ (by omega)
theorem EU (n i:Nat):n % 18446744073709551616 ^ (i+1)=n % 18446744073709551616 ^ i+18446744073709551616 ^ i*wrd n i:=Nat.mod_pow_succ
theorem pow_two (i:Nat):4294967296 ^ (2*i)=18446744073709551616 ^ i:=by
 rw[Nat.pow_mul]
theorem EF (i:Nat):4294967296 ^ (2*i+1)=4294967296*18446744073709551616 ^ i:=by
 rw[Nat.pow_succ,pow_two,Nat.mul_comm]
variable {j i n:Nat}
theorem uJ (h:n<18446744073709551616 ^ i) (hj:i≤j):wrd n j=0:=by
 have:n<18446744073709551616 ^ j:=Nat.lt_of_lt_of_le h (Nat.pow_le_pow_right (by omega) hj)
 rw[wrd,Nat.div_eq_of_lt this]
variable {x:Nat}
theorem qA (hj:j<i):wrd (n+x*18446744073709551616 ^ i) j=wrd n j:=by
 obtain⟨d,rfl⟩ : ∃d,i=j+1+d:=⟨i - j - 1,by omega⟩
 rw[wrd,wrd,show x*18446744073709551616 ^ (j+1+d)=18446744073709551616 ^ j*(18446744073709551616*(x*18446744073709551616 ^ d)) from by
  rw[Nat.pow_add,Nat.pow_add];grind]
 rw[Nat.add_mul_div_left _ _ (Nat.pow_pos (by omega)),Nat.add_mul_mod_self_left]
theorem zw (h:n<18446744073709551616 ^ (i+1)) (hx:wrd n i+x<18446744073709551616):wrd (n+x*18446744073709551616 ^ i) i=wrd n i+x:=by
 have h1:n / 18446744073709551616 ^ i<18446744073709551616:=by
  rw[Nat.div_lt_iff_lt_mul (Nat.pow_pos (by omega))]
  rw[Nat.pow_succ] at h;rw[Nat.mul_comm];exact h
 have h2:wrd n i=n / 18446744073709551616 ^ i:=Nat.mod_eq_of_lt h1
 rw[wrd,Nat.add_mul_div_right _ _ (Nat.pow_pos (by omega)),←h2,Nat.mod_eq_of_lt hx]
theorem PZ (h:n<18446744073709551616 ^ (i+1)) (hx:wrd n i+x<18446744073709551616):n+x*18446744073709551616 ^ i<18446744073709551616 ^ (i+1):=by
 have h1:n / 18446744073709551616 ^ i<18446744073709551616:=by
  rw[Nat.div_lt_iff_lt_mul (Nat.pow_pos (by omega))]
  rw[Nat.pow_succ] at h;rw[Nat.mul_comm];exact h
 have h2:wrd n i=n / 18446744073709551616 ^ i:=Nat.mod_eq_of_lt h1
 have hp:0<18446744073709551616 ^ i:=Nat.pow_pos (by omega)
 have h3:=Nat.div_add_mod n (18446744073709551616 ^ i)
 have h4:=Nat.mod_lt n hp
 rw[h2] at hx
 have h5:(n / 18446744073709551616 ^ i+x+1)*18446744073709551616 ^ i≤18446744073709551616*18446744073709551616 ^ i:=Nat.mul_le_mul_right _ (by omega)
 rw[Nat.pow_succ]
 generalize 18446744073709551616 ^ i=p at *
 have h6:(n / p+x+1)*p=p*(n / p)+x*p+p:=by grind
 rw[Nat.mul_comm 18446744073709551616 p] at h5
 omega
@[irreducible] def W8:Nat:=18446744073709551616 ^ 8
@[irreducible] def H8:Nat:=9223372036854775808*18446744073709551616 ^ 7
theorem wF:W8=18446744073709551616 ^ 8:=by unfold W8;rfl
def ow:W8=2*H8:=by unfold W8 H8;rfl
theorem BP:W8=4294967296 ^ 16:=by unfold W8;rfl
theorem ZQ:H8=2147483648*4294967296 ^ 15:=by unfold H8;rfl
def se:9223372036854775808<H8:=by unfold H8;decide
def wdI (n:Nat):Int:=if n<H8 then (n:Int) else (n:Int) - W8
def Xv (h:n<W8):wrd n 7<9223372036854775808↔n<H8:=by
 rw[wF] at h
 unfold H8
 have h1:n / 18446744073709551616 ^ 7<18446744073709551616:=by
  rw[Nat.div_lt_iff_lt_mul (Nat.pow_pos (by decide))];exact h
 rw[wrd,Nat.mod_eq_of_lt h1,Nat.div_lt_iff_lt_mul (Nat.pow_pos (by decide))]
open Go
set_option maxHeartbeats 16000000
def wdC (n:Nat):List Value:=(List.range 8).map fun i=>K64 (wrd n i)
def wdV (n:Nat):Value:=.agg (wdC n).toArray
theorem aA (n:Nat):(wdC n).length=8:=by simp[wdC]
theorem dG (n i:Nat) (hi:i<8):(wdC n)[i]?=some (K64 (wrd n i)):=by simp[wdC,hi]
def Cj (n:Nat):(wdV n).cells.toList=wdC n:=rfl
def cm (n:Nat):(wdC n).all aB=true:=by simp[wdC,aB]
def Pe {h:IH} (n:Nat):WV Proofs.Tryz.prog (.func (.func 217) #[] #[]) [wdV n] h fun r h'=>Ext h h' ∧ ∃os,iv h' r os∧os.length=16∧ao os=n % W8:=by
 refine enter (nt:=23) (rs:=[.tmp 2]) Proofs.Tryz.func217 rfl rfl rfl (by simp) ?_
 simp -dsimp (disch:=omega) only[wpS,Cj]
 refine loop (fun m fr h1 => ∃(i:Nat) (os:List Nat) (out:Value),i+m=8∧ab fr 1=some (ptr (2*h.n) 0)∧ab fr 3=some out∧ab fr 4=some (KN i)∧os.length=2*i∧bJ os∧ao os=n % 18446744073709551616 ^ i ∧
  Acc h1 (h.n+1) 1 out (2*i) (os.map KN)∧Ext (h.new (.cells (wdC n) 0 none)) h1) 8 ⟨0,[],.slice none 0 0,by simp,by simp,by simp,by simp,rfl,fun d hd=>(by cases hd),by simp[ao,aI,Nat.mod_one],Acc.nil _ _ (by omega),Ext.refl _⟩ ?_
 rintro m fr h1 ⟨i,os,out,him,f1,f3,f4,hos,hd,hv,hA,hE⟩
 have hr:h1.row (2*h.n)=some (wdC n):=by rw[hE.row (by simp)];exact jC _ _ _ _ rfl
 simp -dsimp (disch:=omega) only[wpS,Nat.reduceEqDiff,f4]
 refine au ?_ ?_<;>intro hc<;>simp only[decide_eq_true_eq,decide_eq_false_iff_not] at hc
 ·have hi:i<8:=by omega
  have hw:=wK n i
  have e1:((wrd n i:Int) % 4294967296)=((wrd n i % 4294967296:Nat):Int):=by omega
  have e2:((wrd n i:Int) / 4294967296)=((wrd n i / 4294967296:Nat):Int):=by omega
  simp -dsimp (disch:=omega) only[wpS,wpT]
  refine drawn [(3,[12]),(8,[12])] (by kernel_rfl) (by kernel_rfl) rfl ?_
  obtain⟨ef,h',hap,hA',hG,hE'⟩:=hA.app2 (P:=Proofs.Tryz.prog) (t:=25) FV (x:=KN (wrd n i % 4294967296)) (y:=KN (wrd n i / 4294967296)) rfl rfl (by omega) hE.n hE (by simp)
  simp -dsimp (disch:=omega) only[wpS,wpT,Nat.reduceEqDiff,Nat.reduceLeDiff,Nat.reduceAdd,Nat.reduceMul,uG,tj,Bu,Ca,l6,f1,f3,f4,hr,uG,dG n i hi,e1,e2,hap]
  refine⟨kA (ad rfl rfl rfl rfl (ai (av:=ptr (2*h.n) (0+i)) (v:=K64 (wrd n i)) (by simp) ?_ ?_)) (ad rfl rfl rfl rfl (ai (av:=ptr (2*h.n) (0+i)) (v:=K64 (wrd n i)) (by simp) ?_ ?_)),?_⟩
  ·simp -dsimp (disch:=omega) only[wpS,tj,hr,dG n i hi]
  ·have:=hE.n
   simp at this
   simp -dsimp (disch:=omega) only[wpS,tj,hr,dG n i hi]
  ·simp -dsimp (disch:=omega) only[wpS,tj,hr,dG n i hi]
  ·have:=hE.n
   simp at this
   simp -dsimp (disch:=omega) only[wpS,tj,hr,dG n i hi]
  ·simp -dsimp (disch:=omega) only[wpS,wpT,Nat.reduceEqDiff,Nat.reduceAdd,f4]
   refine⟨m - 1,by omega,i+1,os ++ [wrd n i % 4294967296] ++ [wrd n i / 4294967296],ef,by omega,by simp[f1],by simp,by simp,by simp[hos];omega,(hd.append (by omega)).append (by omega),?_,?_,hE'⟩
   ·rw[jk,jk,hv,EU]
    have h1:(os ++ [wrd n i % 4294967296]).length=2*i+1:=by simp[hos]
    rw[h1,hos,pow_two,EF]
    have h2:wrd n i % 4294967296+4294967296*(wrd n i / 4294967296)=wrd n i:=Nat.mod_add_div _ _
    generalize hx:wrd n i % 4294967296=x at *
    generalize hy:wrd n i / 4294967296=y at *
    rw[←h2]
    grind
   ·have:List.map KN os ++ [KN (wrd n i % 4294967296),KN (wrd n i / 4294967296)]=(os ++ [wrd n i % 4294967296] ++ [wrd n i / 4294967296]).map KN:=by simp
    rw[←this];exact hA'
 ·obtain rfl:i=8:=by omega
  simp -dsimp (disch:=omega) only[wpS,wpT,Nat.reduceEqDiff,f3]
  exact⟨((Ext.refl h).new _).trans hE,os,⟨by rw[hos];exact hA.sl,hd,by omega⟩,hos,by rw[wF];exact hv⟩
open Nat (reduceMul)
open Nat renaming reduceAdd→zA,reduceEqDiff→zE,reduceLeDiff→zL
def bZ (n:Nat):List.take 8 (List.drop 0 (wdC n))=wdC n:=by
 rw[List.drop_zero,List.take_of_length_le (by rw[aA];omega)]
set_option maxRecDepth 100000 in
def vM {h:IH} (n:Nat) (hn:n<W8):WV Proofs.Tryz.prog (.func (.func 136) #[] #[]) [wdV n] h fun r h'=>Ext h h'∧bd h' r (wdI n):=by
 refine enter (nt:=20) (rs:=[.cell 2 175]) Proofs.Tryz.func136 rfl rfl rfl (by simp) ?_
 simp -dsimp (disch:=try exact dx) only[wpS,zE,zL,lD,fh,Cj,aA,bZ]
 refine call (Pe n) ?_
 rintro d h1 ⟨hE,os,hD,hos,ng⟩
 rw[Nat.mod_eq_of_lt hn] at ng
 have hE1:Ext h h1:=(((Ext.refl h).new _).new _).trans hE
 have hr:h1.row (2*h.n)=some (wdC n):=by
  rw[hE.row (by simp<;>omega)];simp -dsimp (disch:=try exact dx) only[wpS]
 have h7:=Xv hn
 simp -dsimp (disch:=omega) only[wpS,wpT,zE,zA,reduceMul,Int.reduceToNat,uG,tj,J4,j6,hr,uG,dG n 7 (by omega),show qj 7 8=some 7 from rfl]
 refine au ?_ ?_<;>intro hc<;>simp only[decide_eq_true_eq,decide_eq_false_iff_not] at hc
 ·simp -dsimp (disch:=omega) only[wpS,wpT,zE]
  refine call (kJ hD false) ?_
  rintro r h2 ⟨hE2,hr2⟩
  have hg:h2.ext.get (h.n+1)=some (.cells [.bool false,.slice none 0 0] 0 none):=by
   rw[hE2.get _ (by have:=hE.n;simp at this;omega),hE.get _ (by simp)];exact ah _ _ rfl
  obtain⟨s1,n3,rfl,c3,o3,l3,z3⟩:=hr2.form
  simp -dsimp (disch:=omega) only[wpS,wpT,zE,zL,zA,reduceMul,Int.reduceToNat,gR,J4,j6,cg,hg,o3]
  refine⟨(hE1.trans hE2).put (by omega) _,?_⟩
  have:(if false=true then -(ao os:Int) else ao os)=wdI n:=by
   rw[wdI,if_pos (h7.1 (by omega)),ng];rfl
  rw[this] at hr2 ⊢
  exact hr2.aa ((aK.refl _).put hg _)
 ·simp -dsimp (disch:=omega) only[wpS,wpT,zE,zA,reduceMul,Int.reduceToNat,J4,j6]
  simp -dsimp (disch:=omega) only[wpS,wpT,zE,zL,zA,st3,show qj 16 17=some 16 from rfl]
  have hE3 : ∀a b:bI,Ext h1 ((h1.new a).put h1.n b):=fun a b=>((Ext.refl h1).new _).put (Nat.le_refl _) _
  refine call (xo (hD.aa (hE3 _ _).aa)) ?_
  rintro c h2 ⟨rfl,ds,hDs,hNs,hvs⟩
  have hW:iv ((h1.new (.cells (List.map KN [0,0,0,0,0,0,0,0,0,0,0,0,0,0,0,0,0]) 1 none)).put h1.n (.cells (List.map KN [0,0,0,0,0,0,0,0,0,0,0,0,0,0,0,0,1]) 1 none)) (.slice (some ⟨2*h1.n,0,none⟩) 17 35) [0,0,0,0,0,0,0,0,0,0,0,0,0,0,0,0,1] :=
   ⟨cI (f:=none) (ae _ _ rfl) (by simp) (by omega) rfl (by omega) (by simp),by intro d hd;simp at hd;omega,by simp⟩
  have hWv:ao [0,0,0,0,0,0,0,0,0,0,0,0,0,0,0,0,1]=W8:=by rw[BP];simp[ao,aI]
  simp -dsimp (disch:=omega) only[wpS,zE]
  refine call (zf hW hDs hNs (by rw[hWv,hvs,ng];omega)) ?_
  rintro e h3 ⟨hE4,es,hDe,hNe,hve⟩
  rw[hWv,hvs,ng] at hve
  simp -dsimp (disch:=omega) only[wpS,zE]
  refine call (kJ hDe true) ?_
  rintro r h4 ⟨hE5,hr2⟩
  have hz:(if true=true then -(ao es:Int) else ao es)=wdI n:=by
   have Vq : ¬n<H8:=by rw[←h7];omega
   rw[if_pos rfl,wdI,if_neg Vq,hve];omega
  rw[hz] at hr2
  have hE6:=(hE3 _ _).trans (hE4.trans hE5)
  have hg:h4.ext.get (h.n+1)=some (.cells [.bool false,.slice none 0 0] 0 none):=by
   rw[hE6.get _ (by have:=hE.n;simp at this;omega),hE.get _ (by simp)];exact ah _ _ rfl
  obtain⟨s1,n3,rfl,c3,o3,l3,z3⟩:=hr2.form
  simp -dsimp (disch:=omega) only[wpS,wpT,zE,zL,zA,gR,cg,hg,o3]
  refine⟨(hE1.trans hE6).put (by omega) _,?_⟩
  exact hr2.aa ((aK.refl _).put hg _)
def InW (z:Int):Prop:=-(H8:Int)≤z∧z<H8
instance (z:Int):Decidable (InW z):=inferInstanceAs (Decidable (_∧_))
def aY (z:Int):Nat:=if 0≤z then z.toNat else W8 - z.natAbs
variable {z:Int}
def ec (h:InW z):aY z<W8:=by
 have:=ow
 unfold InW at h
 unfold aY
 split<;>omega
theorem cB (h:InW z):wdI (aY z)=z:=by
 have:=ow
 unfold InW at h
 unfold wdI aY
 split
 ·rw[if_pos (by omega)];omega
 ·rw[if_neg (by omega)];omega
abbrev qe (z:Int):Value:=wdV (aY z)
abbrev ZW:Value:=.int .u64 0
theorem mq:wdC 0 = [ZW,ZW,ZW,ZW,ZW,ZW,ZW,ZW]:=by
 simp[wdC,wrd,List.range_succ]
theorem Va:ao [0,0,0,0,0,0,0,0,0,0,0,0,0,0,0,2147483648]=H8:=by rw[ZQ];simp[ao,aI]
theorem Nz:ao [0,0,0,0,0,0,0,0,0,0,0,0,0,0,0,0,1]=W8:=by rw[BP];simp[ao,aI]
def T1 {n i x:Nat} (hi:i<8) (hn:n<18446744073709551616 ^ (i+1)) (hx:wrd n i+x<18446744073709551616):(wdC n).set i (K64 (wrd n i+x))=wdC (n+x*18446744073709551616 ^ i):=by
 apply List.ext_getElem?
 intro j
 rw[List.getElem?_set]
 by_cases hij:i=j
 ·subst hij
  rw[if_pos rfl,dG _ _ hi,aA,if_pos hi,zw hn hx]
 ·rw[if_neg hij]
  by_cases hj:j<8
  ·rw[dG _ _ hj,dG _ _ hj]
   by_cases hlt:j<i
   ·rw[qA hlt]
   ·rw[uJ hn (by omega),uJ (PZ hn hx) (by omega)]
  ·rw[List.getElem?_eq_none (by rw[aA];omega),List.getElem?_eq_none (by rw[aA];omega)]
set_option maxRecDepth 100000 in
def JK {h:IH} {v:Value} (hv:bd h v z) :
  WV Proofs.Tryz.prog (.func (.func 116) #[] #[]) [v] h fun r h'=>Ext h h'∧r=if InW z then .tuple #[qe z,KI 0] else .tuple #[wdV 0,KI 6]:=by
 obtain⟨s,rfl,ds,hD,hN,hx⟩:=hv
 have hl:=hD.2.2
 refine enter (nt:=63) (rs:=[.cell 2 30,.tmp 3]) Proofs.Tryz.func116 rfl rfl rfl (by simp) ?_
 simp -dsimp (disch:=try exact dx) only[wpS,wpT,zE,zL,zA,reduceMul,Int.reduceToNat,nW,J4,j6,st3,fk,rC,show qj 15 16=some 15 from rfl]
 have hL:iv ((((h.new (.cells [.bool (decide (z<0)),s] 0 none)).new (.cells [ZW,ZW,ZW,ZW,ZW,ZW,ZW,ZW] 0 none)).new (.cells (List.map KN [0,0,0,0,0,0,0,0,0,0,0,0,0,0,0,0]) 1 none)).put (h.n+1+1) (.cells (List.map KN [0,0,0,0,0,0,0,0,0,0,0,0,0,0,0,2147483648]) 1 none)) (.slice (some ⟨2*(h.n+1+1),0,none⟩) 16 33) [0,0,0,0,0,0,0,0,0,0,0,0,0,0,0,2147483648] :=
  ⟨cI (f:=none) (ae _ _ rfl) (by simp) (by omega) rfl (by omega) (by simp),by intro d hd;simp at hd;omega,by simp⟩
 have hE : ∀a b c d:bI,Ext h ((((h.new a).new b).new c).put (h.n+1+1) d):=fun a b c d=>((((Ext.refl h).new _).new _).new _).put (by omega) _
 refine call (Au (hD.aa (hE _ _ _ _).aa) hL hN (.inr (by simp))) ?_
 rintro r h1 ⟨e1,c,rfl,hc1,hc2,hc3,hc4⟩
 have g1:h1.row (2*h.n)=some [.bool (decide (z<0)),s]:=by rw[e1];simp -dsimp (disch:=try exact dx) only[wpS]
 have g2:h1.ext.get (h.n+1)=some (.cells [ZW,ZW,ZW,ZW,ZW,ZW,ZW,ZW] 0 none):=by rw[e1];simp -dsimp (disch:=try exact dx) only[wpS]
 have g3:Ext h h1:=by rw[e1];exact hE _ _ _ _
 have g4:h.n+1<h1.n:=by rw[e1];simp
 clear e1 hL hE
 rw[Va,hx] at hc1 hc2
 have hW8:=ow
 by_cases hW:InW z
 ·have hc:c<0∨c=0∧z<0:=by unfold InW at hW;omega
  simp -dsimp (disch:=omega) only[wpR,zE]
  rw[kX]
  refine cut (fun fr2 h2=>h2=h1∧ab fr2 2=some (ptr (2*(h.n+1)) 0)∧ab fr2 1=some (ptr (2*h.n) 0)) ?_ ?_
  ·rcases hc with hc|⟨rfl,hz⟩
   ·simp -dsimp (disch:=omega) only[wpS,wpT,zE]
    exact⟨rfl,by simp⟩
   ·simp -dsimp (disch:=omega) only[wpS,wpT,zE,dT,ld4,g1,wh hz]
    exact⟨rfl,by simp⟩
  ·rintro fr2 h2 ⟨rfl,f2,f1⟩
   simp -dsimp (disch:=omega) only[wpS,zE,nW,fk,rC,dT,ld4,g1,f1]
   refine fB (fun fr3 h3=>ab fr3 2=some (ptr (2*(h.n+1)) 0)∧Ext h2 h3 ∧ ∃d ds2,ab fr3 6=some d∧iv h3 d ds2∧ao ds2=aY z∧ds2.length≤16) (fun hz=>?_) (fun hz=>?_) ?_
   ·simp only[decide_eq_true_eq] at hz
    simp -dsimp (disch:=omega) only[wpS,wpT,zE,zL,zA,reduceMul,Int.reduceToNat,J4,j6,st3,show qj 16 17=some 16 from rfl]
    have hE3 : ∀a b:bI,Ext h2 ((h2.new a).put h2.n b):=fun a b=>((Ext.refl h2).new _).put (Nat.le_refl _) _
    have hWW:iv ((h2.new (.cells (List.map KN [0,0,0,0,0,0,0,0,0,0,0,0,0,0,0,0,0]) 1 none)).put h2.n (.cells (List.map KN [0,0,0,0,0,0,0,0,0,0,0,0,0,0,0,0,1]) 1 none)) (.slice (some ⟨2*h2.n,0,none⟩) 17 35) [0,0,0,0,0,0,0,0,0,0,0,0,0,0,0,0,1] :=
     ⟨cI (f:=none) (ae _ _ rfl) (by simp) (by omega) rfl (by omega) (by simp),by intro d hd;simp at hd;omega,by simp⟩
    refine call (zf hWW (hD.aa (g3.trans (hE3 _ _)).aa) hN (by rw[Nz,hx];unfold InW at hW;omega)) ?_
    rintro e h3 ⟨hE4,es,hDe,hNe,hve⟩
    rw[Nz,hx] at hve
    have hv2:ao es=aY z:=by rw[hve,aY,if_neg (by omega)]
    simp -dsimp (disch:=omega) only[wpS,zE]
    refine⟨by simp[f2],(hE3 _ _).trans hE4,e,es,by simp,hDe,hv2,?_⟩
    have h5:=ec hW
    rw[←hv2,BP] at h5
    by_cases hne:es = []
    ·subst hne;simp
    ·have h6:=hNe.ge hne
     have h7:=(Nat.pow_lt_pow_iff_right (a:=4294967296) (by omega)).1 (Nat.lt_of_le_of_lt h6 h5)
     omega
   ·simp only[decide_eq_false_iff_not] at hz
    simp -dsimp (disch:=omega) only[wpS,wpT]
    have hv2:ao ds=aY z:=by rw[hx,aY,if_pos (by omega)];omega
    refine⟨by simp[f2],Ext.refl _,s,ds,by simp,hD.aa g3.aa,hv2,?_⟩
    have h5:=ec hW
    rw[←hv2,BP] at h5
    by_cases hne:ds = []
    ·subst hne;simp
    ·have h6:=hN.ge hne
     have h7:=(Nat.pow_lt_pow_iff_right (a:=4294967296) (by omega)).1 (Nat.lt_of_le_of_lt h6 h5)
     omega
   ·rintro fr3 h3 ⟨f2,hE3,d,ds2,f6,hD2,hv2,hl2⟩
    simp -dsimp (disch:=omega) only[wpS,nW]
    have hlen:=hD2.2.2
    refine loop (fun m fr h4 => ∃i:Nat,i+m=ds2.length∧ab fr 2=some (ptr (2*(h.n+1)) 0)∧ab fr 6=some d∧ab fr 8=some (ptr (2*h3.n) 0)∧ab fr 9=some (KN i)∧h3.n<h4.n∧h4.ext.get h3.n=some (.cells (wdC (aI ds2 i)) 0 none)∧Ext h3 h4) ds2.length ⟨0,by simp,by simp[f2],by simp[f6],by simp,by simp,by simp,by rw[aI,mq];exact ah _ _ rfl,(Ext.refl h3).new _⟩ ?_
    rintro m fr h4 ⟨i,him,f2,f6,f8,f9,hn4,hg4,hE4⟩
    simp -dsimp (disch:=try exact dx) only[wpS,zE,f6,f9,hD2.1.len gh]
    refine au ?_ ?_<;>intro hc<;>simp only[decide_eq_true_eq,decide_eq_false_iff_not] at hc
    ·have hi:i<ds2.length:=by omega
     have dd:=bS hD2.2.1 i
     have hvl:=iz hD2.2.1 i
     have fA:h4.row (2*h3.n)=some (wdC (aI ds2 i)):=by rw[jD];exact By hg4
     have e1:((i:Int) / 2)=((i / 2:Nat):Int):=by omega
     have hi8:i / 2<8:=by omega
     obtain⟨x,hsh,hx1,hx2⟩ : ∃x:Nat,(∀t o1 o2,binop Proofs.Tryz.prog .shl t o1 o2 (K64 (ds2.getD i 0)) (.int .i64 (32*((i:Int) % 2)))=some (K64 x))∧aI ds2 (i+1)=aI ds2 i+x*18446744073709551616 ^ (i / 2)∧wrd (aI ds2 i) (i / 2)+x<18446744073709551616:=by
      rcases Nat.mod_two_eq_zero_or_one i with hm|hm
      ·obtain⟨k,rfl⟩ : ∃k,i=2*k:=⟨i / 2,by omega⟩
       have hk:2*k / 2=k:=by omega
       refine⟨ds2.getD (2*k) 0,fun t o1 o2=>?_,?_,?_⟩
       ·have e2:(32*(((2*k:Nat):Int) % 2))=((0:Nat):Int):=by omega
        rw[e2,LL _ _ _ _ (by omega) (by omega)];simp
       ·rw[aI,hk,pow_two]
       ·rw[hk,uJ (by rw[←pow_two];exact hvl) (Nat.le_refl _)];omega
      ·obtain⟨k,rfl⟩ : ∃k,i=2*k+1:=⟨i / 2,by omega⟩
       have hk:(2*k+1) / 2=k:=by omega
       refine⟨ds2.getD (2*k+1) 0*4294967296,fun t o1 o2=>?_,?_,?_⟩
       ·have e2:(32*(((2*k+1:Nat):Int) % 2))=((32:Nat):Int):=by omega
        rw[e2,LL _ _ _ _ (by omega) (by omega)]
       ·rw[aI,hk,EF];grind
       ·rw[hk]
        rw[EF] at hvl
        have h8:aI ds2 (2*k+1) / 18446744073709551616 ^ k<4294967296:=by
         rw[Nat.div_lt_iff_lt_mul (Nat.pow_pos (by omega))];exact hvl
        have h9:wrd (aI ds2 (2*k+1)) k≤aI ds2 (2*k+1) / 18446744073709551616 ^ k:=Nat.mod_le _ _
        omega
     have hwl:aI ds2 i<18446744073709551616 ^ (i / 2+1):=by
      have h8:4294967296 ^ i≤4294967296 ^ (2*(i / 2+1)):=Nat.pow_le_pow_right (by omega) (by omega)
      rw[pow_two] at h8
      omega
     have Ke:=T1 hi8 hwl hx2
     rw[←hx1] at Ke
     have Kd:IH.aJ (wdC (aI ds2 i)) (i / 2) [.int .u64 ((wrd (aI ds2 i) (i / 2):Int)+(x:Int))]=wdC (aI ds2 (i+1)):=by
      rw[gS (by rw[aA];exact hi8),←Ke];rfl
     have hwr:=wK (aI ds2 i) (i / 2)
     simp -dsimp (disch:=try exact dx) only[wpS,wpT,zE,zL,uG,tj,FE,wP,f6,f8,f9,e1,uG,fA,dG _ _ hi8,hD2.1.idx j6 hi,hD2.1.ld hE4.aa (P:=Proofs.Tryz.prog) (t:=3) (c:=i) (by simpa using hi) ag3,cp,get_some hi,hsh,hg4,aA,Kd]
     refine⟨m - 1,by omega,i+1,by omega,by simp[f2],by simp[f6],by simp[f8],by simp,by simpa using hn4,ae _ _ rfl,hE4.put (Nat.le_refl _) _⟩
    ·obtain rfl:i=ds2.length:=by omega
     have hgz:h4.ext.get (h.n+1)=some (.cells [ZW,ZW,ZW,ZW,ZW,ZW,ZW,ZW] 0 none):=by
      rw[hE4.get _ (by have:=hE3.n;omega),hE3.get _ g4];exact g2
     have fA:h4.row (2*h3.n)=some (wdC (aY z)):=by rw[jD,←hv2];exact By hg4
     have Kd:IH.aJ [ZW,ZW,ZW,ZW,ZW,ZW,ZW,ZW] 0 (wdC (aY z))=wdC (aY z):=iX (by rw[aA];rfl)
     simp -dsimp (disch:=omega) only[wpS,wpT,zE,zL,zA,lh,fh,f2,f8,fA,hgz,aA,bZ,cm,Kd]
     refine⟨((g3.trans hE3).trans hE4).put (by omega) _,?_⟩
     rw[if_pos hW];rfl
 ·have hc:0<c∨c=0 ∧ ¬z<0:=by unfold InW at hW;omega
  rcases hc with hc|⟨hc,hz⟩
  ·simp -dsimp (disch:=omega) only[wpS,wpT,zE,zL,zA,FL,lh,fh,g2]
   refine⟨g3.put (by omega) _,?_⟩
   rw[if_neg hW,wdV,mq];rfl
  ·subst hc
   simp -dsimp (disch:=omega) only[wpS,wpT,zE,zL,zA,dT,ld4,FL,lh,fh,g1,g2,wk hz]
   refine⟨g3.put (by omega) _,?_⟩
   rw[if_neg hW,wdV,mq];rfl
end Go.Id
namespace Go.Id
open Go
open Nat (reduceMul)
open Nat renaming reduceAdd→zA,reduceEqDiff→zE,reduceLeDiff→zL
theorem tw (n:Int):IntKind.u64.wrap n=n % 18446744073709551616:=by simp[IntKind.wrap,IntKind.bits,IntKind.signed]
def Gs (n:Nat):(wdV n).cells.toList=wdC n:=rfl
abbrev fZ (n:Int):Prop:=-9223372036854775808≤n∧n<9223372036854775808
def JF (b:Nat) (hb:0<b) (m k:Nat) (h:m≤k):b ^ m≤b ^ k:=Nat.pow_le_pow_right hb h
def LH {n:Int} (h:n.natAbs≤18446744073709551616):aX n:=by
 have h1:=JF 4294967296 (by decide) 3 1000000 (by decide)
 have h2:(4294967296:Nat) ^ 3=79228162514264337593543950336:=by decide
 unfold aX Small
 refine Nat.lt_of_lt_of_le ?_ h1
 omega
def XQ {z:Int} (h:InW z):aX z:=by
 have h1:=JF 4294967296 (by decide) 16 1000000 (by decide)
 rw[←BP] at h1
 have h2:=ow
 have h3:=se
 unfold InW at h
 unfold aX Small
 refine Nat.lt_of_lt_of_le ?_ h1
 omega
variable {h:IH}
set_option maxRecDepth 100000 in
def oO (n:Int) (hn:fZ n):WV Proofs.Tryz.prog (.func (.func 117) #[] #[]) [KI n] h fun r h'=>Ext h h'∧bd h' r n:=by
 have hB : ∃u:Nat,u=n.natAbs:=⟨_,rfl⟩
 obtain⟨u,hu⟩:=hB
 refine enter (nt:=21) (rs:=[.cell 2 175]) Proofs.Tryz.func117 rfl rfl rfl (by simp) ?_
 simp -dsimp (disch:=omega) only[wpR]
 rw[kX]
 simp -dsimp (disch:=omega) only[wpR,lD]
 rw[kX]
 simp -dsimp (disch:=omega) only[wpR,zE]
 rw[kX]
 simp -dsimp (disch:=omega) only[wpR,zE,FE]
 rw[kX]
 refine cut (fun fr2 h2=>h2=h.new (.cells [.bool false,.slice none 0 0] 0 none)∧ab fr2 2=some (ptr (2*h.n) 0)∧ab fr2 3=some (.bool (decide (n<0)))∧ab fr2 4=some (K64 u)) ?_ ?_
 ·by_cases hz:n<0
  ·have e1:IntKind.u64.wrap n=n+18446744073709551616:=by rw[tw];omega
   have e2:IntKind.u64.wrap (-(n+18446744073709551616))=(u:Int):=by rw[tw];omega
   simp -dsimp (disch:=omega) only[wpS,zE,wh hz,e1,e2]
   exact⟨rfl,by simp[hz]⟩
  ·have e1:n=(u:Int):=by omega
   simp -dsimp (disch:=omega) only[wpS,zE,wk hz]
   exact⟨rfl,by simp,by simp;omega,by simp;exact e1⟩
 ·rintro fr2 h2 ⟨rfl,f2,f3,f4⟩
  have e1:((u:Int) % 4294967296)=((u % 4294967296:Nat):Int):=by omega
  have e2:((u:Int) / 4294967296)=((u / 4294967296:Nat):Int):=by omega
  simp -dsimp (disch:=omega) only[wpS,wpT,zE,zL,zA,reduceMul,Bu,Ca,f3,f4,e1,e2]
  have hD:iv ((h.new (.cells [.bool false,.slice none 0 0] 0 none)).new (.cells (List.map KN [u % 4294967296,u / 4294967296]) 1 none)) (.slice (some ⟨2*(h.n+1),0,none⟩) 2 5) [u % 4294967296,u / 4294967296] :=
   ⟨cI (f:=none) (ah _ _ rfl) (by simp) (by omega) rfl (by omega) (by simp),by intro d hd;simp at hd;omega,by simp⟩
  refine call (kJ hD _) ?_
  rintro r h1 ⟨hE,hr⟩
  have hz:(if decide (n<0)=true then -(ao [u % 4294967296,u / 4294967296]:Int) else ao [u % 4294967296,u / 4294967296])=n:=by
   have:ao [u % 4294967296,u / 4294967296]=u:=by simp[ao,aI];omega
   rw[this]
   by_cases h0:n<0<;>simp[h0]<;>omega
  rw[hz] at hr
  obtain⟨s1,n3,rfl,c3,o3,l3,z3⟩:=hr.form
  have hg:h1.ext.get h.n=some (.cells [.bool false,.slice none 0 0] 0 none):=by
   rw[hE.get _ (by simp<;>omega)];simp -dsimp (disch:=try exact dx) only[wpS]
  simp -dsimp (disch:=omega) only[wpS,wpT,zE,zL,zA,gR,cg,f2,hg,o3]
  refine⟨((((Ext.refl h).new _).new _).trans hE).put (by omega) _,?_⟩
  exact hr.aa ((aK.refl _).put hg _)
def cU (n:Int) (hn:fZ n):WV Proofs.Tryz.prog (.func (.func 43) #[] #[]) [KI n] h fun r h'=>Ext h h'∧r=qe n:=by
 refine enter (nt:=12) (rs:=[.cell 2 30]) Proofs.Tryz.func43 rfl rfl rfl (by simp) ?_
 simp -dsimp (disch:=omega) only[wpS,zE,nW]
 refine call (oO n hn) ?_
 rintro r h1 ⟨hE,hr⟩
 simp -dsimp (disch:=omega) only[wpS,zE]
 refine call (JK hr) ?_
 rintro r2 h2 ⟨hE2,rfl⟩
 have hW:InW n:=by have:=se;unfold InW;omega
 rw[if_pos hW]
 have hg:h2.ext.get h.n=some (.cells [ZW,ZW,ZW,ZW,ZW,ZW,ZW,ZW] 0 none):=by
  rw[hE2.get _ (by have:=hE.n;simp at this;omega),hE.get _ (by simp)];exact ah _ _ rfl
 have Kd:IH.aJ [ZW,ZW,ZW,ZW,ZW,ZW,ZW,ZW] 0 (wdC (aY n))=wdC (aY n):=iX (by rw[aA];rfl)
 have hlt:h.n<h2.n:=by have a1:=hE.n;have a2:=hE2.n;simp only[aH] at a1;omega
 simp -dsimp (disch:=omega) only[wpS,wpT,zE,zL,zA,nW,lh,fh,Gs,aA,cm,bZ,Kd,hg]
 exact⟨((((Ext.refl h).new _).trans hE).trans hE2 |>.new _).put (by omega) _ |>.put (by omega) _,rfl⟩
end Go.Id
namespace Go.Id
variable {ds:List Nat}{w k:Nat}
theorem dD (hk:k<ds.length) (j:Nat):(ds.set k w).getD j 0=if j=k then w else ds.getD j 0:=by
 simp only[List.getD_eq_getElem?_getD,List.getElem?_set]
 by_cases h:k=j
 ·subst h;simp[hk]
 ·rw[if_neg h,if_neg (fun x=>h x.symm)]
def qJ {ds:List Nat} {k w:Nat} (hk:k<ds.length) : ∀n,aI (ds.set k w) n+(if k<n then ds.getD k 0*4294967296 ^ k else 0)=aI ds n+(if k<n then w*4294967296 ^ k else 0)
 | 0=>by simp[aI]
 | n+1=>by
  have ih:=qJ (w:=w) hk n
  rw[aI,aI,dD hk]
  by_cases h1:k<n
  ·rw[if_pos h1,if_pos h1] at ih
   rw[if_pos (show k<n+1 by omega),if_pos (show k<n+1 by omega),if_neg (show ¬n=k by omega)]
   omega
  ·rw[if_neg h1,if_neg h1] at ih
   by_cases h2:n=k
   ·subst h2
    rw[if_pos (Nat.lt_succ_self n),if_pos (Nat.lt_succ_self n),if_pos rfl]
    omega
   ·rw[if_neg (show ¬k<n+1 by omega),if_neg (show ¬k<n+1 by omega),if_neg h2]
    omega
def iK (w:Nat) (hk:k<ds.length):ao (ds.set k w)+ds.getD k 0*4294967296 ^ k=ao ds+w*4294967296 ^ k:=by
 have h:=qJ (w:=w) hk ds.length
 rw[if_pos hk,if_pos hk] at h
 rw[ao,ao,List.length_set];exact h
theorem oC (m:Nat) : ∀n,aI (List.replicate m 0) n=0
 | 0=>rfl
 | n+1=>by
  rw[aI,oC m n]
  have:(List.replicate m 0).getD n 0=0:=by
   rw[List.getD_eq_getElem?_getD,List.getElem?_replicate];split<;>rfl
  rw[this];simp
theorem jR (m:Nat):ao (List.replicate m 0)=0:=oC m _
def jZ (m j:Nat):(List.replicate m 0).getD j 0=0:=by
 rw[List.getD_eq_getElem?_getD,List.getElem?_replicate];split<;>rfl
def bJ.set (h:bJ ds) (k:Nat) (hw:w<4294967296):bJ (ds.set k w):=by
 intro d hd
 rcases List.mem_or_eq_of_mem_set hd with h1|h1
 ·exact h d h1
 ·omega
theorem bJ.bB (m:Nat):bJ (List.replicate m 0):=by
 intro d hd
 rw[List.mem_replicate] at hd
 omega
def Norm.MG (h:Norm ds) {m:Nat} (hs:ao ds<4294967296 ^ m):ds.length≤m:=by
 apply Classical.byContradiction;intro hn
 have hne:ds ≠ []:=by intro h0;subst h0;simp at hn
 have h1:=h.ge hne
 have h2:4294967296 ^ m≤4294967296 ^ (ds.length - 1):=Nat.pow_le_pow_right (by omega) (by omega)
 omega
variable {ds:List Nat}
def uN (h:bJ ds) : ∀{n k:Nat},n≤k→aI ds k % 4294967296 ^ n=aI ds n
 | n,0,hk=>by
  obtain rfl:n=0:=by omega
  simp[aI]
 | n,k+1,hk=>by
  by_cases hn:n=k+1
  ·subst hn;exact Nat.mod_eq_of_lt (iz h _)
  ·have ih:=uN h (show n≤k by omega)
   rw[aI]
   have hd:4294967296 ^ n∣ds.getD k 0*4294967296 ^ k:=Nat.dvd_trans (Nat.pow_dvd_pow _ (by omega)) (Nat.dvd_mul_left _ _)
   obtain⟨c,hc⟩:=hd
   rw[hc,Nat.add_mul_mod_self_left,ih]
theorem rR (h:bJ ds) (j:Nat):ds.getD j 0=ao ds / 4294967296 ^ j % 4294967296:=by
 have hp:=qZ j
 by_cases hj:j<ds.length
 ·have e1:aI ds (j+1)=ao ds % 4294967296 ^ (j+1):=(uN h (show j+1≤ds.length by omega)).symm
  have e2:aI ds (j+1) / 4294967296 ^ j=ds.getD j 0:=by
   rw[aI,Nat.add_mul_div_right _ _ hp,Nat.div_eq_of_lt (iz h j),Nat.zero_add]
  rw[←e2,e1,Nat.pow_succ,Nat.mod_mul_right_div_self]
 ·rw[cW (by omega)]
  have h1:=jz h
  have h2:4294967296 ^ ds.length≤4294967296 ^ j:=Nat.pow_le_pow_right (by omega) (by omega)
  rw[Nat.div_eq_of_lt (by omega)]
theorem Mf (j:Nat):4294967296 ^ j=2 ^ (32*j):=by rw[Nat.pow_mul]
variable {i k:Nat}
def Zy (h:bJ ds) (hk:k<32):ds.getD i 0 / 2 ^ k % 2=ao ds / 2 ^ (32*i+k) % 2:=by
 rw[rR h,Mf,Nat.pow_add,←Nat.div_div_eq_div_mul]
 generalize ao ds / 2 ^ (32*i)=x
 have e2:4294967296=2 ^ k*2 ^ (32 - k):=by rw[←Nat.pow_add,show k+(32 - k)=32 by omega]
 rw[e2,Nat.mod_mul_right_div_self]
 have:2∣2 ^ (32 - k):=⟨2 ^ (31 - k),by rw[←Nat.pow_succ'];congr 1;omega⟩
 exact Nat.mod_mod_of_dvd _ this
def Ty (h:bJ ds) (hk:k<32) (hd:2 ^ (32*i+k+1)∣ao ds):ds.getD i 0+2 ^ k<4294967296:=by
 have hd:2 ^ (k+1)∣ds.getD i 0:=by
  rw[rR h,Mf]
  obtain⟨c,hc⟩:=hd
  have e:2 ^ (32*i+k+1)=2 ^ (32*i)*2 ^ (k+1):=by rw[←Nat.pow_add];congr 1
  rw[hc,e,Nat.mul_assoc,Nat.mul_div_cancel_left _ (Nat.pow_pos (by omega))]
  have e2:4294967296=2 ^ (k+1)*2 ^ (31 - k):=by rw[←Nat.pow_add,show k+1+(31 - k)=32 by omega]
  rw[show(4294967296:Nat)=2 ^ (k+1)*2 ^ (31 - k) from e2]
  exact(Nat.dvd_mod_iff (Nat.dvd_mul_right _ _)).2 (Nat.dvd_mul_right _ _)
 have hlt:2 ^ k<2 ^ (k+1):=Nat.pow_lt_pow_right (by omega) (by omega)
 have hw:=bS h i
 obtain⟨c,hc⟩:=hd
 rw[hc] at hw ⊢
 have e2:4294967296=2 ^ (k+1)*2 ^ (31 - k):=by rw[←Nat.pow_add,show k+1+(31 - k)=32 by omega]
 rw[e2] at hw ⊢
 have hc2:c<2 ^ (31 - k):=Nat.lt_of_mul_lt_mul_left hw
 have:2 ^ (k+1)*(c+1)≤2 ^ (k+1)*2 ^ (31 - k):=Nat.mul_le_mul_left _ hc2
 rw[Nat.mul_add,Nat.mul_one] at this
 omega
def F8 (a b K V r:Nat):Prop:=a=b*V+r*2 ^ K+a % 2 ^ K∧2 ^ K∣V∧r<b
theorem Mz (a K:Nat):a % 2 ^ (K+1)=a / 2 ^ K % 2*2 ^ K+a % 2 ^ K:=by
 rw[Nat.pow_succ,Nat.mod_mul,Nat.add_comm,Nat.mul_comm]
variable {r V K a b:Nat}
def SI (h:F8 a b (K+1) V r) (hc:b≤2*r+a / 2 ^ K % 2):F8 a b K (V+2 ^ K) (2*r+a / 2 ^ K % 2 - b):=by
 obtain⟨h1,h2,h3⟩:=h
 rw[Mz] at h1
 have hb:=Nat.mod_lt (a / 2 ^ K) (show 0<2 by omega)
 generalize a / 2 ^ K % 2=d at *
 obtain⟨e,he⟩ : ∃e,2*r+d=b+e:=⟨2*r+d - b,by omega⟩
 refine⟨?_,?_,by omega⟩
 ·rw[he,Nat.add_sub_cancel_left]
  rw[h1.trans (show _=(b*V+(2*r+d)*2 ^ K)+a % 2 ^ K by rw[Nat.pow_succ];grind)]
  rw[he]
  have e3:(b*V+(b+e)*2 ^ K+a % 2 ^ K) % 2 ^ K=a % 2 ^ K:=by
   obtain⟨c,hc⟩:=Nat.dvd_trans (Nat.pow_dvd_pow 2 (Nat.le_succ K)) h2
   rw[hc]
   have:b*(2 ^ K*c)+(b+e)*2 ^ K+a % 2 ^ K=a % 2 ^ K+2 ^ K*(b*c+(b+e)):=by grind
   rw[this,Nat.add_mul_mod_self_left,Nat.mod_mod]
  rw[e3];grind
 ·exact(Nat.dvd_add_right (Nat.dvd_trans (Nat.pow_dvd_pow _ (by omega)) h2)).2 (Nat.dvd_refl _)
def Pv (h:F8 a b (K+1) V r) (hc:2*r+a / 2 ^ K % 2<b):F8 a b K V (2*r+a / 2 ^ K % 2):=by
 obtain⟨h1,h2,h3⟩:=h
 rw[Mz] at h1
 refine⟨?_,Nat.dvd_trans (Nat.pow_dvd_pow _ (by omega)) h2,hc⟩
 rw[Nat.pow_succ] at h1
 generalize a / 2 ^ K % 2=d at *
 have e:(2*r+d)*2 ^ K=r*(2 ^ K*2)+d*2 ^ K:=by grind
 omega
def KF (h:a / 2 ^ K<b):F8 a b K 0 (a / 2 ^ K):=by
 refine⟨?_,Nat.dvd_zero _,h⟩
 have:=Nat.div_add_mod a (2 ^ K)
 rw[Nat.mul_comm (a / 2 ^ K)];omega
def SJ (h:F8 a b 0 V r):V=a / b∧r=a % b:=by
 obtain⟨h1,_,h3⟩:=h
 simp only[Nat.pow_zero,Nat.mul_one,Nat.mod_one,Nat.add_zero] at h1
 have e1:=Nat.mul_add_mod b V r
 have e2:=Nat.mul_add_div (show 0<b by omega) V r
 rw[←h1,Nat.mod_eq_of_lt h3] at e1
 rw[←h1,Nat.div_eq_of_lt h3,Nat.add_zero] at e2
 exact⟨e2.symm,e1.symm⟩
theorem NX (h:bJ ds) (m:Nat):ao (ds.drop m)=ao ds / 4294967296 ^ m:=by
 induction m generalizing ds with
 | zero=>simp
 | succ m ih =>
  cases ds with
  | nil=>simp[ao,aI]
  | cons d ds =>
   have hd:bJ ds:=fun x hx=>h x (by simp[hx])
   have hd0:d<4294967296:=h d (by simp)
   rw[List.drop_succ_cons,ih hd,jS,Nat.pow_succ,Nat.mul_comm (4294967296 ^ m),←Nat.div_div_eq_div_mul]
   congr 1;omega
def Norm.drop (h:Norm ds) (m:Nat):Norm (ds.drop m):=by
 by_cases hm:ds.length≤m
 ·left;exact List.drop_eq_nil_of_le hm
 ·rcases h with rfl|h
  ·left;simp
  ·right
   rw[List.length_drop]
   have:(ds.drop m).getD (ds.length - m - 1) 0=ds.getD (ds.length - 1) 0:=by
    simp only[List.getD_eq_getElem?_getD,List.getElem?_drop]
    rw[show m+(ds.length - m - 1)=ds.length - 1 by omega]
   rw[this];exact h
def bJ.drop (h:bJ ds) (m:Nat):bJ (ds.drop m):=fun d hd=>h d (List.mem_of_mem_drop hd)
open Go
open Go.Proofs.Tryz (prog)
open Nat (reduceMul)
open Nat renaming reduceAdd→zA,reduceEqDiff→zE,reduceLeDiff→zL
set_option maxHeartbeats 16000000
variable {k:Nat}
def Jl {os:List Nat} (x:Nat) (hk:k<os.length):IH.aJ (os.map KN) k [KN x]=(os.set k x).map KN:=by
 rw[gS (by simpa using hk),List.map_set]
def R5 (l:List Nat):(l.map KN).all aB=true:=by simp[aB]
def L6 (n:Nat):bB n [KI 0]=(List.replicate n 0).map KN:=by rw[Ak,List.map_replicate];rfl
variable {h:IH}
def bT {b:Nat} {cs:List Value} {e:Nat} {f:Option Nat} (hg:h.ext.get b=some (.cells cs e f)):h.row (2*b)=some cs:=by rw[jD];simp only[IH.cells,hg]
variable {v:Value}{b a:List Nat}{w:Value}
def JD (ha:iv h v a) (hb:iv h w b) (hab:a.length+b.length≤1100000) :
  WV prog (.func (.func 221) #[] #[]) [v,w] h fun r h'=>Ext h h'∧Dig h' r (ao a*ao b):=by
 have eL:(a.length:Int)+(b.length:Int)=((a.length+b.length:Nat):Int):=by omega
 refine enter (nt:=68) (rs:=[.tmp 4]) Proofs.Tryz.func221 rfl rfl rfl (by simp) ?_
 simp -dsimp (disch:=omega) only[wpS,zE,zA,J4,ha.1.len gh,hb.1.len gh,eL,L6]
 refine loop (fun m fr h1 => ∃(i:Nat) (os:List Nat),i+m=a.length∧Ext h h1∧h.n<h1.n∧h1.ext.get h.n=some (.cells (os.map KN) 1 none)∧os.length=a.length+b.length∧bJ os∧ao os=aI a i*ao b∧(∀k,i+b.length≤k→os.getD k 0=0) ∧
   ab fr 0=some v∧ab fr 1=some w∧ab fr 5=some (.slice (some ⟨2*h.n,0,none⟩) (a.length+b.length) (2*(a.length+b.length)+1))∧ab fr 6=some (KN i)) a.length
  ⟨0,List.replicate (a.length+b.length) 0,by omega,(Ext.refl h).new _,by simp,ah _ _ rfl,by simp,bJ.bB _,by rw[jR];simp[aI],fun k _=>jZ _ _,by simp⟩ ?_
 rintro m fr h1 ⟨i,os,him,hE,hn,hg,hol,hod,hov,hoz,f0,f1,f5,f6⟩
 simp -dsimp (disch:=omega) only[wpS,zE,f0,f6,ha.1.len gh]
 refine au ?_ ?_<;>intro hc<;>simp only[decide_eq_true_eq,decide_eq_false_iff_not] at hc
 ·have hi:i<a.length:=by omega
  have da:=bS ha.2.1 i
  generalize hx:a.getD i 0=x at *
  simp -dsimp (disch:=omega) only[wpS,wpT]
  refine loop (fun m2 fr h2 => ∃(j c:Nat) (os2:List Nat),j+m2=b.length∧Ext h h2∧h.n<h2.n∧h2.ext.get h.n=some (.cells (os2.map KN) 1 none)∧os2.length=a.length+b.length∧bJ os2∧c<4294967296∧ao os2+c*4294967296 ^ (i+j)=aI a i*ao b+x*aI b j*4294967296 ^ i∧(∀k,i+b.length≤k→os2.getD k 0=0) ∧
    ab fr 0=some v∧ab fr 1=some w∧ab fr 5=some (.slice (some ⟨2*h.n,0,none⟩) (a.length+b.length) (2*(a.length+b.length)+1))∧ab fr 6=some (KN i)∧ab fr 7=some (K64 c)∧ab fr 8=some (KN j)) b.length
   ⟨0,0,os,by omega,hE,hn,hg,hol,hod,by omega,by rw[hov];simp[aI],hoz,by simp[f0,f1,f5,f6]⟩ ?_
  clear hE hn hg hol hod hov hoz f0 f1 f5 f6
  rintro m2 fr h2 ⟨j,c,os2,hjm,hE,hn,hg,hol,hod,hc4,hov,hoz,f0,f1,f5,f6,f7,f8⟩
  simp -dsimp (disch:=omega) only[wpS,zE,f1,f8,hb.1.len gh]
  refine au ?_ ?_<;>intro hc2<;>simp only[decide_eq_true_eq,decide_eq_false_iff_not] at hc2
  ·have hj:j<b.length:=by omega
   have db:=bS hb.2.1 j
   have doo:=bS hod (i+j)
   have hr:h2.row (2*h.n)=some (os2.map KN):=bT hg
   have gx:=get_some hi
   rw[hx] at gx
   have gy:=get_some hj
   have go:=get_some (show i+j<os2.length by omega)
   generalize hy:b.getD j 0=y at *
   generalize ho:os2.getD (i+j) 0=o at *
   have hp:x*y≤4294967295*4294967295:=Nat.mul_le_mul (by omega) (by omega)
   obtain⟨p,hpp⟩:=aT (x*y)
   rw[←hpp] at hp
   have eM:(x:Int)*(y:Int)=(p:Int):=by rw[hpp];simp
   have eI:(i:Int)+(j:Int)=((i+j:Nat):Int):=by omega
   obtain⟨s,hs⟩:=aT (c+o+p)
   have eS:(c:Int)+(o:Int)+(p:Int)=(s:Int):=by omega
   have eR:(s:Int) % 4294967296=((s % 4294967296:Nat):Int):=by omega
   have eQ:(s:Int) / 4294967296=((s / 4294967296:Nat):Int):=by omega
   have spl:=Jl (s % 4294967296) (show i+j<os2.length by omega)
   have gor:(os2.map KN)[i+j]?=some (KN o):=by rw[List.getElem?_map,go];rfl
   simp -dsimp (maxSteps:=1000000) (disch:=first|omega|(simp only[aH,aM];omega)|decide +kernel|(repeat first|rw[aH]|rw[aM])) only[wpS,wpT,zE,j6,ld3,FE,Bu,st3,f0,f1,f5,f6,f7,f8,ha.1.idx j6 hi,ha.1.ld hE.aa (P:=prog) (t:=3) (c:=i) (by simpa using hi) ag3,hb.1.idx j6 hj,hb.1.ld hE.aa (P:=prog) (t:=3) (c:=j) (by simpa using hj) ag3,cp,gx,gy,hr,gor,eM,eI,eS,eR,eQ,hg,spl,List.length_map,hol]
   refine⟨m2 - 1,by omega,j+1,s / 4294967296,os2.set (i+j) (s % 4294967296),by omega,hE.put (Nat.le_refl _) _,hn,ae _ _ rfl,by rw[List.length_set,hol],hod.set _ (by omega),by omega,?_,?_,by simp[f0,f1,f5,f6]⟩
   ·have hv:=iK (s % 4294967296) (show i+j<os2.length by omega)
    rw[ho] at hv
    have hsd:s % 4294967296+s / 4294967296*4294967296=c+o+x*y:=by omega
    rw[aI,hy]
    have e1:4294967296 ^ (i+(j+1))=4294967296 ^ (i+j)*4294967296:=by rw[←Nat.add_assoc,Nat.pow_succ]
    have e2:4294967296 ^ (i+j)=4294967296 ^ i*4294967296 ^ j:=Nat.pow_add _ _ _
    rw[e1]
    have e3:s % 4294967296*4294967296 ^ (i+j)+s / 4294967296*(4294967296 ^ (i+j)*4294967296)=(c+o+x*y)*4294967296 ^ (i+j):=by rw[←hsd];grind
    have e4:x*(aI b j+y*4294967296 ^ j)*4294967296 ^ i=x*aI b j*4294967296 ^ i+x*y*4294967296 ^ (i+j):=by rw[e2];grind
    have e5:(c+o+x*y)*4294967296 ^ (i+j)=c*4294967296 ^ (i+j)+o*4294967296 ^ (i+j)+x*y*4294967296 ^ (i+j):=by grind
    omega
   ·intro k hk
    rw[dD (by omega),if_neg (by omega)]
    exact hoz k hk
  ·obtain rfl:j=b.length:=by omega
   have hz:=hoz (i+b.length) (Nat.le_refl _)
   have eI:(i:Int)+(b.length:Int)=((i+b.length:Nat):Int):=by omega
   have spl:=Jl c (show i+b.length<os2.length by omega)
   simp -dsimp (disch:=omega) only[wpS,wpT,zE,j6,Bu,st3,f1,f5,f6,f7,hb.1.len gh,eI,hg,spl,List.length_map,hol]
   refine⟨m - 1,by omega,i+1,os2.set (i+b.length) c,by omega,hE.put (Nat.le_refl _) _,hn,ae _ _ rfl,by rw[List.length_set,hol],hod.set _ (by omega),?_,?_,by simp[f0,f1,f5]⟩
   ·have hv:=iK c (show i+b.length<os2.length by omega)
    rw[hz,Nat.zero_mul,Nat.add_zero] at hv
    rw[hv,hov,aI,hx,show aI b b.length=ao b from rfl]
    grind
   ·intro k hk
    rw[dD (by omega),if_neg (by omega)]
    exact hoz k (by omega)
 ·obtain rfl:i=a.length:=by omega
  have hD:iv h1 (.slice (some ⟨2*h.n,0,none⟩) (a.length+b.length) (2*(a.length+b.length)+1)) os:=by
   refine⟨?_,hod,by omega⟩
   rw[hol]
   exact cI hg hn (by decide) (by rw[List.length_map,hol];omega) (by omega) (by omega)
  simp -dsimp (disch:=omega) only[wpS,wpT,zE,f5]
  refine call (xo hD) ?_
  rintro r h2 ⟨rfl,hr⟩
  simp -dsimp (disch:=omega) only[wpS,zE]
  rw[hov] at hr
  exact⟨hE,hr⟩
def Qt {d:Nat} (ha:iv h v a) (la:a.length≤1000001) (hd:d≤1) :
  WV prog (.func (.func 255) #[] #[]) [v,KI d] h fun r h'=>Ext h h'∧Dig h' r (2*ao a+d):=by
 refine enter (nt:=33) (rs:=[.tmp 4]) Proofs.Tryz.func255 rfl rfl rfl (by simp) ?_
 simp -dsimp (disch:=omega) only[wpS,zA]
 refine loop (fun m fr h1 => ∃(i c:Nat) (os:List Nat) (out:Value),i+m=a.length∧ab fr 0=some v∧ab fr 1=some (KN c)∧ab fr 5=some out∧ab fr 6=some (KN i)∧c≤1∧os.length=i∧bJ os∧ao os+c*4294967296 ^ i=2*aI a i+d∧Acc h1 h.n 1 out i (os.map KN)∧Ext h h1) a.length
  ⟨0,d,[],.slice none 0 0,by simp,by simp,by simp,by simp,by simp,hd,rfl,fun d hd=>(by cases hd),by simp[aI,ao],Acc.nil _ _ (by omega),Ext.refl _⟩ ?_
 rintro m fr h1 ⟨i,c,os,out,him,f0,f1,f5,f6,hcc,hos,hdd,hv,hA,hE⟩
 simp -dsimp (disch:=omega) only[wpS,zE,f0,f6,ha.1.len gh]
 refine au ?_ ?_<;>intro hc<;>simp only[decide_eq_true_eq,decide_eq_false_iff_not] at hc
 ·have hi:i<a.length:=by omega
  have da:=bS ha.2.1 i
  have gx:=get_some hi
  generalize hx:a.getD i 0=x at *
  obtain⟨s,hs⟩:=aT (2*x+c)
  have eS:2*(x:Int)+(c:Int)=(s:Int):=by omega
  have eR:(s:Int) % 4294967296=((s % 4294967296:Nat):Int):=by omega
  have eQ:(s:Int) / 4294967296=((s / 4294967296:Nat):Int):=by omega
  obtain⟨ef,h',hap,hA',hG,hE'⟩:=hA.FU (P:=prog) (t:=25) FV (x:=KN (s % 4294967296)) rfl (by omega) hE.n hE (Nat.le_refl _)
  simp -dsimp (disch:=omega) only[wpS,wpT,zE,zL,zA,Ca,l6,f0,f1,f5,f6,ha.1.idx j6 hi,ha.1.ld hE.aa (P:=prog) (t:=3) (c:=i) (by simpa using hi) ag3,cp,gx,eS,eR,eQ,hap]
  refine⟨m - 1,by omega,i+1,s / 4294967296,os ++ [s % 4294967296],ef,by omega,by simp[f0],by simp,by simp,by simp,by omega,by simp[hos],hdd.append (by omega),?_,by rw[←vH];exact hA',hE'⟩
  rw[jk,aI,hx,hos,Nat.pow_succ]
  have hsd:s % 4294967296+s / 4294967296*4294967296=2*x+c:=by omega
  have e3:s % 4294967296*4294967296 ^ i+s / 4294967296*(4294967296 ^ i*4294967296)=(2*x+c)*4294967296 ^ i:=by rw[←hsd];grind
  have e4:(2*x+c)*4294967296 ^ i=2*(x*4294967296 ^ i)+c*4294967296 ^ i:=by grind
  omega
 ·obtain rfl:i=a.length:=by omega
  obtain⟨ef,h',hap,hA',hG,hE'⟩:=hA.FU (P:=prog) (t:=25) FV (x:=KN c) rfl (by omega) hE.n hE (Nat.le_refl _)
  simp -dsimp (disch:=omega) only[wpS,wpT,zE,zL,zA,Ca,l6,f1,f5,hap]
  have hD:iv h' ef (os ++ [c]):=by
   refine⟨?_,hdd.append (by omega),by simp;omega⟩
   have:=hA'.sl
   rw[vH] at this
   rw[show(os ++ [c]).length=a.length+1 by simp[hos]]
   exact this
  refine call (xo hD) ?_
  rintro r h2 ⟨rfl,hr⟩
  simp -dsimp (disch:=omega) only[wpS,zE]
  refine⟨hE',?_⟩
  rw[jk,hos,hv] at hr
  exact hr
def SN :Dig h (.slice none 0 0) 0:=⟨[],⟨bH.nil _ (by decide),fun d hd=>(by cases hd),by simp⟩,.inl rfl,rfl⟩
def iv.dig {ds:List Nat} (d:iv h v ds) (n:Norm ds):Dig h v (ao ds):=⟨ds,d,n,rfl⟩
def BM {P:Program} {t:TypeId} {sz bytes:Nat} (hT:jh P t=some (sz,bytes)) {x:Value} {m:Nat} {new:List Value} (sx:bH h sz x m new) (hc:new.all aB=true) (hsz:m*(bytes+1)≤1099511627776) (hk:h.ext.get k=some (.cells [] sz none)) (hkn:k<h.n) :
  ∃v h',append P h t (.slice (some ⟨2*k,0,none⟩) 0 1) x=some (v,h')∧Ext h h'∧bH h' sz v m new:=by
 rcases Nat.eq_zero_or_pos m with rfl|hm
 ·have yM:new = []:=List.length_eq_zero_iff.1 (by rw[sx.2.1,Nat.zero_mul])
  refine⟨.slice (some ⟨2*k,0,none⟩) 0 1,h,?_,Ext.refl _,sx.1,sx.2.1,.inr ⟨2*k,0,1,rfl,.inr ⟨by omega,by omega,[],.inr ⟨by omega,by omega,none,?_⟩,?_,?_,by simp⟩⟩⟩
  case refine_2=>rw[show 2*k / 2=k by omega];exact hk
  case refine_3=>exact bT hk
  case refine_4=>rw[yM];simp
  unfold jh at hT
  split at hT
  case h_2=>cases hT
  rename_i e hu
  split at hT
  case h_2=>cases hT
  rename_i zs h1 h2 h3
  obtain⟨a,k,rfl⟩:=sx.form
  simp only[Id.append,hu,h1,h2,h3,lenOf,beq_self_eq_true,cond_true]
 ·exact⟨_,_,rT hT h sx.now hm hc hsz (2*k) 0,(Ext.refl h).new _,(zo sx.1 sx.2.1 hm).sl⟩
def Hk (ha:iv h v a) (hb:iv h w b) (na:Norm a) (nb:Norm b) (hb0:ao b≠0) (la:a.length≤1000000) (lb:b.length≤1000000) :
  WV prog (.func (.func 219) #[] #[]) [v,w] h fun r h'=>Ext h h' ∧ ∃q t,r=.tuple #[q,t]∧Dig h' q (ao a / ao b)∧Dig h' t (ao a % ao b):=by
 have hbl:0<b.length:=by
  rcases Nat.eq_zero_or_pos b.length with h0|h0
  ·rw[List.length_eq_zero_iff] at h0;subst h0;exact absurd rfl hb0
  ·exact h0
 have e1:(b.length:Int) - 1=((b.length - 1:Nat):Int):=by omega
 refine enter (nt:=74) (rs:=[.tmp 4,.tmp 5]) Proofs.Tryz.func219 rfl rfl rfl (by simp) ?_
 simp -dsimp (disch:=omega) only[wpS,zE,zA,ha.1.len gh,hb.1.len gh,e1]
 refine au ?_ ?_<;>intro hc<;>simp only[decide_eq_true_eq,decide_eq_false_iff_not] at hc
 ·have hlt:=jX ha.2.1 nb (show a.length<b.length by omega)
  have eN:Ext h (h.new (.cells [] 1 none)):=(Ext.refl h).new _
  obtain⟨r,h2,hap,hE2,hs2⟩:=BM (P:=prog) (t:=25) FV (ha.1.ext eN) (R5 _) (by omega) (ah h _ rfl) (by simp)
  simp -dsimp (disch:=omega) only[wpS,wpT,zE,reduceMul,Ca,l6,hap]
  exact⟨eN.trans hE2,_,_,rfl,by rw[Nat.div_eq_of_lt hlt];exact SN,by rw[Nat.mod_eq_of_lt hlt];exact(show iv h2 r a from⟨hs2,ha.2⟩).dig na⟩
 ·have e2:(a.length:Int) - ((b.length - 1:Nat):Int)=((a.length - (b.length - 1):Nat):Int):=by omega
  have hq0:0<a.length - (b.length - 1):=by omega
  generalize hql:a.length - (b.length - 1)=ql at *
  have eN1:Ext h ((h.new (.cells (bB ql [KI 0]) 1 none)).new (.cells [] 1 none)):=((Ext.refl h).new _).new _
  obtain⟨r1,hr1,hs1⟩:=ha.1.slice eN1.aa (P:=prog) (t:=25) u25 sz3 (l:=ql) (m:=a.length) (by omega) (Nat.le_refl _) (lo:=some (KN ql)) (hi:=none) (mi (k:=.i64) (by omega)) (fun c hc=>rfl)
  have hsl:a.length - ql=b.length - 1:=by omega
  have hsc:((a.map KN).drop (ql*1)).take ((a.length - ql)*1)=(a.drop ql).map KN:=by
   rw[Nat.mul_one,Nat.mul_one,List.take_of_length_le (by simp),List.map_drop]
  rw[hsc] at hs1
  obtain⟨r2,h3,hap,hE3,hs3⟩:=BM (P:=prog) (t:=25) FV (hs1.ext eN1) (R5 _) (by omega) (k:=h.n+1) (ah _ _ (by simp)) (by simp)
  have e3:(a.length:Int) - (ql:Int)=((b.length - 1:Nat):Int):=by omega
  have e4:(ql:Int) - 1=((ql - 1:Nat):Int):=by omega
  simp -dsimp (disch:=omega) only[wpS,wpT,zE,reduceMul,Ca,J4,ln25,l6,ha.1.len gh,e2,e4,hr1,hap]
  have hbB:=jz hb.2.1
  have hE30:Ext h h3:=eN1.trans hE3
  have n3:h.n+2≤h3.n:=hE3.n
  have hg3:h3.ext.get h.n=some (.cells ((List.replicate ql 0).map KN) 1 none):=by
   rw[hE3.get _ (by simp only[aH];omega),aq _ _ (by simp),ah _ _ rfl,L6]
  have ZbT:a.length - ql=(a.drop ql).length:=by simp
  have hlen2:(a.drop ql).length=b.length - 1:=by simp;omega
  have hD3:iv h3 r2 (a.drop ql):=⟨by rw[←ZbT];exact hs3,ha.2.1.drop ql,by omega⟩
  have hV3:ao (a.drop ql)=ao a / 2 ^ (32*ql):=by rw[NX ha.2.1,Mf]
  have YN:ao (a.drop ql)<ao b:=jX (ha.2.1.drop ql) nb (by omega)
  have st:F8 (ao a) (ao b) (32*ql) (ao (List.replicate ql 0)) (ao (a.drop ql)):=by
   rw[jR,hV3];rw[hV3] at YN;exact KF YN
  refine loop (fun m fr h1 => ∃(qs:List Nat) (rv:Value) (r:Nat),m≤ql∧Ext h h1∧h.n<h1.n∧h1.ext.get h.n=some (.cells (qs.map KN) 1 none)∧qs.length=ql∧bJ qs∧Dig h1 rv r∧F8 (ao a) (ao b) (32*m) (ao qs) r ∧
    ab fr 0=some v∧ab fr 1=some w∧ab fr 7=some (.slice (some ⟨2*h.n,0,none⟩) ql (2*ql+1))∧ab fr 8=some rv∧ab fr 9=some (KI ((m:Int) - 1))) ql
   ⟨List.replicate ql 0,r2,ao (a.drop ql),Nat.le_refl _,hE30,by omega,hg3,by simp,bJ.bB _,hD3.dig (na.drop ql),st,by simp,by simp,by simp,by simp,by rw[oV,if_pos rfl,e4]⟩ ?_
  clear st hD3 hg3 hE30 hs3 hE3 hap hs1 hr1 eN1 hV3 YN n3
  rintro m fr h1 ⟨qs,rv,r,hm,hE,hn,hg,Ff,hqd,hR,hJ,f0,f1,f7,f8,f9⟩
  simp -dsimp (disch:=omega) only[wpS,zE,f9]
  refine au ?_ ?_<;>intro hc2<;>simp only[decide_eq_true_eq,decide_eq_false_iff_not] at hc2
  ·obtain⟨i,rfl⟩ : ∃i,m=i+1:=⟨m - 1,by omega⟩
   have e6:(((i+1:Nat):Int) - 1)=(i:Int):=by omega
   rw[e6] at f9
   have hi:i<a.length:=by omega
   simp -dsimp (disch:=omega) only[wpS,wpT]
   refine loop (fun k fr h2 => ∃(qs:List Nat) (rv:Value) (r:Nat),k≤32∧Ext h h2∧h.n<h2.n∧h2.ext.get h.n=some (.cells (qs.map KN) 1 none)∧qs.length=ql∧bJ qs∧Dig h2 rv r∧F8 (ao a) (ao b) (32*i+k) (ao qs) r ∧
    ab fr 0=some v∧ab fr 1=some w∧ab fr 7=some (.slice (some ⟨2*h.n,0,none⟩) ql (2*ql+1))∧ab fr 8=some rv∧ab fr 9=some (KN i)∧ab fr 10=some (KI ((k:Int) - 1))) 32
    ⟨qs,rv,r,Nat.le_refl _,hE,hn,hg,Ff,hqd,hR,hJ,by simp[f0,f1,f7,f8,f9]⟩ ?_
   clear hE hn hg Ff hqd hR hJ f0 f1 f7 f8 f9
   rintro k fr h2 ⟨qs,rv,r,hk,hE,hn,hg,Ff,hqd,hR,hJ,f0,f1,f7,f8,f9,f10⟩
   simp -dsimp (disch:=omega) only[wpS,zE,f10]
   refine au ?_ ?_<;>intro hc3<;>simp only[decide_eq_true_eq,decide_eq_false_iff_not] at hc3
   ·obtain⟨k,rfl⟩ : ∃j,k=j+1:=⟨k - 1,by omega⟩
    have e7:(((k+1:Nat):Int) - 1)=(k:Int):=by omega
    rw[e7] at f10
    have da:=bS ha.2.1 i
    have gx:=get_some hi
    have YW:=Zy ha.2.1 (i:=i) (show k<32 by omega)
    have Vu:=Ty hqd (i:=i) (show k<32 by omega) hJ.2.1
    generalize hx:a.getD i 0=x at *
    have eB:((m8 x k:Nat):Int) % 2=((x / 2 ^ k % 2:Nat):Int):=by rw[m8,Nat.shiftRight_eq_div_pow];omega
    have hd1:x / 2 ^ k % 2≤1:=by omega
    have hns:=UZ x k
    generalize hdd:x / 2 ^ k % 2=d at *
    simp -dsimp (disch:=omega) only[wpS,wpT,zE,f0,f8,f9,f10,ha.1.idx j6 hi,ha.1.ld hE.aa (P:=prog) (t:=3) (c:=i) (by simpa using hi) ag3,cp,gx,eB]
    obtain⟨rs,hrD,hrN,hrv⟩:=hR
    have hrl:rs.length≤b.length:=hrN.jd hb.2.1 (by rw[hrv];exact Nat.le_of_lt hJ.2.2)
    refine call (Qt hrD (by omega) hd1) ?_
    rintro r3 h3 ⟨hE3,rs2,YG,hrN2,R9⟩
    rw[hrv] at R9
    simp -dsimp (disch:=omega) only[wpS,zE,f1,f8]
    refine call (Au YG (hb.aa (hE.trans hE3).aa) hrN2 nb) ?_
    rintro _ h4 ⟨rfl,c,rfl,hc1,hc2,hc3,hc4⟩
    rw[R9] at hc1 hc2
    have hE4:=hE.trans hE3
    have hg4:=(hE3.get _ hn).trans hg
    have hn4:h.n<h4.n:=Nat.lt_of_lt_of_le hn hE3.n
    have e8:32*i+(k+1)=32*i+k+1:=rfl
    rw[e8] at hJ
    have ehc:ao a / 2 ^ (32*i+k) % 2=d:=YW.symm
    simp -dsimp (disch:=omega) only[wpS,zE]
    refine au (fun hb5=>?_) (fun hb5=>?_)
    ·simp only[decide_eq_true_eq] at hb5
     have hge:ao b≤2*r+d:=by omega
     have hi2:i<qs.length:=by omega
     have gq:=get_some hi2
     generalize hqx:qs.getD i 0=y at *
     have gqr:(qs.map KN)[i]?=some (KN y):=by rw[List.getElem?_map,gq];rfl
     simp -dsimp (disch:=try exact dx) only[wpS,wpT,zE,f1,f8]
     refine call (MF YG (hb.aa hE4.aa) nb (by rw[R9];exact hge)) ?_
     rintro r5 h5 ⟨⟨hE5,hr5⟩,hbk⟩
     rw[R9] at hr5
     have hg5:=(hE5.get _ hn4).trans hg4
     have hr:=bT hg5
     have hn5:h.n<h5.n:=Nat.lt_of_lt_of_le hn4 hE5.n
     have q0:0≤((2 ^ k:Nat):Int):=Int.natCast_nonneg _
     have eA:(y:Int)+((2 ^ k:Nat):Int)=((y+2 ^ k:Nat):Int):=by omega
     have spl:=Jl (y+2 ^ k) hi2
     simp -dsimp (disch:=try exact dx) only[wpS,wpT,zE,j6,ld3,st3,f7,f9,f10,hr,gqr,eA,hg5,spl,List.length_map,Ff]
     have hJ2:=SI hJ (by rw[ehc];exact hge)
     rw[ehc] at hJ2
     have hv:=iK (y+2 ^ k) hi2
     rw[hqx] at hv
     have e9:ao (qs.set i (y+2 ^ k))=ao qs+2 ^ (32*i+k):=by
      have:(y+2 ^ k)*4294967296 ^ i=y*4294967296 ^ i+2 ^ (32*i+k):=by rw[Nat.add_mul,Mf,←Nat.pow_add,Nat.add_comm k]
      omega
     obtain⟨ds5,hd5,hn5',hv5⟩:=hr5
     have hR5:Dig (h5.put h.n (.cells ((qs.set i (y+2 ^ k)).map KN) 1 none)) r5 (2*r+d - ao b):=⟨ds5,⟨hd5.1.putAt (hbk _ hn4) _,hd5.2⟩,hn5',hv5⟩
     exact⟨k,by omega,qs.set i (y+2 ^ k),r5,2*r+d - ao b,by omega,(hE4.trans hE5).put (Nat.le_refl _) _,hn5,ae _ _ rfl,by rw[List.length_set,Ff],hqd.set _ Vu,hR5,by rw[e9];exact hJ2,by simp[f0],by simp[f1],by simp[f7],by simp,by simp[f9],by simp⟩
    ·simp only[decide_eq_false_iff_not] at hb5
     have hlt:2*r+d<ao b:=by omega
     have hJ2:=Pv hJ (by rw[ehc];exact hlt)
     rw[ehc] at hJ2
     simp -dsimp (disch:=omega) only[wpS,wpT,zE,f10]
     exact⟨k,by omega,qs,r3,2*r+d,by omega,hE4,hn4,hg4,Ff,hqd,⟨rs2,YG,hrN2,R9⟩,hJ2,by simp[f0,f1,f7,f9]⟩
   ·obtain rfl:k=0:=by omega
    simp -dsimp (disch:=omega) only[wpS,wpT,zE,f9]
    exact⟨i,by omega,qs,rv,r,by omega,hE,hn,hg,Ff,hqd,hR,hJ,by simp[f0,f1,f7,f8]⟩
  ·obtain rfl:m=0:=by omega
   obtain⟨e10,e11⟩:=SJ hJ
   have hD:iv h1 (.slice (some ⟨2*h.n,0,none⟩) ql (2*ql+1)) qs:=by
    refine⟨?_,hqd,by omega⟩
    rw[Ff]
    exact cI hg hn (by decide) (by rw[List.length_map,Ff];omega) (by omega) (by omega)
   simp -dsimp (disch:=omega) only[wpS,wpT,zE,f7]
   refine call (xo hD) ?_
   rintro r4 h2 ⟨rfl,hr4⟩
   simp -dsimp (disch:=omega) only[wpS,zE,f8]
   exact⟨hE,_,_,rfl,by rw[←e10];exact hr4,by rw[←e11];exact hR⟩
end Go.Id
