/-
  Contracts: package chance and reference 4: the next number. Contracts: package chance: below, Below.
-/
import Derived.Test.YtnanhedgenokpaaGreatTemperMovesAt
import Derived.Test.YtnanhedgenokpaaGreatTemperMovesBi
import Derived.Test.YtnanhedgenokpaaGreatTemperMovesAu
import Derived.Test.YtnanhedgenokpaaGreatTemperMovesBe
import Derived.Test.YtnanhedgenokpaaGreatTemperMovesBf
import Derived.Test.YtnanhedgenokpaaGreatTemperMovesAv
import Derived.Test.YtnanhedgenokpaaGreatTemperMovesAw
import Derived.Test.YtnanhedgenokpaaGreatTemperMovesBh
import Derived.Test.YtnanhedgenokpaaGreatTemperMovesBg
import Derived.Test.YtnanhedgenokpaaGreatTemperMovesBc
set_option linter.unusedVariables false
set_option linter.unusedSimpArgs false
set_option linter.defProp false
set_option linter.deprecated false
namespace Go.Id
open Go
open Go.Proofs.Tryz (prog)
open Nat renaming reduceAdd→zA,reduceEqDiff→zE,reduceLeDiff→zL
set_option maxHeartbeats 16000000
theorem gV (P:Program) (t:TypeId) (ox oy:Operand) (a b:Nat) (ha:a<18446744073709551616) (hb:b<18446744073709551616):binop P .xor t ox oy (.int .u64 a) (.int .u64 b)=some (.int .u64 ((a ^^^ b:Nat):Int)):=by
 have e:(BitVec.ofInt 64 (a:Int) ^^^ BitVec.ofInt 64 (b:Int)).toNat=a ^^^ b:=by simp[Nat.mod_eq_of_lt ha,Nat.mod_eq_of_lt hb]
 rw[qu,show(BitVec.ofInt IntKind.u64.bits (a:Int) ^^^ BitVec.ofInt IntKind.u64.bits (b:Int)).toNat=a ^^^ b from e,dh (Nat.xor_lt_two_pow (n:=64) ha hb)]
theorem AY (P:Program) (t:TypeId) (ox oy:Operand) {z:Nat} (hz:z<18446744073709551616) (n:Nat) (hn:n≤64):binop P .shr t ox oy (.int .u64 (z:Int)) (.int .u64 (n:Int))=some (.int .u64 ((z / 2 ^ n:Nat):Int)):=by
 rw[J3 P t ox oy (by omega) (by omega),Int.toNat_natCast,Int.toNat_natCast,lF,Nat.shiftRight_eq_div_pow]
theorem AI {P:Program} {t:TypeId} {z:Nat} (hz:z<18446744073709551616) (c:Nat) (ox oy:Operand):binop P .xor t ox oy (.int .u64 (z:Int)) (.int .u64 ((z / c:Nat):Int))=some (.int .u64 ((z ^^^ z / c:Nat):Int)) :=
 gV P t ox oy z (z / c) hz (Nat.lt_of_le_of_lt (Nat.div_le_self _ _) hz)
theorem HH (z:Nat):IntKind.u64.wrap (((z ^^^ z / 1073741824:Nat):Int)*13787848793156543929)=((yM z:Nat):Int):=by
 unfold yM
 show(((z ^^^ z / 1073741824:Nat):Int)*13787848793156543929) % 18446744073709551616=_
 omega
theorem HG (z:Nat):IntKind.u64.wrap (((z ^^^ z / 134217728:Nat):Int)*10723151780598845931)=((Fa z:Nat):Int):=by
 unfold Fa
 show(((z ^^^ z / 134217728:Nat):Int)*10723151780598845931) % 18446744073709551616=_
 omega
theorem MO (s:Nat):IntKind.u64.wrap ((s:Int)+11400714819323198485)=((nxS s:Nat):Int):=by
 unfold nxS
 show((s:Int)+11400714819323198485) % 18446744073709551616=_
 omega
theorem GM {h:IH} {k s:Nat} (g:h.ext.get k=some (.cells [K64 s] 0 none)) :
  WV prog (.func (.func 227) #[ptr (2*k) 0] #[]) [] h fun r h'=>h'=h.put k (.cells [K64 (nxS s)] 0 none)∧r=K64 (nxO s):=by
 refine enter (nt:=32) (rs:=[.tmp 2]) Proofs.Tryz.func227 rfl rfl rfl (by simp) ?_
 have g1:(h.put k (.cells [K64 (nxS s)] 0 none)).ext.get k=some (.cells [K64 (nxS s)] 0 none):=by simp (disch:=try exact dx) only[ad]
 have b1:=EV s
 have s1 : ∀ox oy,binop prog .shr 28 ox oy (K64 (nxS s)) (.int .u64 30)=some (K64 (nxS s / 1073741824)):=fun ox oy=>AY _ _ ox oy b1 30 (by decide)
 have x1:=AI (P:=prog) (t:=28) b1 1073741824
 simp -dsimp (disch:=try exact dx) only[wpS,wpT,zE,zL,BE,QD,jY,mb,ai g,ai g1,MO,g,s1,x1,HH]
 rw[show nxO s=P8 (Fa (yM (nxS s))) from rfl]
 generalize nxS s=z
 have b2:=NI z
 have s2 : ∀ox oy,binop prog .shr 28 ox oy (K64 (yM z)) (.int .u64 27)=some (K64 (yM z / 134217728)):=fun ox oy=>AY _ _ ox oy b2 27 (by decide)
 have x2:=AI (P:=prog) (t:=28) b2 134217728
 simp -dsimp (disch:=try exact dx) only[wpS,zE,s2,x2,HG]
 have b3:=GO (yM z)
 have s3 : ∀ox oy,binop prog .shr 28 ox oy (K64 (Fa (yM z))) (.int .u64 31)=some (K64 (Fa (yM z) / 2147483648)):=fun ox oy=>AY _ _ ox oy b3 31 (by decide)
 have x3:=AI (P:=prog) (t:=28) b3 2147483648
 simp -dsimp (disch:=try exact dx) only[wpS,wpT,zE,s3,x3]
 rfl
def chV (s:Nat):Value:=.agg #[K64 s]
theorem tk1 (a:Value):List.take 1 (List.drop 0 [a]) = [a]:=rfl
theorem Aj {h:IH} {s:Nat}:WV prog (.func (.func 145) #[] #[]) [chV s] h fun r h'=>h'=(h.new (.cells [K64 s] 0 none)).new (.cells [K64 s] 0 none)∧r=ptr (2*(h.n+1)) 0:=by
 have g1:(h.new (.cells [K64 s] 0 none)).ext.get h.n=some (.cells [K64 s] 0 none):=by simp (disch:=try exact dx) only[aa]
 refine enter (nt:=7) (rs:=[.tmp 2]) Proofs.Tryz.func145 rfl rfl rfl (by simp) ?_
 simp -dsimp (disch:=try exact dx) only[wpS,wpT,zE,zL,eH,SY,Nq,SX,Np,chV,ai g1,tk1]
theorem Jf {h:IH} {F:Value} (cF:F.cells = #[F]) (cO:aG F=true):WV prog (.func (.func 228) #[] #[]) [F] h fun r h'=>h'=h.new (.cells [F] 0 none)∧r=.func (.func 262) #[] #[ptr (2*h.n) 0]:=by
 refine enter (nt:=4) (rs:=[.tmp 2]) Proofs.Tryz.func228 rfl rfl rfl (by simp) ?_
 simp -dsimp (disch:=try exact dx) only[wpS,wpT,zE,cF]
set_option maxRecDepth 100000 in
theorem FO {h:IH} {b:Nat} {F y:Value} (J:Nat→IH→Prop) (Fin:IH→Prop) (j0:J 0 h) (jb : ∀i hh,J i hh→hh.ext.get b=some (.cells [F] 0 none))
  (st : ∀i hh,i<TR→J i hh→WV prog F [] hh fun x h1=>WV prog y [x] h1 fun r h2=>(r=.bool true∧J (i+1) h2)∨(r=.bool false∧Fin h2)) :
  WV prog (.func (.func 262) #[] #[ptr (2*b) 0]) [y] h fun _ h'=>J TR h'∨Fin h':=by
 refine enter (nt:=11) (rs:=[]) Proofs.Tryz.func262 rfl rfl rfl (by simp) ?_
 simp -dsimp (disch:=try exact dx) only[wpS,zA]
 have hT:=HB
 refine loop (fun m fr hh => ∃i:Nat,i+m=TR∧J i hh∧ah fr 0=some y∧ah fr 1=some (ptr (2*b) 0)∧ah fr 3=some (KN i)) TR
  ⟨0,by omega,j0,by simp,by simp,by simp⟩ ?_
 rintro m fr hh ⟨i,him,hj,f0,f1,f3⟩
 simp -dsimp (disch:=try exact dx) only[wpS,f3]
 refine ax ?_ ?_<;>intro hc<;>simp only[decide_eq_true_eq,decide_eq_false_iff_not] at hc
 ·have g:=jb i hh hj
  simp -dsimp (disch:=try exact dx) only[wpS,wpT,zE,RS,f0,f1,ai g]
  refine call (st i hh (by omega) hj) ?_
  intro x h1 w1
  simp -dsimp (disch:=try exact dx) only[wpS,zE]
  refine call w1 ?_
  rintro _ h2 (⟨rfl,w2⟩|⟨rfl,w2⟩)
  ·simp -dsimp (disch:=try exact dx) only[wpS,wpT,zE,f3]
   exact⟨m - 1,by omega,i+1,by omega,w2,by simp[f0],by simp[f1],by simp⟩
  ·simp -dsimp (disch:=try exact dx) only[wpS,wpT,zE]
   exact .inr w2
 ·obtain rfl:i=TR:=by omega
  simp -dsimp (disch:=try exact dx) only[wpS,wpT]
  exact .inl hj
end Go.Id

namespace Go.Id
open Go
open Nat renaming reduceAdd→zA,reduceEqDiff→zE,reduceLeDiff→zL
set_option maxHeartbeats 16000000
theorem Jy {n:Nat} (h0:0<n) (hn:n<18446744073709551616):IntKind.u64.wrap (-(n:Int))=((18446744073709551616 - n:Nat):Int):=by
 show(-(n:Int)) % 18446744073709551616=_
 omega
theorem Ni (P:Program) (t:TypeId) (ox oy:Operand) (a n:Nat) (hn:0<n):binop P .rem t ox oy (.int .u64 (a:Int)) (.int .u64 (n:Int))=some (.int .u64 ((a % n:Nat):Int)):=by
 rw[tY P t ox oy (by omega),Int.tmod_eq_emod_of_nonneg (by omega),Int.natCast_emod]
theorem Ic {h0 h:IH} {k s n:Nat} (E:Ext h0 h) (hk:h0.n≤k) (hk2:k<h.n) (g:h.ext.get k=some (.cells [K64 s] 0 none)) (n0:0<n) (hn:n<18446744073709551616) :
  WV Proofs.Tryz.prog (.func (.func 146) #[] #[]) [ptr (2*k) 0,K64 n] h fun r h'=>Ext h0 h'∧h.n≤h'.n∧((∃x t,jd n TR s=some (x,t)∧r=.tuple #[K64 x,KI 0]∧h'.ext.get k=some (.cells [K64 t] 0 none))∨(jd n TR s=none∧r=.tuple #[K64 0,KI 9])):=by
 obtain⟨l1,l2,l3⟩:=KM n0 hn
 obtain⟨R,hR⟩ : ∃R,R=18446744073709551616 - uZ n:=⟨_,rfl⟩
 have rb:R<18446744073709551616:=by omega
 have wn:=Jy n0 hn
 have hr : ∀ox oy,binop Proofs.Tryz.prog .rem 28 ox oy (K64 (18446744073709551616 - n)) (K64 n)=some (K64 R):=fun ox oy=>by
  rw[hR,←l1];exact Ni _ _ ox oy _ n n0
 obtain⟨A,wA⟩ : ∃A:Nat,IntKind.u64.wrap (-(R:Int))=(A:Int)∧IntKind.u64.wrap ((A:Int) - 1)=((uZ n - 1:Nat):Int):=by
  by_cases c:R=0
  ·refine⟨0,by rw[c];rfl,?_⟩
   show(((0:Nat):Int) - 1) % 18446744073709551616=_
   omega
  ·refine⟨uZ n,?_,?_⟩
   ·show(-(R:Int)) % 18446744073709551616=_
    omega
   ·show(((uZ n:Nat):Int) - 1) % 18446744073709551616=_
    omega
 obtain⟨wA,wB⟩:=wA
 have gx1:(((h.new (.cells [K64 n] 0 none)).new (.cells [.int .u64 0] 0 none)).new (.cells [KI 0] 0 none)).ext.get h.n=some (.cells [K64 n] 0 none):=by simp (disch:=try exact dx) only[aa,ao]
 obtain⟨H1,hH1⟩ : ∃H,H=((((h.new (.cells [K64 n] 0 none)).new (.cells [.int .u64 0] 0 none)).new (.cells [KI 0] 0 none)).new (.cells [.int .u64 0] 0 none)).put (h.n+1+1+1) (.cells [K64 R] 0 none):=⟨_,rfl⟩
 have n1:H1.n=h.n+4:=by rw[hH1];rfl
 have E1:Ext h H1:=by rw[hH1];exact((((Ext.refl h).new _).new _).new _).new _ |>.put (by omega) _
 have c1:H1.ext.get h.n=some (.cells [K64 n] 0 none):=by rw[hH1];simp (disch:=try exact dx) only[aa,ao,ae]
 have c2:H1.ext.get (h.n+1)=some (.cells [.int .u64 0] 0 none):=by rw[hH1];simp (disch:=try exact dx) only[aa,ao,ae]
 have c3:H1.ext.get (h.n+2)=some (.cells [KI 0] 0 none):=by rw[hH1];simp (disch:=try exact dx) only[aa,ao,ae]
 have c4:H1.ext.get (h.n+3)=some (.cells [K64 R] 0 none):=by rw[hH1];simp (disch:=try exact dx) only[ad]
 refine enter (nt:=32) (rs:=[.cell 4 28,.cell 5 47]) Proofs.Tryz.func146 rfl rfl rfl (by simp) ?_
 simp -dsimp (disch:=try exact dx) only[wpS,wpT,zE,zL,zA,TN,tq,vD,jY,mb,ai gx1,wn,hr]
 rw[←hH1]
 clear hH1
 obtain⟨F,hF⟩ : ∃F,F=(.func (.func 227) #[ptr (2*k) 0] #[]:Value):=⟨_,rfl⟩
 rw[←hF]
 refine call (Jf (F:=F) (by rw[hF];rfl) (by rw[hF];rfl)) ?_
 rintro _ _ ⟨rfl,rfl⟩
 obtain⟨H2,hH2⟩ : ∃H,H=H1.new (.cells [F] 0 none):=⟨_,rfl⟩
 have n2:H2.n=h.n+5:=by rw[hH2,al];omega
 have E2:Ext H1 H2:=by rw[hH2];exact(Ext.refl _).new _
 have cF:H2.ext.get H1.n=some (.cells [F] 0 none):=by rw[hH2];simp (disch:=try exact dx) only[aa]
 rw[←hH2]
 clear hH2
 simp -dsimp (disch:=try exact dx) only[wpS]
 refine Kg (p:=19) (nt:=32) rfl rfl (by decide) (fun r y hfn hnt hbd hy=>?_)
 have hT:=HB
 have EE:=E.trans (E1.trans E2)
 have en:=EE.n
 let J:Nat→IH→Prop:=fun i hh => ∃si,Ext h0 hh∧H2.n<hh.n∧hh.ext.get H2.n=some (.loop r)∧hh.ext.get H1.n=some (.cells [F] 0 none)∧hh.ext.get k=some (.cells [K64 si] 0 none)∧hh.ext.get h.n=some (.cells [K64 n] 0 none)∧hh.ext.get (h.n+1)=some (.cells [.int .u64 0] 0 none)∧hh.ext.get (h.n+2)=some (.cells [KI 0] 0 none)∧hh.ext.get (h.n+3)=some (.cells [K64 R] 0 none)∧jd n TR s=jd n (TR - i) si
 let Fin:IH→Prop:=fun hh => ∃x t,jd n TR s=some (x,t)∧Ext h0 hh∧H2.n<hh.n∧hh.ext.get H2.n=some (.loop (oW r .ret))∧hh.ext.get k=some (.cells [K64 t] 0 none)∧hh.ext.get (h.n+1)=some (.cells [K64 x] 0 none)∧hh.ext.get (h.n+2)=some (.cells [KI 0] 0 none)
 have gk:=(E1.trans E2).kept hk2 g
 have J0:J 0 (H2.new (.loop r)):=by
  refine⟨s,EE.new _,by simp,aa _ _ rfl,?_,?_,?_,?_,?_,?_,rfl⟩
  ·rw[ao _ _ (by omega)];exact cF
  ·rw[ao _ _ (by omega)];exact gk
  ·rw[ao _ _ (by omega)];exact E2.kept (by omega) c1
  ·rw[ao _ _ (by omega)];exact E2.kept (by omega) c2
  ·rw[ao _ _ (by omega)];exact E2.kept (by omega) c3
  ·rw[ao _ _ (by omega)];exact E2.kept (by omega) c4
 refine WV.mono (FO (b:=H1.n) (F:=F) (y:=y) J Fin J0 (fun i hh hj=>by obtain⟨_,_,_,_,a,_⟩:=hj;exact a) ?_) ?_
 ·rintro i hh hi ⟨si,a1,a2,a3,a4,a5,a6,a7,a8,a9,a10⟩
  rw[hF]
  refine WV.mono (GM a5) ?_
  rintro _ _ ⟨rfl,rfl⟩
  obtain⟨H3,hH3⟩ : ∃H,H=hh.put k (.cells [K64 (nxS si)] 0 none):=⟨_,rfl⟩
  have an:=a1.n
  have e3:Ext h0 H3:=by rw[hH3];exact a1.put hk _
  have n3:H3.n=hh.n:=by rw[hH3];rfl
  have z0 : ∀j,j≠k→H3.ext.get j=hh.ext.get j:=fun j hj=>by rw[hH3];exact ae _ _ hj
  have b5:H3.ext.get k=some (.cells [K64 (nxS si)] 0 none):=by rw[hH3];simp (disch:=try exact dx) only[ad]
  rw[←hH3]
  clear hH3
  have b3:=(z0 H2.n (by omega)).trans a3
  have b4:=(z0 H1.n (by omega)).trans a4
  have b6:=(z0 h.n (by omega)).trans a6
  have b7:=(z0 (h.n+1) (by omega)).trans a7
  have b8:=(z0 (h.n+2) (by omega)).trans a8
  have b9:=(z0 (h.n+3) (by omega)).trans a9
  obtain⟨x,hx⟩ : ∃x,x=nxO si:=⟨_,rfl⟩
  have xb:=EW si
  rw[←hx] at xb ⊢
  refine hy _ _ _ b3 ?_
  simp -dsimp (disch:=try exact dx) only[wpS,zE]
  refine⟨rfl,b3,?_⟩
  rw[hfn,hnt,hbd]
  obtain⟨H6,hH6⟩ : ∃H,H=H3.put H2.n (.loop (kh r)):=⟨_,rfl⟩
  have e6:Ext h0 H6:=by rw[hH6];exact e3.put (by omega) _
  have w0 : ∀j,j≠H2.n→H6.ext.get j=H3.ext.get j:=fun j hj=>by rw[hH6];exact ae _ _ hj
  have zl:H6.ext.get H2.n=some (.loop (kh r)):=by rw[hH6];exact ad _ _ rfl
  have zn:H6.n=H3.n:=by rw[hH6];rfl
  rw[←hH6]
  clear hH6
  have d4:=(w0 H1.n (by omega)).trans b4
  have d5:=(w0 k (by omega)).trans b5
  have d6:=(w0 h.n (by omega)).trans b6
  have d7:=(w0 (h.n+1) (by omega)).trans b7
  have d8:=(w0 (h.n+2) (by omega)).trans b8
  have d9:=(w0 (h.n+3) (by omega)).trans b9
  obtain⟨q,hq⟩ : ∃q,TR - i=q+1:=⟨TR - i - 1,by omega⟩
  have a11:=a10
  rw[hq,jd,←hx] at a11
  by_cases hc:x<uZ n
  ·rw[if_pos hc] at a11
   have dc:decide ((x:Int)≤((uZ n - 1:Nat):Int))=true:=decide_eq_true (by omega)
   simp -dsimp (disch:=try exact dx) only[wpS,wpT,zE,zL,jY,mb,jq,ai d9,ai d6,wA,wB,dc,d7,d8]
   rw[←Int.natCast_emod]
   refine⟨by rw[ae _ _ (by omega),ae _ _ (by omega)];exact zl,.inr ⟨rfl,x % n,nxS si,a11,((e6.put (by omega) _).put (by omega) _).put (by omega) _,by show H2.n<H6.n;omega,ad _ _ rfl,?_,?_,?_⟩⟩
   ·rw[ae _ _ (by omega),ae _ _ (by omega),ae _ _ (by omega)];exact d5
   ·rw[ae _ _ (by omega),ae _ _ (by omega)];exact ad _ _ rfl
   ·rw[ae _ _ (by omega)];exact ad _ _ rfl
  ·rw[if_neg hc] at a11
   have dc:decide ((x:Int)≤((uZ n - 1:Nat):Int))=false:=decide_eq_false (by omega)
   have d0:((R:Int) == 0)=false:=by simp;omega
   simp -dsimp (disch:=try exact dx) only[wpS,wpT,zE,jY,ai d9,wA,wB,dc,d0]
   refine⟨zl,.inl ⟨rfl,nxS si,e6.put (by omega) _,by show H2.n<H6.n;omega,ad _ _ rfl,?_,?_,?_,?_,?_,?_,by rw[show TR - (i+1)=q by omega];exact a11⟩⟩
   ·rw[ae _ _ (by omega)];exact d4
   ·rw[ae _ _ (by omega)];exact d5
   ·rw[ae _ _ (by omega)];exact d6
   ·rw[ae _ _ (by omega)];exact d7
   ·rw[ae _ _ (by omega)];exact d8
   ·rw[ae _ _ (by omega)];exact d9
 ·rintro _ hd (⟨si,x1,x2,x3,x4,x5,x6,x7,x8,x9,x10⟩|⟨x,t,x0,x1,x2,x3,x4,x5,x6⟩)
  ·rw[Nat.sub_self,jd] at x10
   refine .inl ⟨x3,?_⟩
   have xn:=x1.n
   obtain⟨K0,hK0⟩ : ∃K0,K0=hd.put H2.n .dead:=⟨_,rfl⟩
   have ed:Ext h0 K0:=by rw[hK0];exact x1.put (by omega) _
   have kn:K0.n=hd.n:=by rw[hK0];rfl
   have z0 : ∀j,j≠H2.n→K0.ext.get j=hd.ext.get j:=fun j hj=>by rw[hK0];exact ae _ _ hj
   have z7:=(z0 (h.n+1) (by omega)).trans x7
   have z8:=(z0 (h.n+2) (by omega)).trans x8
   rw[←hK0]
   clear hK0
   simp -dsimp (disch:=try exact dx) only[wpS,wpT,zE,zL,jY,mb,jq,kO,z7,z8]
   exact⟨(ed.put (by omega) _).put (by omega) _,by omega,.inr ⟨x10,rfl⟩⟩
  ·refine .inr (.inr ⟨x3,?_⟩)
   have xn:=x1.n
   obtain⟨K0,hK0⟩ : ∃K0,K0=hd.put H2.n .dead:=⟨_,rfl⟩
   have ed:Ext h0 K0:=by rw[hK0];exact x1.put (by omega) _
   have kn:K0.n=hd.n:=by rw[hK0];rfl
   have z0 : ∀j,j≠H2.n→K0.ext.get j=hd.ext.get j:=fun j hj=>by rw[hK0];exact ae _ _ hj
   have z4:=(z0 k (by omega)).trans x4
   have z7:=(z0 (h.n+1) (by omega)).trans x5
   have z8:=(z0 (h.n+2) (by omega)).trans x6
   rw[←hK0]
   clear hK0
   simp -dsimp (disch:=try exact dx) only[wpS,zE,jY,kO,ai z7,ai z8]
   exact⟨ed,by omega,.inl ⟨x,t,x0,rfl,z4⟩⟩
end Go.Id

namespace Go.Id
open Go
open Nat renaming reduceAdd→zA,reduceEqDiff→zE,reduceLeDiff→zL
set_option maxHeartbeats 16000000
noncomputable def FV (s:Nat) (n:Int):Value:=if n<1 then .tuple #[KI 0,chV 0,KI 2] else match jd n.toNat TR s with
 | none=>.tuple #[KI 0,chV 0,KI 9]
 | some p=>.tuple #[KN p.1,chV p.2,KI 0]
theorem FL {h:IH} {s:Nat} {n:Int} (hn:dH n) :
  WV Proofs.Tryz.prog (.func (.func 61) #[] #[]) [chV s,KI n] h fun r h'=>Ext h h'∧r=FV s n:=by
 unfold FV
 obtain⟨H0,hH0,n0,E0,k0,k1⟩:=gl h [K64 s] [.int .u64 0]
 refine enter (nt:=33) (rs:=[.tmp 4,.cell 5 36,.tmp 6]) Proofs.Tryz.func61 rfl rfl rfl (by simp) ?_
 simp -dsimp (disch:=try exact dx) only[wpS,zE,zA,nW,chV]
 rw[←hH0]
 clear hH0
 by_cases c1:n<1
 ·have d1:decide (n<1)=true:=decide_eq_true c1
  rw[if_pos c1]
  simp -dsimp (disch:=try exact dx) only[wpS,wpT,zE,zL,mh,gH,eH,d1,k1,tk1]
  exact⟨E0.put (by omega) _,rfl⟩
 have d1:decide (n<1)=false:=decide_eq_false c1
 rw[if_neg c1]
 obtain⟨m,rfl⟩ : ∃m:Nat,n=(m:Int):=⟨n.toNat,by omega⟩
 have hn2:=hn.2
 rw[Int.toNat_natCast]
 simp -dsimp (disch:=try exact dx) only[wpS,wpT,zE,zL,eH,d1,ai k0,tk1]
 refine call (Aj (s:=s)) ?_
 rintro _ _ ⟨rfl,rfl⟩
 obtain⟨H1,hH1⟩ : ∃H,H=(H0.new (.cells [K64 s] 0 none)).new (.cells [K64 s] 0 none):=⟨_,rfl⟩
 have n1:H1.n=H0.n+2:=by rw[hH1];rfl
 have E1:Ext H0 H1:=by rw[hH1];exact((Ext.refl _).new _).new _
 have gk:H1.ext.get (H0.n+1)=some (.cells [K64 s] 0 none):=by rw[hH1];simp (disch:=try exact dx) only[aa]
 rw[←hH1]
 clear hH1
 simp -dsimp (disch:=try exact dx) only[wpS,zE,xZ]
 refine call (Ic (n:=m) E1 (Nat.le_succ _) (by omega) gk (by omega) (by omega)) ?_
 rintro _ h2 ⟨X2,hn2,⟨x,t,ht,rfl,gt⟩|⟨ht,rfl⟩⟩
 ·rw[ht]
  have hx:=ub (by omega) ht
  have q1:=X2.kept (by omega) k1
  simp -dsimp (disch:=try exact dx) only[wpS,wpT,zE,zL,gH,eH,ya,vD,BE,ai gt,tk1,q1]
  exact⟨(E0.trans X2).put (by omega) _,rfl⟩
 ·rw[ht]
  have q1:=X2.kept (by omega) k1
  simp -dsimp (disch:=try exact dx) only[wpS,wpT,zE,zL,mh,gH,eH,q1,tk1]
  exact⟨(E0.trans X2).put (by omega) _,rfl⟩
end Go.Id

namespace Go.Id
open Go
end Go.Id

namespace Go.Id
open Go
set_option maxHeartbeats 2000000 in
theorem Cw {h:IH} (a b:Nat) (ha:a<W8) (hb:b<W8):WV Proofs.Tryz.prog (.func (.func 269) #[] #[]) [wdV a,wdV b] h fun r h'=>Ext h h' ∧ ∃m bor,r=.tuple #[wdV m,K64 bor]∧m<W8∧bor≤1∧a+b=m+bor*W8:=by
 refine enter (nt:=27) (rs:=[.cell 4 234,.tmp 5]) Proofs.Tryz.func269 rfl rfl rfl (by simp) ?_
 simp -dsimp (maxSteps:=1000000) (disch:=first|omega|(simp only[al,aq];omega)|decide +kernel|(repeat first|rw[al]|rw[aq])) only[wpS,Nat.reduceEqDiff,Nat.reduceAdd,y5,aM]
 rw[iP a,iP b]
 have lA:=gW a
 have lB:=gW b
 refine loop (fun m fr h1 => ∃(i bor:Nat) (os:List Nat),i+m=8∧Ext h h1∧h.n+3≤h1.n∧h1.ext.get h.n=some (.cells (os.map K64) 0 none)∧h1.ext.get (h.n+1)=some (.cells ((wds b).map K64) 0 none)∧(∃c,h1.ext.get (h.n+1+1)=some (.cells c 0 none)∧c.length=8)∧bor≤1∧os.length=8∧B.bz os∧(∀j,i≤j→os.getD j 0=(wds a).getD j 0) ∧
   B.az (wds a) i+B.az (wds b) i=B.az os i+bor*18446744073709551616 ^ i∧ah fr 2=some (ptr (2*h.n) 0)∧ah fr 3=some (ptr (2*(h.n+1)) 0)∧ah fr 4=some (ptr (2*(h.n+1+1)) 0)∧ah fr 6=some (K64 bor)∧ah fr 8=some (KN i)) 8
  ⟨0,0,wds a,rfl,(((Ext.refl h).new _).new _).new _,by simp<;>omega,by simp (disch:=first|omega|(simp only[al,aq];omega)|(repeat first|rw[al]|rw[aq])) only[aa,ao],by simp (disch:=first|omega|(simp only[al,aq];omega)|(repeat first|rw[al]|rw[aq])) only[aa,ao],⟨[ZW,ZW,ZW,ZW,ZW,ZW,ZW,ZW],by simp (disch:=first|omega|(simp only[al,aq];omega)|(repeat first|rw[al]|rw[aq])) only[aa],rfl⟩,by omega,lA,kJ a,fun _ _=>rfl,by simp[B.az],by simp,by simp,by simp,by simp,by simp⟩ ?_
 rintro m fr h1 ⟨i,bor,os,him,hE,hn,hg,hg1,hg2,Dv,hol,hod,hoa,hv,f2,f3,f4,f6,f8⟩
 simp -dsimp (maxSteps:=1000000) (disch:=first|omega|(simp only[al,aq];omega)|decide +kernel|(repeat first|rw[al]|rw[aq])) only[wpS,f8]
 refine ax ?_ ?_<;>intro hc<;>simp only[decide_eq_true_eq,decide_eq_false_iff_not] at hc
 ·have hi:i<8:=by omega
  have r0:=bg hg
  have r1:=bg hg1
  have go:=get_some (show i<os.length by omega)
  have gb:=get_some (show i<(wds b).length by omega)
  have hx:=hoa i (Nat.le_refl _)
  have dx:=B.bj hod i
  have dy:=B.bj (kJ b) i
  obtain⟨x,hx1⟩ : ∃x,x=os.getD i 0:=⟨_,rfl⟩
  obtain⟨y,hy1⟩ : ∃x,x=(wds b).getD i 0:=⟨_,rfl⟩
  rw[←hx1] at go dx hx
  rw[←hy1] at gb dy
  simp -dsimp (maxSteps:=1000000) (disch:=first|omega|(simp only[al,aq];omega)|decide +kernel|(repeat first|rw[al]|rw[aq])) only[wpS,wpT,Nat.reduceEqDiff,AD,jY,f2,f3,f6,f8,r0,r1,bD,go,gb]
  refine call (yq x y bor Dv) ?_
  rintro _ _ ⟨rfl,rfl⟩
  generalize hdd:(x+y+bor) % 18446744073709551616=d
  generalize hbb:(x+y+bor) / 18446744073709551616=b2
  have hb1:b2≤1:=by omega
  have iz:x+y+bor=d+b2*18446744073709551616:=by omega
  have hd2:d<18446744073709551616:=by omega
  have spl:=iQ d (show i<os.length by omega)
  rename_i h3
  simp -dsimp (maxSteps:=1000000) (disch:=first|omega|(simp only[al,aq];omega)|decide +kernel|(repeat first|rw[al]|rw[aq])) only[wpS,wpT,Nat.reduceEqDiff,Nat.reduceLeDiff,AD,mb,f2,f8,hg,spl,List.length_map,hol]
  obtain⟨c,hgc,hcl⟩:=hg2
  refine⟨m - 1,by omega,i+1,b2,os.set i d,by omega,hE.put (Nat.le_refl _) _,hn,ad _ _ rfl,by simp (disch:=first|omega|(simp only[al,aq];omega)|(repeat first|rw[al]|rw[aq])) only[ae];exact hg1,⟨c,by simp (disch:=first|omega|(simp only[al,aq];omega)|(repeat first|rw[al]|rw[aq])) only[ae];exact hgc,hcl⟩,hb1,by rw[List.length_set,hol],hod.set _ hd2,?_,?_,by simp[f2],by simp[f3],by simp[f4],by simp,by simp⟩
  ·intro j hj
   rw[B.cY (by omega),if_neg (by omega)]
   exact hoa j (by omega)
  ·rw[gR (by omega),B.az,B.az,←hx,←hy1,Nat.pow_succ]
   have e3:d*18446744073709551616 ^ i+b2*(18446744073709551616 ^ i*18446744073709551616)=(x+y+bor)*18446744073709551616 ^ i:=by rw[iz];grind
   have e4:(x+y+bor)*18446744073709551616 ^ i=x*18446744073709551616 ^ i+y*18446744073709551616 ^ i+bor*18446744073709551616 ^ i:=by grind
   omega
 ·obtain rfl:i=8:=by omega
  have r0:=bg hg
  have lm:(os.map K64).length=8:=by rw[List.length_map,hol]
  have all:=Bj os
  have tk8:List.take 8 (List.drop 0 (os.map K64))=os.map K64:=by rw[List.drop_zero,List.take_of_length_le (by omega)]
  obtain⟨c,hgc,hcl⟩:=hg2
  have hsp:IH.aD c 0 (os.map K64)=os.map K64:=fY (by rw[hcl,lm])
  simp -dsimp (maxSteps:=1000000) (disch:=first|omega|(simp only[al,aq];omega)|decide +kernel|(repeat first|rw[al]|rw[aq])) only[wpS,wpT,Nat.reduceEqDiff,Nat.reduceLeDiff,gK,ui,f2,f4,f6,r0,lm,all,tk8,hgc,hcl,hsp]
  rw[←AO hol hod,←iP] 
  have e8 : ∀n,n<W8→B.az (wds n) 8=n:=fun n hn=>by rw[ru n 8 (Nat.le_refl _),←uR,Nat.mod_eq_of_lt hn]
  rw[e8 a ha,e8 b hb,←uR] at hv
  have hvo:B.az os 8=B.au os:=by rw[B.au,hol]
  rw[hvo] at hv
  exact⟨hE.put (by omega) _,B.au os,bor,rfl,F6 hol hod,Dv,hv⟩
theorem J1 {n m:Nat} (hn:n<W8) (hm:m<W8) (ox oy:Operand):binop Proofs.Tryz.prog .eql 234 ox oy (.agg (wdC n).toArray) (.agg (wdC m).toArray)=some (.bool (decide (n=m))):=by
 rw[lU,lU,qz PS u28 yz SQ _ _ _ _ (by simp) (by simp),AP hn hm]
set_option maxHeartbeats 1000000 in
theorem Cv {h:IH} (n:Nat) (hn:n<W8):WV Proofs.Tryz.prog (.func (.func 279) #[] #[]) [wdV n] h fun r h'=>Ext h h'∧r=.bool (decide (n=0)):=by
 have hz : ∀ox oy,binop Proofs.Tryz.prog .eql 234 ox oy (.agg (wdC n).toArray) (.agg #[ZW,ZW,ZW,ZW,ZW,ZW,ZW,ZW])=some (.bool (decide (n=0))):=fun ox oy=>by
  rw[gC,wdV,J1 hn (by have:=bV;have:=jg;omega)]
 have E1:Ext h (h.new (.cells (wdC n) 0 none)):=(Ext.refl h).new _
 refine enter (nt:=6) (rs:=[.tmp 2]) Proofs.Tryz.func279 rfl rfl rfl (by simp) ?_
 simp -dsimp (maxSteps:=1000000) (disch:=first|omega|(simp only[al,aq];omega)|decide +kernel|(repeat first|rw[al]|rw[aq])) only[wpS,wpT,Nat.reduceEqDiff,Nat.reduceLeDiff,gK,DU,aM,aj,aC,hz]
 exact E1
theorem Hs {b:Bool} {n:Nat}:fH Proofs.Tryz.prog 236 [(0,.bool b),(1,wdV n)]=some (jW b n):=by
 kernel_rfl
set_option maxHeartbeats 1000000 in
theorem Eh {h:IH} (b:Bool) (n:Nat) (hn:n<W8):WV Proofs.Tryz.prog (.func (.func 270) #[] #[]) [.bool b,wdV n] h fun r h'=>Ext h h'∧r=jW (b && !decide (n=0)) n:=by
 obtain⟨H0,hH0,n0,E0,k0,k1⟩:=gl h (wdC n) [.bool false,ZW,ZW,ZW,ZW,ZW,ZW,ZW,ZW]
 refine enter (nt:=13) (rs:=[.cell 4 236]) Proofs.Tryz.func270 rfl rfl rfl (by simp) ?_
 simp -dsimp (maxSteps:=1000000) (disch:=first|omega|(simp only[al,aq];omega)|decide +kernel|(repeat first|rw[al]|rw[aq])) only[wpS,Nat.reduceEqDiff,Nat.reduceAdd,pX,aM]
 rw[←hH0]
 clear hH0
 have X0:=Ext.refl H0
 have L1:load Proofs.Tryz.prog H0 234 (ptr (2*h.n) 0)=some (wdV n):=by
  have r:=ai k0
  simp -dsimp (maxSteps:=1000000) (disch:=first|omega|(simp only[al,aq];omega)|decide +kernel|(repeat first|rw[al]|rw[aq])) only[wpS,Nat.reduceLeDiff,gK,r,aj,aC]
  rfl
 refine drawn [(6,[3])] (by kernel_rfl) (by kernel_rfl) rfl ?_
 cases b with
 | true =>
  simp -dsimp (maxSteps:=1000000) (disch:=first|omega|(simp only[al,aq];omega)|decide +kernel|(repeat first|rw[al]|rw[aq])) only[wpS,wpT,Nat.reduceEqDiff,Nat.reduceLeDiff,gK,ai k0,aj,aC]
  refine call (Cv n hn) ?_
  rintro _ h1 ⟨X1,rfl⟩
  have m1:=X1.n
  have q0:=X1.kept (by omega) k0
  have q1:=X1.kept (by omega) k1
  simp -dsimp (maxSteps:=1000000) (disch:=first|omega|(simp only[al,aq];omega)|decide +kernel|(repeat first|rw[al]|rw[aq])) only[wpS,wpT,Nat.reduceEqDiff,Nat.reduceLeDiff,Nat.reduceAdd,gK,nJ,ai q0,q1,aj,aC,show(.agg (wdC n).toArray:Value)=wdV n from rfl,Hs,dM,ay,aO]
  refine⟨ak rfl rfl rfl rfl (aJ (H0:=H0) rfl (by omega) X1 X0 L1),?_⟩
  simp -dsimp (maxSteps:=1000000) (disch:=first|omega|(simp only[al,aq];omega)|decide +kernel|(repeat first|rw[al]|rw[aq])) only[wpS,wpT,Nat.reduceEqDiff,Nat.reduceLeDiff,Nat.reduceAdd,nO,eg,aj]
  exact⟨(E0.trans X1).put (by omega) _,rfl⟩
 | false =>
  simp -dsimp (maxSteps:=1000000) (disch:=first|omega|(simp only[al,aq];omega)|decide +kernel|(repeat first|rw[al]|rw[aq])) only[wpS,wpT,Nat.reduceEqDiff,Nat.reduceLeDiff,Nat.reduceAdd,gK,nJ,ai k0,k1,aj,aC,show(.agg (wdC n).toArray:Value)=wdV n from rfl,Hs,dM,ay,aO]
  refine⟨ak rfl rfl rfl rfl (aJ (H0:=H0) rfl (by omega) X0 X0 L1),?_⟩
  simp -dsimp (maxSteps:=1000000) (disch:=first|omega|(simp only[al,aq];omega)|decide +kernel|(repeat first|rw[al]|rw[aq])) only[wpS,wpT,Nat.reduceEqDiff,Nat.reduceLeDiff,Nat.reduceAdd,nO,eg,aj]
  exact⟨E0.put (by omega) _,rfl⟩
set_option maxHeartbeats 2000000 in
theorem JS {h:IH} (a b:Nat) (hab:a+b<W8) :
  WV Proofs.Tryz.prog (.func (.func 245) #[] #[]) [jW false a,jW false b] h fun r h'=>Ext h h'∧r=.tuple #[jW false (a+b),.bool false]:=by
 have ha:a<W8:=by omega
 have hb:b<W8:=by omega
 obtain⟨H0,hH0,n0,E0,k0,k1,k2⟩:=gP h (.bool false :: wdC a) (.bool false :: wdC b) [.bool false,ZW,ZW,ZW,ZW,ZW,ZW,ZW,ZW]
 have ee:((false:Bool) == false)=true:=rfl
 refine enter (nt:=61) (rs:=[.cell 4 236,.tmp 5]) Proofs.Tryz.func245 rfl rfl rfl (by simp) ?_
 simp -dsimp (maxSteps:=1000000) (disch:=first|omega|(simp only[al,aq];omega)|decide +kernel|(repeat first|rw[al]|rw[aq])) only[wpS,wpT,Nat.reduceEqDiff,Nat.reduceLeDiff,Nat.reduceAdd,pX,iX,ld4,be4,fi,gK,dM]
 rw[←hH0]
 clear hH0
 simp -dsimp (maxSteps:=1000000) (disch:=first|omega|(simp only[al,aq];omega)|decide +kernel|(repeat first|rw[al]|rw[aq])) only[wpS,wpT,Nat.reduceEqDiff,Nat.reduceLeDiff,Nat.reduceAdd,fi,gK,ai k1,fK,aj]
 refine call (Cw a b ha hb) ?_
 rintro _ h1 ⟨X1,m,c,rfl,hm,hc,iz⟩
 have c0:c=0:=by
  apply Classical.byContradiction
  intro hn
  have:c=1:=by omega
  subst this
  omega
 subst c0
 obtain rfl:m=a+b:=by omega
 have m1:=X1.n
 have e1:Ext h1 ((h1.new (.cells [ZW,ZW,ZW,ZW,ZW,ZW,ZW,ZW] 0 none)).put h1.n (.cells (wdC (a+b)) 0 none)):=((Ext.refl _).new _).put (Nat.le_refl _) _
 have X2:=X1.trans e1
 have q0:=X1.kept (by omega) k0
 have q2:=X2.kept (by omega) k2
 simp -dsimp (maxSteps:=1000000) (disch:=first|omega|(simp only[al,aq];omega)|decide +kernel|(repeat first|rw[al]|rw[aq])) only[wpS,wpT,Nat.reduceEqDiff,Nat.reduceLeDiff,Nat.reduceAdd,iX,ld4,gK,y5,ui,aM,aj,ay,aO,ai q0,aC]
 refine call (Eh false (a+b) hab) ?_
 rintro _ h3 ⟨X3,rfl⟩
 have q3:=X3.kept (by simp only[al,aq];omega) q2
 rw[Bool.false_and]
 simp -dsimp (maxSteps:=1000000) (disch:=first|omega|(simp only[al,aq];omega)|decide +kernel|(repeat first|rw[al]|rw[aq])) only[wpS,wpT,Nat.reduceEqDiff,Nat.reduceLeDiff,Nat.reduceAdd,nJ,nO,q3,dM,eg,aj,ay,aO]
 exact⟨((E0.trans X2).trans X3).put (by omega) _,rfl⟩
set_option maxHeartbeats 2000000 in
theorem JT {h:IH} (a b:Nat) (ha:a<W8) (hab:b≤a) :
  WV Proofs.Tryz.prog (.func (.func 245) #[] #[]) [jW false a,jW true b] h fun r h'=>Ext h h'∧r=.tuple #[jW false (a - b),.bool false]:=by
 have hb:b<W8:=by omega
 obtain⟨H0,hH0,n0,E0,k0,k1,k2⟩:=gP h (.bool false :: wdC a) (.bool true :: wdC b) [.bool false,ZW,ZW,ZW,ZW,ZW,ZW,ZW,ZW]
 have ee:((false:Bool) == true)=false:=rfl
 refine enter (nt:=61) (rs:=[.cell 4 236,.tmp 5]) Proofs.Tryz.func245 rfl rfl rfl (by simp) ?_
 simp -dsimp (maxSteps:=1000000) (disch:=first|omega|(simp only[al,aq];omega)|decide +kernel|(repeat first|rw[al]|rw[aq])) only[wpS,wpT,Nat.reduceEqDiff,Nat.reduceLeDiff,Nat.reduceAdd,pX,iX,ld4,be4,fi,gK,dM]
 rw[←hH0]
 clear hH0
 simp -dsimp (maxSteps:=1000000) (disch:=first|omega|(simp only[al,aq];omega)|decide +kernel|(repeat first|rw[al]|rw[aq])) only[wpS,wpT,Nat.reduceEqDiff,Nat.reduceLeDiff,Nat.reduceAdd,fi,gK,ai k1,fK,aj]
 refine call (kL a b ha hb) ?_
 rintro _ h1 ⟨X1,rfl⟩
 rw[if_neg (by omega)]
 obtain⟨z,hz,hz0⟩ : ∃z:Int,(if a=b then (0:Int) else 1)=z∧0≤z:=⟨_,rfl,by split<;>omega⟩
 rw[hz]
 have m1:=X1.n
 simp -dsimp (maxSteps:=1000000) (disch:=first|omega|(simp only[al,aq];omega)|decide +kernel|(repeat first|rw[al]|rw[aq])) only[wpS,wpT,Nat.reduceEqDiff,Nat.reduceLeDiff,Nat.reduceAdd,fi,gK,ai (X1.kept (by omega) k0),ai (X1.kept (by omega) k1),fK,aj]
 refine call (kM a b ha hb) ?_
 rintro _ h2 ⟨X2,m,c,rfl,hm,hc,iz⟩
 have c0:c=0:=by
  apply Classical.byContradiction
  intro hn
  have:c=1:=by omega
  subst this
  omega
 subst c0
 obtain rfl:m=a - b:=by omega
 have m2:=X2.n
 have e1:Ext h2 ((h2.new (.cells [ZW,ZW,ZW,ZW,ZW,ZW,ZW,ZW] 0 none)).put h2.n (.cells (wdC (a - b)) 0 none)):=((Ext.refl _).new _).put (Nat.le_refl _) _
 have X3:=(X1.trans X2).trans e1
 have q0:=(X1.trans X2).kept (by omega) k0
 have q2:=X3.kept (by omega) k2
 simp -dsimp (maxSteps:=1000000) (disch:=first|omega|(simp only[al,aq];omega)|decide +kernel|(repeat first|rw[al]|rw[aq])) only[wpS,wpT,Nat.reduceEqDiff,Nat.reduceLeDiff,Nat.reduceAdd,iX,ld4,gK,y5,ui,aM,aj,ay,aO,ai q0,aC]
 refine call (Eh false (a - b) (by omega)) ?_
 rintro _ h3 ⟨X4,rfl⟩
 have q3:=X4.kept (by simp only[al,aq];omega) q2
 rw[Bool.false_and]
 simp -dsimp (maxSteps:=1000000) (disch:=first|omega|(simp only[al,aq];omega)|decide +kernel|(repeat first|rw[al]|rw[aq])) only[wpS,wpT,Nat.reduceEqDiff,Nat.reduceLeDiff,Nat.reduceAdd,nJ,nO,q3,dM,eg,aj,ay,aO]
 exact⟨((E0.trans X3).trans X4).put (by omega) _,rfl⟩
set_option maxHeartbeats 2000000 in
theorem HS {h:IH} (b:Nat) (hb:b<W8) (b0:0<b) :
  WV Proofs.Tryz.prog (.func (.func 271) #[] #[]) [jW false b] h fun r h'=>Ext h h'∧r=jW true b:=by
 obtain⟨H0,hH0,n0,E0,k0,k1⟩:=gl h (.bool false :: wdC b) [.bool false,ZW,ZW,ZW,ZW,ZW,ZW,ZW,ZW]
 refine enter (nt:=9) (rs:=[.cell 2 236]) Proofs.Tryz.func271 rfl rfl rfl (by simp) ?_
 simp -dsimp (maxSteps:=1000000) (disch:=first|omega|(simp only[al,aq];omega)|decide +kernel|(repeat first|rw[al]|rw[aq])) only[wpS,wpT,Nat.reduceEqDiff,Nat.reduceLeDiff,Nat.reduceAdd,pX,iX,ld4,fi,gK,dM]
 rw[←hH0]
 clear hH0
 simp -dsimp (maxSteps:=1000000) (disch:=first|omega|(simp only[al,aq];omega)|decide +kernel|(repeat first|rw[al]|rw[aq])) only[wpS,Nat.reduceEqDiff,Nat.reduceLeDiff,fK,aj]
 refine call (Eh true b hb) ?_
 rintro _ h1 ⟨X1,rfl⟩
 rw[Bool.true_and,decide_eq_false (by omega),Bool.not_false]
 have q1:=X1.kept (by omega) k1
 have m1:=X1.n
 simp -dsimp (maxSteps:=1000000) (disch:=first|omega|(simp only[al,aq];omega)|decide +kernel|(repeat first|rw[al]|rw[aq])) only[wpS,wpT,Nat.reduceEqDiff,Nat.reduceLeDiff,Nat.reduceAdd,nJ,nO,q1,dM,eg,aj,ay,aO]
 exact⟨(E0.trans X1).put (by omega) _,rfl⟩
set_option maxHeartbeats 2000000 in
theorem yT {h:IH} (a b:Nat) (ha:a<W8) (b0:0<b) (hab:b≤a) :
  WV Proofs.Tryz.prog (.func (.func 246) #[] #[]) [jW false a,jW false b] h fun r h'=>Ext h h'∧r=.tuple #[jW false (a - b),.bool false]:=by
 obtain⟨H0,hH0,n0,E0,k0,k1,k2⟩:=gP h (.bool false :: wdC a) (.bool false :: wdC b) [.bool false,ZW,ZW,ZW,ZW,ZW,ZW,ZW,ZW]
 refine enter (nt:=12) (rs:=[.cell 4 236,.tmp 5]) Proofs.Tryz.func246 rfl rfl rfl (by simp) ?_
 simp -dsimp (maxSteps:=1000000) (disch:=first|omega|(simp only[al,aq];omega)|decide +kernel|(repeat first|rw[al]|rw[aq])) only[wpS,Nat.reduceEqDiff,Nat.reduceAdd,pX,dM]
 rw[←hH0]
 clear hH0
 have X0:=Ext.refl H0
 have L0:load Proofs.Tryz.prog H0 236 (ptr (2*h.n) 0)=some (jW false a):=by
  have r:=ai k0
  simp -dsimp (maxSteps:=1000000) (disch:=first|omega|(simp only[al,aq];omega)|decide +kernel|(repeat first|rw[al]|rw[aq])) only[wpS,wpT,Nat.reduceLeDiff,Nat.reduceAdd,nO,r,eg,aj]
  rfl
 refine drawn [(0,[3])] (by kernel_rfl) (by kernel_rfl) rfl ?_
 simp -dsimp (maxSteps:=1000000) (disch:=first|omega|(simp only[al,aq];omega)|decide +kernel|(repeat first|rw[al]|rw[aq])) only[wpS,wpT,Nat.reduceEqDiff,Nat.reduceLeDiff,Nat.reduceAdd,nO,ai k0,ai k1,eg,aj]
 refine call (HS b (by omega) b0) ?_
 rintro _ h1 ⟨X1,rfl⟩
 have m1:=X1.n
 simp -dsimp (maxSteps:=1000000) (disch:=first|omega|(simp only[al,aq];omega)|decide +kernel|(repeat first|rw[al]|rw[aq])) only[wpS,Nat.reduceEqDiff]
 refine call (JT a b ha hab) ?_
 rintro _ h2 ⟨X2,rfl⟩
 have X12:=X1.trans X2
 have q2:=X12.kept (by omega) k2
 simp -dsimp (maxSteps:=1000000) (disch:=first|omega|(simp only[al,aq];omega)|decide +kernel|(repeat first|rw[al]|rw[aq])) only[wpS,wpT,Nat.reduceEqDiff,Nat.reduceLeDiff,Nat.reduceAdd,nJ,q2,dM,aj,ay,aO]
 refine⟨ak rfl rfl rfl rfl (aJ (H0:=H0) rfl (by omega) X0 X1 L0),?_⟩
 simp -dsimp (maxSteps:=1000000) (disch:=first|omega|(simp only[al,aq];omega)|decide +kernel|(repeat first|rw[al]|rw[aq])) only[wpS,wpT,Nat.reduceEqDiff,Nat.reduceLeDiff,Nat.reduceAdd,nO,eg,aj]
 exact⟨(E0.trans X12).put (by omega) _,rfl⟩
end Go.Id
