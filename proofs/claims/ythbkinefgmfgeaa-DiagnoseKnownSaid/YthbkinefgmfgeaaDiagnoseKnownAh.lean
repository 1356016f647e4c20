/-
  Contracts: the quotient of two words by one. Contracts: the program's long integers: numbers of bits, products by powers of 2, quotients. Contracts: the reference's long integers: products, quotients, divisors. Contracts: the program's long integers: sums, differences, products, quotients, divisors. Contracts: the reference's long integers, ninth part: read as integers. Contracts: wide integers of the program: from and to integers. Contracts: the program's magnitudes and numbers, read and told.
-/
import Derived.Test.YthbkinefgmfgeaaDiagnoseKnownAg
set_option linter.unusedVariables false
set_option linter.unusedSimpArgs false
set_option linter.defProp false
set_option linter.deprecated false
/-! Contracts: the quotient of two words by one. -/
namespace Go.Id
open Go
theorem dh_aux {u w a b A B r1 r0:Nat} (hw:4294967296*a+b=w) (h1:u*4294967296+a=A+r1) (h2:r1*4294967296+b=B+r0):u*18446744073709551616+w=A*4294967296+B+r0:=by
 have e:u*18446744073709551616=u*4294967296*4294967296:=by rw[Nat.mul_assoc]
 rw[e,←hw,←Nat.add_assoc,Nat.mul_comm 4294967296 a,←Nat.add_mul,h1,Nat.add_mul,Nat.add_assoc,h2,Nat.add_assoc]
theorem div_halves {hi lo y s Y u w q1 r1 q0 r0:Nat} (hY:Y=y*2 ^ s) (hy:0<y) (hN:(hi*18446744073709551616+lo)*2 ^ s=u*18446744073709551616+w) (h1:u*4294967296+w / 4294967296=q1*Y+r1) (h2:r1*4294967296+w % 4294967296=q0*Y+r0) (hr:r0<Y) :
  (hi*18446744073709551616+lo) / y=q1*4294967296+q0∧r0 / 2 ^ s=(hi*18446744073709551616+lo) % y:=by
 have hp:0<2 ^ s:=Nat.pow_pos (by omega)
 have e1:Y*(q1*4294967296+q0)=q1*Y*4294967296+q0*Y:=by rw[Nat.mul_add,Nat.mul_comm Y q0,←Nat.mul_assoc,Nat.mul_comm Y q1]
 have e:(hi*18446744073709551616+lo)*2 ^ s=Y*(q1*4294967296+q0)+r0:=by
  rw[hN,e1]
  exact dh_aux (Nat.div_add_mod _ _) h1 h2
 obtain⟨N,hNN⟩ : ∃N,N=hi*18446744073709551616+lo:=⟨_,rfl⟩
 rw[←hNN] at e ⊢
 clear hN h1 h2 hNN
 have e2:N*2 ^ s / Y=q1*4294967296+q0:=by
  rw[e,Nat.mul_add_div (by rw[hY];exact Nat.mul_pos hy hp),Nat.div_eq_of_lt hr,Nat.add_zero]
 have e3:N*2 ^ s % Y=r0:=by rw[e,Nat.mul_add_mod,Nat.mod_eq_of_lt hr]
 rw[hY,Nat.mul_div_mul_right _ _ hp] at e2
 rw[hY,Nat.mul_mod_mul_right] at e3
 exact⟨e2,by rw[←e3,Nat.mul_div_cancel _ hp]⟩
theorem lz_ok {h:IH} (u:Nat) (h0:0<u) (hu:u<18446744073709551616):WV Proofs.Try.prog (.func (.func 88) #[] #[]) [K64 u] h fun r h'=>h'=h ∧ ∃s:Nat,r=KN s∧s<64∧9223372036854775808≤u*2 ^ s∧u*2 ^ s<18446744073709551616∧2 ^ (63 - s)≤u∧u<2 ^ (64 - s):=by
 refine enter (nt:=6) (rs:=[.tmp 2]) Proofs.Try.func88 rfl rfl rfl (by simp) ?_
 simp -dsimp (disch:=omega) only[wpS,Nat.reduceEqDiff]
 refine call (len64_ok u hu) ?_
 rintro _ _ ⟨rfl,k,rfl,hk,hN⟩
 have k1:0<k:=(hN 0).2 (by omega)
 have k2:k≤64:=by
  apply Classical.byContradiction;intro hn
  have:=(hN 64).1 (by omega)
  omega
 have k3:2 ^ (k - 1)≤u:=(hN (k - 1)).1 (by omega)
 have k4:u<2 ^ k:=by
  apply Classical.byContradiction;intro hn
  have:=(hN k).2 (by omega)
  omega
 have e:(64:Int) - (k:Int)=((64 - k:Nat):Int):=by omega
 simp -dsimp (disch:=omega) only[wpS,wpT,Nat.reduceEqDiff,e]
 refine⟨64 - k,rfl,by omega,?_,?_,by rw[show 63 - (64 - k)=k - 1 by omega];exact k3,by rw[show 64 - (64 - k)=k by omega];exact k4⟩
 ·have:=Nat.mul_le_mul_right (2 ^ (64 - k)) k3
  rw[←Nat.pow_add,show k - 1+(64 - k)=63 by omega] at this
  exact this
 ·have:=Nat.mul_lt_mul_of_pos_right k4 (show 0<2 ^ (64 - k) from Nat.pow_pos (by omega))
  rw[←Nat.pow_add,show k+(64 - k)=64 by omega] at this
  exact this
set_option maxHeartbeats 4000000 in
theorem div64_ok {h:IH} (hi lo y:Nat) (hh:hi<y) (hl:lo<18446744073709551616) (hy:y<18446744073709551616):WV Proofs.Try.prog (.func (.func 85) #[] #[]) [K64 hi,K64 lo,K64 y] h fun r h'=>h'=h∧r=.tuple #[K64 ((hi*18446744073709551616+lo) / y),K64 ((hi*18446744073709551616+lo) % y)]:=by
 have y0:((y:Int) == 0)=false:=by simp;omega
 by_cases h0:hi=0
 ·subst h0
  have d1:(lo:Int) / (y:Int)=((lo / y:Nat):Int):=by simp
  have d2:(lo:Int) % (y:Int)=((lo % y:Nat):Int):=by simp
  have d3:lo / y≤lo:=Nat.div_le_self _ _
  refine enter (nt:=135) (rs:=[.tmp 6,.tmp 7]) Proofs.Try.func85 rfl rfl rfl (by simp) ?_
  simp -dsimp (maxSteps:=1000000) (disch:=first|omega|(simp only[new_n,put_n];omega)|decide +kernel|(repeat first|rw[new_n]|rw[put_n])) only[wpS,wpT,Nat.reduceEqDiff,Nat.reduceAdd,y0,d1,d2]
 ·have h0':((hi:Int) == 0)=false:=by simp;omega
  refine enter (nt:=135) (rs:=[.tmp 6,.tmp 7]) Proofs.Try.func85 rfl rfl rfl (by simp) ?_
  simp -dsimp (maxSteps:=1000000) (disch:=first|omega|(simp only[new_n,put_n];omega)|decide +kernel|(repeat first|rw[new_n]|rw[put_n])) only[wpS,wpT,Nat.reduceEqDiff,Nat.reduceAdd,y0,h0']
  refine call (lz_ok y (by omega) hy) ?_
  rintro _ _ ⟨rfl,s,rfl,hs,hY1,hY2,hy1,hy2⟩
  rename_i h1
  have hps:0<2 ^ s:=Nat.pow_pos (by omega)
  obtain⟨Y,hY⟩ : ∃Y,Y=y*2 ^ s:=⟨_,rfl⟩
  have eY:y*2 ^ s % 18446744073709551616=Y:=by rw[hY];exact Nat.mod_eq_of_lt hY2
  rw[←hY] at hY1 hY2
  have hU:hi*2 ^ s<Y:=by rw[hY];exact Nat.mul_lt_mul_of_pos_right hh hps
  have eU:hi*2 ^ s % 18446744073709551616=hi*2 ^ s:=Nat.mod_eq_of_lt (by omega)
  have e64:(64:Int) - (s:Int)=((64 - s:Nat):Int):=by omega
  have eR:nshr lo (64 - s)=lo / 2 ^ (64 - s):=Nat.shiftRight_eq_div_pow _ _
  have hR:lo / 2 ^ (64 - s)<2 ^ s:=B.shr_small hl (by omega)
  have eO:hi*2 ^ s ||| lo / 2 ^ (64 - s)=hi*2 ^ s+lo / 2 ^ (64 - s):=B.or_add (Nat.dvd_mul_left _ _) hR
  have hsp:=B.shl_parts hl hs
  obtain⟨u,hu⟩ : ∃u,u=hi*2 ^ s+lo / 2 ^ (64 - s):=⟨_,rfl⟩
  obtain⟨w,hw⟩ : ∃w,w=lo*2 ^ s % 18446744073709551616:=⟨_,rfl⟩
  rw[←hw] at hsp
  have huY:u<Y:=by
   have:(hi+1)*2 ^ s≤y*2 ^ s:=Nat.mul_le_mul_right _ hh
   rw[Nat.add_mul,←hY] at this
   omega
  have hwl:w<18446744073709551616:=by omega
  have hN:(hi*18446744073709551616+lo)*2 ^ s=u*18446744073709551616+w:=by
   rw[Nat.add_mul,hu,Nat.add_mul,←hsp]
   have:hi*18446744073709551616*2 ^ s=hi*2 ^ s*18446744073709551616:=by grind
   omega
  have s1:nshr Y 32=Y / 4294967296:=Nat.shiftRight_eq_div_pow _ _
  have s2:Y &&& 4294967295=Y % 4294967296:=Nat.and_two_pow_sub_one_eq_mod Y 32
  have s3:nshr w 32=w / 4294967296:=Nat.shiftRight_eq_div_pow _ _
  have s4:w &&& 4294967295=w % 4294967296:=Nat.and_two_pow_sub_one_eq_mod w 32
  obtain⟨y1,hy1'⟩ : ∃y1,y1=Y / 4294967296:=⟨_,rfl⟩
  obtain⟨y0',hy0'⟩ : ∃y0,y0=Y % 4294967296:=⟨_,rfl⟩
  have eYY:Y=y1*4294967296+y0':=by omega
  have g1:2147483648≤y1:=by omega
  have g0:y0'<4294967296:=by omega
  have c1:(u:Int) / (y1:Int)=((u / y1:Nat):Int):=by simp
  have dm:=Nat.div_add_mod u y1
  have dm2:((u / y1:Nat):Int)*(y1:Int)=((y1*(u / y1):Nat):Int):=by rw[Nat.mul_comm y1];simp
  have dm3:(u:Int) - ((y1*(u / y1):Nat):Int)=((u % y1:Nat):Int):=by omega
  have dl:=Nat.mod_lt u (show 0<y1 by omega)
  have dle:u / y1≤u:=Nat.div_le_self _ _
  simp -dsimp (maxSteps:=1000000) (disch:=first|omega|(simp only[new_n,put_n];omega)|decide +kernel|(repeat first|rw[new_n]|rw[put_n])) only[wpS,Nat.reduceEqDiff,Int.reduceToNat,cv3_114,shl_n,eY,eU,e64,eR,eO,←hu,←hw,s1,s2,s3,s4,←hy1',←hy0',c1,dm2,dm3]
  refine loop_cut (fun fr h2=>h2=h1∧fget fr 2=some (K64 Y)∧fget fr 8=some (.int .u64 (s:Int))∧fget fr 9=some (K64 y1)∧fget fr 10=some (K64 y0')∧fget fr 11=some (K64 u)∧fget fr 13=some (K64 (w / 4294967296))∧fget fr 14=some (K64 (w % 4294967296))∧fget fr 15=some (K64 ((u*4294967296+w / 4294967296) / (y1*4294967296+y0')))) ?_ ?_
  ·refine loop (fun m fr h2=>h2=h1 ∧ ∃q r:Nat,q=m∧DivJ y1 y0' u (w / 4294967296) q r∧r<4294967296∧fget fr 2=some (K64 Y)∧fget fr 8=some (.int .u64 (s:Int))∧fget fr 9=some (K64 y1)∧fget fr 10=some (K64 y0')∧fget fr 11=some (K64 u)∧fget fr 13=some (K64 (w / 4294967296))∧fget fr 14=some (K64 (w % 4294967296))∧fget fr 15=some (K64 q)∧fget fr 16=some (K64 r)) (u / y1)
    ⟨rfl,_,_,rfl,divJ_start g1 g0 (eYY▸huY) (by omega),by omega,by simp,by simp,by simp,by simp,by simp,by simp,by simp,by simp,by simp⟩ ?_
   rintro m fr h2 ⟨rfl,q,r,rfl,hJ,hr,f2,f8,f9,f10,f11,f13,f14,fq,fr16⟩
   have hq1:=hJ.2.2
   have hUY:u<y1*4294967296+y0':=eYY▸huY
   have hDD:w / 4294967296<4294967296:=by omega
   have stepJ:(4294967296≤q∨4294967296*r+w / 4294967296<q*y0')→0<q∧DivJ y1 y0' u (w / 4294967296) (q - 1) (r+y1):=fun hc=>divJ_step g1 g0 hUY hDD hJ hc
   by_cases hqB:4294967296≤q
   ·obtain⟨hq0,hJ2⟩:=stepJ (.inl hqB)
    have eq1:(q:Int) - 1=((q - 1:Nat):Int):=by omega
    have er1:(r:Int)+(y1:Int)=((r+y1:Nat):Int):=by omega
    simp -dsimp (maxSteps:=1000000) (disch:=first|omega|(simp only[new_n,put_n];omega)|decide +kernel|(repeat first|rw[new_n]|rw[put_n])) only[wpS,wpT,Nat.reduceEqDiff,f9,fq,fr16,eq1,er1]
    refine bq_intro ?_ ?_<;>intro hc<;>simp only[decide_eq_true_eq,decide_eq_false_iff_not] at hc
    ·simp -dsimp (maxSteps:=1000000) (disch:=first|omega|(simp only[new_n,put_n];omega)|decide +kernel|(repeat first|rw[new_n]|rw[put_n])) only[wpS,wpT]
     refine⟨rfl,by simp[f2],by simp[f8],by simp[f9],by simp[f10],by simp[f11],by simp[f13],by simp[f14],?_⟩
     rw[divJ_break g1 g0 hJ2 (by omega) (by omega)];simp
    ·simp -dsimp (maxSteps:=1000000) (disch:=first|omega|(simp only[new_n,put_n];omega)|decide +kernel|(repeat first|rw[new_n]|rw[put_n])) only[wpS,wpT]
     exact⟨q - 1,by omega,rfl,q - 1,r+y1,rfl,hJ2,by omega,by simp[f2],by simp[f8],by simp[f9],by simp[f10],by simp[f11],by simp[f13],by simp[f14],by simp,by simp⟩
   ·have hpm:q*y0'≤4294967295*4294967295:=Nat.mul_le_mul (by omega) (by omega)
    have ep:(q:Int)*(y0':Int)=((q*y0':Nat):Int):=by simp
    generalize hpp:q*y0'=p at *
    simp -dsimp (maxSteps:=1000000) (disch:=first|omega|(simp only[new_n,put_n];omega)|decide +kernel|(repeat first|rw[new_n]|rw[put_n])) only[wpS,wpT,Nat.reduceEqDiff,f10,f13,fq,fr16,ep]
    refine bq_intro ?_ ?_<;>intro hc<;>simp only[decide_eq_true_eq,decide_eq_false_iff_not] at hc
    ·obtain⟨hq0,hJ2⟩:=stepJ (.inr (by omega))
     have eq1:(q:Int) - 1=((q - 1:Nat):Int):=by omega
     have er1:(r:Int)+(y1:Int)=((r+y1:Nat):Int):=by omega
     simp -dsimp (maxSteps:=1000000) (disch:=first|omega|(simp only[new_n,put_n];omega)|decide +kernel|(repeat first|rw[new_n]|rw[put_n])) only[wpS,wpT,Nat.reduceEqDiff,f9,fq,fr16,eq1,er1]
     refine bq_intro ?_ ?_<;>intro hc5<;>simp only[decide_eq_true_eq,decide_eq_false_iff_not] at hc5
     ·simp -dsimp (maxSteps:=1000000) (disch:=first|omega|(simp only[new_n,put_n];omega)|decide +kernel|(repeat first|rw[new_n]|rw[put_n])) only[wpS,wpT]
      refine⟨rfl,by simp[f2],by simp[f8],by simp[f9],by simp[f10],by simp[f11],by simp[f13],by simp[f14],?_⟩
      rw[divJ_break g1 g0 hJ2 (by omega) (by omega)];simp
     ·simp -dsimp (maxSteps:=1000000) (disch:=first|omega|(simp only[new_n,put_n];omega)|decide +kernel|(repeat first|rw[new_n]|rw[put_n])) only[wpS,wpT]
      exact⟨q - 1,by omega,rfl,q - 1,r+y1,rfl,hJ2,by omega,by simp[f2],by simp[f8],by simp[f9],by simp[f10],by simp[f11],by simp[f13],by simp[f14],by simp,by simp⟩
    ·simp -dsimp (maxSteps:=1000000) (disch:=first|omega|(simp only[new_n,put_n];omega)|decide +kernel|(repeat first|rw[new_n]|rw[put_n])) only[wpS,wpT]
     refine⟨rfl,by simp[f2],by simp[f8],by simp[f9],by simp[f10],by simp[f11],by simp[f13],by simp[f14],?_⟩
     rw[divJ_done g1 g0 hJ (by rw[hpp];omega)];simp[fq]
  rintro fr h2 ⟨rfl,f2,f8,f9,f10,f11,f13,f14,f15⟩
  rw[←eYY] at f15
  clear hsp eU eO eR hR s1 s2 s3 s4 c1 dm dm2 dm3 dl dle
  have hw1:w / 4294967296<4294967296:=by omega
  have hw0:w % 4294967296<4294967296:=by omega
  have nn1:((u*4294967296+w / 4294967296) / Y)*Y+(u*4294967296+w / 4294967296) % Y=u*4294967296+w / 4294967296:=by rw[Nat.mul_comm];exact Nat.div_add_mod _ _
  have hr1:(u*4294967296+w / 4294967296) % Y<Y:=Nat.mod_lt _ (by omega)
  have hq1:(u*4294967296+w / 4294967296) / Y<4294967296:=by rw[Nat.div_lt_iff_lt_mul (by omega)];omega
  obtain⟨q1,hQ1⟩ : ∃q,q=(u*4294967296+w / 4294967296) / Y:=⟨_,rfl⟩
  obtain⟨r1,hR1⟩ : ∃q,q=(u*4294967296+w / 4294967296) % Y:=⟨_,rfl⟩
  rw[←hQ1] at nn1 hq1 f15
  rw[←hR1] at nn1 hr1
  clear hQ1 hR1
  obtain⟨A,hA⟩ : ∃A,A=u*4294967296 % 18446744073709551616:=⟨_,rfl⟩
  have eA:IntKind.u64.wrap ((u:Int)*4294967296)=(A:Int):=by rw[wrapU];omega
  obtain⟨B1,hB1⟩ : ∃B1,B1=A+w / 4294967296:=⟨_,rfl⟩
  have eB:(A:Int)+((w / 4294967296:Nat):Int)=(B1:Int):=by omega
  have hB2:B1<18446744073709551616:=by omega
  have eC0:(q1:Int)*(Y:Int)=((q1*Y:Nat):Int):=by simp
  obtain⟨p1,hp1⟩ : ∃p1,p1=q1*Y:=⟨_,rfl⟩
  rw[←hp1] at nn1 eC0
  obtain⟨C1,hC1⟩ : ∃C1,C1=p1 % 18446744073709551616:=⟨_,rfl⟩
  have eC:IntKind.u64.wrap ((p1:Nat):Int)=(C1:Int):=by rw[wrapU];omega
  have eR1:IntKind.u64.wrap ((B1:Int) - (C1:Int))=(r1:Int):=by rw[wrapU];omega
  have c1:(r1:Int) / (y1:Int)=((r1 / y1:Nat):Int):=by simp
  have dm:=Nat.div_add_mod r1 y1
  have dm2:((r1 / y1:Nat):Int)*(y1:Int)=((y1*(r1 / y1):Nat):Int):=by rw[Nat.mul_comm y1];simp
  have dm3:(r1:Int) - ((y1*(r1 / y1):Nat):Int)=((r1 % y1:Nat):Int):=by omega
  have dl:=Nat.mod_lt r1 (show 0<y1 by omega)
  have dle:r1 / y1≤r1:=Nat.div_le_self _ _
  simp -dsimp (maxSteps:=1000000) (disch:=first|omega|(simp only[new_n,put_n];omega)|decide +kernel|(repeat first|rw[new_n]|rw[put_n])) only[wpS,Nat.reduceEqDiff,f2,f9,f11,f13,f15,eA,eB,eC0,eC,eR1,c1,dm2,dm3]
  refine loop_cut (fun fr h3=>h3=h2∧fget fr 2=some (K64 Y)∧fget fr 8=some (.int .u64 (s:Int))∧fget fr 14=some (K64 (w % 4294967296))∧fget fr 15=some (K64 q1)∧fget fr 17=some (K64 r1)∧fget fr 18=some (K64 ((r1*4294967296+w % 4294967296) / (y1*4294967296+y0')))) ?_ ?_
  ·refine loop (fun m fr h3=>h3=h2 ∧ ∃q r:Nat,q=m∧DivJ y1 y0' r1 (w % 4294967296) q r∧r<4294967296∧fget fr 2=some (K64 Y)∧fget fr 8=some (.int .u64 (s:Int))∧fget fr 9=some (K64 y1)∧fget fr 10=some (K64 y0')∧fget fr 14=some (K64 (w % 4294967296))∧fget fr 15=some (K64 q1)∧fget fr 17=some (K64 r1)∧fget fr 18=some (K64 q)∧fget fr 16=some (K64 r)) (r1 / y1)
    ⟨rfl,_,_,rfl,divJ_start g1 g0 (eYY▸hr1) hw0,by omega,by simp[f2],by simp[f8],by simp[f9],by simp[f10],by simp[f14],by simp[f15],by simp,by simp,by simp⟩ ?_
   clear f2 f8 f9 f10 f11 f13 f14 f15
   rintro m fr h3 ⟨rfl,q,r,rfl,hJ,hr,f2,f8,f9,f10,f14,f15,f17,fq,fr16⟩
   have hqq:=hJ.2.2
   have hUY:r1<y1*4294967296+y0':=eYY▸hr1
   have stepJ:(4294967296≤q∨4294967296*r+w % 4294967296<q*y0')→0<q∧DivJ y1 y0' r1 (w % 4294967296) (q - 1) (r+y1):=fun hc=>divJ_step g1 g0 hUY hw0 hJ hc
   by_cases hqB:4294967296≤q
   ·obtain⟨hq0,hJ2⟩:=stepJ (.inl hqB)
    have eq1:(q:Int) - 1=((q - 1:Nat):Int):=by omega
    have er1:(r:Int)+(y1:Int)=((r+y1:Nat):Int):=by omega
    simp -dsimp (maxSteps:=1000000) (disch:=first|omega|(simp only[new_n,put_n];omega)|decide +kernel|(repeat first|rw[new_n]|rw[put_n])) only[wpS,wpT,Nat.reduceEqDiff,f9,fq,fr16,eq1,er1]
    refine bq_intro ?_ ?_<;>intro hc<;>simp only[decide_eq_true_eq,decide_eq_false_iff_not] at hc
    ·simp -dsimp (maxSteps:=1000000) (disch:=first|omega|(simp only[new_n,put_n];omega)|decide +kernel|(repeat first|rw[new_n]|rw[put_n])) only[wpS,wpT]
     refine⟨rfl,by simp[f2],by simp[f8],by simp[f14],by simp[f15],by simp[f17],?_⟩
     rw[divJ_break g1 g0 hJ2 (by omega) (by omega)];simp
    ·simp -dsimp (maxSteps:=1000000) (disch:=first|omega|(simp only[new_n,put_n];omega)|decide +kernel|(repeat first|rw[new_n]|rw[put_n])) only[wpS,wpT]
     exact⟨q - 1,by omega,rfl,q - 1,r+y1,rfl,hJ2,by omega,by simp[f2],by simp[f8],by simp[f9],by simp[f10],by simp[f14],by simp[f15],by simp[f17],by simp,by simp⟩
   ·have hpm:q*y0'≤4294967295*4294967295:=Nat.mul_le_mul (by omega) (by omega)
    have ep:(q:Int)*(y0':Int)=((q*y0':Nat):Int):=by simp
    generalize hpp:q*y0'=p at *
    simp -dsimp (maxSteps:=1000000) (disch:=first|omega|(simp only[new_n,put_n];omega)|decide +kernel|(repeat first|rw[new_n]|rw[put_n])) only[wpS,wpT,Nat.reduceEqDiff,f10,f14,fq,fr16,ep]
    refine bq_intro ?_ ?_<;>intro hc<;>simp only[decide_eq_true_eq,decide_eq_false_iff_not] at hc
    ·obtain⟨hq0,hJ2⟩:=stepJ (.inr (by omega))
     have eq1:(q:Int) - 1=((q - 1:Nat):Int):=by omega
     have er1:(r:Int)+(y1:Int)=((r+y1:Nat):Int):=by omega
     simp -dsimp (maxSteps:=1000000) (disch:=first|omega|(simp only[new_n,put_n];omega)|decide +kernel|(repeat first|rw[new_n]|rw[put_n])) only[wpS,wpT,Nat.reduceEqDiff,f9,fq,fr16,eq1,er1]
     refine bq_intro ?_ ?_<;>intro hc5<;>simp only[decide_eq_true_eq,decide_eq_false_iff_not] at hc5
     ·simp -dsimp (maxSteps:=1000000) (disch:=first|omega|(simp only[new_n,put_n];omega)|decide +kernel|(repeat first|rw[new_n]|rw[put_n])) only[wpS,wpT]
      refine⟨rfl,by simp[f2],by simp[f8],by simp[f14],by simp[f15],by simp[f17],?_⟩
      rw[divJ_break g1 g0 hJ2 (by omega) (by omega)];simp
     ·simp -dsimp (maxSteps:=1000000) (disch:=first|omega|(simp only[new_n,put_n];omega)|decide +kernel|(repeat first|rw[new_n]|rw[put_n])) only[wpS,wpT]
      exact⟨q - 1,by omega,rfl,q - 1,r+y1,rfl,hJ2,by omega,by simp[f2],by simp[f8],by simp[f9],by simp[f10],by simp[f14],by simp[f15],by simp[f17],by simp,by simp⟩
    ·simp -dsimp (maxSteps:=1000000) (disch:=first|omega|(simp only[new_n,put_n];omega)|decide +kernel|(repeat first|rw[new_n]|rw[put_n])) only[wpS,wpT]
     refine⟨rfl,by simp[f2],by simp[f8],by simp[f14],by simp[f15],by simp[f17],?_⟩
     rw[divJ_done g1 g0 hJ (by rw[hpp];omega)];simp[fq]
  clear f2 f8 f9 f10 f11 f13 f14 f15
  rintro fr h3 ⟨rfl,f2,f8,f14,f15,f17,f18⟩
  rw[←eYY] at f18
  have nn0:((r1*4294967296+w % 4294967296) / Y)*Y+(r1*4294967296+w % 4294967296) % Y=r1*4294967296+w % 4294967296:=by rw[Nat.mul_comm];exact Nat.div_add_mod _ _
  have hr0:(r1*4294967296+w % 4294967296) % Y<Y:=Nat.mod_lt _ (by omega)
  have hq0:(r1*4294967296+w % 4294967296) / Y<4294967296:=by rw[Nat.div_lt_iff_lt_mul (by omega)];omega
  obtain⟨q0,hQ0⟩ : ∃q,q=(r1*4294967296+w % 4294967296) / Y:=⟨_,rfl⟩
  obtain⟨r0,hR0⟩ : ∃q,q=(r1*4294967296+w % 4294967296) % Y:=⟨_,rfl⟩
  rw[←hQ0] at nn0 hq0 f18
  rw[←hR0] at nn0 hr0
  clear hQ0 hR0
  have fin:=div_halves (q1:=q1) (r1:=r1) (q0:=q0) (r0:=r0) hY (by omega) hN (by omega) nn0.symm hr0
  obtain⟨A2,hA2⟩ : ∃A,A=r1*4294967296 % 18446744073709551616:=⟨_,rfl⟩
  have eA2:IntKind.u64.wrap ((r1:Int)*4294967296)=(A2:Int):=by rw[wrapU];omega
  obtain⟨B2,hB2⟩ : ∃B1,B1=A2+w % 4294967296:=⟨_,rfl⟩
  have eB2:(A2:Int)+((w % 4294967296:Nat):Int)=(B2:Int):=by omega
  have eD0:(q0:Int)*(Y:Int)=((q0*Y:Nat):Int):=by simp
  obtain⟨p0,hp0⟩ : ∃p1,p1=q0*Y:=⟨_,rfl⟩
  rw[←hp0] at nn0 eD0
  obtain⟨C2,hC2⟩ : ∃C1,C1=p0 % 18446744073709551616:=⟨_,rfl⟩
  have eD:IntKind.u64.wrap ((p0:Nat):Int)=(C2:Int):=by rw[wrapU];omega
  have eR0:IntKind.u64.wrap ((B2:Int) - (C2:Int))=(r0:Int):=by rw[wrapU];omega
  have eS:nshr r0 s=r0 / 2 ^ s:=Nat.shiftRight_eq_div_pow _ _
  have eQ1:(q1:Int)*4294967296=((q1*4294967296:Nat):Int):=by omega
  have eQ2:((q1*4294967296:Nat):Int)+(q0:Int)=((q1*4294967296+q0:Nat):Int):=by omega
  simp -dsimp (maxSteps:=1000000) (disch:=first|omega|(simp only[new_n,put_n];omega)|decide +kernel|(repeat first|rw[new_n]|rw[put_n])) only[wpS,wpT,Nat.reduceEqDiff,f2,f8,f14,f15,f17,f18,eA2,eB2,eD0,eD,eR0,eS,eQ1,eQ2]
  rw[fin.1,←fin.2]
end Go.Id

/-! Contracts: the program's long integers: numbers of bits, products by powers of 2, quotients. -/
namespace Go.Id
open Go
theorem bq_cutE {P:Program} {fn:FuncId} {nt:Nat} {rd:Option Nat} {a c:Code} {fr:Fr} {h:IH} {Q:IExit→Fr→IH→Prop} {b:Bool} (R:Fr→IH→Prop)
  (h1:b=true→Do (wpC P fn nt rd a fr h) (seqK (fun fr h=>Pst (R fr h) nx) Q) nx) (h2:b=false→Do (wpC P fn nt rd c fr h) (seqK (fun fr h=>Pst (R fr h) nx) Q) nx) (k : ∀fr h,R fr h→Q .normal fr h) :
  Bq b (Do (wpC P fn nt rd a fr h) Q nx,Do (wpC P fn nt rd c fr h) Q nx) nx:=by
 have e:Q=seqK (Q .normal) Q:=by funext e fr h;cases e<;>rfl
 refine bq_intro (fun hb=>?_) fun hb=>?_
 ·rw[e];exact cut R (h1 hb) k
 ·rw[e];exact cut R (h2 hb) k
def BitsOf (x k:Nat):Prop:=(x=0→k=0)∧(x≠0→0<k∧2 ^ (k - 1)≤x∧x<2 ^ k)
theorem length_ok {h:IH} {v:Value} {ds:List Nat} (hd:WrdU h v ds) (n:B.Norm ds):WV Proofs.Try.prog (.func (.func 86) #[] #[]) [v] h fun r h'=>h'=h ∧ ∃k:Nat,r=KN k∧k≤64*ds.length∧BitsOf (B.valD ds) k:=by
 have hb:=hd.2.2
 have hz:=n.nil_iff
 refine enter (nt:=17) (rs:=[.tmp 2]) Proofs.Try.func86 rfl rfl rfl (by simp) ?_
 simp -dsimp (disch:=omega) only[wpS,Nat.reduceEqDiff,hd.1.len sl47]
 refine bq_intro ?_ ?_<;>intro hc<;>simp only[beq_iff_eq,beq_eq_false_iff_ne,ne_eq] at hc
 ·have h0:ds = []:=List.length_eq_zero_iff.1 (by omega)
  simp -dsimp (disch:=omega) only[wpS,wpT,Nat.reduceEqDiff]
  exact⟨0,rfl,by omega,fun _=>rfl,fun hne=>absurd (hz.2 h0) hne⟩
 ·obtain⟨m,hm⟩ : ∃m,ds.length=m+1:=⟨ds.length - 1,by omega⟩
  have hne:ds.getD m 0≠0:=by
   rcases n with rfl|hn
   ·simp at hm
   ·rwa [hm,Nat.add_sub_cancel] at hn
  have dl:=B.getD_lt hd.2.1 m
  have gm:=get_some (show m<ds.length by omega)
  have e1:(ds.length:Int) - 1=(m:Int):=by omega
  simp -dsimp (disch:=omega) only[wpS,wpT,Nat.reduceEqDiff,hd.1.len sl47,e1,hd.1.idx es47 (show m<ds.length by omega),hd.1.ld (Keep.refl _) (P:=Proofs.Try.prog) (t:=23) (c:=m) (by simp<;>omega) ag23,map_get,gm]
  refine call (lz_ok (ds.getD m 0) (by omega) dl) ?_
  rintro _ _ ⟨rfl,s,rfl,hs,_,_,h1,h2⟩
  have e2:(64:Int)*(ds.length:Int) - (s:Int)=((64*m+(63 - s)+1:Nat):Int):=by omega
  have hbits:=B.bits_of (k:=63 - s) hd.2.1 hm h1 (by rw[show 63 - s+1=64 - s by omega];exact h2)
  simp -dsimp (disch:=omega) only[wpS,wpT,Nat.reduceEqDiff,e2]
  refine⟨64*m+(63 - s)+1,rfl,by omega,fun h0=>?_,fun _=>⟨by omega,?_,hbits.2⟩⟩
  ·have:=hz.1 h0
   rw[this] at hm;simp at hm
  ·rw[Nat.add_sub_cancel];exact hbits.1
set_option maxHeartbeats 2000000 in
theorem moved_ok {h:IH} {v:Value} {ds:List Nat} (hd:WrdU h v ds) (k:Nat) (hk:ds.length+k / 64+1≤1100000):WV Proofs.Try.prog (.func (.func 87) #[] #[]) [v,KN k] h fun r h'=>Ext h h'∧Wrd h' r (B.valD ds*2 ^ k):=by
 obtain⟨m,hm⟩ : ∃m,m=k / 64:=⟨_,rfl⟩
 obtain⟨s,hs⟩ : ∃s,s=k % 64:=⟨_,rfl⟩
 have eM:(k:Int) / 64=(m:Int):=by omega
 have eS:(k:Int) % 64=(s:Int):=by omega
 have s64:s<64:=by omega
 have hk2:k=64*m+s:=by omega
 rw[←hm] at hk
 have eL:(ds.length:Int)+(m:Int)+1=((ds.length+m+1:Nat):Int):=by omega
 refine enter (nt:=54) (rs:=[.tmp 4]) Proofs.Try.func87 rfl rfl rfl (by simp) ?_
 simp -dsimp (maxSteps:=1000000) (disch:=first|omega|(simp only[new_n,put_n];omega)|decide +kernel|(repeat first|rw[new_n]|rw[put_n])) only[wpS,wpT,Nat.reduceEqDiff,Nat.reduceAdd,ms47,hd.1.len sl47,eM,eL]
 refine loop (fun j fr h1 => ∃(i:Nat) (os:List Nat),i+j=ds.length∧Ext h h1∧h.n<h1.n∧h1.ext.get h.n=some (.cells (os.map K64) 1 none)∧os.length=ds.length+m+1∧B.Digs os∧B.valD os=B.valT ds i*2 ^ k∧os.getD (i+m) 0<2 ^ s∧(∀j,i+m<j→os.getD j 0=0) ∧
   fget fr 1=some (KN k)∧fget fr 5=some (.slice (some ⟨2*h.n,0,none⟩) (ds.length+m+1) (2*(ds.length+m+1)+1))∧fget fr 15=some v∧fget fr 16=some (KN ds.length)∧fget fr 17=some (KN i)) ds.length
  ⟨0,List.replicate (ds.length+m+1) 0,by omega,(Ext.refl h).new _,by simp,by rw[get_new_same _ _ rfl,repl_k64];rfl,by simp,B.Digs.repl _,by rw[B.valD_repl];simp[B.valT],by rw[B.getD_repl];exact Nat.pow_pos (by omega),fun k _=>B.getD_repl _ _,by simp,by simp,by simp,by simp,by simp⟩ ?_
 rintro j fr h1 ⟨i,os,him,hE,hn,hg,hol,hod,hov,hot,hoz,f1,f5,f15,f16,f17⟩
 simp -dsimp (maxSteps:=1000000) (disch:=first|omega|(simp only[new_n,put_n];omega)|decide +kernel|(repeat first|rw[new_n]|rw[put_n])) only[wpS,f16,f17]
 refine bq_intro ?_ ?_<;>intro hc<;>simp only[decide_eq_true_eq,decide_eq_false_iff_not] at hc
 ·have hi:i<ds.length:=by omega
  have dx:=B.getD_lt hd.2.1 i
  have gx:=get_some hi
  have hr:h1.row (2*h.n)=some (os.map K64):=row_kn hg
  have go:=get_some (show i+m<os.length by omega)
  obtain⟨x,hx⟩ : ∃x,x=ds.getD i 0:=⟨_,rfl⟩
  obtain⟨o,ho⟩ : ∃o,o=os.getD (i+m) 0:=⟨_,rfl⟩
  rw[←hx] at gx dx
  rw[←ho] at go hot
  have gor:(os.map K64)[i+m]?=some (K64 o):=by rw[List.getElem?_map,go];rfl
  have eI:(i:Int)+(m:Int)=((i+m:Nat):Int):=by omega
  obtain⟨y,hy⟩ : ∃y,y=x*2 ^ s % 18446744073709551616:=⟨_,rfl⟩
  have hyl:y<18446744073709551616:=by omega
  have hor:o ||| y=o+y:=B.or_add' hot (by rw[hy];exact B.shl_dvd x s64)
  have hsum:o+y<18446744073709551616:=by
   rw[←hor]
   exact Nat.or_lt_two_pow (n:=64) (Nat.lt_of_lt_of_le hot (Nat.pow_le_pow_right (by omega) (by omega))) hyl
  have eY:x*2 ^ s % 18446744073709551616=y:=hy.symm
  obtain⟨z,hz⟩ : ∃z,z=x / 2 ^ (64 - s):=⟨_,rfl⟩
  have hzl:z<2 ^ s:=by rw[hz];exact B.shr_small dx (by omega)
  have hparts:y+z*18446744073709551616=x*2 ^ s:=by rw[hy,hz];exact B.shl_parts dx s64
  have spl:=spl_k64 (o+y) (show i+m<os.length by omega)
  have hval:B.valD (os.set (i+m) (o+y))=B.valD os+y*18446744073709551616 ^ (i+m):=by
   have:=B.valD_set (o+y) (show i+m<os.length by omega)
   rw[←ho,Nat.add_mul] at this;omega
  have hkey:B.valT ds (i+1)*2 ^ k=B.valT ds i*2 ^ k+(y*18446744073709551616 ^ (i+m)+z*18446744073709551616 ^ (i+1+m)):=by
   have e1:18446744073709551616 ^ (i+1+m)=18446744073709551616*18446744073709551616 ^ (i+m):=by rw[show i+1+m=(i+m)+1 by omega,Nat.pow_succ,Nat.mul_comm]
   have e2:2 ^ k=18446744073709551616 ^ m*2 ^ s:=by rw[B.pow64,←Nat.pow_add,hk2]
   have e3:y*(18446744073709551616 ^ i*18446744073709551616 ^ m)+z*(18446744073709551616*(18446744073709551616 ^ i*18446744073709551616 ^ m))=(y+z*18446744073709551616)*(18446744073709551616 ^ i*18446744073709551616 ^ m):=by rw[Nat.add_mul,Nat.mul_assoc]
   rw[B.valT,←hx,e1,e2,Nat.pow_add,e3,hparts,Nat.add_mul]
   congr 1
   ac_rfl
  have gx':=gx
  simp -dsimp (maxSteps:=1000000) (disch:=first|omega|(simp only[new_n,put_n];omega)|decide +kernel|(repeat first|rw[new_n]|rw[put_n])) only[wpS,wpT,Nat.reduceEqDiff,Nat.reduceLeDiff,es47,ld23,st23,f1,f5,f15,f17,hd.1.idx es47 hi,hd.1.ld hE.keep (P:=Proofs.Try.prog) (t:=23) (c:=i) (by simpa using hi) ag23,map_get,gx,hr,gor,eM,eS,eI,shl_n,eY,hor,hg,spl,List.length_map,hol]
  refine bq_cutE (fun fr2 h2 => ∃os2:List Nat,Ext h h2∧h.n<h2.n∧h2.ext.get h.n=some (.cells (os2.map K64) 1 none)∧os2.length=ds.length+m+1∧B.Digs os2∧B.valD os2=B.valT ds (i+1)*2 ^ k∧os2.getD (i+1+m) 0<2 ^ s∧(∀j,i+1+m<j→os2.getD j 0=0) ∧
   fget fr2 1=some (KN k)∧fget fr2 5=some (.slice (some ⟨2*h.n,0,none⟩) (ds.length+m+1) (2*(ds.length+m+1)+1))∧fget fr2 15=some v∧fget fr2 16=some (KN ds.length)∧fget fr2 17=some (KN i)) (fun hc=>?_) (fun hc=>?_) ?_
  ·simp only[decide_eq_true_eq] at hc
   have eJ:((i+m:Nat):Int)+1=((i+1+m:Nat):Int):=by omega
   have e64:(64:Int) - (s:Int)=((64 - s:Nat):Int):=by omega
   have eZ:nshr x (64 - s)=z:=by rw[hz];exact Nat.shiftRight_eq_div_pow _ _
   have hj2:i+1+m<(os.set (i+m) (o+y)).length:=by rw[List.length_set];omega
   have hz0:(os.set (i+m) (o+y)).getD (i+1+m) 0=0:=by rw[B.getD_set (by omega),if_neg (by omega)];exact hoz _ (by omega)
   have spl2:=spl_k64 z hj2
   have hg2:(h1.put h.n (.cells ((os.set (i+m) (o+y)).map K64) 1 none)).ext.get h.n=some (.cells ((os.set (i+m) (o+y)).map K64) 1 none):=get_put_same _ _ rfl
   simp -dsimp (maxSteps:=1000000) (disch:=first|omega|(simp only[new_n,put_n];omega)|decide +kernel|(repeat first|rw[new_n]|rw[put_n])) only[wpS,wpT,Nat.reduceEqDiff,Nat.reduceLeDiff,es47,st23,f1,f5,eM,eS,eI,eJ,e64,eZ,hg2,spl2,List.length_map,List.length_set,hol]
   refine⟨(os.set (i+m) (o+y)).set (i+1+m) z,(hE.put (Nat.le_refl _) _).put (Nat.le_refl _) _,hn,get_put_same _ _ rfl,by rw[List.length_set,List.length_set,hol],(hod.set _ hsum).set _ (Nat.lt_trans hzl (by exact Nat.lt_of_lt_of_le (Nat.pow_lt_pow_right (by omega) s64) (by omega))),?_,?_,?_,by simp[f1],by simp[f5],by simp[f15],by simp[f16],by simp[f17]⟩
   ·have:=B.valD_set z hj2
    rw[hz0,Nat.zero_mul,Nat.add_zero] at this
    rw[this,hval,hov,hkey,Nat.add_assoc]
   ·rw[B.getD_set hj2,if_pos rfl];exact hzl
   ·intro j hj
    rw[B.getD_set hj2,if_neg (by omega),B.getD_set (by omega),if_neg (by omega)]
    exact hoz _ (by omega)
  ·simp only[decide_eq_false_iff_not] at hc
   have hs0:s=0:=by omega
   have hz0:z=0:=by rw[hs0] at hzl;omega
   simp -dsimp (maxSteps:=1000000) (disch:=first|omega|(simp only[new_n,put_n];omega)|decide +kernel|(repeat first|rw[new_n]|rw[put_n])) only[wpS,wpT]
   refine⟨os.set (i+m) (o+y),hE.put (Nat.le_refl _) _,hn,get_put_same _ _ rfl,by rw[List.length_set,hol],hod.set _ hsum,?_,?_,?_,by simp[f1],by simp[f5],by simp[f15],by simp[f16],by simp[f17]⟩
   ·rw[hval,hov,hkey,hz0,Nat.zero_mul,Nat.add_zero]
   ·rw[B.getD_set (by omega),if_neg (by omega),hoz _ (by omega)];exact Nat.pow_pos (by omega)
   ·intro j hj
    rw[B.getD_set (by omega),if_neg (by omega)]
    exact hoz _ (by omega)
  ·clear hE hn hg hol hod hov hot hoz hr go gor ho hor hsum spl hval hkey f1 f5 f15 f16 f17 gx gx'
   rintro fr2 h2 ⟨os2,hE,hn,hg,hol,hod,hov,hot,hoz,f1,f5,f15,f16,f17⟩
   simp -dsimp (maxSteps:=1000000) (disch:=first|omega|(simp only[new_n,put_n];omega)|decide +kernel|(repeat first|rw[new_n]|rw[put_n])) only[wpS,f17]
   exact⟨j - 1,by omega,i+1,os2,by omega,hE,hn,hg,hol,hod,hov,hot,hoz,by simp[f1],by simp[f5],by simp[f15],by simp[f16],by simp⟩
 ·obtain rfl:i=ds.length:=by omega
  have hW:WrdU h1 (.slice (some ⟨2*h.n,0,none⟩) (ds.length+m+1) (2*(ds.length+m+1)+1)) os:=by
   refine⟨?_,hod,by omega⟩
   rw[hol]
   exact sl_block hg hn (by decide) (by rw[List.length_map,hol];omega) (by omega) (by omega)
  simp -dsimp (maxSteps:=1000000) (disch:=first|omega|(simp only[new_n,put_n];omega)|decide +kernel|(repeat first|rw[new_n]|rw[put_n])) only[wpS,wpT,Nat.reduceEqDiff,f5]
  refine call (trimmed_ok hW false) ?_
  rintro _ h2 ⟨hE2,sv,rfl,hw⟩
  simp -dsimp (maxSteps:=1000000) (disch:=first|omega|(simp only[new_n,put_n];omega)|decide +kernel|(repeat first|rw[new_n]|rw[put_n])) only[wpS,wpT,Nat.reduceEqDiff,Nat.reduceAdd,fp49_1,Bool.false_eq_true]
  refine⟨hE.trans hE2,?_⟩
  simp only[Bool.false_eq_true,if_false,Int.natAbs_natCast] at hw
  rw[hov,show B.valT ds ds.length=B.valD ds from rfl] at hw
  exact hw
theorem lin_step {r x d q0 r0 P B:Nat} (dm:d*q0+r0=r*B+x):r*(P*B)+x*P=d*(q0*P)+r0*P:=by
 have e:(d*q0+r0)*P=(r*B+x)*P:=by rw[dm]
 grind
set_option maxHeartbeats 4000000 in
theorem divided_ok {h:IH} {v w:Value} {a b:List Nat} (ha:WrdU h v a) (hb:WrdU h w b) (na:B.Norm a) (nb:B.Norm b) (hb0:B.valD b≠0) (la:a.length≤1000000) (lb:b.length≤1000000) :
  WV Proofs.Try.prog (.func (.func 81) #[] #[]) [v,w] h fun r h'=>Ext h h' ∧ ∃q t,r=.tuple #[q,t]∧(∃qs,WrdU h' q qs∧B.valD qs=B.valD a / B.valD b)∧Wrd h' t (B.valD a % B.valD b):=by
 have hbz:=nb.nil_iff
 have hbl:0<b.length:=by
  apply Nat.pos_of_ne_zero;intro h0
  exact hb0 (hbz.2 (List.length_eq_zero_iff.1 h0))
 refine enter (nt:=77) (rs:=[.tmp 4,.tmp 5]) Proofs.Try.func81 rfl rfl rfl (by simp) ?_
 simp -dsimp (maxSteps:=1000000) (disch:=first|omega|(simp only[new_n,put_n];omega)|decide +kernel|(repeat first|rw[new_n]|rw[put_n])) only[wpS,Nat.reduceEqDiff,Nat.reduceAdd,ms47,ha.1.len sl47,hb.1.len sl47]
 refine bq_intro ?_ ?_<;>intro hc<;>simp only[beq_iff_eq,beq_eq_false_iff_ne,ne_eq] at hc
 ·have hb1:b.length=1:=by omega
  obtain⟨d,rfl⟩:=List.length_eq_one_iff.1 hb1
  have hv:B.valD [d]=d:=by simp[B.valD,B.valT]
  rw[hv] at hb0 ⊢
  have dd:d<18446744073709551616:=hb.2.1 d (by simp)
  simp -dsimp (maxSteps:=1000000) (disch:=first|omega|(simp only[new_n,put_n];omega)|decide +kernel|(repeat first|rw[new_n]|rw[put_n])) only[wpS,wpT,Nat.reduceEqDiff,ha.1.len sl47]
  refine loop (fun m fr h1 => ∃(r:Nat) (os:List Nat),m≤a.length∧Ext h h1∧h.n<h1.n∧h1.ext.get h.n=some (.cells (os.map K64) 1 none)∧os.length=a.length∧B.Digs os∧r<d∧B.valD a=d*B.valD os+r*18446744073709551616 ^ m+B.valT a m∧(∀j,j<m→os.getD j 0=0) ∧
    fget fr 0=some v∧fget fr 1=some w∧fget fr 4=some (.slice (some ⟨2*h.n,0,none⟩) a.length (2*a.length+1))∧fget fr 6=some (K64 r)∧fget fr 7=some (KI ((m:Int) - 1))) a.length
   ⟨0,List.replicate a.length 0,Nat.le_refl _,(Ext.refl h).new _,by simp,by rw[get_new_same _ _ rfl,repl_k64],by simp,B.Digs.repl _,by omega,by rw[B.valD_repl];simp[B.valD],fun k _=>B.getD_repl _ _,by simp,by simp,by simp,by simp,by simp⟩ ?_
  rintro m fr h1 ⟨r,os,hm,hE,hn,hg,hol,hod,hr,hva,hoz,f0,f1,f4,f6,f7⟩
  rcases Nat.eq_zero_or_pos m with rfl|hp
  ·simp -dsimp (maxSteps:=1000000) (disch:=first|omega|(simp only[new_n,put_n];omega)|decide +kernel|(repeat first|rw[new_n]|rw[put_n])) only[wpS,wpT,Nat.reduceEqDiff,Nat.reduceLeDiff,Nat.reduceAdd,bs47,f4,f6,f7]
   have hbs:WrdU (h1.new (.cells [K64 r] 1 none)) (.slice (some ⟨2*h1.n,0,none⟩) 1 (2*1+1)) [r]:=⟨by simpa using built_sl (h:=h1) (sz:=1) (m:=1) (cs:=[K64 r]) (by omega) rfl (by omega),fun x hx=>by simp at hx;omega,by simp⟩
   refine call (trimmed_ok hbs false) ?_
   rintro _ h2 ⟨hE2,sv,rfl,hw⟩
   simp -dsimp (maxSteps:=1000000) (disch:=first|omega|(simp only[new_n,put_n];omega)|decide +kernel|(repeat first|rw[new_n]|rw[put_n])) only[wpS,wpT,Nat.reduceEqDiff,Nat.reduceAdd,fp49_1,Bool.false_eq_true]
   have e3:=((Ext.refl h1).new (.cells [K64 r] 1 none)).trans hE2
   simp only[Bool.false_eq_true,if_false,Int.natAbs_natCast] at hw
   have hv1:B.valD [r]=r:=by simp[B.valD,B.valT]
   rw[hv1] at hw
   simp only[B.valT,Nat.pow_zero,Nat.mul_one,Nat.add_zero] at hva
   obtain⟨d1,d2⟩:B.valD os=B.valD a / d∧r=B.valD a % d:=by
    rw[hva,Nat.mul_add_mod,Nat.mul_add_div (by omega),Nat.div_eq_of_lt hr,Nat.mod_eq_of_lt hr];exact⟨rfl,rfl⟩
   refine⟨hE.trans e3,_,_,rfl,⟨os,?_,d1⟩,by rw[←d2];exact hw⟩
   refine WrdU.keep (h:=h1) ⟨?_,hod,by omega⟩ e3.keep
   rw[hol]
   exact sl_block hg hn (by decide) (by rw[List.length_map,hol];omega) (by omega) (by omega)
  ·obtain⟨k,rfl⟩ : ∃k,m=k+1:=⟨m - 1,by omega⟩
   have e1:(((k+1:Nat):Int) - 1)=(k:Int):=by omega
   rw[e1] at f7
   have dx:=B.getD_lt ha.2.1 k
   have gx:=get_some (show k<a.length by omega)
   have hr2:h1.row (2*h.n)=some (os.map K64):=row_kn hg
   rw[B.valT] at hva
   obtain⟨x,hx⟩ : ∃x,x=a.getD k 0:=⟨_,rfl⟩
   rw[←hx] at gx dx hva
   have ib:indexAddr Proofs.Try.prog 47 w (.int .i64 0)=some (elemAddr w 0):=by
    simpa using hb.1.idxI (P:=Proofs.Try.prog) (t:=47) es47 (k:=.i64) (i:=0) (by omega) (by simp)
   have lb0:load Proofs.Try.prog h1 23 (elemAddr w 0)=some (K64 d):=hb.1.ld hE.keep (P:=Proofs.Try.prog) (t:=23) (c:=0) (by simp) ag23
   simp -dsimp (maxSteps:=1000000) (disch:=first|omega|(simp only[new_n,put_n];omega)|decide +kernel|(repeat first|rw[new_n]|rw[put_n])) only[wpS,wpT,Nat.reduceEqDiff,f0,f1,f4,f6,f7,ha.1.idx es47 (show k<a.length by omega),ha.1.ld hE.keep (P:=Proofs.Try.prog) (t:=23) (c:=k) (by simp<;>omega) ag23,map_get,gx,ib,lb0]
   refine call (div64_ok r x d hr dx dd) ?_
   rintro _ h2 ⟨rfl,rfl⟩
   have dm:=Nat.div_add_mod (r*18446744073709551616+x) d
   have dl:=Nat.mod_lt (r*18446744073709551616+x) (show 0<d by omega)
   have dq:(r*18446744073709551616+x) / d<18446744073709551616:=by
    rw[Nat.div_lt_iff_lt_mul (by omega)]
    have:(r+1)*18446744073709551616≤d*18446744073709551616:=Nat.mul_le_mul_right _ hr
    omega
   obtain⟨q0,hq0⟩ : ∃q,q=(r*18446744073709551616+x) / d:=⟨_,rfl⟩
   obtain⟨r0,hr0⟩ : ∃q,q=(r*18446744073709551616+x) % d:=⟨_,rfl⟩
   rw[←hq0] at dm dq ⊢
   rw[←hr0] at dm dl ⊢
   have spl:=spl_k64 q0 (show k<os.length by omega)
   simp -dsimp (maxSteps:=1000000) (disch:=first|omega|(simp only[new_n,put_n];omega)|decide +kernel|(repeat first|rw[new_n]|rw[put_n])) only[wpS,wpT,Nat.reduceEqDiff,es47,st23,f7,hg,spl,List.length_map,hol]
   refine⟨k,by omega,r0,os.set k q0,by omega,hE.put (Nat.le_refl _) _,hn,get_put_same _ _ rfl,by rw[List.length_set,hol],hod.set _ dq,dl,?_,?_,by simp[f0],by simp[f1],by simp[f4],by simp,by simp⟩
   ·have:=B.valD_set q0 (show k<os.length by omega)
    rw[hoz k (by omega),Nat.zero_mul,Nat.add_zero] at this
    rw[hva,this,Nat.pow_succ]
    have e5:=lin_step (P:=18446744073709551616 ^ k) dm
    rw[Nat.mul_add]
    omega
   ·intro j hj
    rw[B.getD_set (by omega),if_neg (by omega)]
    exact hoz j (by omega)
 ·simp -dsimp (maxSteps:=1000000) (disch:=first|omega|(simp only[new_n,put_n];omega)|decide +kernel|(repeat first|rw[new_n]|rw[put_n])) only[wpS,wpT,Nat.reduceEqDiff]
  have e0:Ext h (h.new (.cells (repl a.length [K64 0]) 1 none)):=(Ext.refl h).new _
  refine call (length_ok (ha.keep e0.keep) na) ?_
  rintro _ h2 ⟨rfl,L,rfl,hL,hBL⟩
  simp -dsimp (maxSteps:=1000000) (disch:=first|omega|(simp only[new_n,put_n];omega)|decide +kernel|(repeat first|rw[new_n]|rw[put_n])) only[wpS,Nat.reduceEqDiff]
  refine call (length_ok (hb.keep e0.keep) nb) ?_
  rintro _ h3 ⟨rfl,M,rfl,hM,hBM⟩
  obtain⟨M0,M1,M2⟩:=hBM.2 hb0
  have bG:=nb.ge (fun h0=>hb0 (hbz.2 h0))
  rw[B.pow64] at bG
  have bM:64*(b.length - 1)<M:=by
   have h1:2 ^ (64*(b.length - 1))<2 ^ M:=Nat.lt_of_le_of_lt bG M2
   exact(Nat.pow_lt_pow_iff_right (by omega)).1 h1
  have aL:B.valD a<2 ^ L:=by
   rcases Nat.eq_zero_or_pos (B.valD a) with h0|h0
   ·rw[h0];exact Nat.pow_pos (by omega)
   ·exact(hBL.2 (by omega)).2.2
  simp -dsimp (maxSteps:=1000000) (disch:=first|omega|(simp only[new_n,put_n];omega)|decide +kernel|(repeat first|rw[new_n]|rw[put_n])) only[wpS,Nat.reduceEqDiff]
  refine loop (fun m fr h1 => ∃(kk:Int) (V r:Nat) (os:List Nat) (rv:Value),(kk+1=m∨(kk<0∧m=0))∧m≤L+1 - M ∧ -100000000<kk∧Ext h h1∧h.n<h1.n∧h1.ext.get h.n=some (.cells (os.map K64) 1 none)∧os.length=a.length∧B.Digs os∧B.valD os=V∧B.DivB (B.valD a) (B.valD b) m V r∧Wrd h1 rv r ∧
    fget fr 1=some w∧fget fr 4=some (.slice (some ⟨2*h.n,0,none⟩) a.length (2*a.length+1))∧fget fr 5=some rv∧fget fr 8=some (KI kk)) (L+1 - M)
   ⟨(L:Int) - (M:Int),0,B.valD a,List.replicate a.length 0,v,by omega,Nat.le_refl _,by omega,e0,by simp,by rw[get_new_same _ _ rfl,repl_k64],by simp,B.Digs.repl _,B.valD_repl _,?_,⟨a,ha.keep e0.keep,na,rfl⟩,by simp,by simp,by simp,by simp⟩ ?_
  ·by_cases hlm:M≤L+1
   ·have:=B.divB_start (lb:=M - 1) (la:=L) aL M1 (by omega)
    rwa [show L - (M - 1)=L+1 - M by omega] at this
   ·rw[show L+1 - M=0 by omega]
    refine⟨by simp,by simp,?_⟩
    rw[Nat.pow_zero,Nat.mul_one]
    exact Nat.lt_of_lt_of_le aL (Nat.le_trans (Nat.pow_le_pow_right (by omega) (by omega)) M1)
  rintro m fr h1 ⟨kk,V,r,os,rv,hkm,hmL,hkb,hE,hn,hg,hol,hod,hov,hD,hr,f1,f4,f5,f8⟩
  rcases Nat.eq_zero_or_pos m with rfl|hp
  ·have k0:kk<0:=by omega
   simp -dsimp (maxSteps:=1000000) (disch:=first|omega|(simp only[new_n,put_n];omega)|decide +kernel|(repeat first|rw[new_n]|rw[put_n])) only[wpS,wpT,Nat.reduceEqDiff,f4,f5,f8]
   obtain⟨d1,d2⟩:=B.divB_end hD
   refine⟨hE,_,_,rfl,⟨os,⟨?_,hod,by omega⟩,by rw[hov,d1]⟩,by rw[←d2];exact hr⟩
   rw[hol]
   exact sl_block hg hn (by decide) (by rw[List.length_map,hol];omega) (by omega) (by omega)
  ·obtain⟨k,rfl⟩ : ∃k,m=k+1:=⟨m - 1,by omega⟩
   obtain rfl:kk=(k:Int):=by omega
   have hk0:(0:Int)≤(k:Int):=by omega
   simp -dsimp (maxSteps:=1000000) (disch:=first|omega|(simp only[new_n,put_n];omega)|decide +kernel|(repeat first|rw[new_n]|rw[put_n])) only[wpS,wpT,Nat.reduceEqDiff,f1,f8]
   refine call (moved_ok (hb.keep hE.keep) k (by omega)) ?_
   rintro t h2 ⟨hE2,ht⟩
   simp -dsimp (maxSteps:=1000000) (disch:=first|omega|(simp only[new_n,put_n];omega)|decide +kernel|(repeat first|rw[new_n]|rw[put_n])) only[wpS,Nat.reduceEqDiff,f5]
   obtain⟨rs,hrs,nr,vr⟩:=id hr
   obtain⟨ts,hts,nt,vt⟩:=id ht
   refine call (compared_ok (hrs.keep hE2.keep) hts nr nt) ?_
   rintro _ h3 ⟨rfl,c,rfl,c1,c2,c3,c4⟩
   rw[vr,vt] at c1
   simp -dsimp (maxSteps:=1000000) (disch:=first|omega|(simp only[new_n,put_n];omega)|decide +kernel|(repeat first|rw[new_n]|rw[put_n])) only[wpS,Nat.reduceEqDiff]
   have hg3:=(hE2.get _ hn).trans hg
   have hn3:h.n<h3.n:=Nat.lt_of_lt_of_le hn hE2.n
   refine bq_cutE (fun fr2 h4 => ∃(V2 r2:Nat) (os2:List Nat) (rv2:Value),Ext h h4∧h.n<h4.n∧h4.ext.get h.n=some (.cells (os2.map K64) 1 none)∧os2.length=a.length∧B.Digs os2∧B.valD os2=V2∧B.DivB (B.valD a) (B.valD b) k V2 r2∧Wrd h4 rv2 r2 ∧
    fget fr2 1=some w∧fget fr2 4=some (.slice (some ⟨2*h.n,0,none⟩) a.length (2*a.length+1))∧fget fr2 5=some rv2∧fget fr2 8=some (KN k)) (fun hc=>?_) (fun hc=>?_) ?_
   ·simp only[decide_eq_true_eq] at hc
    have hge:B.valD b*2 ^ k≤r:=by omega
    simp -dsimp (maxSteps:=1000000) (disch:=first|omega|(simp only[new_n,put_n];omega)|decide +kernel|(repeat first|rw[new_n]|rw[put_n])) only[wpS,wpT,Nat.reduceEqDiff,f5]
    refine call (taken_ok (hrs.keep hE2.keep) hts nt (by rw[vr,vt];exact hge)) ?_
    rintro _ h4 ⟨hE4,xs,rfl,hxs,hxv⟩
    simp -dsimp (maxSteps:=1000000) (disch:=first|omega|(simp only[new_n,put_n];omega)|decide +kernel|(repeat first|rw[new_n]|rw[put_n])) only[wpS,Nat.reduceEqDiff]
    refine call (trimmed_at hxs false) ?_
    rintro _ h5 ⟨⟨hE5,sv,rfl,hw0⟩,hput⟩
    have hw:=hput h.n (.cells ((os.set (k / 64) (os.getD (k / 64) 0+2 ^ (k % 64))).map K64) 1 none) (by simp only[blockOf,ne_eq,Option.some.injEq];omega)
    obtain⟨_,hsv,hw⟩:=hw
    cases hsv
    simp only[Bool.false_eq_true,if_false,Int.natAbs_natCast] at hw
    rw[hxv,vr,vt] at hw
    have x35:=hE4.trans hE5
    have hg5:=(x35.get _ hn3).trans hg3
    have hn5:h.n<h5.n:=Nat.lt_of_lt_of_le hn3 x35.n
    have hki:k / 64<os.length:=by omega
    have hr5:h5.row (2*h.n)=some (os.map K64):=row_kn hg5
    have go:=get_some hki
    obtain⟨bs1,bs2⟩:=B.bit_set (k:=k) hod (by rw[hov];exact hD.2.1)
    have hvs:=B.valD_set (os.getD (k / 64) 0+2 ^ (k % 64)) hki
    obtain⟨o,ho⟩ : ∃o,o=os.getD (k / 64) 0:=⟨_,rfl⟩
    rw[←ho] at go bs1 bs2 hvs hw
    have gor:(os.map K64)[k / 64]?=some (K64 o):=by rw[List.getElem?_map,go];rfl
    have eM:(k:Int) / 64=((k / 64:Nat):Int):=by omega
    have eS:(k:Int) % 64=((k % 64:Nat):Int):=by omega
    have hS:k % 64<64:=Nat.mod_lt _ (by omega)
    have hMM:k / 64≤1000000:=by omega
    have hpl:2 ^ (k % 64)<18446744073709551616:=Nat.pow_lt_pow_right (n:=64) (by omega) hS
    have spl:=spl_k64 (o+2 ^ (k % 64)) hki
    have hDn:=B.divB_one hD hge
    have hpk:2 ^ (k % 64)*18446744073709551616 ^ (k / 64)=2 ^ k:=by rw[B.pow64,←Nat.pow_add];congr 1;omega
    obtain⟨km,hkm⟩ : ∃km,km=k / 64:=⟨_,rfl⟩
    obtain⟨ks,hks⟩ : ∃ks,ks=k % 64:=⟨_,rfl⟩
    rw[←hkm] at eM hki go gor spl hMM hvs hpk hw
    rw[←hks] at eS hS bs1 bs2 spl hvs hpk hw hpl
    have hbo:=fun t ox oy=>binop_or_u64 Proofs.Try.prog t ox oy o (2 ^ ks) (Nat.lt_of_le_of_lt (Nat.le_add_right _ _) bs2) hpl
    simp -dsimp (maxSteps:=1000000) (disch:=first|omega|(simp only[new_n,put_n];omega)|decide +kernel|(repeat first|rw[new_n]|rw[put_n])) only[wpS,wpT,Nat.reduceEqDiff,Nat.reduceAdd,es47,ld23,st23,fp49_1,f4,f8,eM,eS,hr5,gor,hbo,bs1,hg5,spl,List.length_map,hol,Bool.false_eq_true]
    refine⟨V+2 ^ k,r - B.valD b*2 ^ k,os.set km (o+2 ^ ks),sv,(hE.trans (hE2.trans x35)).put (Nat.le_refl _) _,hn5,get_put_same _ _ rfl,by rw[List.length_set,hol],hod.set _ bs2,?_,hDn,?_,by simp[f1],by simp[f4],by simp,by simp[f8]⟩
    ·rw[Nat.add_mul,hpk] at hvs
     omega
    ·exact hw
   ·simp only[decide_eq_false_iff_not] at hc
    have hlt:r<B.valD b*2 ^ k:=by omega
    simp -dsimp (maxSteps:=1000000) (disch:=first|omega|(simp only[new_n,put_n];omega)|decide +kernel|(repeat first|rw[new_n]|rw[put_n])) only[wpS,wpT]
    exact⟨V,r,os,rv,hE.trans hE2,hn3,hg3,hol,hod,hov,B.divB_zero hD hlt,hr.keep hE2.keep,by simp[f1],by simp[f4],by simp[f5],by simp[f8]⟩
   ·clear hr hg hn hol hod hov hD f1 f4 f5 f8 hE
    rintro fr2 h4 ⟨V2,r2,os2,rv2,hE,hn,hg,hol,hod,hov,hD,hr,f1,f4,f5,f8⟩
    simp -dsimp (maxSteps:=1000000) (disch:=first|omega|(simp only[new_n,put_n];omega)|decide +kernel|(repeat first|rw[new_n]|rw[put_n])) only[wpS,Nat.reduceEqDiff,f8]
    exact⟨k,by omega,(k:Int) - 1,V2,r2,os2,rv2,by omega,by omega,by omega,hE,hn,hg,hol,hod,hov,hD,hr,by simp[f1],by simp[f4],by simp[f5],by simp⟩
end Go.Id

/-! Contracts: the reference's long integers: products, quotients, divisors. -/
namespace Go.Id
open Go
theorem pow_one_lt (b k:Nat) (hb:1<b) (hk:k≠0):1<b ^ k:=Nat.one_lt_pow hk hb
theorem pow_base (a b k:Nat) (h:a≤b):a ^ k≤b ^ k:=Nat.pow_le_pow_left h k
theorem pow_conv (b c k m n:Nat) (h:b=c ^ m) (h2:n=m*k):b ^ k=c ^ n:=by rw[h,h2,Nat.pow_mul]
theorem pow_lt2 (b k n:Nat) (hb:1<b) (h:k<n):b ^ k<b ^ n:=Nat.pow_lt_pow_right hb h
theorem half_mul (b k m x y:Nat) (hm:m=k+k) (h1:x<b ^ k) (h2:y<b ^ k):x*y<b ^ m:=by
 rw[hm,Nat.pow_add]
 exact Nat.mul_lt_mul'' h1 h2
theorem small1:Small 1:=.mk (pow_one_lt 4294967296 1000000 (by decide) (by decide))
theorem small_nat {n:Nat} (h:Small n):SmallI (n:Int):=(Int.natAbs_natCast n).symm▸h
@[irreducible] def Half (x:Nat):Prop:=x<4294967296 ^ 500000
abbrev HalfI (z:Int):Prop:=Half z.natAbs
theorem Half.lt {x:Nat} (h:Half x):x<4294967296 ^ 500000:=by unfold Half at h;exact h
theorem Half.mk {x:Nat} (h:x<4294967296 ^ 500000):Half x:=by unfold Half;exact h
theorem Half.le {x y:Nat} (h:Half x) (k:y≤x):Half y:=.mk (Nat.lt_of_le_of_lt k h.lt)
theorem Half.small {x:Nat} (h:Half x):Small x:=by
 have:=h.lt
 refine .mk ?_
 exact Nat.lt_of_lt_of_le this (pow_up 4294967296 (by decide) 500000 1000000 (by decide))
theorem Half.mul {x y:Nat} (h:Half x) (k:Half y):Small (x*y):=.mk (half_mul 4294967296 500000 1000000 x y (by decide) h.lt k.lt)
theorem Half.len {ds:List Nat} (h:Half (valD ds)) (n:Norm ds):ds.length≤500000:=n.lenlt h.lt
theorem sign_mul (x y:Int):(if (decide (x<0) != decide (y<0))=true then -((x.natAbs*y.natAbs:Nat):Int) else ((x.natAbs*y.natAbs:Nat):Int))=x*y:=by
 have e1:((x.natAbs*y.natAbs:Nat):Int)=(x.natAbs:Int)*(y.natAbs:Int):=by simp
 rw[e1]
 rcases Int.lt_or_le x 0 with hx|hx<;>rcases Int.lt_or_le y 0 with hy|hy
 ·have a:(x.natAbs:Int) = -x:=by omega
  have b:(y.natAbs:Int) = -y:=by omega
  simp[hx,hy,a,b,Int.neg_mul_neg]
 ·have a:(x.natAbs:Int) = -x:=by omega
  have b:(y.natAbs:Int)=y:=by omega
  have c : ¬y<0:=by omega
  simp[hx,c,a,b,Int.neg_mul]
 ·have a:(x.natAbs:Int)=x:=by omega
  have b:(y.natAbs:Int) = -y:=by omega
  have c : ¬x<0:=by omega
  simp[hy,c,a,b,Int.mul_neg]
 ·have a:(x.natAbs:Int)=x:=by omega
  have b:(y.natAbs:Int)=y:=by omega
  have c : ¬x<0:=by omega
  have d : ¬y<0:=by omega
  simp[c,d,a,b]
theorem tk_two (a b:Value):List.take 2 [a,b] = [a,b]:=rfl
theorem bne_bool (a b:Bool):(!(a == b))=(a != b):=rfl
theorem parts_a {x y:Int} (hy:y≠0) (h : ¬(if decide (x<0)=true then -((x.natAbs % y.natAbs:Nat):Int) else ((x.natAbs % y.natAbs:Nat):Int))<0) :
  (if (decide (x<0) != decide (y<0))=true then -((x.natAbs / y.natAbs:Nat):Int) else ((x.natAbs / y.natAbs:Nat):Int))=x / y∧(if decide (x<0)=true then -((x.natAbs % y.natAbs:Nat):Int) else ((x.natAbs % y.natAbs:Nat):Int))=x % y:=by
 have hb:0<y.natAbs:=by omega
 have h1:=Nat.div_add_mod x.natAbs y.natAbs
 have h2:=Nat.mod_lt x.natAbs hb
 generalize x.natAbs / y.natAbs=q at *
 generalize x.natAbs % y.natAbs=r at *
 have h1':(y.natAbs:Int)*(q:Int)+(r:Int)=(x.natAbs:Int):=by rw[←h1];simp
 have key : ∀y':Int,0<y' → ∀q' r':Int,r'+y'*q'=x→0≤r'→r'<y'→x / y'=q'∧x % y'=r':=fun y' hy' q' r' a b c=>(Int.ediv_emod_unique hy').2 ⟨a,b,c⟩
 rcases Int.lt_or_le x 0 with hx|hx
 ·simp only[hx,decide_true,if_true] at h ⊢
  obtain rfl:r=0:=by omega
  rcases Int.lt_or_le y 0 with hy0|hy0
  ·have a:(x.natAbs:Int) = -x:=by omega
   have b:(y.natAbs:Int) = -y:=by omega
   rw[a,b] at h1'
   obtain⟨k1,k2⟩:=key (-y) (by omega) (-q) 0 (by rw[Int.mul_neg];omega) (by omega) (by omega)
   rw[Int.ediv_neg] at k1
   rw[Int.emod_neg] at k2
   simp only[hy0,decide_true,bne_self_eq_false,Bool.false_eq_true,if_false]
   exact⟨by omega,by omega⟩
  ·have a:(x.natAbs:Int) = -x:=by omega
   have b:(y.natAbs:Int)=y:=by omega
   rw[a,b] at h1'
   obtain⟨k1,k2⟩:=key y (by omega) (-q) 0 (by rw[Int.mul_neg];omega) (by omega) (by omega)
   have : ¬y<0:=by omega
   simp only[this,decide_false,bne_iff_ne,ne_eq,reduceCtorEq,not_false_eq_true,if_true]
   exact⟨by omega,by omega⟩
 ·have hx' : ¬x<0:=by omega
  simp only[hx',decide_false,Bool.false_eq_true,if_false] at h ⊢
  rcases Int.lt_or_le y 0 with hy0|hy0
  ·have a:(x.natAbs:Int)=x:=by omega
   have b:(y.natAbs:Int) = -y:=by omega
   rw[a,b] at h1'
   obtain⟨k1,k2⟩:=key (-y) (by omega) q r (by omega) (by omega) (by omega)
   rw[Int.ediv_neg] at k1
   rw[Int.emod_neg] at k2
   simp only[hy0,decide_true,bne_iff_ne,ne_eq,reduceCtorEq,not_false_eq_true,if_true]
   exact⟨by omega,by omega⟩
  ·have a:(x.natAbs:Int)=x:=by omega
   have b:(y.natAbs:Int)=y:=by omega
   rw[a,b] at h1'
   obtain⟨k1,k2⟩:=key y (by omega) q r (by omega) (by omega) (by omega)
   have : ¬y<0:=by omega
   simp only[this,decide_false,bne_self_eq_false,Bool.false_eq_true,if_false]
   exact⟨by omega,by omega⟩
theorem parts_b {x y:Int} (hy:y≠0) (h:(if decide (x<0)=true then -((x.natAbs % y.natAbs:Nat):Int) else ((x.natAbs % y.natAbs:Nat):Int))<0) :
  (if (decide (x<0) != decide (y<0))=true then -((x.natAbs / y.natAbs:Nat):Int) else ((x.natAbs / y.natAbs:Nat):Int))+(if y<0 then 1 else -1)=x / y∧(if decide (x<0)=true then -((x.natAbs % y.natAbs:Nat):Int) else ((x.natAbs % y.natAbs:Nat):Int))+(y.natAbs:Int)=x % y:=by
 have hb:0<y.natAbs:=by omega
 have h1:=Nat.div_add_mod x.natAbs y.natAbs
 have h2:=Nat.mod_lt x.natAbs hb
 generalize x.natAbs / y.natAbs=q at *
 generalize x.natAbs % y.natAbs=r at *
 have h1':(y.natAbs:Int)*(q:Int)+(r:Int)=(x.natAbs:Int):=by rw[←h1];simp
 have key : ∀y':Int,0<y' → ∀q' r':Int,r'+y'*q'=x→0≤r'→r'<y'→x / y'=q'∧x % y'=r':=fun y' hy' q' r' a b c=>(Int.ediv_emod_unique hy').2 ⟨a,b,c⟩
 have hx:x<0:=by
  apply Classical.byContradiction;intro hn
  simp only[hn,decide_false,Bool.false_eq_true,if_false] at h
  omega
 simp only[hx,decide_true,if_true] at h ⊢
 have a:(x.natAbs:Int) = -x:=by omega
 rcases Int.lt_or_le y 0 with hy0|hy0
 ·have b:(y.natAbs:Int) = -y:=by omega
  rw[a,b] at h1'
  obtain⟨k1,k2⟩:=key (-y) (by omega) (-(q+1)) (-y - r) (by rw[Int.mul_neg,Int.mul_add];omega) (by omega) (by omega)
  rw[Int.ediv_neg] at k1
  rw[Int.emod_neg] at k2
  simp only[hy0,decide_true,bne_self_eq_false,Bool.false_eq_true,if_false,if_true]
  exact⟨by omega,by omega⟩
 ·have b:(y.natAbs:Int)=y:=by omega
  rw[a,b] at h1'
  obtain⟨k1,k2⟩:=key y (by omega) (-(q+1)) (y - r) (by rw[Int.mul_neg,Int.mul_add];omega) (by omega) (by omega)
  have : ¬y<0:=by omega
  simp only[this,decide_false,bne_iff_ne,ne_eq,reduceCtorEq,not_false_eq_true,if_true,if_false]
  exact⟨by omega,by omega⟩
theorem sgn_abs (b:Bool) (n:Nat):(if b=true then -(n:Int) else (n:Int)).natAbs=n:=by cases b<;>simp
end Go.Id

/-! Contracts: the program's long integers: sums, differences, products, quotients, divisors. -/
namespace Go.Id
open Go
theorem small64' {ds:List Nat} (n:B.Norm ds) (h:Small (B.valD ds)):ds.length≤1000000:=by
 refine n.lenlt (Nat.lt_of_lt_of_le h.lt ?_)
 exact pow_base 4294967296 18446744073709551616 1000000 (by decide)
theorem half64' {ds:List Nat} (n:B.Norm ds) (h:Half (B.valD ds)):ds.length≤500000:=by
 refine n.lenlt (Nat.lt_of_lt_of_le h.lt ?_)
 exact pow_base 4294967296 18446744073709551616 500000 (by decide)
abbrev ZL:List Value:=[.bool false,.slice none 0 0]
theorem pturned_ok {h:IH} {v:Value} {z:Int} (hv:PLong h v z):WV Proofs.Try.prog (.func (.func 68) #[] #[]) [v] h fun r h'=>Ext h h'∧PLong h' r (-z):=by
 obtain⟨s,rfl,ds,hD,hN,hx⟩:=hv
 refine enter (nt:=9) (rs:=[.cell 2 49]) Proofs.Try.func68 rfl rfl rfl (by simp) ?_
 simp -dsimp (maxSteps:=1000000) (disch:=first|omega|(simp only[new_n,put_n];omega)|decide +kernel|(repeat first|rw[new_n]|rw[put_n])) only[wpS,Nat.reduceEqDiff,zc49,fa49_0,ld4,fa49_1,ld47]
 refine call (trimmed_ok (hD.keep (((Keep.refl h).new _).new _)) _) ?_
 rintro r h1 ⟨hE,h2⟩
 have hz:(if (!decide (z<0))=true then -(B.valD ds:Int) else B.valD ds) = -z:=by
  by_cases h0:z<0<;>simp[h0]<;>omega
 rw[hz] at h2
 obtain⟨s1,n1,rfl,c1,o1,_,_⟩:=h2.form
 have n1:=(hE).n;try simp only[new_n] at n1
 have hg:h1.ext.get (h.n+1)=some (.cells ZL 0 none):=by rw[hE.get _ (by simp)];simp (disch:=first|omega|(simp only[new_n,put_n];omega)|(repeat first|rw[new_n]|rw[put_n])) only[get_new_same]
 simp -dsimp (maxSteps:=1000000) (disch:=first|omega|(simp only[new_n,put_n];omega)|decide +kernel|(repeat first|rw[new_n]|rw[put_n])) only[wpS,wpT,Nat.reduceEqDiff,Nat.reduceLeDiff,Nat.reduceAdd,st49,ld49,hg,o1]
 exact⟨((((Ext.refl h).new _).new _).trans hE).put (by omega) _,h2.keep ((Keep.refl _).put hg _)⟩
set_option maxHeartbeats 4000000 in
theorem pplus_ok {h:IH} {v w:Value} {x y:Int} (hv:PLong h v x) (hw:PLong h w y) (sx:SmallI x) (sy:SmallI y) :
  WV Proofs.Try.prog (.func (.func 49) #[] #[]) [v,w] h fun r h'=>Ext h h'∧PLong h' r (x+y):=by
 obtain⟨s,rfl,a,ha,na,hx⟩:=hv
 obtain⟨t,rfl,b,hb,nb,hy⟩:=hw
 have la:a.length≤1000000:=small64' na (by rw[hx];exact sx)
 have lb:b.length≤1000000:=small64' nb (by rw[hy];exact sy)
 refine enter (nt:=34) (rs:=[.cell 4 49]) Proofs.Try.func49 rfl rfl rfl (by simp) ?_
 simp -dsimp (maxSteps:=1000000) (disch:=first|omega|(simp only[new_n,put_n];omega)|decide +kernel|(repeat first|rw[new_n]|rw[put_n])) only[wpS,Nat.reduceEqDiff,Nat.reduceAdd,zc49,fa49_0,ld4,be4]
 have ee : ∀o1 o2 o3,Ext h (((h.new o1).new o2).new o3):=fun o1 o2 o3=>(((Ext.refl h).new _).new _).new _
 refine bq_intro (fun hc=>?_) (fun hc=>?_)
 ·have hc:(x<0↔y<0):=by simpa using hc
  simp -dsimp (maxSteps:=1000000) (disch:=first|omega|(simp only[new_n,put_n];omega)|decide +kernel|(repeat first|rw[new_n]|rw[put_n])) only[wpS]
  refine drawn [(1,[7])] (by kernel_rfl) (by kernel_rfl) rfl ?_
  simp -dsimp (maxSteps:=1000000) (disch:=first|omega|(simp only[new_n,put_n];omega)|decide +kernel|(repeat first|rw[new_n]|rw[put_n])) only[wpS,Nat.reduceEqDiff,fa49_0,ld4,fa49_1,ld47]
  refine call (added_ok (ha.keep (ee _ _ _).keep) (hb.keep (ee _ _ _).keep) (by omega) (by omega)) ?_
  rintro r h1 ⟨hE,os,hD,hval⟩
  simp -dsimp (maxSteps:=1000000) (disch:=first|omega|(simp only[new_n,put_n];omega)|decide +kernel|(repeat first|rw[new_n]|rw[put_n])) only[wpS,Nat.reduceEqDiff]
  refine call (trimmed_ok hD _) ?_
  rintro r2 h2 ⟨hE2,hr⟩
  have hz:(if decide (x<0)=true then -(B.valD os:Int) else B.valD os)=x+y:=by
   by_cases h0:x<0<;>simp[h0]<;>omega
  rw[hz] at hr
  obtain⟨s1,n1,rfl,c1,o1,_,_⟩:=hr.form
  have m1:=(hE).n;try simp only[new_n] at m1
  have m2:=(hE2).n;try simp only[new_n,put_n] at m2
  have hg:h2.ext.get (h.n+1+1)=some (.cells ZL 0 none):=by rw[hE2.get _ (by omega),hE.get _ (by simp)];simp (disch:=first|omega|(simp only[new_n,put_n];omega)|(repeat first|rw[new_n]|rw[put_n])) only[get_new_same]
  have hr0:h1.row (2*h.n)=some [.bool (decide (x<0)),s]:=by
   rw[hE.row (by simp<;>omega)];simp -dsimp (maxSteps:=1000000) (disch:=first|omega|(simp only[new_n,put_n];omega)|decide +kernel|(repeat first|rw[new_n]|rw[put_n])) only[wpS]
  simp -dsimp (maxSteps:=1000000) (disch:=first|omega|(simp only[new_n,put_n];omega)|decide +kernel|(repeat first|rw[new_n]|rw[put_n])) only[wpS,wpT,Nat.reduceEqDiff,Nat.reduceLeDiff,Nat.reduceAdd,st49,hg,o1]
  refine⟨wpSteady_one rfl rfl rfl rfl (steady_load (av:=ptr (2*h.n) 0) (v:=.bool (decide (x<0))) rfl ?_ ?_),?_⟩
  ·simp -dsimp (maxSteps:=1000000) (disch:=first|omega|(simp only[new_n,put_n];omega)|decide +kernel|(repeat first|rw[new_n]|rw[put_n])) only[wpS,ld4]
  ·simp -dsimp (maxSteps:=1000000) (disch:=first|omega|(simp only[new_n,put_n];omega)|decide +kernel|(repeat first|rw[new_n]|rw[put_n])) only[wpS,ld4,hr0]
  ·simp -dsimp (maxSteps:=1000000) (disch:=first|omega|(simp only[new_n,put_n];omega)|decide +kernel|(repeat first|rw[new_n]|rw[put_n])) only[wpS,wpT,Nat.reduceEqDiff,Nat.reduceLeDiff,Nat.reduceAdd,ld49]
   exact⟨(((ee _ _ _).trans hE).trans hE2).put (by omega) _,hr.keep ((Keep.refl _).put hg _)⟩
 ·have hc : ¬(x<0↔y<0):=by simpa using hc
  simp -dsimp (maxSteps:=1000000) (disch:=first|omega|(simp only[new_n,put_n];omega)|decide +kernel|(repeat first|rw[new_n]|rw[put_n])) only[wpS,Nat.reduceEqDiff,fa49_1,ld47]
  refine call (compared_ok (ha.keep (ee _ _ _).keep) (hb.keep (ee _ _ _).keep) na nb) ?_
  rintro r h1 ⟨rfl,c,rfl,hc1,hc2,hc3,hc4⟩
  simp -dsimp (maxSteps:=1000000) (disch:=first|omega|(simp only[new_n,put_n];omega)|decide +kernel|(repeat first|rw[new_n]|rw[put_n])) only[wpS,Nat.reduceEqDiff]
  refine bq_cut (fun fr2 h4 => ∃(p q:Int) (sp sq:Value) (ps qs:List Nat),Ext h h4∧h.n+3≤h4.n∧h4.ext.get h.n=some (.cells [.bool (decide (p<0)),sp] 0 none)∧h4.ext.get (h.n+1)=some (.cells [.bool (decide (q<0)),sq] 0 none)∧h4.ext.get (h.n+1+1)=some (.cells ZL 0 none) ∧
   WrdU h4 sp ps∧WrdU h4 sq qs∧B.Norm ps∧B.Norm qs∧B.valD ps=p.natAbs∧B.valD qs=q.natAbs∧q.natAbs≤p.natAbs∧p+q=x+y ∧ ¬(p<0↔q<0)∧fget fr2 2=some (ptr (2*h.n) 0)∧fget fr2 3=some (ptr (2*(h.n+1)) 0)∧fget fr2 4=some (ptr (2*(h.n+1+1)) 0)) (fun hc5=>?_) (fun hc5=>?_) ?_
  ·simp only[decide_eq_true_eq] at hc5
   simp -dsimp (maxSteps:=1000000) (disch:=first|omega|(simp only[new_n,put_n];omega)|decide +kernel|(repeat first|rw[new_n]|rw[put_n])) only[wpS,wpT,Nat.reduceEqDiff,Nat.reduceLeDiff,Nat.reduceAdd,st49,ld49,List.drop_zero,tk_two,ha.1.cok,hb.1.cok]
   have g0:(((h.new (.cells [.bool (decide (x<0)),s] 0 none)).new (.cells [.bool (decide (y<0)),t] 0 none)).new (.cells [.bool false,.slice none 0 0] 0 none)).ext.get h.n=some (.cells [.bool (decide (x<0)),s] 0 none):=by simp (disch:=first|omega|(simp only[new_n,put_n];omega)|(repeat first|rw[new_n]|rw[put_n])) only[get_new_same,get_new_old]
   have g1:((((h.new (.cells [.bool (decide (x<0)),s] 0 none)).new (.cells [.bool (decide (y<0)),t] 0 none)).new (.cells [.bool false,.slice none 0 0] 0 none)).put h.n (.cells [.bool (decide (y<0)),t] 0 none)).ext.get (h.n+1)=some (.cells [.bool (decide (y<0)),t] 0 none):=by simp (disch:=first|omega|(simp only[new_n,put_n];omega)|(repeat first|rw[new_n]|rw[put_n])) only[get_new_same,get_new_old,get_put_old]
   have kp:=((ee _ _ _).keep.put g0 (.cells [.bool (decide (y<0)),t] 0 none)).put g1 (.cells [.bool (decide (x<0)),s] 0 none)
   refine⟨y,x,t,s,b,a,((ee _ _ _).put (Nat.le_refl _) _).put (by omega) _,by simp<;>omega,by simp (disch:=first|omega|(simp only[new_n,put_n];omega)|(repeat first|rw[new_n]|rw[put_n])) only[get_put_same,get_put_old],by simp (disch:=first|omega|(simp only[new_n,put_n];omega)|(repeat first|rw[new_n]|rw[put_n])) only[get_put_same],by simp (disch:=first|omega|(simp only[new_n,put_n];omega)|(repeat first|rw[new_n]|rw[put_n])) only[get_new_same,get_put_old],hb.keep kp,ha.keep kp,nb,na,hy,hx,by omega,by omega,by omega,by simp,by simp,by simp⟩
  ·simp only[decide_eq_false_iff_not] at hc5
   simp -dsimp (maxSteps:=1000000) (disch:=first|omega|(simp only[new_n,put_n];omega)|decide +kernel|(repeat first|rw[new_n]|rw[put_n])) only[wpS,wpT]
   exact⟨x,y,s,t,a,b,ee _ _ _,by simp<;>omega,by simp (disch:=first|omega|(simp only[new_n,put_n];omega)|(repeat first|rw[new_n]|rw[put_n])) only[get_new_same,get_new_old],by simp (disch:=first|omega|(simp only[new_n,put_n];omega)|(repeat first|rw[new_n]|rw[put_n])) only[get_new_same,get_new_old],by simp (disch:=first|omega|(simp only[new_n,put_n];omega)|(repeat first|rw[new_n]|rw[put_n])) only[get_new_same],ha.keep (ee _ _ _).keep,hb.keep (ee _ _ _).keep,na,nb,hx,hy,by omega,rfl,hc,by simp,by simp,by simp⟩
  rintro fr h4 ⟨p,q,sp,sq,ps,qs,hE4,hn4,g0,g1,g2,hp,hq,np,nq,vp,vq,hle,hsum,hsg,f2,f3,f4⟩
  have r0:=row_kn g0
  have r1:=row_kn g1
  rw[d_seq]
  refine drawn [(1,[7])] (by kernel_rfl) (by kernel_rfl) rfl ?_
  simp -dsimp (maxSteps:=1000000) (disch:=first|omega|(simp only[new_n,put_n];omega)|decide +kernel|(repeat first|rw[new_n]|rw[put_n])) only[wpS,Nat.reduceEqDiff,fa49_0,ld4,fa49_1,ld47,f2,f3,r0,r1]
  refine call (taken_ok hp hq nq (by omega)) ?_
  rintro r h5 ⟨hE5,os,rfl,hD,hval⟩
  simp -dsimp (maxSteps:=1000000) (disch:=first|omega|(simp only[new_n,put_n];omega)|decide +kernel|(repeat first|rw[new_n]|rw[put_n])) only[wpS,Nat.reduceEqDiff]
  refine call (trimmed_ok hD _) ?_
  rintro r2 h6 ⟨hE6,hr⟩
  have hz:(if decide (p<0)=true then -(B.valD os:Int) else B.valD os)=x+y:=by
   by_cases h0:p<0<;>simp[h0]<;>omega
  rw[hz] at hr
  obtain⟨s1,n1,rfl,c1,o1,_,_⟩:=hr.form
  have m1:=(hE5).n;try simp only[new_n,put_n] at m1
  have m2:=(hE6).n;try simp only[new_n,put_n] at m2
  have hg:h6.ext.get (h.n+1+1)=some (.cells ZL 0 none):=by rw[hE6.get _ (by omega),hE5.get _ (by omega)];exact g2
  have hr0:h5.row (2*h.n)=some [.bool (decide (p<0)),sp]:=row_kn ((hE5.get _ (by omega)).trans g0)
  simp -dsimp (maxSteps:=1000000) (disch:=first|omega|(simp only[new_n,put_n];omega)|decide +kernel|(repeat first|rw[new_n]|rw[put_n])) only[wpS,wpT,Nat.reduceEqDiff,Nat.reduceLeDiff,Nat.reduceAdd,st49,f4,hg,o1]
  refine⟨wpSteady_one rfl rfl rfl rfl (steady_load (av:=ptr (2*h.n) 0) (v:=.bool (decide (p<0))) ?_ ?_ ?_),?_⟩
  ·simp -dsimp (maxSteps:=1000000) (disch:=first|omega|(simp only[new_n,put_n];omega)|decide +kernel|(repeat first|rw[new_n]|rw[put_n])) only[wpS]
  ·simp -dsimp (maxSteps:=1000000) (disch:=first|omega|(simp only[new_n,put_n];omega)|decide +kernel|(repeat first|rw[new_n]|rw[put_n])) only[wpS,ld4,r0]
  ·simp -dsimp (maxSteps:=1000000) (disch:=first|omega|(simp only[new_n,put_n];omega)|decide +kernel|(repeat first|rw[new_n]|rw[put_n])) only[wpS,ld4,hr0]
  ·simp -dsimp (maxSteps:=1000000) (disch:=first|omega|(simp only[new_n,put_n];omega)|decide +kernel|(repeat first|rw[new_n]|rw[put_n])) only[wpS,wpT,Nat.reduceEqDiff,Nat.reduceLeDiff,Nat.reduceAdd,ld49,f4]
   exact⟨((hE4.trans hE5).trans hE6).put (by omega) _,hr.keep ((Keep.refl _).put hg _)⟩
set_option maxHeartbeats 2000000 in
theorem pminus_ok {h:IH} {v w:Value} {x y:Int} (hv:PLong h v x) (hw:PLong h w y) (sx:SmallI x) (sy:SmallI y) :
  WV Proofs.Try.prog (.func (.func 74) #[] #[]) [v,w] h fun r h'=>Ext h h'∧PLong h' r (x - y):=by
 obtain⟨s,n1,rfl,c1,o1,l1,z1⟩:=hv.form
 obtain⟨t,n2,rfl,c2,o2,l2,z2⟩:=hw.form
 refine enter (nt:=9) (rs:=[.cell 4 49]) Proofs.Try.func74 rfl rfl rfl (by simp) ?_
 simp -dsimp (maxSteps:=1000000) (disch:=first|omega|(simp only[new_n,put_n];omega)|decide +kernel|(repeat first|rw[new_n]|rw[put_n])) only[wpS,Nat.reduceEqDiff,Nat.reduceAdd,zc49]
 have ee : ∀o1 o2 o3,Ext h (((h.new o1).new o2).new o3):=fun o1 o2 o3=>(((Ext.refl h).new _).new _).new _
 refine drawn [(0,[3])] (by kernel_rfl) (by kernel_rfl) rfl ?_
 simp -dsimp (maxSteps:=1000000) (disch:=first|omega|(simp only[new_n,put_n];omega)|decide +kernel|(repeat first|rw[new_n]|rw[put_n])) only[wpS,wpT,Nat.reduceEqDiff,Nat.reduceLeDiff,Nat.reduceAdd,ld49]
 refine call (pturned_ok (hw.keep (ee _ _ _).keep)) ?_
 rintro r h1 ⟨hE,hT⟩
 simp -dsimp (maxSteps:=1000000) (disch:=first|omega|(simp only[new_n,put_n];omega)|decide +kernel|(repeat first|rw[new_n]|rw[put_n])) only[wpS,Nat.reduceEqDiff]
 refine call (pplus_ok (hv.keep ((ee _ _ _).trans hE).keep) hT sx (by rw[SmallI,Int.natAbs_neg];exact sy)) ?_
 rintro r2 h2 ⟨hE2,hr⟩
 obtain⟨s1,n3,rfl,c3,o3,l3,z3⟩:=hr.form
 have m1:=(hE).n;try simp only[new_n] at m1
 have m2:=(hE2).n;try simp only[new_n,put_n] at m2
 have hg:h2.ext.get (h.n+1+1)=some (.cells ZL 0 none):=by rw[hE2.get _ (by omega),hE.get _ (by simp)];simp (disch:=first|omega|(simp only[new_n,put_n];omega)|(repeat first|rw[new_n]|rw[put_n])) only[get_new_same]
 have hr0:h1.row (2*h.n)=some [.bool (decide (x<0)),s]:=by
  rw[hE.row (by simp<;>omega)];simp -dsimp (maxSteps:=1000000) (disch:=first|omega|(simp only[new_n,put_n];omega)|decide +kernel|(repeat first|rw[new_n]|rw[put_n])) only[wpS]
 simp -dsimp (maxSteps:=1000000) (disch:=first|omega|(simp only[new_n,put_n];omega)|decide +kernel|(repeat first|rw[new_n]|rw[put_n])) only[wpS,wpT,Nat.reduceEqDiff,Nat.reduceLeDiff,Nat.reduceAdd,st49,hg,o3]
 refine⟨wpSteady_one rfl rfl rfl rfl (steady_load (av:=ptr (2*h.n) 0) (v:=.agg #[.bool (decide (x<0)),s]) rfl ?_ ?_),?_⟩
 ·simp -dsimp (maxSteps:=1000000) (disch:=first|omega|(simp only[new_n,put_n];omega)|decide +kernel|(repeat first|rw[new_n]|rw[put_n])) only[wpS,wpT,Nat.reduceLeDiff,Nat.reduceAdd,ld49]
  rfl
 ·simp -dsimp (maxSteps:=1000000) (disch:=first|omega|(simp only[new_n,put_n];omega)|decide +kernel|(repeat first|rw[new_n]|rw[put_n])) only[wpS,wpT,Nat.reduceLeDiff,Nat.reduceAdd,ld49,hr0]
  rfl
 ·simp -dsimp (maxSteps:=1000000) (disch:=first|omega|(simp only[new_n,put_n];omega)|decide +kernel|(repeat first|rw[new_n]|rw[put_n])) only[wpS,wpT,Nat.reduceEqDiff,Nat.reduceLeDiff,Nat.reduceAdd,ld49]
  refine⟨(((ee _ _ _).trans hE).trans hE2).put (by omega) _,?_⟩
  have:x + -y=x - y:=by omega
  rw[this] at hr ⊢
  exact hr.keep ((Keep.refl _).put hg _)
set_option maxHeartbeats 2000000 in
theorem ptimes_ok {h:IH} {v w:Value} {x y:Int} (hv:PLong h v x) (hw:PLong h w y) (sx:HalfI x) (sy:HalfI y) :
  WV Proofs.Try.prog (.func (.func 48) #[] #[]) [v,w] h fun r h'=>Ext h h'∧PLong h' r (x*y):=by
 obtain⟨s,rfl,ds,hD,hN,hx⟩:=hv
 obtain⟨t,rfl,es,hE,hM,hy⟩:=hw
 have l1:ds.length≤500000:=half64' hN (by rw[hx];exact sx)
 have l2:es.length≤500000:=half64' hM (by rw[hy];exact sy)
 refine enter (nt:=16) (rs:=[.cell 4 49]) Proofs.Try.func48 rfl rfl rfl (by simp) ?_
 simp -dsimp (maxSteps:=1000000) (disch:=first|omega|(simp only[new_n,put_n];omega)|decide +kernel|(repeat first|rw[new_n]|rw[put_n])) only[wpS,Nat.reduceEqDiff,Nat.reduceAdd,zc49]
 have kk : ∀o1 o2 o3,Ext h (((h.new o1).new o2).new o3):=fun o1 o2 o3=>(((Ext.refl h).new _).new _).new _
 refine drawn [(1,[10]),(3,[10])] (by kernel_rfl) (by kernel_rfl) rfl ?_
 simp -dsimp (maxSteps:=1000000) (disch:=first|omega|(simp only[new_n,put_n];omega)|decide +kernel|(repeat first|rw[new_n]|rw[put_n])) only[wpS,Nat.reduceEqDiff,fa49_0,ld4,bn4,fa49_1,ld47,bne_bool]
 refine call (multiplied_ok (hD.keep (kk _ _ _).keep) (hE.keep (kk _ _ _).keep) (by omega)) ?_
 rintro r h1 ⟨hE1,os,hO,hOv⟩
 simp -dsimp (maxSteps:=1000000) (disch:=first|omega|(simp only[new_n,put_n];omega)|decide +kernel|(repeat first|rw[new_n]|rw[put_n])) only[wpS,Nat.reduceEqDiff]
 refine call (trimmed_ok hO _) ?_
 rintro r2 h2 ⟨hE2,hr⟩
 rw[hOv,hx,hy,sign_mul] at hr
 obtain⟨s3,n3,rfl,c3,o3,_,_⟩:=hr.form
 have m1:=(hE1).n;try simp only[new_n] at m1
 have m2:=(hE2).n;try simp only[new_n,put_n] at m2
 have hg:h2.ext.get (h.n+1+1)=some (.cells ZL 0 none):=by
  rw[hE2.get _ (by omega),hE1.get _ (by simp)];exact get_new_same _ _ rfl
 have r0:h1.row (2*h.n)=some [.bool (decide (x<0)),s]:=by rw[hE1.row (by simp<;>omega)];simp -dsimp (maxSteps:=1000000) (disch:=first|omega|(simp only[new_n,put_n];omega)|decide +kernel|(repeat first|rw[new_n]|rw[put_n])) only[wpS]
 have r1:h1.row (2*(h.n+1))=some [.bool (decide (y<0)),t]:=by rw[hE1.row (by simp<;>omega)];simp -dsimp (maxSteps:=1000000) (disch:=first|omega|(simp only[new_n,put_n];omega)|decide +kernel|(repeat first|rw[new_n]|rw[put_n])) only[wpS]
 simp -dsimp (maxSteps:=1000000) (disch:=first|omega|(simp only[new_n,put_n];omega)|decide +kernel|(repeat first|rw[new_n]|rw[put_n])) only[wpS,wpT,Nat.reduceEqDiff,Nat.reduceLeDiff,Nat.reduceAdd,st49,hg,o3]
 refine⟨wpSteady_cons (wpSteady_one rfl rfl rfl rfl (steady_load (av:=ptr (2*h.n) 0) (v:=.bool (decide (x<0))) rfl ?_ ?_)) (wpSteady_one rfl rfl rfl rfl (steady_load (av:=ptr (2*(h.n+1)) 0) (v:=.bool (decide (y<0))) rfl ?_ ?_)),?_⟩
 ·simp -dsimp (maxSteps:=1000000) (disch:=first|omega|(simp only[new_n,put_n];omega)|decide +kernel|(repeat first|rw[new_n]|rw[put_n])) only[wpS,ld4]
 ·simp -dsimp (maxSteps:=1000000) (disch:=first|omega|(simp only[new_n,put_n];omega)|decide +kernel|(repeat first|rw[new_n]|rw[put_n])) only[wpS,ld4,r0]
 ·simp -dsimp (maxSteps:=1000000) (disch:=first|omega|(simp only[new_n,put_n];omega)|decide +kernel|(repeat first|rw[new_n]|rw[put_n])) only[wpS,ld4]
 ·simp -dsimp (maxSteps:=1000000) (disch:=first|omega|(simp only[new_n,put_n];omega)|decide +kernel|(repeat first|rw[new_n]|rw[put_n])) only[wpS,ld4,r1]
 simp -dsimp (maxSteps:=1000000) (disch:=first|omega|(simp only[new_n,put_n];omega)|decide +kernel|(repeat first|rw[new_n]|rw[put_n])) only[wpS,wpT,Nat.reduceEqDiff,Nat.reduceLeDiff,Nat.reduceAdd,ld49]
 exact⟨(((kk _ _ _).trans hE1).trans hE2).put (by omega) _,hr.keep ((Keep.refl _).put hg _)⟩
theorem pside_ok {h:IH} {v:Value} {z:Int} (hv:PLong h v z):WV Proofs.Try.prog (.func (.func 26) #[] #[]) [v] h fun r h'=>Ext h h'∧r=KI (if z<0 then -1 else if z=0 then 0 else 1):=by
 obtain⟨s,n1,rfl,c1,o1,l1,z1⟩:=hv.form
 refine enter (nt:=11) (rs:=[.tmp 2]) Proofs.Try.func26 rfl rfl rfl (by simp) ?_
 simp -dsimp (disch:=omega) only[wpS,Nat.reduceEqDiff,fa49_0,ld4]
 refine bq_intro ?_ ?_<;>intro hc<;>simp only[decide_eq_true_eq,decide_eq_false_iff_not] at hc
 ·simp -dsimp (disch:=omega) only[wpS,wpT,Nat.reduceEqDiff]
  refine⟨(Ext.refl h).new _,?_⟩
  rw[if_pos hc]
 ·simp -dsimp (disch:=omega) only[wpS,wpT,Nat.reduceEqDiff,fa49_1,ld47,l1 sl47]
  refine bq_intro ?_ ?_<;>intro hc2<;>simp only[beq_iff_eq,beq_eq_false_iff_ne,ne_eq] at hc2
  ·simp -dsimp (disch:=omega) only[wpS,wpT,Nat.reduceEqDiff]
   refine⟨(Ext.refl h).new _,?_⟩
   rw[if_neg (by omega),if_pos (by omega)]
  ·simp -dsimp (disch:=omega) only[wpS,wpT]
   refine⟨(Ext.refl h).new _,?_⟩
   rw[if_neg (by omega),if_neg (by omega)]
theorem pcmp_ok {h:IH} {v w:Value} {x y:Int} (hv:PLong h v x) (hw:PLong h w y) (sx:SmallI x) (sy:SmallI y) :
  WV Proofs.Try.prog (.func (.func 51) #[] #[]) [v,w] h fun r h'=>Ext h h'∧r=KI (if x<y then -1 else if x=y then 0 else 1):=by
 obtain⟨s,n1,rfl,c1,o1,l1,z1⟩:=hv.form
 obtain⟨t,n2,rfl,c2,o2,l2,z2⟩:=hw.form
 refine enter (nt:=9) (rs:=[.tmp 4]) Proofs.Try.func51 rfl rfl rfl (by simp) ?_
 simp -dsimp (maxSteps:=1000000) (disch:=first|omega|(simp only[new_n,put_n];omega)|decide +kernel|(repeat first|rw[new_n]|rw[put_n])) only[wpS,wpT,Nat.reduceEqDiff,Nat.reduceLeDiff,Nat.reduceAdd,ld49]
 have e2 : ∀o1 o2,Ext h ((h.new o1).new o2):=fun o1 o2=>((Ext.refl h).new _).new _
 refine call (pminus_ok (hv.keep (e2 _ _).keep) (hw.keep (e2 _ _).keep) sx sy) ?_
 rintro r h1 ⟨hE,hr⟩
 simp -dsimp (maxSteps:=1000000) (disch:=first|omega|(simp only[new_n,put_n];omega)|decide +kernel|(repeat first|rw[new_n]|rw[put_n])) only[wpS,Nat.reduceEqDiff]
 refine call (pside_ok hr) ?_
 rintro _ h2 ⟨hE2,rfl⟩
 simp -dsimp (maxSteps:=1000000) (disch:=first|omega|(simp only[new_n,put_n];omega)|decide +kernel|(repeat first|rw[new_n]|rw[put_n])) only[wpS,Nat.reduceEqDiff]
 refine⟨((e2 _ _).trans hE).trans hE2,?_⟩
 congr 1
 split<;>split<;>(try split)<;>(try split)<;>omega
end Go.Id

/-! Contracts: the reference's long integers, ninth part: read as integers. -/
namespace Go.Id
open Go
end Go.Id

/-! Contracts: wide integers of the program: from and to integers. -/
namespace Go.Id
open Go
theorem wdC_map (n:Nat):wdC n=((List.range 8).map fun i=>(wrd n i:Int)).map (Value.int .u64):=by simp[wdC]
theorem wrd_inj {n m:Nat} (hn:n<W8) (hm:m<W8) (h : ∀i,i<8→wrd n i=wrd m i):n=m:=by
 have key : ∀i,i≤8→n % 18446744073709551616 ^ i=m % 18446744073709551616 ^ i:=by
  intro i
  induction i with
  | zero=>intro _;rw[Nat.pow_zero,Nat.mod_one,Nat.mod_one]
  | succ i ih=>intro hi;rw[mod_wrd,mod_wrd,ih (by omega),h i (by omega)]
 have:=key 8 (Nat.le_refl _)
 rw[←W8_eq] at this
 rwa [Nat.mod_eq_of_lt hn,Nat.mod_eq_of_lt hm] at this
theorem wd_dec {n m:Nat} (hn:n<W8) (hm:m<W8):decide (((List.range 8).map fun i=>(wrd n i:Int))=((List.range 8).map fun i=>(wrd m i:Int)))=decide (n=m):=by
 rw[Bool.eq_iff_iff];simp only[decide_eq_true_eq]
 constructor
 ·intro h
  refine wrd_inj hn hm fun i hi=>?_
  have:=congrArg (fun l=>l[i]?) h
  simp[hi] at this
  omega
 ·rintro rfl;rfl
theorem wd_eql {n m:Nat} (hn:n<W8) (hm:m<W8) (ox oy:Operand):binop Proofs.Try.prog .eql 25 ox oy (.agg (wdC n).toArray) (.agg (wdC m).toArray)=some (.bool (decide (n=m))):=by
 rw[wdC_map,wdC_map,binop_eql_arr u25 u23 sz23 eg25 _ _ _ _ (by simp) (by simp),wd_dec hn hm]
theorem wrd_int {n:Int} (hn:In64 n) (i:Nat) (hi:i<8):(wrd (wideN n) i:Int)=if i=0 then n % 18446744073709551616 else if n<0 then 18446744073709551615 else 0:=by
 by_cases h0:0≤n
 ·rw[wideN,if_pos h0]
  by_cases hz:i=0
  ·subst hz
   rw[if_pos rfl,wrd,Nat.pow_zero,Nat.div_one];omega
  ·rw[if_neg hz,if_neg (by omega),wrd_high (i:=1) (by omega) (by omega)];rfl
 ·rw[wideN,if_neg h0]
  obtain⟨u,hu⟩ : ∃u:Nat,u=n.natAbs:=⟨_,rfl⟩
  rw[←hu]
  have e:W8 - u=(18446744073709551616 - u)+18446744073709551616*(18446744073709551616 ^ 7 - 1):=by
   rw[W8_eq];omega
  by_cases hz:i=0
  ·subst hz
   rw[if_pos rfl,wrd,Nat.pow_zero,Nat.div_one,e,Nat.add_mul_mod_self_left];omega
  ·rw[if_neg hz,if_pos (by omega)]
   obtain⟨k,rfl⟩ : ∃k,i=k+1:=⟨i - 1,by omega⟩
   have e3:((18446744073709551616 - u)+18446744073709551616*(18446744073709551616 ^ 7 - 1)) / 18446744073709551616=18446744073709551616 ^ 7 - 1:=by
    rw[Nat.add_mul_div_left _ _ (by omega),Nat.div_eq_of_lt (by omega),Nat.zero_add]
   rw[wrd,Nat.pow_succ',←Nat.div_div_eq_div_mul,e,e3]
   have hk:k<7:=by omega
   have hk2:k=0∨k=1∨k=2∨k=3∨k=4∨k=5∨k=6:=by omega
   rcases hk2 with rfl|rfl|rfl|rfl|rfl|rfl|rfl<;>rfl
def wfill (w0:Int) (i:Nat):List Value:=(List.range 8).map fun j=>.int .u64 (if j=0 then w0 else if j<i then 18446744073709551615 else 0)
theorem wfill_len (w0:Int) (i:Nat):(wfill w0 i).length=8:=by simp[wfill]
theorem wfill_one (w0:Int):wfill w0 1 = [.int .u64 w0,.int .u64 0,.int .u64 0,.int .u64 0,.int .u64 0,.int .u64 0,.int .u64 0,.int .u64 0]:=by
 simp[wfill,List.range_succ]
theorem wfill_set (w0:Int) {i:Nat} (h0:0<i) (hi:i<8):(wfill w0 i).set i (.int .u64 18446744073709551615)=wfill w0 (i+1):=by
 apply List.ext_getElem?
 intro j
 rw[List.getElem?_set,wfill_len]
 by_cases hij:i=j
 ·subst hij
  rw[if_pos rfl,if_pos hi]
  simp[wfill,hi,show ¬i=0 by omega]
 ·rw[if_neg hij]
  by_cases hj:j<8
  ·simp only[wfill,List.getElem?_map,List.getElem?_range hj,Option.map_some]
   by_cases hz:j=0
   ·simp[hz]
   ·by_cases hlt:j<i
    ·simp[hz,hlt,show j<i+1 by omega]
    ·simp[hz,hlt,show ¬j<i+1 by omega]
  ·rw[List.getElem?_eq_none (by rw[wfill_len];omega),List.getElem?_eq_none (by rw[wfill_len];omega)]
theorem wfill_neg {n:Int} (hn:In64 n) (h0:n<0):wfill (n % 18446744073709551616) 8=wdC (wideN n):=by
 apply List.ext_getElem?
 intro j
 by_cases hj:j<8
 ·rw[wdC_get _ _ hj]
  simp only[wfill,List.getElem?_map,List.getElem?_range hj,Option.map_some,K64,wrd_int hn j hj]
  simp[h0,hj]
 ·rw[List.getElem?_eq_none (by rw[wfill_len];omega),List.getElem?_eq_none (by rw[wdC_len];omega)]
theorem wfill_pos {n:Int} (hn:In64 n) (h0 : ¬n<0):wfill (n % 18446744073709551616) 1=wdC (wideN n):=by
 apply List.ext_getElem?
 intro j
 by_cases hj:j<8
 ·rw[wdC_get _ _ hj]
  simp only[wfill,List.getElem?_map,List.getElem?_range hj,Option.map_some,K64,wrd_int hn j hj]
  by_cases hz:j=0
  ·simp[hz]
  ·simp[h0,hz]
 ·rw[List.getElem?_eq_none (by rw[wfill_len];omega),List.getElem?_eq_none (by rw[wdC_len];omega)]
set_option maxRecDepth 100000 in
theorem wideOf_ok {h:IH} (n:Int) (hn:In64 n):WV Proofs.Try.prog (.func (.func 39) #[] #[]) [KI n] h fun r h'=>Ext h h'∧r=wideV n:=by
 have hw:IntKind.u64.wrap n=n % 18446744073709551616:=wrapU n
 have hE : ∀a b c,Ext h (((h.new a).new b).put (h.n+1) c):=fun a b c=>(((Ext.refl h).new _).new _).put (by omega) _
 have fin : ∀h1:IH,Ext h h1→h.n+1<h1.n→h1.ext.get (h.n+1)=some (.cells (wdC (wideN n)) 0 none)→h1.ext.get h.n=some (.cells [ZW,ZW,ZW,ZW,ZW,ZW,ZW,ZW] 0 none)→True:=fun _ _ _ _ _=>trivial
 refine enter (nt:=17) (rs:=[.cell 2 25]) Proofs.Try.func39 rfl rfl rfl (by simp) ?_
 simp -dsimp (maxSteps:=1000000) (disch:=first|omega|(simp only[new_n,put_n];omega)|decide +kernel|(repeat first|rw[new_n]|rw[put_n])) only[wpR]
 rw[d_seq]
 simp -dsimp (maxSteps:=1000000) (disch:=first|omega|(simp only[new_n,put_n];omega)|decide +kernel|(repeat first|rw[new_n]|rw[put_n])) only[wpR,zc25]
 rw[d_seq]
 simp -dsimp (maxSteps:=1000000) (disch:=first|omega|(simp only[new_n,put_n];omega)|decide +kernel|(repeat first|rw[new_n]|rw[put_n])) only[wpR,wpT,Nat.reduceEqDiff,Nat.reduceLeDiff,Nat.reduceAdd,zc25,cv3_23,bv25,pl25_0,st25,hw]
 rw[d_seq]
 refine cut (fun fr2 h2=>Ext h h2∧fget fr2 2=some (ptr (2*h.n) 0)∧fget fr2 3=some (ptr (2*(h.n+1)) 0)∧h.n+1<h2.n∧h2.ext.get (h.n+1)=some (.cells (wdC (wideN n)) 0 none)∧h2.ext.get h.n=some (.cells [ZW,ZW,ZW,ZW,ZW,ZW,ZW,ZW] 0 none)) ?_ ?_
 ·by_cases h0:n<0
  ·simp -dsimp (maxSteps:=1000000) (disch:=first|omega|(simp only[new_n,put_n];omega)|decide +kernel|(repeat first|rw[new_n]|rw[put_n])) only[wpS,Nat.reduceEqDiff,dec_lt_t h0]
   refine loop (fun m fr h2 => ∃i:Nat,i+m=8∧0<i∧fget fr 2=some (ptr (2*h.n) 0)∧fget fr 3=some (ptr (2*(h.n+1)) 0)∧fget fr 4=some (KN i)∧Ext h h2∧h.n+1<h2.n∧h2.ext.get (h.n+1)=some (.cells (wfill (n % 18446744073709551616) i) 0 none)∧h2.ext.get h.n=some (.cells [ZW,ZW,ZW,ZW,ZW,ZW,ZW,ZW] 0 none)) 7 ⟨1,by simp,by simp,by simp,by simp,by simp,hE _ _ _,by simp,?_,?_⟩ ?_
   ·rw[wfill_one];exact get_put_same _ _ rfl
   ·simp -dsimp (maxSteps:=1000000) (disch:=first|omega|(simp only[new_n,put_n];omega)|decide +kernel|(repeat first|rw[new_n]|rw[put_n])) only[wpS]
   ·rintro m fr h2 ⟨i,him,hi0,f2,f3,f4,hE2,hlt,hg1,hg0⟩
    simp -dsimp (maxSteps:=1000000) (disch:=first|omega|(simp only[new_n,put_n];omega)|decide +kernel|(repeat first|rw[new_n]|rw[put_n])) only[wpS,Nat.reduceEqDiff,f4]
    refine bq_intro ?_ ?_<;>intro hc<;>simp only[decide_eq_true_eq,decide_eq_false_iff_not] at hc
    ·have hi:i<8:=by omega
     have hsp:IH.splice (wfill (n % 18446744073709551616) i) i [.int .u64 18446744073709551615]=wfill (n % 18446744073709551616) (i+1):=by
      rw[splice_set (by rw[wfill_len];exact hi),wfill_set _ hi0 hi]
     simp -dsimp (maxSteps:=1000000) (disch:=first|omega|(simp only[new_n,put_n];omega)|decide +kernel|(repeat first|rw[new_n]|rw[put_n])) only[wpS,wpT,Nat.reduceEqDiff,Nat.reduceLeDiff,ar25,st23,f3,f4,ar25,hg1,wfill_len,hsp]
     refine⟨m - 1,by omega,i+1,by omega,by omega,by simp[f2],by simp[f3],by simp,hE2.put (by omega) _,by simpa using hlt,get_put_same _ _ rfl,?_⟩
     rw[get_put_old _ _ (by omega)];exact hg0
    ·obtain rfl:i=8:=by omega
     simp -dsimp (maxSteps:=1000000) (disch:=first|omega|(simp only[new_n,put_n];omega)|decide +kernel|(repeat first|rw[new_n]|rw[put_n])) only[wpS,wpT]
     exact⟨hE2,by simp[f2],by simp[f3],hlt,by rw[hg1,wfill_neg hn h0],hg0⟩
  ·simp -dsimp (maxSteps:=1000000) (disch:=first|omega|(simp only[new_n,put_n];omega)|decide +kernel|(repeat first|rw[new_n]|rw[put_n])) only[wpS,Nat.reduceEqDiff,dec_lt_f h0]
   refine⟨hE _ _ _,by simp,by simp,by simp,?_,?_⟩
   ·rw[←wfill_pos hn h0,wfill_one];exact get_put_same _ _ rfl
   ·simp -dsimp (maxSteps:=1000000) (disch:=first|omega|(simp only[new_n,put_n];omega)|decide +kernel|(repeat first|rw[new_n]|rw[put_n])) only[wpS]
 ·rintro fr2 h2 ⟨hE2,f2,f3,hlt,hg1,hg0⟩
  have hrow:h2.row (2*(h.n+1))=some (wdC (wideN n)):=by rw[row_even];exact cells_of hg1
  have hspl:IH.splice [ZW,ZW,ZW,ZW,ZW,ZW,ZW,ZW] 0 (wdC (wideN n))=wdC (wideN n):=splice_all (by rw[wdC_len];rfl)
  simp -dsimp (maxSteps:=1000000) (disch:=first|omega|(simp only[new_n,put_n];omega)|decide +kernel|(repeat first|rw[new_n]|rw[put_n])) only[wpS,wpT,Nat.reduceEqDiff,Nat.reduceLeDiff,Nat.reduceAdd,st25,ld25,f2,f3,hrow,hg0,wdC_len,wd_take,wdC_all,hspl]
  exact⟨hE2.put (by omega) _,rfl⟩
end Go.Id

/-! Contracts: the program's magnitudes and numbers, read and told. -/
namespace Go.Id
open Go
def wds (n:Nat):List Nat:=(List.range 8).map (wrd n)
theorem wds_len (n:Nat):(wds n).length=8:=by simp[wds]
theorem wds_dig (n:Nat):B.Digs (wds n):=fun d hd=>by
 simp only[wds,List.mem_map] at hd
 obtain⟨i,_,rfl⟩:=hd
 exact wrd_lt _ _
theorem wdC_wds (n:Nat):wdC n=(wds n).map K64:=by simp[wdC,wds]
theorem wds_get (n:Nat) {i:Nat} (hi:i<8):(wds n).getD i 0=wrd n i:=by
 rw[List.getD_eq_getElem?_getD];simp[wds,hi]
theorem wds_valT (n:Nat) : ∀i,i≤8→B.valT (wds n) i=n % 18446744073709551616 ^ i
 | 0,_=>by simp[B.valT,Nat.mod_one]
 | i+1,h=>by
  rw[B.valT,wds_valT n i (by omega),wds_get n (by omega),wrd,Nat.pow_succ,Nat.mod_mul,Nat.mul_comm]
theorem W8_pw:W8=18446744073709551616 ^ 8:=by unfold W8;rfl
theorem H8_two:H8+H8=W8:=by unfold W8 H8;rfl
theorem H8_pos:0<H8:=by unfold H8;decide
theorem wds_val {n:Nat} (h:n<W8):B.valD (wds n)=n:=by
 rw[B.valD,wds_len,wds_valT n 8 (Nat.le_refl _),←W8_pw,Nat.mod_eq_of_lt h]
theorem wds_of {ds:List Nat} (hl:ds.length=8) (hd:B.Digs ds):wds (B.valD ds)=ds:=by
 apply List.ext_getElem (by rw[wds_len,hl])
 intro i h1 h2
 rw[wds_len] at h1
 have e1:=wds_get (B.valD ds) h1
 have e2:=B.digit_eq hd i
 rw[wrd,←e2] at e1
 rw[List.getD_eq_getElem?_getD,List.getD_eq_getElem?_getD,List.getElem?_eq_getElem (by rw[wds_len];exact h1),List.getElem?_eq_getElem h2] at e1
 simpa using e1
theorem val_lt8 {ds:List Nat} (hl:ds.length=8) (hd:B.Digs ds):B.valD ds<W8:=by
 have:=B.valD_lt hd
 rwa [hl,←W8_pw] at this
theorem cells8 (n:Nat):(wdV n).cells.toList=wdC n:=rfl
set_option maxHeartbeats 2000000 in
theorem sizeMinus_ok {h:IH} (a b:Nat) (ha:a<W8) (hb:b<W8):WV Proofs.Try.prog (.func (.func 80) #[] #[]) [wdV a,wdV b] h fun r h'=>Ext h h' ∧ ∃m bor,r=.tuple #[wdV m,K64 bor]∧m<W8∧bor≤1∧a+bor*W8=b+m:=by
 refine enter (nt:=27) (rs:=[.cell 4 93,.tmp 5]) Proofs.Try.func80 rfl rfl rfl (by simp) ?_
 simp -dsimp (maxSteps:=1000000) (disch:=first|omega|(simp only[new_n,put_n];omega)|decide +kernel|(repeat first|rw[new_n]|rw[put_n])) only[wpS,Nat.reduceEqDiff,Nat.reduceAdd,zc93,cells8]
 rw[wdC_wds a,wdC_wds b]
 have lA:=wds_len a
 have lB:=wds_len b
 refine loop (fun m fr h1 => ∃(i bor:Nat) (os:List Nat),i+m=8∧Ext h h1∧h.n+3≤h1.n∧h1.ext.get h.n=some (.cells (os.map K64) 0 none)∧h1.ext.get (h.n+1)=some (.cells ((wds b).map K64) 0 none)∧(∃c,h1.ext.get (h.n+1+1)=some (.cells c 0 none)∧c.length=8)∧bor≤1∧os.length=8∧B.Digs os∧(∀j,i≤j→os.getD j 0=(wds a).getD j 0) ∧
   B.valT (wds a) i+bor*18446744073709551616 ^ i=B.valT (wds b) i+B.valT os i∧fget fr 2=some (ptr (2*h.n) 0)∧fget fr 3=some (ptr (2*(h.n+1)) 0)∧fget fr 4=some (ptr (2*(h.n+1+1)) 0)∧fget fr 6=some (K64 bor)∧fget fr 8=some (KN i)) 8
  ⟨0,0,wds a,rfl,(((Ext.refl h).new _).new _).new _,by simp<;>omega,by simp (disch:=first|omega|(simp only[new_n,put_n];omega)|(repeat first|rw[new_n]|rw[put_n])) only[get_new_same,get_new_old],by simp (disch:=first|omega|(simp only[new_n,put_n];omega)|(repeat first|rw[new_n]|rw[put_n])) only[get_new_same,get_new_old],⟨[ZW,ZW,ZW,ZW,ZW,ZW,ZW,ZW],by simp (disch:=first|omega|(simp only[new_n,put_n];omega)|(repeat first|rw[new_n]|rw[put_n])) only[get_new_same],rfl⟩,by omega,lA,wds_dig a,fun _ _=>rfl,by simp[B.valT],by simp,by simp,by simp,by simp,by simp⟩ ?_
 rintro m fr h1 ⟨i,bor,os,him,hE,hn,hg,hg1,hg2,hbor,hol,hod,hoa,hv,f2,f3,f4,f6,f8⟩
 simp -dsimp (maxSteps:=1000000) (disch:=first|omega|(simp only[new_n,put_n];omega)|decide +kernel|(repeat first|rw[new_n]|rw[put_n])) only[wpS,f8]
 refine bq_intro ?_ ?_<;>intro hc<;>simp only[decide_eq_true_eq,decide_eq_false_iff_not] at hc
 ·have hi:i<8:=by omega
  have r0:=row_kn hg
  have r1:=row_kn hg1
  have go:=get_some (show i<os.length by omega)
  have gb:=get_some (show i<(wds b).length by omega)
  have hx:=hoa i (Nat.le_refl _)
  have dx:=B.getD_lt hod i
  have dy:=B.getD_lt (wds_dig b) i
  obtain⟨x,hx1⟩ : ∃x,x=os.getD i 0:=⟨_,rfl⟩
  obtain⟨y,hy1⟩ : ∃x,x=(wds b).getD i 0:=⟨_,rfl⟩
  rw[←hx1] at go dx hx
  rw[←hy1] at gb dy
  simp -dsimp (maxSteps:=1000000) (disch:=first|omega|(simp only[new_n,put_n];omega)|decide +kernel|(repeat first|rw[new_n]|rw[put_n])) only[wpS,wpT,Nat.reduceEqDiff,ar93,ld23,f2,f3,f6,f8,r0,r1,map_get,go,gb]
  refine call (sub64_ok x y bor hbor) ?_
  rintro _ _ ⟨rfl,rfl⟩
  generalize hdd:(x+18446744073709551616 - y - bor) % 18446744073709551616=d
  obtain⟨b2,hb2,hb1,hrel⟩ : ∃b2:Nat,(bif Nat.blt x (y+bor) then 1 else 0)=b2∧b2≤1∧x+b2*18446744073709551616=y+bor+d:=by
   by_cases hlt:x<y+bor
   ·have e:Nat.blt x (y+bor)=true:=by simp only[Nat.blt,Nat.ble_eq];exact hlt
    refine⟨1,by rw[e];rfl,by omega,by omega⟩
   ·have e:Nat.blt x (y+bor)=false:=by rw[Bool.eq_false_iff];intro h;simp[Nat.blt] at h;omega
    refine⟨0,by rw[e];rfl,by omega,by omega⟩
  rw[hb2]
  have hd2:d<18446744073709551616:=by omega
  have spl:=spl_k64 d (show i<os.length by omega)
  rename_i h3
  simp -dsimp (maxSteps:=1000000) (disch:=first|omega|(simp only[new_n,put_n];omega)|decide +kernel|(repeat first|rw[new_n]|rw[put_n])) only[wpS,wpT,Nat.reduceEqDiff,Nat.reduceLeDiff,ar93,st23,f2,f8,hg,spl,List.length_map,hol]
  obtain⟨c,hgc,hcl⟩:=hg2
  refine⟨m - 1,by omega,i+1,b2,os.set i d,by omega,hE.put (Nat.le_refl _) _,hn,get_put_same _ _ rfl,by simp (disch:=first|omega|(simp only[new_n,put_n];omega)|(repeat first|rw[new_n]|rw[put_n])) only[get_put_old];exact hg1,⟨c,by simp (disch:=first|omega|(simp only[new_n,put_n];omega)|(repeat first|rw[new_n]|rw[put_n])) only[get_put_old];exact hgc,hcl⟩,hb1,by rw[List.length_set,hol],hod.set _ hd2,?_,?_,by simp[f2],by simp[f3],by simp[f4],by simp,by simp⟩
  ·intro j hj
   rw[B.getD_set (by omega),if_neg (by omega)]
   exact hoa j (by omega)
  ·rw[valT_set_next (by omega),B.valT,B.valT,←hx,←hy1,Nat.pow_succ]
   have e3:x*18446744073709551616 ^ i+b2*(18446744073709551616 ^ i*18446744073709551616)=(y+bor+d)*18446744073709551616 ^ i:=by rw[←hrel];grind
   have e4:(y+bor+d)*18446744073709551616 ^ i=y*18446744073709551616 ^ i+bor*18446744073709551616 ^ i+d*18446744073709551616 ^ i:=by grind
   omega
 ·obtain rfl:i=8:=by omega
  have r0:=row_kn hg
  have lm:(os.map K64).length=8:=by rw[List.length_map,hol]
  have all:=k64_all os
  have tk8:List.take 8 (List.drop 0 (os.map K64))=os.map K64:=by rw[List.drop_zero,List.take_of_length_le (by omega)]
  obtain⟨c,hgc,hcl⟩:=hg2
  have hsp:IH.splice c 0 (os.map K64)=os.map K64:=splice_all (by rw[hcl,lm])
  simp -dsimp (maxSteps:=1000000) (disch:=first|omega|(simp only[new_n,put_n];omega)|decide +kernel|(repeat first|rw[new_n]|rw[put_n])) only[wpS,wpT,Nat.reduceEqDiff,Nat.reduceLeDiff,ld93,st93,f2,f4,f6,r0,lm,all,tk8,hgc,hcl,hsp]
  rw[←wds_of hol hod,←wdC_wds] 
  have e8 : ∀n,n<W8→B.valT (wds n) 8=n:=fun n hn=>by rw[wds_valT n 8 (Nat.le_refl _),←W8_pw,Nat.mod_eq_of_lt hn]
  rw[e8 a ha,e8 b hb,←W8_pw] at hv
  have hvo:B.valT os 8=B.valD os:=by rw[B.valD,hol]
  rw[hvo] at hv
  exact⟨hE.put (by omega) _,B.valD os,bor,rfl,val_lt8 hol hod,hbor,hv⟩
end Go.Id
