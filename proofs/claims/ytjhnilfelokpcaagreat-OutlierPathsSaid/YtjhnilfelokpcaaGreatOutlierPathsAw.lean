/-
  Contracts: the quotient of two words by one. Contracts: the program's long integers: numbers of bits, products by powers of 2, quotients.
-/
import Derived.Test.YtjhnilfelokpcaaGreatOutlierPathsAq
import Derived.Test.YtjhnilfelokpcaaGreatOutlierPathsAv
set_option linter.unusedVariables false
set_option linter.unusedSimpArgs false
set_option linter.defProp false
set_option linter.deprecated false
namespace Go.Id
open Go
open Nat renaming reduceAdd→zA,reduceEqDiff→zE
set_option maxHeartbeats 16000000
theorem VO {u w a b A B r1 r0:Nat} (hw:4294967296*a+b=w) (h1:u*4294967296+a=A+r1) (h2:r1*4294967296+b=B+r0):u*18446744073709551616+w=A*4294967296+B+r0:=by
 have e:u*18446744073709551616=u*4294967296*4294967296:=by rw[Nat.mul_assoc]
 rw[e,←hw,←Nat.add_assoc,Nat.mul_comm 4294967296 a,←Nat.add_mul,h1,Nat.add_mul,Nat.add_assoc,h2,Nat.add_assoc]
theorem Io {hi lo y s Y u w q1 r1 q0 r0:Nat} (hY:Y=y*2 ^ s) (hy:0<y) (hN:(hi*18446744073709551616+lo)*2 ^ s=u*18446744073709551616+w) (h1:u*4294967296+w / 4294967296=q1*Y+r1) (h2:r1*4294967296+w % 4294967296=q0*Y+r0) (hr:r0<Y) :
  (hi*18446744073709551616+lo) / y=q1*4294967296+q0∧r0 / 2 ^ s=(hi*18446744073709551616+lo) % y:=by
 have hp:0<2 ^ s:=Nat.pow_pos (by omega)
 have e1:Y*(q1*4294967296+q0)=q1*Y*4294967296+q0*Y:=by rw[Nat.mul_add,Nat.mul_comm Y q0,←Nat.mul_assoc,Nat.mul_comm Y q1]
 have e:(hi*18446744073709551616+lo)*2 ^ s=Y*(q1*4294967296+q0)+r0:=by
  rw[hN,e1]
  exact VO (Nat.div_add_mod _ _) h1 h2
 obtain⟨N,hNN⟩ : ∃N,N=hi*18446744073709551616+lo:=⟨_,rfl⟩
 rw[←hNN] at e ⊢
 clear hN h1 h2 hNN
 have e2:N*2 ^ s / Y=q1*4294967296+q0:=by
  rw[e,Nat.mul_add_div (by rw[hY];exact Nat.mul_pos hy hp),Nat.div_eq_of_lt hr,Nat.add_zero]
 have e3:N*2 ^ s % Y=r0:=by rw[e,Nat.mul_add_mod,Nat.mod_eq_of_lt hr]
 rw[hY,Nat.mul_div_mul_right _ _ hp] at e2
 rw[hY,Nat.mul_mod_mul_right] at e3
 exact⟨e2,by rw[←e3,Nat.mul_div_cancel _ hp]⟩
theorem TT {h:IH} (u:Nat) (h0:0<u) (hu:u<18446744073709551616):WV Proofs.Tryz.prog (.func (.func 269) #[] #[]) [K64 u] h fun r h'=>h'=h ∧ ∃s:Nat,r=KN s∧s<64∧9223372036854775808≤u*2 ^ s∧u*2 ^ s<18446744073709551616∧2 ^ (63 - s)≤u∧u<2 ^ (64 - s):=by
 refine enter (nt:=6) (rs:=[.tmp 2]) Proofs.Tryz.func269 rfl rfl rfl (by simp) ?_
 simp -dsimp (disch:=try exact dx) only[wpS,zE]
 refine call (FQ u hu) ?_
 rintro _ _ ⟨rfl,k,rfl,hk,hN⟩
 have k1:0<k:=(hN 0).2 (by omega)
 have k2:k≤64:=by
  apply Classical.byContradiction;intro hn
  have:=(hN 64).1 (by omega)
  omega
 have k3:2 ^ (k - 1)≤u:=(hN (k - 1)).1 (by omega)
 have k4:u<2 ^ k:=by
  apply Classical.byContradiction;intro hn
  have:=(hN k).2 (by omega)
  omega
 have e:(64:Int) - (k:Int)=((64 - k:Nat):Int):=by omega
 simp -dsimp (disch:=try exact dx) only[wpS,wpT,zE,e]
 refine⟨64 - k,rfl,by omega,?_,?_,by rw[show 63 - (64 - k)=k - 1 by omega];exact k3,by rw[show 64 - (64 - k)=k by omega];exact k4⟩
 ·have:=Nat.mul_le_mul_right (2 ^ (64 - k)) k3
  rw[←Nat.pow_add,show k - 1+(64 - k)=63 by omega] at this
  exact this
 ·have:=Nat.mul_lt_mul_of_pos_right k4 (show 0<2 ^ (64 - k) from Nat.pow_pos (by omega))
  rw[←Nat.pow_add,show k+(64 - k)=64 by omega] at this
  exact this
theorem Qp {h:IH} (hi lo y:Nat) (hh:hi<y) (hl:lo<18446744073709551616) (hy:y<18446744073709551616):WV Proofs.Tryz.prog (.func (.func 263) #[] #[]) [K64 hi,K64 lo,K64 y] h fun r h'=>h'=h∧r=.tuple #[K64 ((hi*18446744073709551616+lo) / y),K64 ((hi*18446744073709551616+lo) % y)]:=by
 have y0:((y:Int) == 0)=false:=by simp;omega
 by_cases h0:hi=0
 ·subst h0
  have d1:(lo:Int) / (y:Int)=((lo / y:Nat):Int):=by simp
  have d2:(lo:Int) % (y:Int)=((lo % y:Nat):Int):=by simp
  have d3:lo / y≤lo:=Nat.div_le_self _ _
  refine enter (nt:=135) (rs:=[.tmp 6,.tmp 7]) Proofs.Tryz.func263 rfl rfl rfl (by simp) ?_
  simp -dsimp (disch:=try exact dx) only[wpS,wpT,zE,zA,y0,d1,d2]
 ·have h0':((hi:Int) == 0)=false:=by simp;omega
  refine enter (nt:=135) (rs:=[.tmp 6,.tmp 7]) Proofs.Tryz.func263 rfl rfl rfl (by simp) ?_
  simp -dsimp (disch:=try exact dx) only[wpS,wpT,zE,zA,y0,h0']
  refine call (TT y (by omega) hy) ?_
  rintro _ _ ⟨rfl,s,rfl,hs,hY1,hY2,hy1,hy2⟩
  rename_i h1
  have hps:0<2 ^ s:=Nat.pow_pos (by omega)
  obtain⟨Y,hY⟩ : ∃Y,Y=y*2 ^ s:=⟨_,rfl⟩
  have eY:y*2 ^ s % 18446744073709551616=Y:=by rw[hY];exact Nat.mod_eq_of_lt hY2
  rw[←hY] at hY1 hY2
  have hU:hi*2 ^ s<Y:=by rw[hY];exact Nat.mul_lt_mul_of_pos_right hh hps
  have eU:hi*2 ^ s % 18446744073709551616=hi*2 ^ s:=Nat.mod_eq_of_lt (by omega)
  have e64:(64:Int) - (s:Int)=((64 - s:Nat):Int):=by omega
  have eR:l8 lo (64 - s)=lo / 2 ^ (64 - s):=Nat.shiftRight_eq_div_pow _ _
  have hR:lo / 2 ^ (64 - s)<2 ^ s:=B.Bn hl (by omega)
  have eO:hi*2 ^ s ||| lo / 2 ^ (64 - s)=hi*2 ^ s+lo / 2 ^ (64 - s):=B.HD (Nat.dvd_mul_left _ _) hR
  have hsp:=B.Bp hl hs
  obtain⟨u,hu⟩ : ∃u,u=hi*2 ^ s+lo / 2 ^ (64 - s):=⟨_,rfl⟩
  obtain⟨w,hw⟩ : ∃w,w=lo*2 ^ s % 18446744073709551616:=⟨_,rfl⟩
  rw[←hw] at hsp
  have huY:u<Y:=by
   have:(hi+1)*2 ^ s≤y*2 ^ s:=Nat.mul_le_mul_right _ hh
   rw[Nat.add_mul,←hY] at this
   omega
  have hwl:w<18446744073709551616:=by omega
  have hN:(hi*18446744073709551616+lo)*2 ^ s=u*18446744073709551616+w:=by
   rw[Nat.add_mul,hu,Nat.add_mul,←hsp]
   have:hi*18446744073709551616*2 ^ s=hi*2 ^ s*18446744073709551616:=by grind
   omega
  have s1:l8 Y 32=Y / 4294967296:=Nat.shiftRight_eq_div_pow _ _
  have s2:Y &&& 4294967295=Y % 4294967296:=Nat.and_two_pow_sub_one_eq_mod Y 32
  have s3:l8 w 32=w / 4294967296:=Nat.shiftRight_eq_div_pow _ _
  have s4:w &&& 4294967295=w % 4294967296:=Nat.and_two_pow_sub_one_eq_mod w 32
  obtain⟨y1,Zu⟩ : ∃y1,y1=Y / 4294967296:=⟨_,rfl⟩
  obtain⟨y0',Zv⟩ : ∃y0,y0=Y % 4294967296:=⟨_,rfl⟩
  have eYY:Y=y1*4294967296+y0':=by omega
  have g1:2147483648≤y1:=by omega
  have g0:y0'<4294967296:=by omega
  have c1:(u:Int) / (y1:Int)=((u / y1:Nat):Int):=by simp
  have dm:=Nat.div_add_mod u y1
  have dm2:((u / y1:Nat):Int)*(y1:Int)=((y1*(u / y1):Nat):Int):=by rw[Nat.mul_comm y1];simp
  have dm3:(u:Int) - ((y1*(u / y1):Nat):Int)=((u % y1:Nat):Int):=by omega
  have dl:=Nat.mod_lt u (show 0<y1 by omega)
  have dle:u / y1≤u:=Nat.div_le_self _ _
  simp -dsimp (maxSteps:=1000000) (disch:=first|omega|(simp only[ax,ay];omega)|decide +kernel|(repeat first|rw[ax]|rw[ay])) only[wpS,zE,Int.reduceToNat,QG,TG,eY,eU,e64,eR,eO,←hu,←hw,s1,s2,s3,s4,←Zu,←Zv,c1,dm2,dm3]
  refine FL (fun fr h2=>h2=h1∧ai fr 2=some (K64 Y)∧ai fr 8=some (.int .u64 (s:Int))∧ai fr 9=some (K64 y1)∧ai fr 10=some (K64 y0')∧ai fr 11=some (K64 u)∧ai fr 13=some (K64 (w / 4294967296))∧ai fr 14=some (K64 (w % 4294967296))∧ai fr 15=some (K64 ((u*4294967296+w / 4294967296) / (y1*4294967296+y0')))) ?_ ?_
  ·refine loop (fun m fr h2=>h2=h1 ∧ ∃q r:Nat,q=m∧D4 y1 y0' u (w / 4294967296) q r∧r<4294967296∧ai fr 2=some (K64 Y)∧ai fr 8=some (.int .u64 (s:Int))∧ai fr 9=some (K64 y1)∧ai fr 10=some (K64 y0')∧ai fr 11=some (K64 u)∧ai fr 13=some (K64 (w / 4294967296))∧ai fr 14=some (K64 (w % 4294967296))∧ai fr 15=some (K64 q)∧ai fr 16=some (K64 r)) (u / y1)
    ⟨rfl,_,_,rfl,z6 g1 g0 (eYY▸huY) (by omega),by omega,by simp,by simp,by simp,by simp,by simp,by simp,by simp,by simp,by simp⟩ ?_
   rintro m fr h2 ⟨rfl,q,r,rfl,hJ,hr,f2,f8,f9,f10,f11,f13,f14,fq,Ih⟩
   have hq1:=hJ.2.2
   have hUY:u<y1*4294967296+y0':=eYY▸huY
   have hDD:w / 4294967296<4294967296:=by omega
   have Ez:(4294967296≤q∨4294967296*r+w / 4294967296<q*y0')→0<q∧D4 y1 y0' u (w / 4294967296) (q - 1) (r+y1):=fun hc=>Ca g1 g0 hUY hDD hJ hc
   by_cases hqB:4294967296≤q
   ·obtain⟨hq0,hJ2⟩:=Ez (.inl hqB)
    have eq1:(q:Int) - 1=((q - 1:Nat):Int):=by omega
    have er1:(r:Int)+(y1:Int)=((r+y1:Nat):Int):=by omega
    simp -dsimp (disch:=try exact dx) only[wpS,wpT,zE,f9,fq,Ih,eq1,er1]
    refine aA ?_ ?_<;>intro hc<;>simp only[decide_eq_true_eq,decide_eq_false_iff_not] at hc
    ·simp -dsimp (disch:=try exact dx) only[wpS,wpT]
     refine⟨rfl,by simp[f2],by simp[f8],by simp[f9],by simp[f10],by simp[f11],by simp[f13],by simp[f14],?_⟩
     rw[pd g1 g0 hJ2 (by omega) (by omega)];simp
    ·simp -dsimp (disch:=try exact dx) only[wpS,wpT]
     exact⟨q - 1,by omega,rfl,q - 1,r+y1,rfl,hJ2,by omega,by simp[f2],by simp[f8],by simp[f9],by simp[f10],by simp[f11],by simp[f13],by simp[f14],by simp,by simp⟩
   ·have hpm:q*y0'≤4294967295*4294967295:=Nat.mul_le_mul (by omega) (by omega)
    have ep:(q:Int)*(y0':Int)=((q*y0':Nat):Int):=by simp
    generalize hpp:q*y0'=p at *
    simp -dsimp (disch:=try exact dx) only[wpS,wpT,zE,f10,f13,fq,Ih,ep]
    refine aA ?_ ?_<;>intro hc<;>simp only[decide_eq_true_eq,decide_eq_false_iff_not] at hc
    ·obtain⟨hq0,hJ2⟩:=Ez (.inr (by omega))
     have eq1:(q:Int) - 1=((q - 1:Nat):Int):=by omega
     have er1:(r:Int)+(y1:Int)=((r+y1:Nat):Int):=by omega
     simp -dsimp (disch:=try exact dx) only[wpS,wpT,zE,f9,fq,Ih,eq1,er1]
     refine aA ?_ ?_<;>intro hc5<;>simp only[decide_eq_true_eq,decide_eq_false_iff_not] at hc5
     ·simp -dsimp (disch:=try exact dx) only[wpS,wpT]
      refine⟨rfl,by simp[f2],by simp[f8],by simp[f9],by simp[f10],by simp[f11],by simp[f13],by simp[f14],?_⟩
      rw[pd g1 g0 hJ2 (by omega) (by omega)];simp
     ·simp -dsimp (disch:=try exact dx) only[wpS,wpT]
      exact⟨q - 1,by omega,rfl,q - 1,r+y1,rfl,hJ2,by omega,by simp[f2],by simp[f8],by simp[f9],by simp[f10],by simp[f11],by simp[f13],by simp[f14],by simp,by simp⟩
    ·simp -dsimp (disch:=try exact dx) only[wpS,wpT]
     refine⟨rfl,by simp[f2],by simp[f8],by simp[f9],by simp[f10],by simp[f11],by simp[f13],by simp[f14],?_⟩
     rw[vM g1 g0 hJ (by rw[hpp];omega)];simp[fq]
  rintro fr h2 ⟨rfl,f2,f8,f9,f10,f11,f13,f14,f15⟩
  rw[←eYY] at f15
  clear hsp eU eO eR hR s1 s2 s3 s4 c1 dm dm2 dm3 dl dle
  have hw1:w / 4294967296<4294967296:=by omega
  have hw0:w % 4294967296<4294967296:=by omega
  have nn1:((u*4294967296+w / 4294967296) / Y)*Y+(u*4294967296+w / 4294967296) % Y=u*4294967296+w / 4294967296:=by rw[Nat.mul_comm];exact Nat.div_add_mod _ _
  have hr1:(u*4294967296+w / 4294967296) % Y<Y:=Nat.mod_lt _ (by omega)
  have hq1:(u*4294967296+w / 4294967296) / Y<4294967296:=by rw[Nat.div_lt_iff_lt_mul (by omega)];omega
  obtain⟨q1,hQ1⟩ : ∃q,q=(u*4294967296+w / 4294967296) / Y:=⟨_,rfl⟩
  obtain⟨r1,hR1⟩ : ∃q,q=(u*4294967296+w / 4294967296) % Y:=⟨_,rfl⟩
  rw[←hQ1] at nn1 hq1 f15
  rw[←hR1] at nn1 hr1
  clear hQ1 hR1
  obtain⟨A,hA⟩ : ∃A,A=u*4294967296 % 18446744073709551616:=⟨_,rfl⟩
  have eA:IntKind.u64.wrap ((u:Int)*4294967296)=(A:Int):=by rw[rI];omega
  obtain⟨B1,hB1⟩ : ∃B1,B1=A+w / 4294967296:=⟨_,rfl⟩
  have eB:(A:Int)+((w / 4294967296:Nat):Int)=(B1:Int):=by omega
  have hB2:B1<18446744073709551616:=by omega
  have eC0:(q1:Int)*(Y:Int)=((q1*Y:Nat):Int):=by simp
  obtain⟨p1,hp1⟩ : ∃p1,p1=q1*Y:=⟨_,rfl⟩
  rw[←hp1] at nn1 eC0
  obtain⟨C1,hC1⟩ : ∃C1,C1=p1 % 18446744073709551616:=⟨_,rfl⟩
  have eC:IntKind.u64.wrap ((p1:Nat):Int)=(C1:Int):=by rw[rI];omega
  have eR1:IntKind.u64.wrap ((B1:Int) - (C1:Int))=(r1:Int):=by rw[rI];omega
  have c1:(r1:Int) / (y1:Int)=((r1 / y1:Nat):Int):=by simp
  have dm:=Nat.div_add_mod r1 y1
  have dm2:((r1 / y1:Nat):Int)*(y1:Int)=((y1*(r1 / y1):Nat):Int):=by rw[Nat.mul_comm y1];simp
  have dm3:(r1:Int) - ((y1*(r1 / y1):Nat):Int)=((r1 % y1:Nat):Int):=by omega
  have dl:=Nat.mod_lt r1 (show 0<y1 by omega)
  have dle:r1 / y1≤r1:=Nat.div_le_self _ _
  simp -dsimp (disch:=try exact dx) only[wpS,zE,f2,f9,f11,f13,f15,eA,eB,eC0,eC,eR1,c1,dm2,dm3]
  refine FL (fun fr h3=>h3=h2∧ai fr 2=some (K64 Y)∧ai fr 8=some (.int .u64 (s:Int))∧ai fr 14=some (K64 (w % 4294967296))∧ai fr 15=some (K64 q1)∧ai fr 17=some (K64 r1)∧ai fr 18=some (K64 ((r1*4294967296+w % 4294967296) / (y1*4294967296+y0')))) ?_ ?_
  ·refine loop (fun m fr h3=>h3=h2 ∧ ∃q r:Nat,q=m∧D4 y1 y0' r1 (w % 4294967296) q r∧r<4294967296∧ai fr 2=some (K64 Y)∧ai fr 8=some (.int .u64 (s:Int))∧ai fr 9=some (K64 y1)∧ai fr 10=some (K64 y0')∧ai fr 14=some (K64 (w % 4294967296))∧ai fr 15=some (K64 q1)∧ai fr 17=some (K64 r1)∧ai fr 18=some (K64 q)∧ai fr 16=some (K64 r)) (r1 / y1)
    ⟨rfl,_,_,rfl,z6 g1 g0 (eYY▸hr1) hw0,by omega,by simp[f2],by simp[f8],by simp[f9],by simp[f10],by simp[f14],by simp[f15],by simp,by simp,by simp⟩ ?_
   clear f2 f8 f9 f10 f11 f13 f14 f15
   rintro m fr h3 ⟨rfl,q,r,rfl,hJ,hr,f2,f8,f9,f10,f14,f15,f17,fq,Ih⟩
   have hqq:=hJ.2.2
   have hUY:r1<y1*4294967296+y0':=eYY▸hr1
   have Ez:(4294967296≤q∨4294967296*r+w % 4294967296<q*y0')→0<q∧D4 y1 y0' r1 (w % 4294967296) (q - 1) (r+y1):=fun hc=>Ca g1 g0 hUY hw0 hJ hc
   by_cases hqB:4294967296≤q
   ·obtain⟨hq0,hJ2⟩:=Ez (.inl hqB)
    have eq1:(q:Int) - 1=((q - 1:Nat):Int):=by omega
    have er1:(r:Int)+(y1:Int)=((r+y1:Nat):Int):=by omega
    simp -dsimp (disch:=try exact dx) only[wpS,wpT,zE,f9,fq,Ih,eq1,er1]
    refine aA ?_ ?_<;>intro hc<;>simp only[decide_eq_true_eq,decide_eq_false_iff_not] at hc
    ·simp -dsimp (disch:=try exact dx) only[wpS,wpT]
     refine⟨rfl,by simp[f2],by simp[f8],by simp[f14],by simp[f15],by simp[f17],?_⟩
     rw[pd g1 g0 hJ2 (by omega) (by omega)];simp
    ·simp -dsimp (disch:=try exact dx) only[wpS,wpT]
     exact⟨q - 1,by omega,rfl,q - 1,r+y1,rfl,hJ2,by omega,by simp[f2],by simp[f8],by simp[f9],by simp[f10],by simp[f14],by simp[f15],by simp[f17],by simp,by simp⟩
   ·have hpm:q*y0'≤4294967295*4294967295:=Nat.mul_le_mul (by omega) (by omega)
    have ep:(q:Int)*(y0':Int)=((q*y0':Nat):Int):=by simp
    generalize hpp:q*y0'=p at *
    simp -dsimp (disch:=try exact dx) only[wpS,wpT,zE,f10,f14,fq,Ih,ep]
    refine aA ?_ ?_<;>intro hc<;>simp only[decide_eq_true_eq,decide_eq_false_iff_not] at hc
    ·obtain⟨hq0,hJ2⟩:=Ez (.inr (by omega))
     have eq1:(q:Int) - 1=((q - 1:Nat):Int):=by omega
     have er1:(r:Int)+(y1:Int)=((r+y1:Nat):Int):=by omega
     simp -dsimp (disch:=try exact dx) only[wpS,wpT,zE,f9,fq,Ih,eq1,er1]
     refine aA ?_ ?_<;>intro hc5<;>simp only[decide_eq_true_eq,decide_eq_false_iff_not] at hc5
     ·simp -dsimp (disch:=try exact dx) only[wpS,wpT]
      refine⟨rfl,by simp[f2],by simp[f8],by simp[f14],by simp[f15],by simp[f17],?_⟩
      rw[pd g1 g0 hJ2 (by omega) (by omega)];simp
     ·simp -dsimp (disch:=try exact dx) only[wpS,wpT]
      exact⟨q - 1,by omega,rfl,q - 1,r+y1,rfl,hJ2,by omega,by simp[f2],by simp[f8],by simp[f9],by simp[f10],by simp[f14],by simp[f15],by simp[f17],by simp,by simp⟩
    ·simp -dsimp (disch:=try exact dx) only[wpS,wpT]
     refine⟨rfl,by simp[f2],by simp[f8],by simp[f14],by simp[f15],by simp[f17],?_⟩
     rw[vM g1 g0 hJ (by rw[hpp];omega)];simp[fq]
  clear f2 f8 f9 f10 f11 f13 f14 f15
  rintro fr h3 ⟨rfl,f2,f8,f14,f15,f17,f18⟩
  rw[←eYY] at f18
  have nn0:((r1*4294967296+w % 4294967296) / Y)*Y+(r1*4294967296+w % 4294967296) % Y=r1*4294967296+w % 4294967296:=by rw[Nat.mul_comm];exact Nat.div_add_mod _ _
  have hr0:(r1*4294967296+w % 4294967296) % Y<Y:=Nat.mod_lt _ (by omega)
  have hq0:(r1*4294967296+w % 4294967296) / Y<4294967296:=by rw[Nat.div_lt_iff_lt_mul (by omega)];omega
  obtain⟨q0,hQ0⟩ : ∃q,q=(r1*4294967296+w % 4294967296) / Y:=⟨_,rfl⟩
  obtain⟨r0,hR0⟩ : ∃q,q=(r1*4294967296+w % 4294967296) % Y:=⟨_,rfl⟩
  rw[←hQ0] at nn0 hq0 f18
  rw[←hR0] at nn0 hr0
  clear hQ0 hR0
  have fin:=Io (q1:=q1) (r1:=r1) (q0:=q0) (r0:=r0) hY (by omega) hN (by omega) nn0.symm hr0
  obtain⟨A2,hA2⟩ : ∃A,A=r1*4294967296 % 18446744073709551616:=⟨_,rfl⟩
  have eA2:IntKind.u64.wrap ((r1:Int)*4294967296)=(A2:Int):=by rw[rI];omega
  obtain⟨B2,hB2⟩ : ∃B1,B1=A2+w % 4294967296:=⟨_,rfl⟩
  have eB2:(A2:Int)+((w % 4294967296:Nat):Int)=(B2:Int):=by omega
  have eD0:(q0:Int)*(Y:Int)=((q0*Y:Nat):Int):=by simp
  obtain⟨p0,hp0⟩ : ∃p1,p1=q0*Y:=⟨_,rfl⟩
  rw[←hp0] at nn0 eD0
  obtain⟨C2,hC2⟩ : ∃C1,C1=p0 % 18446744073709551616:=⟨_,rfl⟩
  have eD:IntKind.u64.wrap ((p0:Nat):Int)=(C2:Int):=by rw[rI];omega
  have eR0:IntKind.u64.wrap ((B2:Int) - (C2:Int))=(r0:Int):=by rw[rI];omega
  have eS:l8 r0 s=r0 / 2 ^ s:=Nat.shiftRight_eq_div_pow _ _
  have eQ1:(q1:Int)*4294967296=((q1*4294967296:Nat):Int):=by omega
  have eQ2:((q1*4294967296:Nat):Int)+(q0:Int)=((q1*4294967296+q0:Nat):Int):=by omega
  simp -dsimp (disch:=try exact dx) only[wpS,wpT,zE,f2,f8,f14,f15,f17,f18,eA2,eB2,eD0,eD,eR0,eS,eQ1,eQ2]
  rw[fin.1,←fin.2]
end Go.Id

namespace Go.Id
open Go
open Go.Proofs.Tryz (prog)
open Nat renaming reduceAdd→zA,reduceEqDiff→zE,reduceLeDiff→zL
set_option maxHeartbeats 16000000
theorem KC {P:Program} {fn:FuncId} {nt:Nat} {rd:Option Nat} {a c:Code} {fr:Fr} {h:IH} {Q:bh→Fr→IH→Prop} {b:Bool} (R:Fr→IH→Prop)
  (h1:b=true→Do (wpC P fn nt rd a fr h) (rA (fun fr h=>Pst (R fr h) nx) Q) nx) (h2:b=false→Do (wpC P fn nt rd c fr h) (rA (fun fr h=>Pst (R fr h) nx) Q) nx) (k : ∀fr h,R fr h→Q .normal fr h) :
  Bq b (Do (wpC P fn nt rd a fr h) Q nx,Do (wpC P fn nt rd c fr h) Q nx) nx:=by
 have e:Q=rA (Q .normal) Q:=by funext e fr h;cases e<;>rfl
 refine aA (fun hb=>?_) fun hb=>?_
 ·rw[e];exact cut R (h1 hb) k
 ·rw[e];exact cut R (h2 hb) k
def Wm (x k:Nat):Prop:=(x=0→k=0)∧(x≠0→0<k∧2 ^ (k - 1)≤x∧x<2 ^ k)
theorem BP {h:IH} {v:Value} {ds:List Nat} (hd:gN h v ds) (n:B.Norm ds):WV prog (.func (.func 264) #[] #[]) [v] h fun r h'=>h'=h ∧ ∃k:Nat,r=KN k∧k≤64*ds.length∧Wm (B.au ds) k:=by
 have hb:=hd.2.2
 have hz:=n.jV
 refine enter (nt:=17) (rs:=[.tmp 2]) Proofs.Tryz.func264 rfl rfl rfl (by simp) ?_
 simp -dsimp (disch:=try exact dx) only[wpS,zE,hd.1.len fj]
 refine aA ?_ ?_<;>intro hc<;>simp only[beq_iff_eq,beq_eq_false_iff_ne,ne_eq] at hc
 ·have h0:ds = []:=List.length_eq_zero_iff.1 (by omega)
  simp -dsimp (disch:=try exact dx) only[wpS,wpT,zE]
  exact⟨0,rfl,by omega,fun _=>rfl,fun hne=>absurd (hz.2 h0) hne⟩
 ·obtain⟨m,hm⟩ : ∃m,ds.length=m+1:=⟨ds.length - 1,by omega⟩
  have hne:ds.getD m 0≠0:=by
   rcases n with rfl|hn
   ·simp at hm
   ·rwa [hm,Nat.add_sub_cancel] at hn
  have dl:=B.bF hd.2.1 m
  have gm:=get_some (show m<ds.length by omega)
  have e1:(ds.length:Int) - 1=(m:Int):=by omega
  simp -dsimp (disch:=try exact dx) only[wpS,wpT,zE,hd.1.len fj,e1,hd.1.idx fU (show m<ds.length by omega),hd.1.ld (aN.refl _) (P:=prog) (t:=42) (c:=m) (by simp<;>omega) pK,ch,gm]
  refine call (TT (ds.getD m 0) (by omega) dl) ?_
  rintro _ _ ⟨rfl,s,rfl,hs,_,_,h1,h2⟩
  have e2:(64:Int)*(ds.length:Int) - (s:Int)=((64*m+(63 - s)+1:Nat):Int):=by omega
  have Ua:=B.S9 (k:=63 - s) hd.2.1 hm h1 (by rw[show 63 - s+1=64 - s by omega];exact h2)
  simp -dsimp (disch:=try exact dx) only[wpS,wpT,zE,e2]
  refine⟨64*m+(63 - s)+1,rfl,by omega,fun h0=>?_,fun _=>⟨by omega,?_,Ua.2⟩⟩
  ·have:=hz.1 h0
   rw[this] at hm;simp at hm
  ·rw[Nat.add_sub_cancel];exact Ua.1
theorem Pp {h:IH} {v:Value} {ds:List Nat} (hd:gN h v ds) (k:Nat) (hk:ds.length+k / 64+1≤1100000):WV prog (.func (.func 265) #[] #[]) [v,KN k] h fun r h'=>Ext h h'∧Wrd h' r (B.au ds*2 ^ k):=by
 obtain⟨m,hm⟩ : ∃m,m=k / 64:=⟨_,rfl⟩
 obtain⟨s,hs⟩ : ∃s,s=k % 64:=⟨_,rfl⟩
 have eM:(k:Int) / 64=(m:Int):=by omega
 have eS:(k:Int) % 64=(s:Int):=by omega
 have s64:s<64:=by omega
 have hk2:k=64*m+s:=by omega
 rw[←hm] at hk
 have eL:(ds.length:Int)+(m:Int)+1=((ds.length+m+1:Nat):Int):=by omega
 refine enter (nt:=54) (rs:=[.tmp 4]) Proofs.Tryz.func265 rfl rfl rfl (by simp) ?_
 simp -dsimp (disch:=try exact dx) only[wpS,wpT,zE,zA,FG,hd.1.len fj,eM,eL]
 refine loop (fun j fr h1 => ∃(i:Nat) (os:List Nat),i+j=ds.length∧Ext h h1∧h.n<h1.n∧h1.ext.get h.n=some (.cells (os.map K64) 1 none)∧os.length=ds.length+m+1∧B.bH os∧B.au os=B.aE ds i*2 ^ k∧os.getD (i+m) 0<2 ^ s∧(∀j,i+m<j→os.getD j 0=0) ∧
   ai fr 1=some (KN k)∧ai fr 5=some (.slice (some ⟨2*h.n,0,none⟩) (ds.length+m+1) (2*(ds.length+m+1)+1))∧ai fr 15=some v∧ai fr 16=some (KN ds.length)∧ai fr 17=some (KN i)) ds.length
  ⟨0,List.replicate (ds.length+m+1) 0,by omega,(Ext.refl h).new _,by simp,by rw[ab _ _ rfl,nP];rfl,by simp,B.bH.bS _,by rw[B.jC];simp[B.aE],by rw[B.jK];exact Nat.pow_pos (by omega),fun k _=>B.jK _ _,by simp,by simp,by simp,by simp,by simp⟩ ?_
 rintro j fr h1 ⟨i,os,him,hE,hn,hg,hol,hod,hov,hot,hoz,f1,f5,f15,f16,f17⟩
 simp -dsimp (disch:=try exact dx) only[wpS,f16,f17]
 refine aA ?_ ?_<;>intro hc<;>simp only[decide_eq_true_eq,decide_eq_false_iff_not] at hc
 ·have hi:i<ds.length:=by omega
  have dx:=B.bF hd.2.1 i
  have gx:=get_some hi
  have hr:h1.row (2*h.n)=some (os.map K64):=bD hg
  have go:=get_some (show i+m<os.length by omega)
  obtain⟨x,hx⟩ : ∃x,x=ds.getD i 0:=⟨_,rfl⟩
  obtain⟨o,ho⟩ : ∃o,o=os.getD (i+m) 0:=⟨_,rfl⟩
  rw[←hx] at gx dx
  rw[←ho] at go hot
  have gor:(os.map K64)[i+m]?=some (K64 o):=by rw[List.getElem?_map,go];rfl
  have eI:(i:Int)+(m:Int)=((i+m:Nat):Int):=by omega
  obtain⟨y,hy⟩ : ∃y,y=x*2 ^ s % 18446744073709551616:=⟨_,rfl⟩
  have hyl:y<18446744073709551616:=by omega
  have hor:o ||| y=o+y:=B.R9 hot (by rw[hy];exact B.RR x s64)
  have F4:o+y<18446744073709551616:=by
   rw[←hor]
   exact Nat.or_lt_two_pow (n:=64) (Nat.lt_of_lt_of_le hot (Nat.pow_le_pow_right (by omega) (by omega))) hyl
  have eY:x*2 ^ s % 18446744073709551616=y:=hy.symm
  obtain⟨z,hz⟩ : ∃z,z=x / 2 ^ (64 - s):=⟨_,rfl⟩
  have hzl:z<2 ^ s:=by rw[hz];exact B.Bn dx (by omega)
  have Vq:y+z*18446744073709551616=x*2 ^ s:=by rw[hy,hz];exact B.Bp dx s64
  have spl:=jg (o+y) (show i+m<os.length by omega)
  have nX:B.au (os.set (i+m) (o+y))=B.au os+y*18446744073709551616 ^ (i+m):=by
   have:=B.ig (o+y) (show i+m<os.length by omega)
   rw[←ho,Nat.add_mul] at this;omega
  have Vw:B.aE ds (i+1)*2 ^ k=B.aE ds i*2 ^ k+(y*18446744073709551616 ^ (i+m)+z*18446744073709551616 ^ (i+1+m)):=by
   have e1:18446744073709551616 ^ (i+1+m)=18446744073709551616*18446744073709551616 ^ (i+m):=by rw[show i+1+m=(i+m)+1 by omega,Nat.pow_succ,Nat.mul_comm]
   have e2:2 ^ k=18446744073709551616 ^ m*2 ^ s:=by rw[B.qf,←Nat.pow_add,hk2]
   have e3:y*(18446744073709551616 ^ i*18446744073709551616 ^ m)+z*(18446744073709551616*(18446744073709551616 ^ i*18446744073709551616 ^ m))=(y+z*18446744073709551616)*(18446744073709551616 ^ i*18446744073709551616 ^ m):=by rw[Nat.add_mul,Nat.mul_assoc]
   rw[B.aE,←hx,e1,e2,Nat.pow_add,e3,Vq,Nat.add_mul]
   congr 1
   ac_rfl
  have gx':=gx
  simp -dsimp (maxSteps:=1000000) (disch:=first|omega|(simp only[ax,ay];omega)|decide +kernel|(repeat first|rw[ax]|rw[ay])) only[wpS,wpT,zE,zL,fU,kB,nJ,f1,f5,f15,f17,hd.1.idx fU hi,hd.1.ld hE.ae (P:=prog) (t:=42) (c:=i) (by simpa using hi) pK,ch,gx,hr,gor,eM,eS,eI,TG,eY,hor,hg,spl,List.length_map,hol]
  refine KC (fun fr2 h2 => ∃os2:List Nat,Ext h h2∧h.n<h2.n∧h2.ext.get h.n=some (.cells (os2.map K64) 1 none)∧os2.length=ds.length+m+1∧B.bH os2∧B.au os2=B.aE ds (i+1)*2 ^ k∧os2.getD (i+1+m) 0<2 ^ s∧(∀j,i+1+m<j→os2.getD j 0=0) ∧
   ai fr2 1=some (KN k)∧ai fr2 5=some (.slice (some ⟨2*h.n,0,none⟩) (ds.length+m+1) (2*(ds.length+m+1)+1))∧ai fr2 15=some v∧ai fr2 16=some (KN ds.length)∧ai fr2 17=some (KN i)) (fun hc=>?_) (fun hc=>?_) ?_
  ·simp only[decide_eq_true_eq] at hc
   have eJ:((i+m:Nat):Int)+1=((i+1+m:Nat):Int):=by omega
   have e64:(64:Int) - (s:Int)=((64 - s:Nat):Int):=by omega
   have eZ:l8 x (64 - s)=z:=by rw[hz];exact Nat.shiftRight_eq_div_pow _ _
   have hj2:i+1+m<(os.set (i+m) (o+y)).length:=by rw[List.length_set];omega
   have hz0:(os.set (i+m) (o+y)).getD (i+1+m) 0=0:=by rw[B.cX (by omega),if_neg (by omega)];exact hoz _ (by omega)
   have YU:=jg z hj2
   have hg2:(h1.put h.n (.cells ((os.set (i+m) (o+y)).map K64) 1 none)).ext.get h.n=some (.cells ((os.set (i+m) (o+y)).map K64) 1 none):=aa _ _ rfl
   simp -dsimp (maxSteps:=1000000) (disch:=first|omega|(simp only[ax,ay];omega)|decide +kernel|(repeat first|rw[ax]|rw[ay])) only[wpS,wpT,zE,zL,fU,nJ,f1,f5,eM,eS,eI,eJ,e64,eZ,hg2,YU,List.length_map,List.length_set,hol]
   refine⟨(os.set (i+m) (o+y)).set (i+1+m) z,(hE.put (Nat.le_refl _) _).put (Nat.le_refl _) _,hn,aa _ _ rfl,by rw[List.length_set,List.length_set,hol],(hod.set _ F4).set _ (Nat.lt_trans hzl (by exact Nat.lt_of_lt_of_le (Nat.pow_lt_pow_right (by omega) s64) (by omega))),?_,?_,?_,by simp[f1],by simp[f5],by simp[f15],by simp[f16],by simp[f17]⟩
   ·have:=B.ig z hj2
    rw[hz0,Nat.zero_mul,Nat.add_zero] at this
    rw[this,nX,hov,Vw,Nat.add_assoc]
   ·rw[B.cX hj2,if_pos rfl];exact hzl
   ·intro j hj
    rw[B.cX hj2,if_neg (by omega),B.cX (by omega),if_neg (by omega)]
    exact hoz _ (by omega)
  ·simp only[decide_eq_false_iff_not] at hc
   have hs0:s=0:=by omega
   have hz0:z=0:=by rw[hs0] at hzl;omega
   simp -dsimp (disch:=try exact dx) only[wpS,wpT]
   refine⟨os.set (i+m) (o+y),hE.put (Nat.le_refl _) _,hn,aa _ _ rfl,by rw[List.length_set,hol],hod.set _ F4,?_,?_,?_,by simp[f1],by simp[f5],by simp[f15],by simp[f16],by simp[f17]⟩
   ·rw[nX,hov,Vw,hz0,Nat.zero_mul,Nat.add_zero]
   ·rw[B.cX (by omega),if_neg (by omega),hoz _ (by omega)];exact Nat.pow_pos (by omega)
   ·intro j hj
    rw[B.cX (by omega),if_neg (by omega)]
    exact hoz _ (by omega)
  ·clear hE hn hg hol hod hov hot hoz hr go gor ho hor F4 spl nX Vw f1 f5 f15 f16 f17 gx gx'
   rintro fr2 h2 ⟨os2,hE,hn,hg,hol,hod,hov,hot,hoz,f1,f5,f15,f16,f17⟩
   simp -dsimp (maxSteps:=1000000) (disch:=first|omega|(simp only[ax,ay];omega)|decide +kernel|(repeat first|rw[ax]|rw[ay])) only[wpS,f17]
   exact⟨j - 1,by omega,i+1,os2,by omega,hE,hn,hg,hol,hod,hov,hot,hoz,by simp[f1],by simp[f5],by simp[f15],by simp[f16],by simp⟩
 ·obtain rfl:i=ds.length:=by omega
  have hW:gN h1 (.slice (some ⟨2*h.n,0,none⟩) (ds.length+m+1) (2*(ds.length+m+1)+1)) os:=by
   refine⟨?_,hod,by omega⟩
   rw[hol]
   exact cD hg hn (by decide) (by rw[List.length_map,hol];omega) (by omega) (by omega)
  simp -dsimp (disch:=try exact dx) only[wpS,wpT,zE,f5]
  refine call (fH hW false) ?_
  rintro _ h2 ⟨hE2,sv,rfl,hw⟩
  simp -dsimp (disch:=try exact dx) only[wpS,wpT,zE,zA,DC,Bool.false_eq_true]
  refine⟨hE.trans hE2,?_⟩
  simp only[Bool.false_eq_true,if_false,Int.natAbs_natCast] at hw
  rw[hov,show B.aE ds ds.length=B.au ds from rfl] at hw
  exact hw
theorem Px {r x d q0 r0 P B:Nat} (dm:d*q0+r0=r*B+x):r*(P*B)+x*P=d*(q0*P)+r0*P:=by
 have e:(d*q0+r0)*P=(r*B+x)*P:=by rw[dm]
 grind
theorem z5 {h:IH} {v w:Value} {a b:List Nat} (ha:gN h v a) (hb:gN h w b) (na:B.Norm a) (nb:B.Norm b) (hb0:B.au b≠0) (la:a.length≤1000000) (lb:b.length≤1000000) :
  WV prog (.func (.func 245) #[] #[]) [v,w] h fun r h'=>Ext h h' ∧ ∃q t,r=.tuple #[q,t]∧(∃qs,gN h' q qs∧B.au qs=B.au a / B.au b)∧Wrd h' t (B.au a % B.au b):=by
 have hbz:=nb.jV
 have hbl:0<b.length:=by
  apply Nat.pos_of_ne_zero;intro h0
  exact hb0 (hbz.2 (List.length_eq_zero_iff.1 h0))
 refine enter (nt:=77) (rs:=[.tmp 4,.tmp 5]) Proofs.Tryz.func245 rfl rfl rfl (by simp) ?_
 simp -dsimp (disch:=try exact dx) only[wpS,zE,zA,FG,ha.1.len fj,hb.1.len fj]
 refine aA ?_ ?_<;>intro hc<;>simp only[beq_iff_eq,beq_eq_false_iff_ne,ne_eq] at hc
 ·have hb1:b.length=1:=by omega
  obtain⟨d,rfl⟩:=List.length_eq_one_iff.1 hb1
  have hv:B.au [d]=d:=by simp[B.au,B.aE]
  rw[hv] at hb0 ⊢
  have dd:d<18446744073709551616:=hb.2.1 d (by simp)
  simp -dsimp (disch:=try exact dx) only[wpS,wpT,zE,ha.1.len fj]
  refine loop (fun m fr h1 => ∃(r:Nat) (os:List Nat),m≤a.length∧Ext h h1∧h.n<h1.n∧h1.ext.get h.n=some (.cells (os.map K64) 1 none)∧os.length=a.length∧B.bH os∧r<d∧B.au a=d*B.au os+r*18446744073709551616 ^ m+B.aE a m∧(∀j,j<m→os.getD j 0=0) ∧
    ai fr 0=some v∧ai fr 1=some w∧ai fr 4=some (.slice (some ⟨2*h.n,0,none⟩) a.length (2*a.length+1))∧ai fr 6=some (K64 r)∧ai fr 7=some (KI ((m:Int) - 1))) a.length
   ⟨0,List.replicate a.length 0,Nat.le_refl _,(Ext.refl h).new _,by simp,by rw[ab _ _ rfl,nP],by simp,B.bH.bS _,by omega,by rw[B.jC];simp[B.au],fun k _=>B.jK _ _,by simp,by simp,by simp,by simp,by simp⟩ ?_
  rintro m fr h1 ⟨r,os,hm,hE,hn,hg,hol,hod,hr,hva,hoz,f0,f1,f4,f6,f7⟩
  rcases Nat.eq_zero_or_pos m with rfl|hp
  ·simp -dsimp (disch:=try exact dx) only[wpS,wpT,zE,zL,zA,Q0,f4,f6,f7]
   have hbs:gN (h1.new (.cells [K64 r] 1 none)) (.slice (some ⟨2*h1.n,0,none⟩) 1 (2*1+1)) [r]:=⟨by simpa using qG (h:=h1) (sz:=1) (m:=1) (cs:=[K64 r]) (by omega) rfl (by omega),fun x hx=>by simp at hx;omega,by simp⟩
   refine call (fH hbs false) ?_
   rintro _ h2 ⟨hE2,sv,rfl,hw⟩
   simp -dsimp (disch:=try exact dx) only[wpS,wpT,zE,zA,DC,Bool.false_eq_true]
   have e3:=((Ext.refl h1).new (.cells [K64 r] 1 none)).trans hE2
   simp only[Bool.false_eq_true,if_false,Int.natAbs_natCast] at hw
   have hv1:B.au [r]=r:=by simp[B.au,B.aE]
   rw[hv1] at hw
   simp only[B.aE,Nat.pow_zero,Nat.mul_one,Nat.add_zero] at hva
   obtain⟨d1,d2⟩:B.au os=B.au a / d∧r=B.au a % d:=by
    rw[hva,Nat.mul_add_mod,Nat.mul_add_div (by omega),Nat.div_eq_of_lt hr,Nat.mod_eq_of_lt hr];exact⟨rfl,rfl⟩
   refine⟨hE.trans e3,_,_,rfl,⟨os,?_,d1⟩,by rw[←d2];exact hw⟩
   refine gN.ae (h:=h1) ⟨?_,hod,by omega⟩ e3.ae
   rw[hol]
   exact cD hg hn (by decide) (by rw[List.length_map,hol];omega) (by omega) (by omega)
  ·obtain⟨k,rfl⟩ : ∃k,m=k+1:=⟨m - 1,by omega⟩
   have e1:(((k+1:Nat):Int) - 1)=(k:Int):=by omega
   rw[e1] at f7
   have dx:=B.bF ha.2.1 k
   have gx:=get_some (show k<a.length by omega)
   have hr2:h1.row (2*h.n)=some (os.map K64):=bD hg
   rw[B.aE] at hva
   obtain⟨x,hx⟩ : ∃x,x=a.getD k 0:=⟨_,rfl⟩
   rw[←hx] at gx dx hva
   have ib:indexAddr prog 121 w (.int .i64 0)=some (aO w 0):=by
    simpa using hb.1.W0 (P:=prog) (t:=121) fU (k:=.i64) (i:=0) (by omega) (by simp)
   have lb0:load prog h1 42 (aO w 0)=some (K64 d):=hb.1.ld hE.ae (P:=prog) (t:=42) (c:=0) (by simp) pK
   simp -dsimp (maxSteps:=1000000) (disch:=first|omega|(simp only[ax,ay];omega)|decide +kernel|(repeat first|rw[ax]|rw[ay])) only[wpS,wpT,zE,f0,f1,f4,f6,f7,ha.1.idx fU (show k<a.length by omega),ha.1.ld hE.ae (P:=prog) (t:=42) (c:=k) (by simp<;>omega) pK,ch,gx,ib,lb0]
   refine call (Qp r x d hr dx dd) ?_
   rintro _ h2 ⟨rfl,rfl⟩
   have dm:=Nat.div_add_mod (r*18446744073709551616+x) d
   have dl:=Nat.mod_lt (r*18446744073709551616+x) (show 0<d by omega)
   have dq:(r*18446744073709551616+x) / d<18446744073709551616:=by
    rw[Nat.div_lt_iff_lt_mul (by omega)]
    have:(r+1)*18446744073709551616≤d*18446744073709551616:=Nat.mul_le_mul_right _ hr
    omega
   obtain⟨q0,hq0⟩ : ∃q,q=(r*18446744073709551616+x) / d:=⟨_,rfl⟩
   obtain⟨r0,hr0⟩ : ∃q,q=(r*18446744073709551616+x) % d:=⟨_,rfl⟩
   rw[←hq0] at dm dq ⊢
   rw[←hr0] at dm dl ⊢
   have spl:=jg q0 (show k<os.length by omega)
   simp -dsimp (maxSteps:=1000000) (disch:=first|omega|(simp only[ax,ay];omega)|decide +kernel|(repeat first|rw[ax]|rw[ay])) only[wpS,wpT,zE,fU,nJ,f7,hg,spl,List.length_map,hol]
   refine⟨k,by omega,r0,os.set k q0,by omega,hE.put (Nat.le_refl _) _,hn,aa _ _ rfl,by rw[List.length_set,hol],hod.set _ dq,dl,?_,?_,by simp[f0],by simp[f1],by simp[f4],by simp,by simp⟩
   ·have:=B.ig q0 (show k<os.length by omega)
    rw[hoz k (by omega),Nat.zero_mul,Nat.add_zero] at this
    rw[hva,this,Nat.pow_succ]
    have e5:=Px (P:=18446744073709551616 ^ k) dm
    rw[Nat.mul_add]
    omega
   ·intro j hj
    rw[B.cX (by omega),if_neg (by omega)]
    exact hoz j (by omega)
 ·simp -dsimp (disch:=try exact dx) only[wpS,wpT,zE]
  have e0:Ext h (h.new (.cells (bS a.length [K64 0]) 1 none)):=(Ext.refl h).new _
  refine call (BP (ha.ae e0.ae) na) ?_
  rintro _ h2 ⟨rfl,L,rfl,hL,hBL⟩
  simp -dsimp (disch:=try exact dx) only[wpS,zE]
  refine call (BP (hb.ae e0.ae) nb) ?_
  rintro _ h3 ⟨rfl,M,rfl,hM,hBM⟩
  obtain⟨M0,M1,M2⟩:=hBM.2 hb0
  have bG:=nb.ge (fun h0=>hb0 (hbz.2 h0))
  rw[B.qf] at bG
  have bM:64*(b.length - 1)<M:=by
   have h1:2 ^ (64*(b.length - 1))<2 ^ M:=Nat.lt_of_le_of_lt bG M2
   exact(Nat.pow_lt_pow_iff_right (by omega)).1 h1
  have aL:B.au a<2 ^ L:=by
   rcases Nat.eq_zero_or_pos (B.au a) with h0|h0
   ·rw[h0];exact Nat.pow_pos (by omega)
   ·exact(hBL.2 (by omega)).2.2
  simp -dsimp (disch:=try exact dx) only[wpS,zE]
  refine loop (fun m fr h1 => ∃(kk:Int) (V r:Nat) (os:List Nat) (rv:Value),(kk+1=m∨(kk<0∧m=0))∧m≤L+1 - M ∧ -100000000<kk∧Ext h h1∧h.n<h1.n∧h1.ext.get h.n=some (.cells (os.map K64) 1 none)∧os.length=a.length∧B.bH os∧B.au os=V∧B.GM (B.au a) (B.au b) m V r∧Wrd h1 rv r ∧
    ai fr 1=some w∧ai fr 4=some (.slice (some ⟨2*h.n,0,none⟩) a.length (2*a.length+1))∧ai fr 5=some rv∧ai fr 8=some (KI kk)) (L+1 - M)
   ⟨(L:Int) - (M:Int),0,B.au a,List.replicate a.length 0,v,by omega,Nat.le_refl _,by omega,e0,by simp,by rw[ab _ _ rfl,nP],by simp,B.bH.bS _,B.jC _,?_,⟨a,ha.ae e0.ae,na,rfl⟩,by simp,by simp,by simp,by simp⟩ ?_
  ·by_cases hlm:M≤L+1
   ·have:=B.Iq (lb:=M - 1) (la:=L) aL M1 (by omega)
    rwa [show L - (M - 1)=L+1 - M by omega] at this
   ·rw[show L+1 - M=0 by omega]
    refine⟨by simp,by simp,?_⟩
    rw[Nat.pow_zero,Nat.mul_one]
    exact Nat.lt_of_lt_of_le aL (Nat.le_trans (Nat.pow_le_pow_right (by omega) (by omega)) M1)
  rintro m fr h1 ⟨kk,V,r,os,rv,hkm,hmL,hkb,hE,hn,hg,hol,hod,hov,hD,hr,f1,f4,f5,f8⟩
  rcases Nat.eq_zero_or_pos m with rfl|hp
  ·have k0:kk<0:=by omega
   simp -dsimp (disch:=try exact dx) only[wpS,wpT,zE,f4,f5,f8]
   obtain⟨d1,d2⟩:=B.Qo hD
   refine⟨hE,_,_,rfl,⟨os,⟨?_,hod,by omega⟩,by rw[hov,d1]⟩,by rw[←d2];exact hr⟩
   rw[hol]
   exact cD hg hn (by decide) (by rw[List.length_map,hol];omega) (by omega) (by omega)
  ·obtain⟨k,rfl⟩ : ∃k,m=k+1:=⟨m - 1,by omega⟩
   obtain rfl:kk=(k:Int):=by omega
   have hk0:(0:Int)≤(k:Int):=by omega
   simp -dsimp (disch:=try exact dx) only[wpS,wpT,zE,f1,f8]
   refine call (Pp (hb.ae hE.ae) k (by omega)) ?_
   rintro t h2 ⟨hE2,ht⟩
   simp -dsimp (disch:=try exact dx) only[wpS,zE,f5]
   obtain⟨rs,hrs,nr,vr⟩:=id hr
   obtain⟨ts,hts,nt,vt⟩:=id ht
   refine call (xd (hrs.ae hE2.ae) hts nr nt) ?_
   rintro _ h3 ⟨rfl,c,rfl,c1,c2,c3,c4⟩
   rw[vr,vt] at c1
   simp -dsimp (disch:=try exact dx) only[wpS,zE]
   have hg3:=(hE2.get _ hn).trans hg
   have hn3:h.n<h3.n:=Nat.lt_of_lt_of_le hn hE2.n
   refine KC (fun fr2 h4 => ∃(V2 r2:Nat) (os2:List Nat) (rv2:Value),Ext h h4∧h.n<h4.n∧h4.ext.get h.n=some (.cells (os2.map K64) 1 none)∧os2.length=a.length∧B.bH os2∧B.au os2=V2∧B.GM (B.au a) (B.au b) k V2 r2∧Wrd h4 rv2 r2 ∧
    ai fr2 1=some w∧ai fr2 4=some (.slice (some ⟨2*h.n,0,none⟩) a.length (2*a.length+1))∧ai fr2 5=some rv2∧ai fr2 8=some (KN k)) (fun hc=>?_) (fun hc=>?_) ?_
   ·simp only[decide_eq_true_eq] at hc
    have hge:B.au b*2 ^ k≤r:=by omega
    simp -dsimp (disch:=try exact dx) only[wpS,wpT,zE,f5]
    refine call (Et (hrs.ae hE2.ae) hts nt (by rw[vr,vt];exact hge)) ?_
    rintro _ h4 ⟨hE4,xs,rfl,hxs,hxv⟩
    simp -dsimp (disch:=try exact dx) only[wpS,zE]
    refine call (yw hxs false) ?_
    rintro _ h5 ⟨⟨hE5,sv,rfl,hw0⟩,jl⟩
    have hw:=jl h.n (.cells ((os.set (k / 64) (os.getD (k / 64) 0+2 ^ (k % 64))).map K64) 1 none) (by simp only[dK,ne_eq,Option.some.injEq];omega)
    obtain⟨_,hsv,hw⟩:=hw
    cases hsv
    simp only[Bool.false_eq_true,if_false,Int.natAbs_natCast] at hw
    rw[hxv,vr,vt] at hw
    have x35:=hE4.trans hE5
    have hg5:=(x35.get _ hn3).trans hg3
    have hn5:h.n<h5.n:=Nat.lt_of_lt_of_le hn3 x35.n
    have hki:k / 64<os.length:=by omega
    have hr5:h5.row (2*h.n)=some (os.map K64):=bD hg5
    have go:=get_some hki
    obtain⟨bs1,bs2⟩:=B.Ta (k:=k) hod (by rw[hov];exact hD.2.1)
    have hvs:=B.ig (os.getD (k / 64) 0+2 ^ (k % 64)) hki
    obtain⟨o,ho⟩ : ∃o,o=os.getD (k / 64) 0:=⟨_,rfl⟩
    rw[←ho] at go bs1 bs2 hvs hw
    have gor:(os.map K64)[k / 64]?=some (K64 o):=by rw[List.getElem?_map,go];rfl
    have eM:(k:Int) / 64=((k / 64:Nat):Int):=by omega
    have eS:(k:Int) % 64=((k % 64:Nat):Int):=by omega
    have hS:k % 64<64:=Nat.mod_lt _ (by omega)
    have hMM:k / 64≤1000000:=by omega
    have hpl:2 ^ (k % 64)<18446744073709551616:=Nat.pow_lt_pow_right (n:=64) (by omega) hS
    have spl:=jg (o+2 ^ (k % 64)) hki
    have hDn:=B.Qn hD hge
    have hpk:2 ^ (k % 64)*18446744073709551616 ^ (k / 64)=2 ^ k:=by rw[B.qf,←Nat.pow_add];congr 1;omega
    obtain⟨km,hkm⟩ : ∃km,km=k / 64:=⟨_,rfl⟩
    obtain⟨ks,hks⟩ : ∃ks,ks=k % 64:=⟨_,rfl⟩
    rw[←hkm] at eM hki go gor spl hMM hvs hpk hw
    rw[←hks] at eS hS bs1 bs2 spl hvs hpk hw hpl
    have hbo:=fun t ox oy=>uQ prog t ox oy o (2 ^ ks) (Nat.lt_of_le_of_lt (Nat.le_add_right _ _) bs2) hpl
    simp -dsimp (disch:=try exact dx) only[wpS,wpT,zE,zA,fU,kB,nJ,DC,f4,f8,eM,eS,hr5,gor,hbo,bs1,hg5,spl,List.length_map,hol,Bool.false_eq_true]
    refine⟨V+2 ^ k,r - B.au b*2 ^ k,os.set km (o+2 ^ ks),sv,(hE.trans (hE2.trans x35)).put (Nat.le_refl _) _,hn5,aa _ _ rfl,by rw[List.length_set,hol],hod.set _ bs2,?_,hDn,?_,by simp[f1],by simp[f4],by simp,by simp[f8]⟩
    ·rw[Nat.add_mul,hpk] at hvs
     omega
    ·exact hw
   ·simp only[decide_eq_false_iff_not] at hc
    have hlt:r<B.au b*2 ^ k:=by omega
    simp -dsimp (disch:=try exact dx) only[wpS,wpT]
    exact⟨V,r,os,rv,hE.trans hE2,hn3,hg3,hol,hod,hov,B.MS hD hlt,hr.ae hE2.ae,by simp[f1],by simp[f4],by simp[f5],by simp[f8]⟩
   ·clear hr hg hn hol hod hov hD f1 f4 f5 f8 hE
    rintro fr2 h4 ⟨V2,r2,os2,rv2,hE,hn,hg,hol,hod,hov,hD,hr,f1,f4,f5,f8⟩
    simp -dsimp (disch:=try exact dx) only[wpS,zE,f8]
    exact⟨k,by omega,(k:Int) - 1,V2,r2,os2,rv2,by omega,by omega,by omega,hE,hn,hg,hol,hod,hov,hD,hr,by simp[f1],by simp[f4],by simp[f5],by simp⟩
end Go.Id
