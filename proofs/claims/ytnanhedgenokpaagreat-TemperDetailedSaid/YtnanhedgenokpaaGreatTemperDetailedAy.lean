/-
  Contracts: the length of a number. Contracts: the quotient of two words by one.
-/
import Derived.Test.YtnanhedgenokpaaGreatTemperDetailedAt
import Derived.Test.YtnanhedgenokpaaGreatTemperDetailedAu
import Derived.Test.YtnanhedgenokpaaGreatTemperDetailedAs
import Derived.Test.YtnanhedgenokpaaGreatTemperDetailedAx
set_option linter.unusedVariables false
set_option linter.unusedSimpArgs false
set_option linter.defProp false
set_option linter.deprecated false
namespace Go.Id
open Go
def blen:Nat→Nat
 | 0=>0
 | n+1=>Nat.log2 (n+1)+1
theorem blen_ok : ∀x,x<256 → ∀N,N<9→(N<blen x↔2 ^ N≤x):=by decide +kernel
theorem index_tab {P:Program} {t:TypeId} (ht:P.underlying t=some .string) (s:ByteArray) (hs:(List.range 256).all (fun j=>decide (s[j]?=some (UInt8.ofNat (blen j))))=true) {j:Nat} (hj:j<256):indexV P t (.string s) (.int .u8 j)=some (.int .u8 (blen j)):=by
 rw[List.all_eq_true] at hs
 have h1:=hs j (List.mem_range.2 hj)
 simp only[decide_eq_true_eq] at h1
 have hb:blen j<256:=by
  have:=(blen_ok j hj 8 (by omega)).1
  rcases Nat.lt_or_ge 8 (blen j) with h|h
  ·have:=this h;omega
  ·omega
 have h2:pureRun P (Instr.index t (.string s) (.int .u8 j))=some (.int .u8 (blen j)):=by
  unfold Instr.index
  rw[pr_bind (show pureRun P (asIntOf (.int .u8 j))=some (IntKind.u8,(j:Int)) from rfl)]
  simp only
  rw[pr_bind (pr_underlying ht)]
  simp only[Int.toNat_natCast,show(0:Int)≤(j:Int) by omega,if_true,h1]
  rw[pr_pure]
  have:(UInt8.ofNat (blen j)).toNat=blen j:=by simp;omega
  rw[this]
 have hp:plain (.int .u8 j)=true:=rfl
 simp only[indexV,hp,cond_true,pureVal,h2]
 rfl
theorem ex_intro {α:Type} {o:Option α} {K:α→Prop} {v:α} (h:o=some v) (k:K v):Do (Ex o) K nx:=⟨v,h,k⟩
def LenR (u x k:Nat):Prop:=x=u / 2 ^ k∧(0<k→0<x)
theorem LenR.ok {u x k:Nat} (h:LenR u x k) (hx:x<256) (N:Nat):N<k+blen x↔2 ^ N≤u:=by
 obtain⟨rfl,h2⟩:=h
 rcases Nat.lt_or_ge N k with h|h
 ·have hx0:=h2 (by omega)
  have h3:2 ^ k≤u:=by
   apply Classical.byContradiction;intro hh
   rw[Nat.div_eq_of_lt (by omega)] at hx0;omega
  have h4:2 ^ N≤2 ^ k:=Nat.pow_le_pow_right (by omega) (by omega)
  exact⟨fun _=>Nat.le_trans h4 h3,fun _=>by omega⟩
 ·obtain⟨d,rfl⟩ : ∃d,N=k+d:=⟨N - k,by omega⟩
  have e:2 ^ (k+d)≤u↔2 ^ d≤u / 2 ^ k:=by
   rw[Nat.le_div_iff_mul_le (Nat.pow_pos (by omega)),Nat.pow_add,Nat.mul_comm]
  rw[e]
  rcases Nat.lt_or_ge d 9 with hd|hd
  ·rw[←blen_ok _ hx d hd];omega
  ·have h9:2 ^ 9≤2 ^ d:=Nat.pow_le_pow_right (by omega) hd
   have hb : ¬9≤blen (u / 2 ^ k):=by
    intro hh
    have:=(blen_ok _ hx 8 (by omega)).1 (by omega);omega
   constructor
   ·intro;omega
   ·intro;omega
theorem LenR.more {u x k d:Nat} (h:LenR u x k) (hx:2 ^ d≤x):LenR u (x / 2 ^ d) (k+d):=by
 obtain⟨rfl,h2⟩:=h
 refine⟨by rw[Nat.div_div_eq_div_mul,Nat.pow_add],fun _=>?_⟩
 exact Nat.div_pos hx (Nat.pow_pos (by omega))
theorem len64_ok {h:IH} (u:Nat) (hu:u<18446744073709551616):WV Proofs.Tryz.prog (.func (.func 277) #[] #[]) [K64 u] h fun r h'=>h'=h ∧ ∃k:Nat,r=KN k∧k<1000 ∧ ∀N,N<k↔2 ^ N≤u:=by
 refine enter (nt:=25) (rs:=[.tmp 2]) Proofs.Tryz.func277 rfl rfl rfl (by simp) ?_
 simp -dsimp (disch:=try exact dx) only[wpS,Nat.reduceEqDiff]
 refine bq_cut (fun fr2 h2=>h2=h ∧ ∃x k:Nat,fget fr2 0=some (K64 x)∧fget fr2 2=some (KN k)∧k≤32∧x<4294967296∧LenR u x k) (fun hc=>?_) (fun hc=>?_) ?_
 ·simp only[decide_eq_true_eq] at hc
  have e1:nshr u 32=u / 4294967296:=by rw[nshr,Nat.shiftRight_eq_div_pow]
  simp -dsimp (disch:=try exact dx) only[wpS,wpT,Nat.reduceEqDiff,Int.reduceToNat,e1]
  refine⟨rfl,u / 4294967296,32,by simp,by simp,by omega,by omega,by simp,fun _=>by omega⟩
 ·simp only[decide_eq_false_iff_not] at hc
  simp -dsimp (disch:=try exact dx) only[wpS,wpT]
  refine⟨rfl,u,0,by simp,by simp,by omega,by omega,by simp,by omega⟩
 rintro fr h1 ⟨rfl,x,k,f0,f2,hk,hx,hL⟩
 simp -dsimp (disch:=try exact dx) only[wpS,Nat.reduceEqDiff,f0]
 refine bq_cut (fun fr2 h2=>h2=h1 ∧ ∃x k:Nat,fget fr2 0=some (K64 x)∧fget fr2 2=some (KN k)∧k≤48∧x<65536∧LenR u x k) (fun hc=>?_) (fun hc=>?_) ?_
 ·simp only[decide_eq_true_eq] at hc
  have e1:nshr x 16=x / 65536:=by rw[nshr,Nat.shiftRight_eq_div_pow]
  simp -dsimp (disch:=try exact dx) only[wpS,wpT,Nat.reduceEqDiff,Int.reduceToNat,f0,f2,e1]
  exact⟨rfl,x / 65536,k+16,by simp,by simp,by omega,by omega,hL.more (d:=16) (by omega)⟩
 ·simp only[decide_eq_false_iff_not] at hc
  simp -dsimp (disch:=try exact dx) only[wpS,wpT]
  refine⟨rfl,x,k,by simp[f0],by simp[f2],by omega,by omega,hL⟩
 rintro fr h2 ⟨rfl,x,k,f0,f2,hk,hx,hL⟩
 simp -dsimp (disch:=try exact dx) only[wpS,Nat.reduceEqDiff,f0]
 refine bq_cut (fun fr2 h3=>h3=h2 ∧ ∃x k:Nat,fget fr2 0=some (K64 x)∧fget fr2 2=some (KN k)∧k≤56∧x<256∧LenR u x k) (fun hc=>?_) (fun hc=>?_) ?_
 ·simp only[decide_eq_true_eq] at hc
  have e1:nshr x 8=x / 256:=by rw[nshr,Nat.shiftRight_eq_div_pow]
  simp -dsimp (disch:=try exact dx) only[wpS,wpT,Nat.reduceEqDiff,Int.reduceToNat,f0,f2,e1]
  exact⟨rfl,x / 256,k+8,by simp,by simp,by omega,by omega,hL.more (d:=8) (by omega)⟩
 ·simp only[decide_eq_false_iff_not] at hc
  simp -dsimp (disch:=try exact dx) only[wpS,wpT]
  refine⟨rfl,x,k,by simp[f0],by simp[f2],by omega,by omega,hL⟩
 rintro fr h3 ⟨rfl,x,k,f0,f2,hk,hx,hL⟩
 simp -dsimp (disch:=try exact dx) only[wpS,Nat.reduceEqDiff,cv28_5,f0,f2]
 refine ex_intro (index_tab u9 _ (by decide +kernel) hx) ?_
 simp -dsimp (disch:=try exact dx) only[wpS,wpT,Nat.reduceEqDiff,cv5_3]
 have hb:blen x<256:=by
  have:=(blen_ok x hx 8 (by omega)).1
  rcases Nat.lt_or_ge 8 (blen x) with h|h
  ·have:=this h;omega
  ·omega
 refine⟨k+blen x,?_,by omega,fun N=>hL.ok hx N⟩
 rw[wrap_i64 (x:=(blen x:Int)) (by omega),wrap_i64 (by omega)]
 exact congrArg (Value.int .i64) (by omega)
end Go.Id

namespace Go.Id
open Go
open Nat renaming reduceAdd→zA,reduceEqDiff→zE
set_option maxHeartbeats 16000000
theorem dh_aux {u w a b A B r1 r0:Nat} (hw:4294967296*a+b=w) (h1:u*4294967296+a=A+r1) (h2:r1*4294967296+b=B+r0):u*18446744073709551616+w=A*4294967296+B+r0:=by
 have e:u*18446744073709551616=u*4294967296*4294967296:=by rw[Nat.mul_assoc]
 rw[e,←hw,←Nat.add_assoc,Nat.mul_comm 4294967296 a,←Nat.add_mul,h1,Nat.add_mul,Nat.add_assoc,h2,Nat.add_assoc]
theorem div_halves {hi lo y s Y u w q1 r1 q0 r0:Nat} (hY:Y=y*2 ^ s) (hy:0<y) (hN:(hi*18446744073709551616+lo)*2 ^ s=u*18446744073709551616+w) (h1:u*4294967296+w / 4294967296=q1*Y+r1) (h2:r1*4294967296+w % 4294967296=q0*Y+r0) (hr:r0<Y) :
  (hi*18446744073709551616+lo) / y=q1*4294967296+q0∧r0 / 2 ^ s=(hi*18446744073709551616+lo) % y:=by
 have hp:0<2 ^ s:=Nat.pow_pos (by omega)
 have e1:Y*(q1*4294967296+q0)=q1*Y*4294967296+q0*Y:=by rw[Nat.mul_add,Nat.mul_comm Y q0,←Nat.mul_assoc,Nat.mul_comm Y q1]
 have e:(hi*18446744073709551616+lo)*2 ^ s=Y*(q1*4294967296+q0)+r0:=by
  rw[hN,e1]
  exact dh_aux (Nat.div_add_mod _ _) h1 h2
 obtain⟨N,hNN⟩ : ∃N,N=hi*18446744073709551616+lo:=⟨_,rfl⟩
 rw[←hNN] at e ⊢
 clear hN h1 h2 hNN
 have e2:N*2 ^ s / Y=q1*4294967296+q0:=by
  rw[e,Nat.mul_add_div (by rw[hY];exact Nat.mul_pos hy hp),Nat.div_eq_of_lt hr,Nat.add_zero]
 have e3:N*2 ^ s % Y=r0:=by rw[e,Nat.mul_add_mod,Nat.mod_eq_of_lt hr]
 rw[hY,Nat.mul_div_mul_right _ _ hp] at e2
 rw[hY,Nat.mul_mod_mul_right] at e3
 exact⟨e2,by rw[←e3,Nat.mul_div_cancel _ hp]⟩
theorem lz_ok {h:IH} (u:Nat) (h0:0<u) (hu:u<18446744073709551616):WV Proofs.Tryz.prog (.func (.func 281) #[] #[]) [K64 u] h fun r h'=>h'=h ∧ ∃s:Nat,r=KN s∧s<64∧9223372036854775808≤u*2 ^ s∧u*2 ^ s<18446744073709551616∧2 ^ (63 - s)≤u∧u<2 ^ (64 - s):=by
 refine enter (nt:=6) (rs:=[.tmp 2]) Proofs.Tryz.func281 rfl rfl rfl (by simp) ?_
 simp -dsimp (disch:=try exact dx) only[wpS,zE]
 refine call (len64_ok u hu) ?_
 rintro _ _ ⟨rfl,k,rfl,hk,hN⟩
 have k1:0<k:=(hN 0).2 (by omega)
 have k2:k≤64:=by
  apply Classical.byContradiction;intro hn
  have:=(hN 64).1 (by omega)
  omega
 have k3:2 ^ (k - 1)≤u:=(hN (k - 1)).1 (by omega)
 have k4:u<2 ^ k:=by
  apply Classical.byContradiction;intro hn
  have:=(hN k).2 (by omega)
  omega
 have e:(64:Int) - (k:Int)=((64 - k:Nat):Int):=by omega
 simp -dsimp (disch:=try exact dx) only[wpS,wpT,zE,e]
 refine⟨64 - k,rfl,by omega,?_,?_,by rw[show 63 - (64 - k)=k - 1 by omega];exact k3,by rw[show 64 - (64 - k)=k by omega];exact k4⟩
 ·have:=Nat.mul_le_mul_right (2 ^ (64 - k)) k3
  rw[←Nat.pow_add,show k - 1+(64 - k)=63 by omega] at this
  exact this
 ·have:=Nat.mul_lt_mul_of_pos_right k4 (show 0<2 ^ (64 - k) from Nat.pow_pos (by omega))
  rw[←Nat.pow_add,show k+(64 - k)=64 by omega] at this
  exact this
theorem div64_ok {h:IH} (hi lo y:Nat) (hh:hi<y) (hl:lo<18446744073709551616) (hy:y<18446744073709551616):WV Proofs.Tryz.prog (.func (.func 273) #[] #[]) [K64 hi,K64 lo,K64 y] h fun r h'=>h'=h∧r=.tuple #[K64 ((hi*18446744073709551616+lo) / y),K64 ((hi*18446744073709551616+lo) % y)]:=by
 have y0:((y:Int) == 0)=false:=by simp;omega
 by_cases h0:hi=0
 ·subst h0
  have d1:(lo:Int) / (y:Int)=((lo / y:Nat):Int):=by simp
  have d2:(lo:Int) % (y:Int)=((lo % y:Nat):Int):=by simp
  have d3:lo / y≤lo:=Nat.div_le_self _ _
  refine enter (nt:=135) (rs:=[.tmp 6,.tmp 7]) Proofs.Tryz.func273 rfl rfl rfl (by simp) ?_
  simp -dsimp (disch:=try exact dx) only[wpS,wpT,zE,zA,y0,d1,d2]
 ·have h0':((hi:Int) == 0)=false:=by simp;omega
  refine enter (nt:=135) (rs:=[.tmp 6,.tmp 7]) Proofs.Tryz.func273 rfl rfl rfl (by simp) ?_
  simp -dsimp (disch:=try exact dx) only[wpS,wpT,zE,zA,y0,h0']
  refine call (lz_ok y (by omega) hy) ?_
  rintro _ _ ⟨rfl,s,rfl,hs,hY1,hY2,hy1,hy2⟩
  rename_i h1
  have hps:0<2 ^ s:=Nat.pow_pos (by omega)
  obtain⟨Y,hY⟩ : ∃Y,Y=y*2 ^ s:=⟨_,rfl⟩
  have eY:y*2 ^ s % 18446744073709551616=Y:=by rw[hY];exact Nat.mod_eq_of_lt hY2
  rw[←hY] at hY1 hY2
  have hU:hi*2 ^ s<Y:=by rw[hY];exact Nat.mul_lt_mul_of_pos_right hh hps
  have eU:hi*2 ^ s % 18446744073709551616=hi*2 ^ s:=Nat.mod_eq_of_lt (by omega)
  have e64:(64:Int) - (s:Int)=((64 - s:Nat):Int):=by omega
  have eR:nshr lo (64 - s)=lo / 2 ^ (64 - s):=Nat.shiftRight_eq_div_pow _ _
  have hR:lo / 2 ^ (64 - s)<2 ^ s:=B.shr_small hl (by omega)
  have eO:hi*2 ^ s ||| lo / 2 ^ (64 - s)=hi*2 ^ s+lo / 2 ^ (64 - s):=B.or_add (Nat.dvd_mul_left _ _) hR
  have hsp:=B.shl_parts hl hs
  obtain⟨u,hu⟩ : ∃u,u=hi*2 ^ s+lo / 2 ^ (64 - s):=⟨_,rfl⟩
  obtain⟨w,hw⟩ : ∃w,w=lo*2 ^ s % 18446744073709551616:=⟨_,rfl⟩
  rw[←hw] at hsp
  have huY:u<Y:=by
   have:(hi+1)*2 ^ s≤y*2 ^ s:=Nat.mul_le_mul_right _ hh
   rw[Nat.add_mul,←hY] at this
   omega
  have hwl:w<18446744073709551616:=by omega
  have hN:(hi*18446744073709551616+lo)*2 ^ s=u*18446744073709551616+w:=by
   rw[Nat.add_mul,hu,Nat.add_mul,←hsp]
   have:hi*18446744073709551616*2 ^ s=hi*2 ^ s*18446744073709551616:=by grind
   omega
  have s1:nshr Y 32=Y / 4294967296:=Nat.shiftRight_eq_div_pow _ _
  have s2:Y &&& 4294967295=Y % 4294967296:=Nat.and_two_pow_sub_one_eq_mod Y 32
  have s3:nshr w 32=w / 4294967296:=Nat.shiftRight_eq_div_pow _ _
  have s4:w &&& 4294967295=w % 4294967296:=Nat.and_two_pow_sub_one_eq_mod w 32
  obtain⟨y1,hy1'⟩ : ∃y1,y1=Y / 4294967296:=⟨_,rfl⟩
  obtain⟨y0',hy0'⟩ : ∃y0,y0=Y % 4294967296:=⟨_,rfl⟩
  have eYY:Y=y1*4294967296+y0':=by omega
  have g1:2147483648≤y1:=by omega
  have g0:y0'<4294967296:=by omega
  have c1:(u:Int) / (y1:Int)=((u / y1:Nat):Int):=by simp
  have dm:=Nat.div_add_mod u y1
  have dm2:((u / y1:Nat):Int)*(y1:Int)=((y1*(u / y1):Nat):Int):=by rw[Nat.mul_comm y1];simp
  have dm3:(u:Int) - ((y1*(u / y1):Nat):Int)=((u % y1:Nat):Int):=by omega
  have dl:=Nat.mod_lt u (show 0<y1 by omega)
  have dle:u / y1≤u:=Nat.div_le_self _ _
  simp -dsimp (maxSteps:=1000000) (disch:=first|omega|(simp only[new_n,put_n];omega)|decide +kernel|(repeat first|rw[new_n]|rw[put_n])) only[wpS,zE,Int.reduceToNat,cv3_94,shl_n,eY,eU,e64,eR,eO,←hu,←hw,s1,s2,s3,s4,←hy1',←hy0',c1,dm2,dm3]
  refine loop_cut (fun fr h2=>h2=h1∧fget fr 2=some (K64 Y)∧fget fr 8=some (.int .u64 (s:Int))∧fget fr 9=some (K64 y1)∧fget fr 10=some (K64 y0')∧fget fr 11=some (K64 u)∧fget fr 13=some (K64 (w / 4294967296))∧fget fr 14=some (K64 (w % 4294967296))∧fget fr 15=some (K64 ((u*4294967296+w / 4294967296) / (y1*4294967296+y0')))) ?_ ?_
  ·refine loop (fun m fr h2=>h2=h1 ∧ ∃q r:Nat,q=m∧DivJ y1 y0' u (w / 4294967296) q r∧r<4294967296∧fget fr 2=some (K64 Y)∧fget fr 8=some (.int .u64 (s:Int))∧fget fr 9=some (K64 y1)∧fget fr 10=some (K64 y0')∧fget fr 11=some (K64 u)∧fget fr 13=some (K64 (w / 4294967296))∧fget fr 14=some (K64 (w % 4294967296))∧fget fr 15=some (K64 q)∧fget fr 16=some (K64 r)) (u / y1)
    ⟨rfl,_,_,rfl,divJ_start g1 g0 (eYY▸huY) (by omega),by omega,by simp,by simp,by simp,by simp,by simp,by simp,by simp,by simp,by simp⟩ ?_
   rintro m fr h2 ⟨rfl,q,r,rfl,hJ,hr,f2,f8,f9,f10,f11,f13,f14,fq,fr16⟩
   have hq1:=hJ.2.2
   have hUY:u<y1*4294967296+y0':=eYY▸huY
   have hDD:w / 4294967296<4294967296:=by omega
   have stepJ:(4294967296≤q∨4294967296*r+w / 4294967296<q*y0')→0<q∧DivJ y1 y0' u (w / 4294967296) (q - 1) (r+y1):=fun hc=>divJ_step g1 g0 hUY hDD hJ hc
   by_cases hqB:4294967296≤q
   ·obtain⟨hq0,hJ2⟩:=stepJ (.inl hqB)
    have eq1:(q:Int) - 1=((q - 1:Nat):Int):=by omega
    have er1:(r:Int)+(y1:Int)=((r+y1:Nat):Int):=by omega
    simp -dsimp (disch:=try exact dx) only[wpS,wpT,zE,f9,fq,fr16,eq1,er1]
    refine bq_intro ?_ ?_<;>intro hc<;>simp only[decide_eq_true_eq,decide_eq_false_iff_not] at hc
    ·simp -dsimp (disch:=try exact dx) only[wpS,wpT]
     refine⟨rfl,by simp[f2],by simp[f8],by simp[f9],by simp[f10],by simp[f11],by simp[f13],by simp[f14],?_⟩
     rw[divJ_break g1 g0 hJ2 (by omega) (by omega)];simp
    ·simp -dsimp (disch:=try exact dx) only[wpS,wpT]
     exact⟨q - 1,by omega,rfl,q - 1,r+y1,rfl,hJ2,by omega,by simp[f2],by simp[f8],by simp[f9],by simp[f10],by simp[f11],by simp[f13],by simp[f14],by simp,by simp⟩
   ·have hpm:q*y0'≤4294967295*4294967295:=Nat.mul_le_mul (by omega) (by omega)
    have ep:(q:Int)*(y0':Int)=((q*y0':Nat):Int):=by simp
    generalize hpp:q*y0'=p at *
    simp -dsimp (disch:=try exact dx) only[wpS,wpT,zE,f10,f13,fq,fr16,ep]
    refine bq_intro ?_ ?_<;>intro hc<;>simp only[decide_eq_true_eq,decide_eq_false_iff_not] at hc
    ·obtain⟨hq0,hJ2⟩:=stepJ (.inr (by omega))
     have eq1:(q:Int) - 1=((q - 1:Nat):Int):=by omega
     have er1:(r:Int)+(y1:Int)=((r+y1:Nat):Int):=by omega
     simp -dsimp (disch:=try exact dx) only[wpS,wpT,zE,f9,fq,fr16,eq1,er1]
     refine bq_intro ?_ ?_<;>intro hc5<;>simp only[decide_eq_true_eq,decide_eq_false_iff_not] at hc5
     ·simp -dsimp (disch:=try exact dx) only[wpS,wpT]
      refine⟨rfl,by simp[f2],by simp[f8],by simp[f9],by simp[f10],by simp[f11],by simp[f13],by simp[f14],?_⟩
      rw[divJ_break g1 g0 hJ2 (by omega) (by omega)];simp
     ·simp -dsimp (disch:=try exact dx) only[wpS,wpT]
      exact⟨q - 1,by omega,rfl,q - 1,r+y1,rfl,hJ2,by omega,by simp[f2],by simp[f8],by simp[f9],by simp[f10],by simp[f11],by simp[f13],by simp[f14],by simp,by simp⟩
    ·simp -dsimp (disch:=try exact dx) only[wpS,wpT]
     refine⟨rfl,by simp[f2],by simp[f8],by simp[f9],by simp[f10],by simp[f11],by simp[f13],by simp[f14],?_⟩
     rw[divJ_done g1 g0 hJ (by rw[hpp];omega)];simp[fq]
  rintro fr h2 ⟨rfl,f2,f8,f9,f10,f11,f13,f14,f15⟩
  rw[←eYY] at f15
  clear hsp eU eO eR hR s1 s2 s3 s4 c1 dm dm2 dm3 dl dle
  have hw1:w / 4294967296<4294967296:=by omega
  have hw0:w % 4294967296<4294967296:=by omega
  have nn1:((u*4294967296+w / 4294967296) / Y)*Y+(u*4294967296+w / 4294967296) % Y=u*4294967296+w / 4294967296:=by rw[Nat.mul_comm];exact Nat.div_add_mod _ _
  have hr1:(u*4294967296+w / 4294967296) % Y<Y:=Nat.mod_lt _ (by omega)
  have hq1:(u*4294967296+w / 4294967296) / Y<4294967296:=by rw[Nat.div_lt_iff_lt_mul (by omega)];omega
  obtain⟨q1,hQ1⟩ : ∃q,q=(u*4294967296+w / 4294967296) / Y:=⟨_,rfl⟩
  obtain⟨r1,hR1⟩ : ∃q,q=(u*4294967296+w / 4294967296) % Y:=⟨_,rfl⟩
  rw[←hQ1] at nn1 hq1 f15
  rw[←hR1] at nn1 hr1
  clear hQ1 hR1
  obtain⟨A,hA⟩ : ∃A,A=u*4294967296 % 18446744073709551616:=⟨_,rfl⟩
  have eA:IntKind.u64.wrap ((u:Int)*4294967296)=(A:Int):=by rw[wrapU];omega
  obtain⟨B1,hB1⟩ : ∃B1,B1=A+w / 4294967296:=⟨_,rfl⟩
  have eB:(A:Int)+((w / 4294967296:Nat):Int)=(B1:Int):=by omega
  have hB2:B1<18446744073709551616:=by omega
  have eC0:(q1:Int)*(Y:Int)=((q1*Y:Nat):Int):=by simp
  obtain⟨p1,hp1⟩ : ∃p1,p1=q1*Y:=⟨_,rfl⟩
  rw[←hp1] at nn1 eC0
  obtain⟨C1,hC1⟩ : ∃C1,C1=p1 % 18446744073709551616:=⟨_,rfl⟩
  have eC:IntKind.u64.wrap ((p1:Nat):Int)=(C1:Int):=by rw[wrapU];omega
  have eR1:IntKind.u64.wrap ((B1:Int) - (C1:Int))=(r1:Int):=by rw[wrapU];omega
  have c1:(r1:Int) / (y1:Int)=((r1 / y1:Nat):Int):=by simp
  have dm:=Nat.div_add_mod r1 y1
  have dm2:((r1 / y1:Nat):Int)*(y1:Int)=((y1*(r1 / y1):Nat):Int):=by rw[Nat.mul_comm y1];simp
  have dm3:(r1:Int) - ((y1*(r1 / y1):Nat):Int)=((r1 % y1:Nat):Int):=by omega
  have dl:=Nat.mod_lt r1 (show 0<y1 by omega)
  have dle:r1 / y1≤r1:=Nat.div_le_self _ _
  simp -dsimp (disch:=try exact dx) only[wpS,zE,f2,f9,f11,f13,f15,eA,eB,eC0,eC,eR1,c1,dm2,dm3]
  refine loop_cut (fun fr h3=>h3=h2∧fget fr 2=some (K64 Y)∧fget fr 8=some (.int .u64 (s:Int))∧fget fr 14=some (K64 (w % 4294967296))∧fget fr 15=some (K64 q1)∧fget fr 17=some (K64 r1)∧fget fr 18=some (K64 ((r1*4294967296+w % 4294967296) / (y1*4294967296+y0')))) ?_ ?_
  ·refine loop (fun m fr h3=>h3=h2 ∧ ∃q r:Nat,q=m∧DivJ y1 y0' r1 (w % 4294967296) q r∧r<4294967296∧fget fr 2=some (K64 Y)∧fget fr 8=some (.int .u64 (s:Int))∧fget fr 9=some (K64 y1)∧fget fr 10=some (K64 y0')∧fget fr 14=some (K64 (w % 4294967296))∧fget fr 15=some (K64 q1)∧fget fr 17=some (K64 r1)∧fget fr 18=some (K64 q)∧fget fr 16=some (K64 r)) (r1 / y1)
    ⟨rfl,_,_,rfl,divJ_start g1 g0 (eYY▸hr1) hw0,by omega,by simp[f2],by simp[f8],by simp[f9],by simp[f10],by simp[f14],by simp[f15],by simp,by simp,by simp⟩ ?_
   clear f2 f8 f9 f10 f11 f13 f14 f15
   rintro m fr h3 ⟨rfl,q,r,rfl,hJ,hr,f2,f8,f9,f10,f14,f15,f17,fq,fr16⟩
   have hqq:=hJ.2.2
   have hUY:r1<y1*4294967296+y0':=eYY▸hr1
   have stepJ:(4294967296≤q∨4294967296*r+w % 4294967296<q*y0')→0<q∧DivJ y1 y0' r1 (w % 4294967296) (q - 1) (r+y1):=fun hc=>divJ_step g1 g0 hUY hw0 hJ hc
   by_cases hqB:4294967296≤q
   ·obtain⟨hq0,hJ2⟩:=stepJ (.inl hqB)
    have eq1:(q:Int) - 1=((q - 1:Nat):Int):=by omega
    have er1:(r:Int)+(y1:Int)=((r+y1:Nat):Int):=by omega
    simp -dsimp (disch:=try exact dx) only[wpS,wpT,zE,f9,fq,fr16,eq1,er1]
    refine bq_intro ?_ ?_<;>intro hc<;>simp only[decide_eq_true_eq,decide_eq_false_iff_not] at hc
    ·simp -dsimp (disch:=try exact dx) only[wpS,wpT]
     refine⟨rfl,by simp[f2],by simp[f8],by simp[f14],by simp[f15],by simp[f17],?_⟩
     rw[divJ_break g1 g0 hJ2 (by omega) (by omega)];simp
    ·simp -dsimp (disch:=try exact dx) only[wpS,wpT]
     exact⟨q - 1,by omega,rfl,q - 1,r+y1,rfl,hJ2,by omega,by simp[f2],by simp[f8],by simp[f9],by simp[f10],by simp[f14],by simp[f15],by simp[f17],by simp,by simp⟩
   ·have hpm:q*y0'≤4294967295*4294967295:=Nat.mul_le_mul (by omega) (by omega)
    have ep:(q:Int)*(y0':Int)=((q*y0':Nat):Int):=by simp
    generalize hpp:q*y0'=p at *
    simp -dsimp (disch:=try exact dx) only[wpS,wpT,zE,f10,f14,fq,fr16,ep]
    refine bq_intro ?_ ?_<;>intro hc<;>simp only[decide_eq_true_eq,decide_eq_false_iff_not] at hc
    ·obtain⟨hq0,hJ2⟩:=stepJ (.inr (by omega))
     have eq1:(q:Int) - 1=((q - 1:Nat):Int):=by omega
     have er1:(r:Int)+(y1:Int)=((r+y1:Nat):Int):=by omega
     simp -dsimp (disch:=try exact dx) only[wpS,wpT,zE,f9,fq,fr16,eq1,er1]
     refine bq_intro ?_ ?_<;>intro hc5<;>simp only[decide_eq_true_eq,decide_eq_false_iff_not] at hc5
     ·simp -dsimp (disch:=try exact dx) only[wpS,wpT]
      refine⟨rfl,by simp[f2],by simp[f8],by simp[f14],by simp[f15],by simp[f17],?_⟩
      rw[divJ_break g1 g0 hJ2 (by omega) (by omega)];simp
     ·simp -dsimp (disch:=try exact dx) only[wpS,wpT]
      exact⟨q - 1,by omega,rfl,q - 1,r+y1,rfl,hJ2,by omega,by simp[f2],by simp[f8],by simp[f9],by simp[f10],by simp[f14],by simp[f15],by simp[f17],by simp,by simp⟩
    ·simp -dsimp (disch:=try exact dx) only[wpS,wpT]
     refine⟨rfl,by simp[f2],by simp[f8],by simp[f14],by simp[f15],by simp[f17],?_⟩
     rw[divJ_done g1 g0 hJ (by rw[hpp];omega)];simp[fq]
  clear f2 f8 f9 f10 f11 f13 f14 f15
  rintro fr h3 ⟨rfl,f2,f8,f14,f15,f17,f18⟩
  rw[←eYY] at f18
  have nn0:((r1*4294967296+w % 4294967296) / Y)*Y+(r1*4294967296+w % 4294967296) % Y=r1*4294967296+w % 4294967296:=by rw[Nat.mul_comm];exact Nat.div_add_mod _ _
  have hr0:(r1*4294967296+w % 4294967296) % Y<Y:=Nat.mod_lt _ (by omega)
  have hq0:(r1*4294967296+w % 4294967296) / Y<4294967296:=by rw[Nat.div_lt_iff_lt_mul (by omega)];omega
  obtain⟨q0,hQ0⟩ : ∃q,q=(r1*4294967296+w % 4294967296) / Y:=⟨_,rfl⟩
  obtain⟨r0,hR0⟩ : ∃q,q=(r1*4294967296+w % 4294967296) % Y:=⟨_,rfl⟩
  rw[←hQ0] at nn0 hq0 f18
  rw[←hR0] at nn0 hr0
  clear hQ0 hR0
  have fin:=div_halves (q1:=q1) (r1:=r1) (q0:=q0) (r0:=r0) hY (by omega) hN (by omega) nn0.symm hr0
  obtain⟨A2,hA2⟩ : ∃A,A=r1*4294967296 % 18446744073709551616:=⟨_,rfl⟩
  have eA2:IntKind.u64.wrap ((r1:Int)*4294967296)=(A2:Int):=by rw[wrapU];omega
  obtain⟨B2,hB2⟩ : ∃B1,B1=A2+w % 4294967296:=⟨_,rfl⟩
  have eB2:(A2:Int)+((w % 4294967296:Nat):Int)=(B2:Int):=by omega
  have eD0:(q0:Int)*(Y:Int)=((q0*Y:Nat):Int):=by simp
  obtain⟨p0,hp0⟩ : ∃p1,p1=q0*Y:=⟨_,rfl⟩
  rw[←hp0] at nn0 eD0
  obtain⟨C2,hC2⟩ : ∃C1,C1=p0 % 18446744073709551616:=⟨_,rfl⟩
  have eD:IntKind.u64.wrap ((p0:Nat):Int)=(C2:Int):=by rw[wrapU];omega
  have eR0:IntKind.u64.wrap ((B2:Int) - (C2:Int))=(r0:Int):=by rw[wrapU];omega
  have eS:nshr r0 s=r0 / 2 ^ s:=Nat.shiftRight_eq_div_pow _ _
  have eQ1:(q1:Int)*4294967296=((q1*4294967296:Nat):Int):=by omega
  have eQ2:((q1*4294967296:Nat):Int)+(q0:Int)=((q1*4294967296+q0:Nat):Int):=by omega
  simp -dsimp (disch:=try exact dx) only[wpS,wpT,zE,f2,f8,f14,f15,f17,f18,eA2,eB2,eD0,eD,eR0,eS,eQ1,eQ2]
  rw[fin.1,←fin.2]
end Go.Id
