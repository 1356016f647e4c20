/-
  Words: carries, borrows, products, quotients; plain numbers. Digits to the base 2^64: bits; long division bit by bit; plain numbers. The types of this seat's program, as the machine asks of them; made by program (tools/mk.py). Digits to the base 2^32, the lowest first: plain numbers. Contracts: the reference's long integers. Contracts: the reference's long integers, second part: sums and differences of digits. Contracts: the reference's long integers, third part: sums, differences, comparisons. Contracts: the reference's long integers, fourth part: differences, comparisons, integers. Words to the base 2^64: plain numbers. Contracts: the reference's long integers, fifth part: words. Contracts: the reference's long integers, sixth part: wide integers read and written. Contracts: the reference's long integers, seventh part: written, made of integers, read as integers. Contracts: the reference's long integers, eighth part: what the chapter names. Digits to the base 2^32: one digit set; bounds. Digits to the base 2^32: bits; long division bit by bit; plain numbers. Contracts: the reference's long integers: products of digits. Contracts: the program's long integers: words, trimmed, compared, added, subtracted. Contracts: the program's long integers: sums, differences and products of words. Contracts: the length of a number.
-/
import Derived.Test.YthbkinefgmfgeaaDiagnoseKnownAf
import Derived.Test.YthbkinefgmfgeaaProg
import Derived.KernelRfl
import Init
set_option linter.unusedVariables false
set_option linter.unusedSimpArgs false
set_option linter.defProp false
set_option linter.deprecated false
/-! Words: carries, borrows, products, quotients; plain numbers. -/
namespace Go.Id
open Go
theorem mul_high {x1 x0 y1 y0:Nat} (h0:x0<4294967296) (h1:x1<4294967296) (g0:y0<4294967296) (g1:y1<4294967296) :
  x1*y0+x0*y0 / 4294967296<18446744073709551616∧(x1*y0+x0*y0 / 4294967296) % 4294967296+x0*y1<18446744073709551616 ∧
   x1*y1+(x1*y0+x0*y0 / 4294967296) / 4294967296+((x1*y0+x0*y0 / 4294967296) % 4294967296+x0*y1) / 4294967296=(x1*4294967296+x0)*(y1*4294967296+y0) / 18446744073709551616:=by
 have b00:x0*y0≤4294967295*4294967295:=Nat.mul_le_mul (by omega) (by omega)
 have b10:x1*y0≤4294967295*4294967295:=Nat.mul_le_mul (by omega) (by omega)
 have b01:x0*y1≤4294967295*4294967295:=Nat.mul_le_mul (by omega) (by omega)
 have e:(x1*4294967296+x0)*(y1*4294967296+y0)=x1*y1*18446744073709551616+x1*y0*4294967296+x0*y1*4294967296+x0*y0:=by grind
 rw[e]
 generalize x0*y0=a at *
 generalize x1*y0=b at *
 generalize x0*y1=c at *
 generalize x1*y1=d at *
 refine⟨by omega,by omega,by omega⟩
def DivJ (y1 y0 u d q r:Nat):Prop:=q*y1+r=u∧(u*4294967296+d) / (y1*4294967296+y0)≤q∧q≤4294967297
theorem divJ_start {y1 y0 u d:Nat} (h1:2147483648≤y1) (h0:y0<4294967296) (hu:u<y1*4294967296+y0) (hd:d<4294967296):DivJ y1 y0 u d (u / y1) (u % y1):=by
 have e:=Nat.div_add_mod u y1
 have hm:=Nat.mod_lt u (show 0<y1 by omega)
 have e1:u / y1*y1=y1*(u / y1):=Nat.mul_comm _ _
 refine⟨by omega,?_,?_⟩
 ·generalize hq:u / y1=q at *
  rw[Nat.div_le_iff_le_mul_add_pred (by omega)]
  have e2:(y1*4294967296+y0)*q=y1*q*4294967296+y0*q:=by grind
  rw[e2]
  have:0≤y0*q:=Nat.zero_le _
  omega
 ·rw[Nat.div_le_iff_le_mul_add_pred (by omega)]
  omega
theorem divJ_step {y1 y0 u d q r:Nat} (h1:2147483648≤y1) (h0:y0<4294967296) (hu:u<y1*4294967296+y0) (hd:d<4294967296) (J:DivJ y1 y0 u d q r) (hc:4294967296≤q∨4294967296*r+d<q*y0):0<q∧DivJ y1 y0 u d (q - 1) (r+y1):=by
 obtain⟨j1,j2,j3⟩:=J
 have hlt:(u*4294967296+d) / (y1*4294967296+y0)<q:=by
  rw[Nat.div_lt_iff_lt_mul (by omega)]
  have e2:q*(y1*4294967296+y0)=q*y1*4294967296+q*y0:=by grind
  rw[e2]
  rcases hc with hc|hc
  ·have e3:4294967296*y0≤q*y0:=Nat.mul_le_mul_right _ hc
   have e4:4294967296*y1≤q*y1:=Nat.mul_le_mul_right _ hc
   omega
  ·omega
 have hq:0<q:=Nat.lt_of_le_of_lt (Nat.zero_le _) hlt
 refine⟨hq,?_,Nat.le_sub_one_of_lt hlt,by omega⟩
 have e5:(q - 1)*y1+y1=q*y1:=by
  obtain⟨p,rfl⟩ : ∃p,q=p+1:=⟨q - 1,by omega⟩
  rw[Nat.add_sub_cancel,Nat.add_mul,Nat.one_mul]
 omega
theorem divJ_done {y1 y0 u d q r:Nat} (h1:2147483648≤y1) (h0:y0<4294967296) (J:DivJ y1 y0 u d q r) (hc:q*y0≤4294967296*r+d):(u*4294967296+d) / (y1*4294967296+y0)=q:=by
 obtain⟨j1,j2,j3⟩:=J
 refine Nat.le_antisymm j2 ?_
 rw[Nat.le_div_iff_mul_le (by omega)]
 have e2:q*(y1*4294967296+y0)=q*y1*4294967296+q*y0:=by grind
 rw[e2];omega
theorem divJ_break {y1 y0 u d q r:Nat} (h1:2147483648≤y1) (h0:y0<4294967296) (J:DivJ y1 y0 u d q r) (hr:4294967296≤r) (hq:q≤4294967296):(u*4294967296+d) / (y1*4294967296+y0)=q:=by
 refine divJ_done h1 h0 J ?_
 have:q*y0≤4294967296*4294967295:=Nat.mul_le_mul hq (by omega)
 omega
end Go.Id

/-! Digits to the base 2^64: bits; long division bit by bit; plain numbers. -/
namespace Go.Id.B
theorem or_add {x y n:Nat} (hx:2 ^ n∣x) (hy:y<2 ^ n):x ||| y=x+y:=by
 obtain⟨c,rfl⟩:=hx
 exact(Nat.two_pow_add_eq_or_of_lt hy c).symm
theorem or_add' {x y n:Nat} (hx:x<2 ^ n) (hy:2 ^ n∣y):x ||| y=x+y:=by
 rw[Nat.or_comm,or_add hy hx,Nat.add_comm]
theorem valT_eq {ds:List Nat} (h:Digs ds) : ∀{n k:Nat},n≤k→valT ds k % 18446744073709551616 ^ n=valT ds n
 | n,0,hk=>by
  obtain rfl:n=0:=by omega
  simp[valT]
 | n,k+1,hk=>by
  by_cases hn:n=k+1
  ·subst hn;exact Nat.mod_eq_of_lt (valT_lt h _)
  ·have ih:=valT_eq h (show n≤k by omega)
   rw[valT]
   have hd:18446744073709551616 ^ n∣ds.getD k 0*18446744073709551616 ^ k:=Nat.dvd_trans (Nat.pow_dvd_pow _ (by omega)) (Nat.dvd_mul_left _ _)
   obtain⟨c,hc⟩:=hd
   rw[hc,Nat.add_mul_mod_self_left,ih]
theorem digit_eq {ds:List Nat} (h:Digs ds) (j:Nat):ds.getD j 0=valD ds / 18446744073709551616 ^ j % 18446744073709551616:=by
 have hp:=pow_pos' j
 by_cases hj:j<ds.length
 ·have e1:valT ds (j+1)=valD ds % 18446744073709551616 ^ (j+1):=(valT_eq h (show j+1≤ds.length by omega)).symm
  have e2:valT ds (j+1) / 18446744073709551616 ^ j=ds.getD j 0:=by
   rw[valT,Nat.add_mul_div_right _ _ hp,Nat.div_eq_of_lt (valT_lt h j),Nat.zero_add]
  rw[←e2,e1,Nat.pow_succ,Nat.mod_mul_right_div_self]
 ·rw[getD_of_ge (by omega)]
  have h1:=valD_lt h
  have h2:18446744073709551616 ^ ds.length≤18446744073709551616 ^ j:=Nat.pow_le_pow_right (by omega) (by omega)
  rw[Nat.div_eq_of_lt (by omega)]
theorem pow64 (j:Nat):18446744073709551616 ^ j=2 ^ (64*j):=by rw[Nat.pow_mul]
theorem bit_set {ds:List Nat} (h:Digs ds) {k:Nat} (hk:2 ^ (k+1)∣valD ds):ds.getD (k / 64) 0 ||| 2 ^ (k % 64)=ds.getD (k / 64) 0+2 ^ (k % 64)∧ds.getD (k / 64) 0+2 ^ (k % 64)<18446744073709551616:=by
 have hs:k % 64<64:=Nat.mod_lt _ (by omega)
 have hd:2 ^ (k % 64+1)∣ds.getD (k / 64) 0:=by
  rw[digit_eq h,pow64]
  obtain⟨c,hc⟩:=hk
  have e:2 ^ (k+1)=2 ^ (64*(k / 64))*2 ^ (k % 64+1):=by rw[←Nat.pow_add];congr 1;omega
  rw[hc,e,Nat.mul_assoc,Nat.mul_div_cancel_left _ (Nat.pow_pos (by omega))]
  have e2:18446744073709551616=2 ^ (k % 64+1)*2 ^ (63 - k % 64):=by rw[←Nat.pow_add,show k % 64+1+(63 - k % 64)=64 by omega]
  rw[show(18446744073709551616:Nat)=2 ^ (k % 64+1)*2 ^ (63 - k % 64) from e2]
  exact(Nat.dvd_mod_iff (Nat.dvd_mul_right _ _)).2 (Nat.dvd_mul_right _ _)
 have hlt:2 ^ (k % 64)<2 ^ (k % 64+1):=Nat.pow_lt_pow_right (by omega) (by omega)
 have hw:=getD_lt h (k / 64)
 refine⟨or_add hd hlt,?_⟩
 obtain⟨c,hc⟩:=hd
 rw[hc] at hw ⊢
 have e2:18446744073709551616=2 ^ (k % 64+1)*2 ^ (63 - k % 64):=by rw[←Nat.pow_add,show k % 64+1+(63 - k % 64)=64 by omega]
 rw[e2] at hw ⊢
 have hc2:c<2 ^ (63 - k % 64):=Nat.lt_of_mul_lt_mul_left hw
 have:2 ^ (k % 64+1)*(c+1)≤2 ^ (k % 64+1)*2 ^ (63 - k % 64):=Nat.mul_le_mul_left _ hc2
 rw[Nat.mul_add,Nat.mul_one] at this
 omega
theorem shl_parts {x s:Nat} (hx:x<18446744073709551616) (hs:s<64):x*2 ^ s % 18446744073709551616+x / 2 ^ (64 - s)*18446744073709551616=x*2 ^ s:=by
 have e:18446744073709551616=2 ^ (64 - s)*2 ^ s:=by rw[←Nat.pow_add,show 64 - s+s=64 by omega]
 have h:=Nat.div_add_mod (x*2 ^ s) 18446744073709551616
 have e2:x*2 ^ s / 18446744073709551616=x / 2 ^ (64 - s):=by rw[e,Nat.mul_div_mul_right _ _ (Nat.pow_pos (by omega))]
 rw[e2] at h
 omega
theorem shl_dvd (x:Nat) {s:Nat} (hs:s<64):2 ^ s∣x*2 ^ s % 18446744073709551616:=by
 have e:18446744073709551616=2 ^ s*2 ^ (64 - s):=by rw[←Nat.pow_add,show s+(64 - s)=64 by omega]
 rw[e]
 exact(Nat.dvd_mod_iff (Nat.dvd_mul_right _ _)).2 (Nat.dvd_mul_left _ _)
theorem shr_small {x s:Nat} (hx:x<18446744073709551616) (hs:s≤64):x / 2 ^ (64 - s)<2 ^ s:=by
 rw[Nat.div_lt_iff_lt_mul (Nat.pow_pos (by omega)),←Nat.pow_add,show s+(64 - s)=64 by omega];exact hx
theorem bits_of {ds:List Nat} {n k:Nat} (h:Digs ds) (hl:ds.length=n+1) (h1:2 ^ k≤ds.getD n 0) (h2:ds.getD n 0<2 ^ (k+1)):2 ^ (64*n+k)≤valD ds∧valD ds<2 ^ (64*n+k+1):=by
 rw[valD,hl,valT,pow64]
 have hb:=valT_lt h n
 rw[pow64] at hb
 have e1:2 ^ (64*n+k)=2 ^ k*2 ^ (64*n):=by rw[Nat.pow_add,Nat.mul_comm]
 have e2:2 ^ (64*n+k+1)=2 ^ (k+1)*2 ^ (64*n):=by rw[Nat.add_assoc,Nat.pow_add,Nat.mul_comm]
 rw[e1,e2]
 have h3:2 ^ k*2 ^ (64*n)≤ds.getD n 0*2 ^ (64*n):=Nat.mul_le_mul_right _ h1
 have h4:(ds.getD n 0+1)*2 ^ (64*n)≤2 ^ (k+1)*2 ^ (64*n):=Nat.mul_le_mul_right _ h2
 rw[Nat.add_mul,Nat.one_mul] at h4
 omega
def DivB (a b k V r:Nat):Prop:=a=b*V+r∧2 ^ k∣V∧r<b*2 ^ k
theorem divB_start {a b la lb:Nat} (ha:a<2 ^ la) (hb:2 ^ lb≤b) (hl:lb≤la):DivB a b (la - lb) 0 a:=by
 refine⟨by omega,Nat.dvd_zero _,?_⟩
 have h1:2 ^ lb*2 ^ (la - lb)≤b*2 ^ (la - lb):=Nat.mul_le_mul_right _ hb
 rw[←Nat.pow_add,show lb+(la - lb)=la by omega] at h1
 omega
theorem divB_one {a b k V r:Nat} (h:DivB a b (k+1) V r) (hc:b*2 ^ k≤r):DivB a b k (V+2 ^ k) (r - b*2 ^ k):=by
 obtain⟨h1,h2,h3⟩:=h
 have e:b*2 ^ (k+1)=b*2 ^ k+b*2 ^ k:=by rw[Nat.pow_succ];grind
 refine⟨?_,?_,by omega⟩
 ·rw[Nat.mul_add];omega
 ·exact(Nat.dvd_add_right (Nat.dvd_trans (Nat.pow_dvd_pow _ (by omega)) h2)).2 (Nat.dvd_refl _)
theorem divB_zero {a b k V r:Nat} (h:DivB a b (k+1) V r) (hc:r<b*2 ^ k):DivB a b k V r :=
 ⟨h.1,Nat.dvd_trans (Nat.pow_dvd_pow _ (by omega)) h.2.1,hc⟩
theorem divB_end {a b V r:Nat} (h:DivB a b 0 V r):V=a / b∧r=a % b:=by
 obtain⟨h1,_,h3⟩:=h
 rw[Nat.pow_zero,Nat.mul_one] at h3
 have e1:=Nat.mul_add_mod b V r
 have e2:=Nat.mul_add_div (show 0<b by omega) V r
 rw[←h1,Nat.mod_eq_of_lt h3] at e1
 rw[←h1,Nat.div_eq_of_lt h3,Nat.add_zero] at e2
 exact⟨e2.symm,e1.symm⟩
end Go.Id.B

/-! The types of this seat's program, as the machine asks of them; made by program (tools/mk.py). -/
namespace Go.Id
open Go
theorem ag23:isAggT Proofs.Try.prog 23=some false:=by kernel_rfl
theorem ag25:isAggT Proofs.Try.prog 25=some true:=by kernel_rfl
theorem ag27:isAggT Proofs.Try.prog 27=some true:=by kernel_rfl
theorem ag28:isAggT Proofs.Try.prog 28=some false:=by kernel_rfl
theorem ag3:isAggT Proofs.Try.prog 3=some false:=by kernel_rfl
theorem ag32:isAggT Proofs.Try.prog 32=some false:=by kernel_rfl
theorem ag4:isAggT Proofs.Try.prog 4=some false:=by kernel_rfl
theorem ag42:isAggT Proofs.Try.prog 42=some false:=by kernel_rfl
theorem ag47:isAggT Proofs.Try.prog 47=some false:=by kernel_rfl
theorem ag49:isAggT Proofs.Try.prog 49=some true:=by kernel_rfl
theorem ag51:isAggT Proofs.Try.prog 51=some true:=by kernel_rfl
theorem ag53:isAggT Proofs.Try.prog 53=some false:=by kernel_rfl
theorem ag55:isAggT Proofs.Try.prog 55=some true:=by kernel_rfl
theorem ag93:isAggT Proofs.Try.prog 93=some true:=by kernel_rfl
theorem ag95:isAggT Proofs.Try.prog 95=some true:=by kernel_rfl
theorem ap28:appT Proofs.Try.prog 28=some (16,128):=by kernel_rfl
theorem ap47:appT Proofs.Try.prog 47=some (1,8):=by kernel_rfl
theorem ap53:appT Proofs.Try.prog 53=some (4,64):=by kernel_rfl
theorem ar25:arrOf Proofs.Try.prog 25=some (8,1):=by kernel_rfl
theorem ar93:arrOf Proofs.Try.prog 93=some (8,1):=by kernel_rfl
theorem as25:allSized Proofs.Try.prog 25=true:=by kernel_rfl
theorem as27:allSized Proofs.Try.prog 27=true:=by kernel_rfl
theorem as49:allSized Proofs.Try.prog 49=true:=by kernel_rfl
theorem as51:allSized Proofs.Try.prog 51=true:=by kernel_rfl
theorem as55:allSized Proofs.Try.prog 55=true:=by kernel_rfl
theorem as93:allSized Proofs.Try.prog 93=true:=by kernel_rfl
theorem as95:allSized Proofs.Try.prog 95=true:=by kernel_rfl
theorem eg25:Proofs.Try.prog.eqGuardType Proofs.Try.prog.depth 25=false:=by kernel_rfl
theorem es28:elemSize Proofs.Try.prog 28=some 16:=by kernel_rfl
theorem es42:elemSize Proofs.Try.prog 42=some 1:=by kernel_rfl
theorem es47:elemSize Proofs.Try.prog 47=some 1:=by kernel_rfl
theorem es53:elemSize Proofs.Try.prog 53=some 4:=by kernel_rfl
theorem es60:elemSize Proofs.Try.prog 60=some 1:=by kernel_rfl
theorem fa27_0:fieldAt Proofs.Try.prog 27 0=some 0:=by kernel_rfl
theorem fa27_1:fieldAt Proofs.Try.prog 27 1=some 8:=by kernel_rfl
theorem fa49_0:fieldAt Proofs.Try.prog 49 0=some 0:=by kernel_rfl
theorem fa49_1:fieldAt Proofs.Try.prog 49 1=some 1:=by kernel_rfl
theorem fa51_0:fieldAt Proofs.Try.prog 51 0=some 0:=by kernel_rfl
theorem fa51_1:fieldAt Proofs.Try.prog 51 1=some 2:=by kernel_rfl
theorem fa55_0:fieldAt Proofs.Try.prog 55 0=some 0:=by kernel_rfl
theorem fa55_1:fieldAt Proofs.Try.prog 55 1=some 1:=by kernel_rfl
theorem fa95_0:fieldAt Proofs.Try.prog 95 0=some 0:=by kernel_rfl
theorem fa95_1:fieldAt Proofs.Try.prog 95 1=some 1:=by kernel_rfl
theorem fp49_1:fieldPart Proofs.Try.prog 49 1=some (false,1,1):=by kernel_rfl
theorem fp55_0:fieldPart Proofs.Try.prog 55 0=some (false,0,1):=by kernel_rfl
theorem fp55_1:fieldPart Proofs.Try.prog 55 1=some (true,1,4):=by kernel_rfl
theorem is23:(Program.underlying Proofs.Try.prog 23).isSome=true:=by kernel_rfl
theorem is3:(Program.underlying Proofs.Try.prog 3).isSome=true:=by kernel_rfl
theorem is5:(Program.underlying Proofs.Try.prog 5).isSome=true:=by kernel_rfl
theorem mk28:makeT Proofs.Try.prog 28=some (16,128,[.int .u64 (0),.int .u64 (0),.int .u64 (0),.int .u64 (0),.int .u64 (0),.int .u64 (0),.int .u64 (0),.int .u64 (0),.int .u64 (0),.int .u64 (0),.int .u64 (0),.int .u64 (0),.int .u64 (0),.int .u64 (0),.int .u64 (0),.int .u64 (0)]):=by kernel_rfl
theorem mk42:makeT Proofs.Try.prog 42=some (1,24,[.slice none 0 0]):=by kernel_rfl
theorem mk47:makeT Proofs.Try.prog 47=some (1,8,[.int .u64 (0)]):=by kernel_rfl
theorem mk53:makeT Proofs.Try.prog 53=some (4,64,[.bool false,.slice none 0 0,.bool false,.slice none 0 0]):=by kernel_rfl
theorem mk60:makeT Proofs.Try.prog 60=some (1,8,[.int .i64 (0)]):=by kernel_rfl
theorem pl25_0:placeOf Proofs.Try.prog 25 0=some (0,1):=by kernel_rfl
theorem pl27_0:placeOf Proofs.Try.prog 27 0=some (0,8):=by kernel_rfl
theorem pl27_1:placeOf Proofs.Try.prog 27 1=some (8,8):=by kernel_rfl
theorem pl49_0:placeOf Proofs.Try.prog 49 0=some (0,1):=by kernel_rfl
theorem pl49_1:placeOf Proofs.Try.prog 49 1=some (1,1):=by kernel_rfl
theorem pl51_0:placeOf Proofs.Try.prog 51 0=some (0,2):=by kernel_rfl
theorem pl51_1:placeOf Proofs.Try.prog 51 1=some (2,2):=by kernel_rfl
theorem pl55_0:placeOf Proofs.Try.prog 55 0=some (0,1):=by kernel_rfl
theorem pl55_1:placeOf Proofs.Try.prog 55 1=some (1,4):=by kernel_rfl
theorem pl93_7:placeOf Proofs.Try.prog 93 7=some (7,1):=by kernel_rfl
theorem pl95_0:placeOf Proofs.Try.prog 95 0=some (0,1):=by kernel_rfl
theorem pl95_1:placeOf Proofs.Try.prog 95 1=some (1,8):=by kernel_rfl
theorem sl28:isSliceT Proofs.Try.prog (some 28)=true:=by kernel_rfl
theorem sl42:isSliceT Proofs.Try.prog (some 42)=true:=by kernel_rfl
theorem sl47:isSliceT Proofs.Try.prog (some 47)=true:=by kernel_rfl
theorem sl53:isSliceT Proofs.Try.prog (some 53)=true:=by kernel_rfl
theorem sl60:isSliceT Proofs.Try.prog (some 60)=true:=by kernel_rfl
theorem sz23:sizeT Proofs.Try.prog 23=some 1:=by kernel_rfl
theorem sz25:sizeT Proofs.Try.prog 25=some 8:=by kernel_rfl
theorem sz27:sizeT Proofs.Try.prog 27=some 16:=by kernel_rfl
theorem sz28:sizeT Proofs.Try.prog 28=some 1:=by kernel_rfl
theorem sz32:sizeT Proofs.Try.prog 32=some 1:=by kernel_rfl
theorem sz49:sizeT Proofs.Try.prog 49=some 2:=by kernel_rfl
theorem sz51:sizeT Proofs.Try.prog 51=some 4:=by kernel_rfl
theorem sz55:sizeT Proofs.Try.prog 55=some 5:=by kernel_rfl
theorem sz93:sizeT Proofs.Try.prog 93=some 8:=by kernel_rfl
theorem sz95:sizeT Proofs.Try.prog 95=some 9:=by kernel_rfl
theorem u114:Program.underlying Proofs.Try.prog 114=some (.int .u64):=by kernel_rfl
theorem u23:Program.underlying Proofs.Try.prog 23=some (.int .u64):=by kernel_rfl
theorem u25:Program.underlying Proofs.Try.prog 25=some (.array 8 23):=by kernel_rfl
theorem u28:Program.underlying Proofs.Try.prog 28=some (.slice 27):=by kernel_rfl
theorem u3:Program.underlying Proofs.Try.prog 3=some (.int .i64):=by kernel_rfl
theorem u4:Program.underlying Proofs.Try.prog 4=some .bool:=by kernel_rfl
theorem u42:Program.underlying Proofs.Try.prog 42=some (.slice 28):=by kernel_rfl
theorem u47:Program.underlying Proofs.Try.prog 47=some (.slice 23):=by kernel_rfl
theorem u5:Program.underlying Proofs.Try.prog 5=some (.int .u8):=by kernel_rfl
theorem u53:Program.underlying Proofs.Try.prog 53=some (.slice 51):=by kernel_rfl
theorem u9:Program.underlying Proofs.Try.prog 9=some .string:=by kernel_rfl
theorem u93:Program.underlying Proofs.Try.prog 93=some (.array 8 23):=by kernel_rfl
theorem zc25:zeroCellsT Proofs.Try.prog 25=some [.int .u64 (0),.int .u64 (0),.int .u64 (0),.int .u64 (0),.int .u64 (0),.int .u64 (0),.int .u64 (0),.int .u64 (0)]:=by kernel_rfl
theorem zc27:zeroCellsT Proofs.Try.prog 27=some [.int .u64 (0),.int .u64 (0),.int .u64 (0),.int .u64 (0),.int .u64 (0),.int .u64 (0),.int .u64 (0),.int .u64 (0),.int .u64 (0),.int .u64 (0),.int .u64 (0),.int .u64 (0),.int .u64 (0),.int .u64 (0),.int .u64 (0),.int .u64 (0)]:=by kernel_rfl
theorem zc28:zeroCellsT Proofs.Try.prog 28=some [.slice none 0 0]:=by kernel_rfl
theorem zc32:zeroCellsT Proofs.Try.prog 32=some [.int .i64 (0)]:=by kernel_rfl
theorem zc49:zeroCellsT Proofs.Try.prog 49=some [.bool false,.slice none 0 0]:=by kernel_rfl
theorem zc51:zeroCellsT Proofs.Try.prog 51=some [.bool false,.slice none 0 0,.bool false,.slice none 0 0]:=by kernel_rfl
theorem zc55:zeroCellsT Proofs.Try.prog 55=some [.slice none 0 0,.bool false,.slice none 0 0,.bool false,.slice none 0 0]:=by kernel_rfl
theorem zc93:zeroCellsT Proofs.Try.prog 93=some [.int .u64 (0),.int .u64 (0),.int .u64 (0),.int .u64 (0),.int .u64 (0),.int .u64 (0),.int .u64 (0),.int .u64 (0)]:=by kernel_rfl
theorem zc95:zeroCellsT Proofs.Try.prog 95=some [.bool false,.int .u64 (0),.int .u64 (0),.int .u64 (0),.int .u64 (0),.int .u64 (0),.int .u64 (0),.int .u64 (0),.int .u64 (0)]:=by kernel_rfl
theorem ba28_28 (h:IH) (x y:Value):builtin Proofs.Try.prog h .append #[28,28] [x,y]=append Proofs.Try.prog h 28 x y:=builtin_append Proofs.Try.prog h 28 28 x y sl28
theorem ba47_47 (h:IH) (x y:Value):builtin Proofs.Try.prog h .append #[47,47] [x,y]=append Proofs.Try.prog h 47 x y:=builtin_append Proofs.Try.prog h 47 47 x y sl47
theorem ba53_53 (h:IH) (x y:Value):builtin Proofs.Try.prog h .append #[53,53] [x,y]=append Proofs.Try.prog h 53 x y:=builtin_append Proofs.Try.prog h 53 53 x y sl53
theorem be4 (ox oy:Operand) (a b:Bool):binop Proofs.Try.prog .eql 4 ox oy (.bool a) (.bool b)=some (.bool (a == b)):=binop_eql_bool u4 ox oy a b
theorem bn4 (ox oy:Operand) (a b:Bool):binop Proofs.Try.prog .neq 4 ox oy (.bool a) (.bool b)=some (.bool (!(a == b))):=binop_neq_bool u4 ox oy a b
theorem bs28 (h:IH) (len:Nat) (ps:List (Nat×Value)) (hl:len*16≤16777216):buildSlice Proofs.Try.prog h 28 len ps=(fillP (fun i=>some (i*16,16)) (repl len [.int .u64 (0),.int .u64 (0),.int .u64 (0),.int .u64 (0),.int .u64 (0),.int .u64 (0),.int .u64 (0),.int .u64 (0),.int .u64 (0),.int .u64 (0),.int .u64 (0),.int .u64 (0),.int .u64 (0),.int .u64 (0),.int .u64 (0),.int .u64 (0)]) ps).map fun cells=>(.slice (some ⟨2*h.n,0,none⟩) len (2*len+1),h.new (.cells cells 16 none)):=buildSlice_eq mk28 h len ps hl
theorem bs42 (h:IH) (len:Nat) (ps:List (Nat×Value)) (hl:len*1≤16777216):buildSlice Proofs.Try.prog h 42 len ps=(fillP (fun i=>some (i*1,1)) (repl len [.slice none 0 0]) ps).map fun cells=>(.slice (some ⟨2*h.n,0,none⟩) len (2*len+1),h.new (.cells cells 1 none)):=buildSlice_eq mk42 h len ps hl
theorem bs47 (h:IH) (len:Nat) (ps:List (Nat×Value)) (hl:len*1≤16777216):buildSlice Proofs.Try.prog h 47 len ps=(fillP (fun i=>some (i*1,1)) (repl len [.int .u64 (0)]) ps).map fun cells=>(.slice (some ⟨2*h.n,0,none⟩) len (2*len+1),h.new (.cells cells 1 none)):=buildSlice_eq mk47 h len ps hl
theorem bs53 (h:IH) (len:Nat) (ps:List (Nat×Value)) (hl:len*4≤16777216):buildSlice Proofs.Try.prog h 53 len ps=(fillP (fun i=>some (i*4,4)) (repl len [.bool false,.slice none 0 0,.bool false,.slice none 0 0]) ps).map fun cells=>(.slice (some ⟨2*h.n,0,none⟩) len (2*len+1),h.new (.cells cells 4 none)):=buildSlice_eq mk53 h len ps hl
theorem bs60 (h:IH) (len:Nat) (ps:List (Nat×Value)) (hl:len*1≤16777216):buildSlice Proofs.Try.prog h 60 len ps=(fillP (fun i=>some (i*1,1)) (repl len [.int .i64 (0)]) ps).map fun cells=>(.slice (some ⟨2*h.n,0,none⟩) len (2*len+1),h.new (.cells cells 1 none)):=buildSlice_eq mk60 h len ps hl
theorem bv25 (ps:List (Nat×Value)):buildV Proofs.Try.prog 25 ps=(fillP (placeOf Proofs.Try.prog 25) [.int .u64 (0),.int .u64 (0),.int .u64 (0),.int .u64 (0),.int .u64 (0),.int .u64 (0),.int .u64 (0),.int .u64 (0)] ps).map fun cs=>.agg cs.toArray:=buildV_eq zc25 as25 ps
theorem bv27 (ps:List (Nat×Value)):buildV Proofs.Try.prog 27 ps=(fillP (placeOf Proofs.Try.prog 27) [.int .u64 (0),.int .u64 (0),.int .u64 (0),.int .u64 (0),.int .u64 (0),.int .u64 (0),.int .u64 (0),.int .u64 (0),.int .u64 (0),.int .u64 (0),.int .u64 (0),.int .u64 (0),.int .u64 (0),.int .u64 (0),.int .u64 (0),.int .u64 (0)] ps).map fun cs=>.agg cs.toArray:=buildV_eq zc27 as27 ps
theorem bv49 (ps:List (Nat×Value)):buildV Proofs.Try.prog 49 ps=(fillP (placeOf Proofs.Try.prog 49) [.bool false,.slice none 0 0] ps).map fun cs=>.agg cs.toArray:=buildV_eq zc49 as49 ps
theorem bv51 (ps:List (Nat×Value)):buildV Proofs.Try.prog 51 ps=(fillP (placeOf Proofs.Try.prog 51) [.bool false,.slice none 0 0,.bool false,.slice none 0 0] ps).map fun cs=>.agg cs.toArray:=buildV_eq zc51 as51 ps
theorem bv55 (ps:List (Nat×Value)):buildV Proofs.Try.prog 55 ps=(fillP (placeOf Proofs.Try.prog 55) [.slice none 0 0,.bool false,.slice none 0 0,.bool false,.slice none 0 0] ps).map fun cs=>.agg cs.toArray:=buildV_eq zc55 as55 ps
theorem bv93 (ps:List (Nat×Value)):buildV Proofs.Try.prog 93 ps=(fillP (placeOf Proofs.Try.prog 93) [.int .u64 (0),.int .u64 (0),.int .u64 (0),.int .u64 (0),.int .u64 (0),.int .u64 (0),.int .u64 (0),.int .u64 (0)] ps).map fun cs=>.agg cs.toArray:=buildV_eq zc93 as93 ps
theorem bv95 (ps:List (Nat×Value)):buildV Proofs.Try.prog 95 ps=(fillP (placeOf Proofs.Try.prog 95) [.bool false,.int .u64 (0),.int .u64 (0),.int .u64 (0),.int .u64 (0),.int .u64 (0),.int .u64 (0),.int .u64 (0),.int .u64 (0)] ps).map fun cs=>.agg cs.toArray:=buildV_eq zc95 as95 ps
theorem cv23_5 (k:IntKind) (n:Int):convV Proofs.Try.prog 23 5 (.int k n)=some (.int .u8 (IntKind.u8.wrap n)):=convV_int is23 u5
theorem cv3_114 (k:IntKind) (n:Int):convV Proofs.Try.prog 3 114 (.int k n)=some (.int .u64 (IntKind.u64.wrap n)):=convV_int is3 u114
theorem cv3_23 (k:IntKind) (n:Int):convV Proofs.Try.prog 3 23 (.int k n)=some (.int .u64 (IntKind.u64.wrap n)):=convV_int is3 u23
theorem cv5_3 (k:IntKind) (n:Int):convV Proofs.Try.prog 5 3 (.int k n)=some (.int .i64 (IntKind.i64.wrap n)):=convV_int is5 u3
theorem ld23 (h:IH) (b o:Nat):load Proofs.Try.prog h 23 (ptr b o)=ld h b o:=load_scal ag23 h b o
theorem ld25 (h:IH) (b o:Nat):load Proofs.Try.prog h 25 (ptr b o)=(h.rd b o 8).map fun cs=>.agg cs.toArray:=load_agg ag25 sz25 h b o
theorem ld27 (h:IH) (b o:Nat):load Proofs.Try.prog h 27 (ptr b o)=(h.rd b o 16).map fun cs=>.agg cs.toArray:=load_agg ag27 sz27 h b o
theorem ld28 (h:IH) (b o:Nat):load Proofs.Try.prog h 28 (ptr b o)=ld h b o:=load_scal ag28 h b o
theorem ld3 (h:IH) (b o:Nat):load Proofs.Try.prog h 3 (ptr b o)=ld h b o:=load_scal ag3 h b o
theorem ld32 (h:IH) (b o:Nat):load Proofs.Try.prog h 32 (ptr b o)=ld h b o:=load_scal ag32 h b o
theorem ld4 (h:IH) (b o:Nat):load Proofs.Try.prog h 4 (ptr b o)=ld h b o:=load_scal ag4 h b o
theorem ld42 (h:IH) (b o:Nat):load Proofs.Try.prog h 42 (ptr b o)=ld h b o:=load_scal ag42 h b o
theorem ld47 (h:IH) (b o:Nat):load Proofs.Try.prog h 47 (ptr b o)=ld h b o:=load_scal ag47 h b o
theorem ld49 (h:IH) (b o:Nat):load Proofs.Try.prog h 49 (ptr b o)=(h.rd b o 2).map fun cs=>.agg cs.toArray:=load_agg ag49 sz49 h b o
theorem ld51 (h:IH) (b o:Nat):load Proofs.Try.prog h 51 (ptr b o)=(h.rd b o 4).map fun cs=>.agg cs.toArray:=load_agg ag51 sz51 h b o
theorem ld53 (h:IH) (b o:Nat):load Proofs.Try.prog h 53 (ptr b o)=ld h b o:=load_scal ag53 h b o
theorem ld55 (h:IH) (b o:Nat):load Proofs.Try.prog h 55 (ptr b o)=(h.rd b o 5).map fun cs=>.agg cs.toArray:=load_agg ag55 sz55 h b o
theorem ld93 (h:IH) (b o:Nat):load Proofs.Try.prog h 93 (ptr b o)=(h.rd b o 8).map fun cs=>.agg cs.toArray:=load_agg ag93 sz93 h b o
theorem ld95 (h:IH) (b o:Nat):load Proofs.Try.prog h 95 (ptr b o)=(h.rd b o 9).map fun cs=>.agg cs.toArray:=load_agg ag95 sz95 h b o
theorem ms42 (h:IH) (k j:IntKind) {l c:Int} (h0:0≤l) (h1:l≤c) (h2:c*25≤1099511627776):makeSlice Proofs.Try.prog h 42 (.int k l) (.int j c)=some (.slice (some ⟨2*h.n,0,none⟩) l.toNat (2*c.toNat+1),h.new (.cells (repl c.toNat [.slice none 0 0]) 1 none)):=makeSlice_eq mk42 h k j h0 h1 h2
theorem ms47 (h:IH) (k j:IntKind) {l c:Int} (h0:0≤l) (h1:l≤c) (h2:c*9≤1099511627776):makeSlice Proofs.Try.prog h 47 (.int k l) (.int j c)=some (.slice (some ⟨2*h.n,0,none⟩) l.toNat (2*c.toNat+1),h.new (.cells (repl c.toNat [.int .u64 (0)]) 1 none)):=makeSlice_eq mk47 h k j h0 h1 h2
theorem st23 (h:IH) (k o:Nat) (v:Value):store Proofs.Try.prog h 23 (ptr (2*k) o) v=stE 1 h k o v.cells.toList (h.ext.get k):=store_stE sz23 h k o v
theorem st25 (h:IH) (k o:Nat) (v:Value):store Proofs.Try.prog h 25 (ptr (2*k) o) v=stE 8 h k o v.cells.toList (h.ext.get k):=store_stE sz25 h k o v
theorem st27 (h:IH) (k o:Nat) (v:Value):store Proofs.Try.prog h 27 (ptr (2*k) o) v=stE 16 h k o v.cells.toList (h.ext.get k):=store_stE sz27 h k o v
theorem st28 (h:IH) (k o:Nat) (v:Value):store Proofs.Try.prog h 28 (ptr (2*k) o) v=stE 1 h k o v.cells.toList (h.ext.get k):=store_stE sz28 h k o v
theorem st32 (h:IH) (k o:Nat) (v:Value):store Proofs.Try.prog h 32 (ptr (2*k) o) v=stE 1 h k o v.cells.toList (h.ext.get k):=store_stE sz32 h k o v
theorem st49 (h:IH) (k o:Nat) (v:Value):store Proofs.Try.prog h 49 (ptr (2*k) o) v=stE 2 h k o v.cells.toList (h.ext.get k):=store_stE sz49 h k o v
theorem st51 (h:IH) (k o:Nat) (v:Value):store Proofs.Try.prog h 51 (ptr (2*k) o) v=stE 4 h k o v.cells.toList (h.ext.get k):=store_stE sz51 h k o v
theorem st55 (h:IH) (k o:Nat) (v:Value):store Proofs.Try.prog h 55 (ptr (2*k) o) v=stE 5 h k o v.cells.toList (h.ext.get k):=store_stE sz55 h k o v
theorem st93 (h:IH) (k o:Nat) (v:Value):store Proofs.Try.prog h 93 (ptr (2*k) o) v=stE 8 h k o v.cells.toList (h.ext.get k):=store_stE sz93 h k o v
theorem st95 (h:IH) (k o:Nat) (v:Value):store Proofs.Try.prog h 95 (ptr (2*k) o) v=stE 9 h k o v.cells.toList (h.ext.get k):=store_stE sz95 h k o v
end Go.Id

/-! Digits to the base 2^32, the lowest first: plain numbers. -/
namespace Go.Id
def valT (ds:List Nat):Nat→Nat
 | 0=>0
 | k+1=>valT ds k+ds.getD k 0*4294967296 ^ k
def valD (ds:List Nat):Nat:=valT ds ds.length
def Digs (ds:List Nat):Prop:=∀d∈ds,d<4294967296
def Norm (ds:List Nat):Prop:=ds = []∨ds.getD (ds.length - 1) 0≠0
theorem getD_lt {ds:List Nat} (h:Digs ds) (k:Nat):ds.getD k 0<4294967296:=by
 rw[List.getD_eq_getElem?_getD]
 cases hx:ds[k]? with
 | none=>simp
 | some x=>simpa using h x (List.mem_of_getElem? hx)
theorem getD_of_ge {ds:List Nat} {k:Nat} (h:ds.length≤k):ds.getD k 0=0:=by
 rw[List.getD_eq_getElem?_getD,List.getElem?_eq_none h];rfl
theorem pow_pos' (k:Nat):0<4294967296 ^ k:=Nat.pow_pos (by omega)
theorem valT_lt {ds:List Nat} (h:Digs ds) : ∀k,valT ds k<4294967296 ^ k
 | 0=>by simp[valT]
 | k+1=>by
  have ih:=valT_lt h k
  have hd:=getD_lt h k
  have h2:ds.getD k 0*4294967296 ^ k≤4294967295*4294967296 ^ k:=Nat.mul_le_mul_right _ (by omega)
  rw[valT,Nat.pow_succ]
  omega
theorem valT_ge {ds:List Nat} : ∀{k:Nat},ds.length≤k→valT ds k=valD ds
 | 0,h=>by
  have:ds = []:=List.length_eq_zero_iff.1 (by omega)
  subst this;rfl
 | k+1,h=>by
  by_cases hk:ds.length≤k
  ·rw[valT,valT_ge hk,getD_of_ge hk];simp
  ·have:ds.length=k+1:=by omega
   rw[valD,this]
theorem valT_congr {ds es:List Nat} : ∀{k:Nat},(∀j,j<k→ds.getD j 0=es.getD j 0)→valT ds k=valT es k
 | 0,_=>rfl
 | k+1,h=>by rw[valT,valT,valT_congr fun j hj=>h j (by omega),h k (by omega)]
theorem valD_lt {ds:List Nat} (h:Digs ds):valD ds<4294967296 ^ ds.length:=valT_lt h _
theorem Digs.append {ds:List Nat} {x:Nat} (h:Digs ds) (hx:x<4294967296):Digs (ds ++ [x]):=by
 intro d hd
 rcases List.mem_append.1 hd with h1|h1
 ·exact h d h1
 ·simp at h1;omega
theorem Digs.take {ds:List Nat} (h:Digs ds) (n:Nat):Digs (ds.take n):=fun d hd=>h d (List.mem_of_mem_take hd)
theorem getD_take (ds:List Nat) (n j:Nat):(ds.take n).getD j 0=if j<n then ds.getD j 0 else 0:=by
 simp only[List.getD_eq_getElem?_getD,List.getElem?_take]
 split<;>rfl
theorem valT_split (ds:List Nat) (m:Nat) : ∀k,(∀j,m≤j→j<m+k→ds.getD j 0=0)→valT ds (m+k)=valT ds m
 | 0,_=>rfl
 | k+1,h=>by
  rw[show m+(k+1)=(m+k)+1 from rfl,valT,valT_split ds m k (fun j a b=>h j a (by omega)),h (m+k) (by omega) (by omega)]
  simp
theorem valD_take {ds:List Nat} {m:Nat} (hm:m≤ds.length) (h : ∀j,m≤j→ds.getD j 0=0):valD (ds.take m)=valD ds:=by
 have h1:(ds.take m).length=m:=by simp[hm]
 rw[valD,h1]
 have h2:valT (ds.take m) m=valT ds m:=valT_congr fun j hj=>by rw[getD_take,if_pos hj]
 rw[h2]
 have:=valT_split ds m (ds.length - m) (fun j a _=>h j a)
 rw[show m+(ds.length - m)=ds.length from by omega] at this
 exact this.symm
theorem Norm.ge {ds:List Nat} (h:Norm ds) (hne:ds ≠ []):4294967296 ^ (ds.length - 1)≤valD ds:=by
 rcases h with h|h
 ·exact absurd h hne
 ·have hl:0<ds.length:=List.length_pos_iff.2 hne
  obtain⟨n,hn⟩ : ∃n,ds.length=n+1:=⟨ds.length - 1,by omega⟩
  rw[valD,hn,valT]
  rw[hn] at h
  simp only[Nat.add_sub_cancel] at h ⊢
  have:1*4294967296 ^ n≤ds.getD n 0*4294967296 ^ n:=Nat.mul_le_mul_right _ (by omega)
  omega
theorem lt_of_len {a b:List Nat} (ha:Digs a) (hb:Norm b) (hl:a.length<b.length):valD a<valD b:=by
 have h1:=valD_lt ha
 have h2:=hb.ge (by intro h;subst h;simp at hl)
 have h3:4294967296 ^ a.length≤4294967296 ^ (b.length - 1):=Nat.pow_le_pow_right (by omega) (by omega)
 omega
theorem valT_top {a b:List Nat} (ha:Digs a) {i:Nat} (hi:a.getD i 0<b.getD i 0) : ∀k,(∀j,i<j→j<i+1+k→a.getD j 0=b.getD j 0)→valT a (i+1+k)<valT b (i+1+k)
 | 0,_=>by
  have h1:=valT_lt ha i
  have h2:(a.getD i 0+1)*4294967296 ^ i≤b.getD i 0*4294967296 ^ i:=Nat.mul_le_mul_right _ (by omega)
  rw[Nat.add_mul] at h2
  rw[Nat.add_zero,valT,valT]
  omega
 | k+1,h=>by
  have:=valT_top ha hi k (fun j x y=>h j x (by omega))
  rw[show i+1+(k+1)=(i+1+k)+1 from rfl,valT,valT,h (i+1+k) (by omega) (by omega)]
  omega
theorem lt_of_top {a b:List Nat} (ha:Digs a) (hl:a.length=b.length) {i:Nat} (hn:i<a.length) (hi:a.getD i 0<b.getD i 0) (h : ∀j,i<j→j<a.length→a.getD j 0=b.getD j 0):valD a<valD b:=by
 have:=valT_top ha hi (a.length - (i+1)) (fun j x y=>h j x (by omega))
 rw[show i+1+(a.length - (i+1))=a.length from by omega] at this
 rw[valD,valD,←hl];exact this
theorem eq_of_all {a b:List Nat} (hl:a.length=b.length) (h : ∀j,j<a.length→a.getD j 0=b.getD j 0):valD a=valD b:=by
 rw[valD,valD,←hl];exact valT_congr h
theorem Norm.nil_iff {ds:List Nat} (h:Norm ds):valD ds=0↔ds = []:=by
 constructor
 ·intro h0
  apply Classical.byContradiction;intro hne
  have:=h.ge hne
  have:=pow_pos' (ds.length - 1)
  omega
 ·rintro rfl;rfl
theorem Norm.len_le {a b:List Nat} (ha:Norm a) (hb:Digs b) (h:valD a≤valD b):a.length≤b.length:=by
 apply Classical.byContradiction;intro hn
 have:=lt_of_len hb ha (by omega)
 omega
end Go.Id

/-! Contracts: the reference's long integers. -/
namespace Go.Id
open Go
abbrev KN (n:Nat):Value:=.int .i64 (n:Int)
def DigU (h:IH) (v:Value) (ds:List Nat):Prop:=SlOf h 1 v ds.length (ds.map KN)∧Digs ds∧ds.length≤1100000
def Dig (h:IH) (v:Value) (x:Nat):Prop:=∃ds,DigU h v ds∧Norm ds∧valD ds=x
theorem DigU.keep {h h':IH} {v:Value} {ds:List Nat} (d:DigU h v ds) (e:Keep h h'):DigU h' v ds:=⟨d.1.keep e,d.2⟩
theorem Dig.keep {h h':IH} {v:Value} {x:Nat} (d:Dig h v x) (e:Keep h h'):Dig h' v x:=let ⟨ds,a,b⟩:=d;⟨ds,a.keep e,b⟩
theorem get_some {ds:List Nat} {i:Nat} (h:i<ds.length):ds[i]?=some (ds.getD i 0):=by
 rw[List.getD_eq_getElem?_getD,List.getElem?_eq_getElem h];rfl
theorem map_get {α β:Type} (f:α→β) (l:List α) (i:Nat):(l.map f)[i]?=(l[i]?).map f:=List.getElem?_map
def LongIs (h:IH) (v:Value) (z:Int):Prop:=∃s,v=.agg #[.bool (decide (z<0)),s]∧Dig h s z.natAbs
theorem LongIs.keep {h h':IH} {v:Value} {z:Int} (d:LongIs h v z) (e:Keep h h'):LongIs h' v z:=let ⟨s,a,b⟩:=d;⟨s,a,b.keep e⟩
end Go.Id

/-! Contracts: the reference's long integers, second part: sums and differences of digits. -/
namespace Go.Id
open Go
end Go.Id

/-! Contracts: the reference's long integers, third part: sums, differences, comparisons. -/
namespace Go.Id
open Go
@[irreducible] def Small (x:Nat):Prop:=x<4294967296 ^ 1000000
theorem Small.lt {x:Nat} (h:Small x):x<4294967296 ^ 1000000:=by unfold Small at h;exact h
theorem Small.mk {x:Nat} (h:x<4294967296 ^ 1000000):Small x:=by unfold Small;exact h
theorem Small.le {x y:Nat} (h:Small x) (k:y≤x):Small y:=.mk (Nat.lt_of_le_of_lt k h.lt)
theorem Norm.small {ds:List Nat} (h:Norm ds) (hs:Small (valD ds)):ds.length≤1000000:=by
 by_cases hne:ds = []
 ·subst hne;simp
 ·have h1:=h.ge hne
  have h2:4294967296 ^ (ds.length - 1)<4294967296 ^ 1000000:=Nat.lt_of_le_of_lt h1 hs.lt
  have:=(Nat.pow_lt_pow_iff_right (a:=4294967296) (by omega)).1 h2
  omega
abbrev SmallI (z:Int):Prop:=Small z.natAbs
end Go.Id

/-! Contracts: the reference's long integers, fourth part: differences, comparisons, integers. -/
namespace Go.Id
open Go
theorem LongIs.form {h:IH} {v:Value} {z:Int} (d:LongIs h v z) : ∃s n,v=.agg #[.bool (decide (z<0)),s]∧s.cells = #[s]∧cellOK s=true∧(∀{P:Program} {t:TypeId} (_:isSliceT P (some t)=true) (h':IH),lenB P h' t s=some (.int .i64 ((n:Nat):Int)))∧(n=0↔z=0):=by
 obtain⟨s,rfl,ds,hD,hN,hx⟩:=d
 refine⟨s,ds.length,rfl,hD.1.cells,hD.1.cok,fun hT h'=>hD.1.len hT h',?_⟩
 have:=hN.nil_iff
 rw[hx] at this
 rw[List.length_eq_zero_iff,←this];omega
end Go.Id

/-! Words to the base 2^64: plain numbers. -/
namespace Go.Id
def wrd (n i:Nat):Nat:=n / 18446744073709551616 ^ i % 18446744073709551616
theorem wrd_lt (n i:Nat):wrd n i<18446744073709551616:=Nat.mod_lt _ (by omega)
theorem mod_wrd (n i:Nat):n % 18446744073709551616 ^ (i+1)=n % 18446744073709551616 ^ i+18446744073709551616 ^ i*wrd n i:=Nat.mod_pow_succ
theorem wrd_high {n i j:Nat} (h:n<18446744073709551616 ^ i) (hj:i≤j):wrd n j=0:=by
 have:n<18446744073709551616 ^ j:=Nat.lt_of_lt_of_le h (Nat.pow_le_pow_right (by omega) hj)
 rw[wrd,Nat.div_eq_of_lt this]
@[irreducible] def W8:Nat:=18446744073709551616 ^ 8
@[irreducible] def H8:Nat:=9223372036854775808*18446744073709551616 ^ 7
theorem W8_eq:W8=18446744073709551616 ^ 8:=by unfold W8;rfl
theorem W8_two:W8=2*H8:=by unfold W8 H8;rfl
theorem W8_dig:W8=4294967296 ^ 16:=by unfold W8;rfl
theorem H8_big:9223372036854775808<H8:=by unfold H8;decide
def wdI (n:Nat):Int:=if n<H8 then (n:Int) else (n:Int) - W8
theorem wrd7 {n:Nat} (h:n<W8):wrd n 7<9223372036854775808↔n<H8:=by
 rw[W8_eq] at h
 unfold H8
 have h1:n / 18446744073709551616 ^ 7<18446744073709551616:=by
  rw[Nat.div_lt_iff_lt_mul (Nat.pow_pos (by decide))];exact h
 rw[wrd,Nat.mod_eq_of_lt h1,Nat.div_lt_iff_lt_mul (Nat.pow_pos (by decide))]
end Go.Id

/-! Contracts: the reference's long integers, fifth part: words. -/
namespace Go.Id
open Go
def wdC (n:Nat):List Value:=(List.range 8).map fun i=>K64 (wrd n i)
def wdV (n:Nat):Value:=.agg (wdC n).toArray
theorem wdC_len (n:Nat):(wdC n).length=8:=by simp[wdC]
theorem wdC_get (n i:Nat) (hi:i<8):(wdC n)[i]?=some (K64 (wrd n i)):=by simp[wdC,hi]
theorem wdC_all (n:Nat):(wdC n).all cellOK=true:=by simp[wdC,cellOK]
end Go.Id

/-! Contracts: the reference's long integers, sixth part: wide integers read and written. -/
namespace Go.Id
open Go
theorem wd_take (n:Nat):List.take 8 (List.drop 0 (wdC n))=wdC n:=by
 rw[List.drop_zero,List.take_of_length_le (by rw[wdC_len];omega)]
end Go.Id

/-! Contracts: the reference's long integers, seventh part: written, made of integers, read as integers. -/
namespace Go.Id
open Go
def InW (z:Int):Prop:=-(H8:Int)≤z∧z<H8
instance (z:Int):Decidable (InW z):=inferInstanceAs (Decidable (_∧_))
def wideN (z:Int):Nat:=if 0≤z then z.toNat else W8 - z.natAbs
theorem wideN_lt {z:Int} (h:InW z):wideN z<W8:=by
 have:=W8_two
 unfold InW at h
 unfold wideN
 split<;>omega
theorem wdI_wideN {z:Int} (h:InW z):wdI (wideN z)=z:=by
 have:=W8_two
 unfold InW at h
 unfold wdI wideN
 split
 ·rw[if_pos (by omega)];omega
 ·rw[if_neg (by omega)];omega
abbrev wideV (z:Int):Value:=wdV (wideN z)
abbrev ZW:Value:=.int .u64 0
theorem wdC_zero:wdC 0 = [ZW,ZW,ZW,ZW,ZW,ZW,ZW,ZW]:=by
 simp[wdC,wrd,List.range_succ]
end Go.Id

/-! Contracts: the reference's long integers, eighth part: what the chapter names. -/
namespace Go.Id
open Go
theorem wrapU (n:Int):IntKind.u64.wrap n=n % 18446744073709551616:=by simp[IntKind.wrap,IntKind.bits,IntKind.signed]
abbrev In64 (n:Int):Prop:=-9223372036854775808≤n∧n<9223372036854775808
theorem pow_up (b:Nat) (hb:0<b) (m k:Nat) (h:m≤k):b ^ m≤b ^ k:=Nat.pow_le_pow_right hb h
theorem smallW {z:Int} (h:InW z):SmallI z:=by
 have h1:=pow_up 4294967296 (by decide) 16 1000000 (by decide)
 rw[←W8_dig] at h1
 have h2:=W8_two
 have h3:=H8_big
 unfold InW at h
 unfold SmallI Small
 refine Nat.lt_of_lt_of_le ?_ h1
 omega
end Go.Id

/-! Digits to the base 2^32: one digit set; bounds. -/
namespace Go.Id
theorem getD_set {ds:List Nat} {k w:Nat} (hk:k<ds.length) (j:Nat):(ds.set k w).getD j 0=if j=k then w else ds.getD j 0:=by
 simp only[List.getD_eq_getElem?_getD,List.getElem?_set]
 by_cases h:k=j
 ·subst h;simp[hk]
 ·rw[if_neg h,if_neg (fun x=>h x.symm)]
theorem valT_set {ds:List Nat} {k w:Nat} (hk:k<ds.length) : ∀n,valT (ds.set k w) n+(if k<n then ds.getD k 0*4294967296 ^ k else 0)=valT ds n+(if k<n then w*4294967296 ^ k else 0)
 | 0=>by simp[valT]
 | n+1=>by
  have ih:=valT_set (w:=w) hk n
  rw[valT,valT,getD_set hk]
  by_cases h1:k<n
  ·rw[if_pos h1,if_pos h1] at ih
   rw[if_pos (show k<n+1 by omega),if_pos (show k<n+1 by omega),if_neg (show ¬n=k by omega)]
   omega
  ·rw[if_neg h1,if_neg h1] at ih
   by_cases h2:n=k
   ·subst h2
    rw[if_pos (Nat.lt_succ_self n),if_pos (Nat.lt_succ_self n),if_pos rfl]
    omega
   ·rw[if_neg (show ¬k<n+1 by omega),if_neg (show ¬k<n+1 by omega),if_neg h2]
    omega
theorem valD_set {ds:List Nat} {k:Nat} (w:Nat) (hk:k<ds.length):valD (ds.set k w)+ds.getD k 0*4294967296 ^ k=valD ds+w*4294967296 ^ k:=by
 have h:=valT_set (w:=w) hk ds.length
 rw[if_pos hk,if_pos hk] at h
 rw[valD,valD,List.length_set];exact h
theorem valT_repl (m:Nat) : ∀n,valT (List.replicate m 0) n=0
 | 0=>rfl
 | n+1=>by
  rw[valT,valT_repl m n]
  have:(List.replicate m 0).getD n 0=0:=by
   rw[List.getD_eq_getElem?_getD,List.getElem?_replicate];split<;>rfl
  rw[this];simp
theorem valD_repl (m:Nat):valD (List.replicate m 0)=0:=valT_repl m _
theorem getD_repl (m j:Nat):(List.replicate m 0).getD j 0=0:=by
 rw[List.getD_eq_getElem?_getD,List.getElem?_replicate];split<;>rfl
theorem Digs.set {ds:List Nat} (h:Digs ds) (k:Nat) {w:Nat} (hw:w<4294967296):Digs (ds.set k w):=by
 intro d hd
 rcases List.mem_or_eq_of_mem_set hd with h1|h1
 ·exact h d h1
 ·omega
theorem Digs.repl (m:Nat):Digs (List.replicate m 0):=by
 intro d hd
 rw[List.mem_replicate] at hd
 omega
theorem Norm.lenlt {ds:List Nat} (h:Norm ds) {m:Nat} (hs:valD ds<4294967296 ^ m):ds.length≤m:=by
 apply Classical.byContradiction;intro hn
 have hne:ds ≠ []:=by intro h0;subst h0;simp at hn
 have h1:=h.ge hne
 have h2:4294967296 ^ m≤4294967296 ^ (ds.length - 1):=Nat.pow_le_pow_right (by omega) (by omega)
 omega
end Go.Id

/-! Digits to the base 2^32: bits; long division bit by bit; plain numbers. -/
namespace Go.Id
theorem valT_eq {ds:List Nat} (h:Digs ds) : ∀{n k:Nat},n≤k→valT ds k % 4294967296 ^ n=valT ds n
 | n,0,hk=>by
  obtain rfl:n=0:=by omega
  simp[valT]
 | n,k+1,hk=>by
  by_cases hn:n=k+1
  ·subst hn;exact Nat.mod_eq_of_lt (valT_lt h _)
  ·have ih:=valT_eq h (show n≤k by omega)
   rw[valT]
   have hd:4294967296 ^ n∣ds.getD k 0*4294967296 ^ k:=Nat.dvd_trans (Nat.pow_dvd_pow _ (by omega)) (Nat.dvd_mul_left _ _)
   obtain⟨c,hc⟩:=hd
   rw[hc,Nat.add_mul_mod_self_left,ih]
theorem digit_eq {ds:List Nat} (h:Digs ds) (j:Nat):ds.getD j 0=valD ds / 4294967296 ^ j % 4294967296:=by
 have hp:=pow_pos' j
 by_cases hj:j<ds.length
 ·have e1:valT ds (j+1)=valD ds % 4294967296 ^ (j+1):=(valT_eq h (show j+1≤ds.length by omega)).symm
  have e2:valT ds (j+1) / 4294967296 ^ j=ds.getD j 0:=by
   rw[valT,Nat.add_mul_div_right _ _ hp,Nat.div_eq_of_lt (valT_lt h j),Nat.zero_add]
  rw[←e2,e1,Nat.pow_succ,Nat.mod_mul_right_div_self]
 ·rw[getD_of_ge (by omega)]
  have h1:=valD_lt h
  have h2:4294967296 ^ ds.length≤4294967296 ^ j:=Nat.pow_le_pow_right (by omega) (by omega)
  rw[Nat.div_eq_of_lt (by omega)]
theorem Norm.drop {ds:List Nat} (h:Norm ds) (m:Nat):Norm (ds.drop m):=by
 by_cases hm:ds.length≤m
 ·left;exact List.drop_eq_nil_of_le hm
 ·rcases h with rfl|h
  ·left;simp
  ·right
   rw[List.length_drop]
   have:(ds.drop m).getD (ds.length - m - 1) 0=ds.getD (ds.length - 1) 0:=by
    simp only[List.getD_eq_getElem?_getD,List.getElem?_drop]
    rw[show m+(ds.length - m - 1)=ds.length - 1 by omega]
   rw[this];exact h
theorem Digs.drop {ds:List Nat} (h:Digs ds) (m:Nat):Digs (ds.drop m):=fun d hd=>h d (List.mem_of_mem_drop hd)
end Go.Id

/-! Contracts: the reference's long integers: products of digits. -/
namespace Go.Id
open Go
theorem row_kn {h:IH} {b:Nat} {cs:List Value} {e:Nat} {f:Option Nat} (hg:h.ext.get b=some (.cells cs e f)):h.row (2*b)=some cs:=by rw[row_even];simp only[IH.cells,hg]
end Go.Id

/-! Contracts: the program's long integers: words, trimmed, compared, added, subtracted. -/
namespace Go.Id
open Go
def WrdU (h:IH) (v:Value) (ds:List Nat):Prop:=SlOf h 1 v ds.length (ds.map K64)∧B.Digs ds∧ds.length≤1100000
def Wrd (h:IH) (v:Value) (x:Nat):Prop:=∃ds,WrdU h v ds∧B.Norm ds∧B.valD ds=x
theorem WrdU.keep {h h':IH} {v:Value} {ds:List Nat} (d:WrdU h v ds) (e:Keep h h'):WrdU h' v ds:=⟨d.1.keep e,d.2⟩
theorem Wrd.keep {h h':IH} {v:Value} {x:Nat} (d:Wrd h v x) (e:Keep h h'):Wrd h' v x:=let ⟨ds,a,b⟩:=d;⟨ds,a.keep e,b⟩
theorem WrdU.wrd {h:IH} {v:Value} {ds:List Nat} (d:WrdU h v ds) (n:B.Norm ds):Wrd h v (B.valD ds):=⟨ds,d,n,rfl⟩
theorem WrdU.putAt {h:IH} {v:Value} {ds:List Nat} (d:WrdU h v ds) {k:Nat} (hk:blockOf v≠some (2*k)) (o:IObj):WrdU (h.put k o) v ds:=⟨d.1.putAt hk o,d.2⟩
def PLong (h:IH) (v:Value) (z:Int):Prop:=∃s,v=.agg #[.bool (decide (z<0)),s]∧Wrd h s z.natAbs
theorem PLong.keep {h h':IH} {v:Value} {z:Int} (d:PLong h v z) (e:Keep h h'):PLong h' v z:=let ⟨s,a,b⟩:=d;⟨s,a,b.keep e⟩
theorem PLong.form {h:IH} {v:Value} {z:Int} (d:PLong h v z) : ∃s n,v=.agg #[.bool (decide (z<0)),s]∧s.cells = #[s]∧cellOK s=true∧(∀{P:Program} {t:TypeId} (_:isSliceT P (some t)=true) (h':IH),lenB P h' t s=some (.int .i64 ((n:Nat):Int)))∧(n=0↔z=0):=by
 obtain⟨s,rfl,ds,hD,hN,hx⟩:=d
 refine⟨s,ds.length,rfl,hD.1.cells,hD.1.cok,fun hT h'=>hD.1.len hT h',?_⟩
 have:=hN.nil_iff
 rw[hx] at this
 rw[List.length_eq_zero_iff,←this];omega
theorem k64_all (l:List Nat):(l.map K64).all cellOK=true:=by simp[cellOK]
theorem repl_k64 (n:Nat):repl n [.int .u64 0]=(List.replicate n 0).map K64:=by rw[repl_one,List.map_replicate];rfl
theorem spl_k64 {os:List Nat} {k:Nat} (x:Nat) (hk:k<os.length):IH.splice (os.map K64) k [K64 x]=(os.set k x).map K64:=by
 rw[splice_set (by simpa using hk),List.map_set]
theorem trimmed_at {h:IH} {v:Value} {ds:List Nat} (hd:WrdU h v ds) (b:Bool):WV Proofs.Try.prog (.func (.func 69) #[] #[]) [.bool b,v] h fun r h'=>(Ext h h'∧PLong h' r (if b then -(B.valD ds:Int) else B.valD ds)) ∧ ∀k o,blockOf v≠some (2*k)→PLong (h'.put k o) r (if b then -(B.valD ds:Int) else B.valD ds):=by
 have hb:=hd.2.2
 refine enter (nt:=29) (rs:=[.cell 4 49]) Proofs.Try.func69 rfl rfl rfl (by simp) ?_
 simp -dsimp (disch:=omega) only[wpS,Nat.reduceEqDiff,Nat.reduceAdd,zc49,hd.1.len sl47]
 refine loop (fun m fr h1=>h1=h.new (.cells [.bool false,.slice none 0 0] 0 none)∧m≤ds.length∧fget fr 5=some (KN m)∧fget fr 0=some (.bool b)∧fget fr 1=some v∧fget fr 4=some (ptr (2*h.n) 0) ∧ ∀j,m≤j→ds.getD j 0=0) ds.length ⟨rfl,Nat.le_refl _,by simp,by simp,by simp,by simp,fun j hj=>B.getD_of_ge hj⟩ ?_
 rintro m fr h1 ⟨rfl,hm,f5,f0,f1,f4,hz⟩
 have e1:Ext h (h.new (.cells [.bool false,.slice none 0 0] 0 none)):=(Ext.refl h).new _
 have fin : ∀n:Nat,n≤ds.length→(∀j,n≤j→ds.getD j 0=0)→(n=0∨ds.getD (n - 1) 0≠0) → ∃r,sliceOp Proofs.Try.prog (h.new (.cells [.bool false,.slice none 0 0] 0 none)) 47 v none (some (KN n)) none=some r∧blockOf r=blockOf v∧WrdU (h.new (.cells [.bool false,.slice none 0 0] 0 none)) r (ds.take n)∧B.Norm (ds.take n)∧B.valD (ds.take n)=B.valD ds∧(0<n↔0<B.valD ds):=by
  intro n hn hz hne
  obtain⟨r,hr,hs⟩:=hd.1.slice e1.keep (P:=Proofs.Try.prog) (t:=47) u47 sz23 (l:=0) (m:=n) (Nat.zero_le _) hn (lo:=none) (hi:=some (KN n)) rfl (fun c hc=>natOf_nat (k:=.i64) (by omega))
  have hl:(ds.take n).length=n:=by simp[hn]
  have hN:B.Norm (ds.take n):=by
   rcases hne with rfl|hne
   ·left;simp
   ·by_cases h0:n=0
    ·subst h0;left;simp
    ·right
     rw[hl,B.getD_take,if_pos (by omega)];exact hne
  have hv:=B.valD_take hn hz
  refine⟨r,hr,slice_block u47 hr,⟨?_,hd.2.1.take n,by rw[hl];omega⟩,hN,hv,?_⟩
  ·rw[hl]
   have hs':SlOf h 1 r n ((ds.take n).map K64):=by simpa [List.map_take] using hs
   exact hs'.ext e1
  ·have hz:=hN.nil_iff
   rw[hv] at hz
   constructor
   ·intro h0
    apply Nat.pos_of_ne_zero;intro h1
    have:=hz.1 h1
    rw[this] at hl;simp at hl;omega
   ·intro h0
    apply Nat.pos_of_ne_zero;intro h1
    rw[h1] at hz
    have:=hz.2 (by simp)
    omega
 have out : ∀(n:Nat) (r:Value),blockOf r=blockOf v→WrdU (h.new (.cells [.bool false,.slice none 0 0] 0 none)) r (ds.take n)→B.Norm (ds.take n)→B.valD (ds.take n)=B.valD ds→(0<n↔0<B.valD ds) → ∀c:Bool,c=(b && decide (0<n)) →
   (Ext h ((h.new (.cells [.bool false,.slice none 0 0] 0 none)).put h.n (.cells [.bool c,r] 0 none))∧PLong ((h.new (.cells [.bool false,.slice none 0 0] 0 none)).put h.n (.cells [.bool c,r] 0 none)) (.agg #[.bool c,r]) (if b then -(B.valD ds:Int) else B.valD ds)) ∧ ∀k o,blockOf v≠some (2*k)→PLong (((h.new (.cells [.bool false,.slice none 0 0] 0 none)).put h.n (.cells [.bool c,r] 0 none)).put k o) (.agg #[.bool c,r]) (if b then -(B.valD ds:Int) else B.valD ds):=by
  rintro n r hbk hW hN hv hp c rfl
  have hk:=hW.keep ((Keep.refl _).put (get_new_same h _ rfl) (.cells [.bool (b && decide (0<n)),r] 0 none))
  have hc:(b && decide (0<n))=decide ((if b then -(B.valD ds:Int) else B.valD ds)<0):=by
   rw[show decide (0<n)=decide (0<B.valD ds) from decide_eq_decide.2 hp]
   cases b<;>simp<;>omega
  have ha:(if b then -(B.valD ds:Int) else (B.valD ds:Int)).natAbs=B.valD ds:=by cases b<;>simp
  refine⟨⟨e1.put (Nat.le_refl _) _,r,by rw[hc],ds.take n,hk,hN,by rw[ha,hv]⟩,fun k o hbv=>⟨r,by rw[hc],ds.take n,hk.putAt (by rw[hbk];exact hbv) o,hN,by rw[ha,hv]⟩⟩
 rcases Nat.eq_zero_or_pos m with rfl|hp
 ·obtain⟨r,hr,hbk,hW,hN,hv,hpp⟩:=fin 0 hm hz (.inl rfl)
  have:=out 0 r hbk hW hN hv hpp false (by simp)
  cases b
  ·simp -dsimp (disch:=omega) only[wpS,wpT,Nat.reduceEqDiff,Nat.reduceLeDiff,Nat.reduceAdd,bv49,pl49_0,pl49_1,st49,ld49,f5,f0,f1,f4,hr,hW.1.cells,hW.1.cok]
   exact this
  ·simp -dsimp (disch:=omega) only[wpS,wpT,Nat.reduceEqDiff,Nat.reduceLeDiff,Nat.reduceAdd,bv49,pl49_0,pl49_1,st49,ld49,f5,f0,f1,f4,hr,hW.1.cells,hW.1.cok]
   exact this
 ·obtain⟨k,rfl⟩ : ∃k,m=k+1:=⟨m - 1,by omega⟩
  have h2:IntKind.i64.wrap (((k+1:Nat):Int) - 1)=(k:Int):=by rw[wrap_i64 (by omega)];omega
  simp -dsimp (disch:=omega) only[wpS,wpT,Nat.reduceEqDiff,f5,f1,h2,hd.1.idx es47 (show k<ds.length by omega),hd.1.ld e1.keep (P:=Proofs.Try.prog) (t:=23) (c:=k) (by simp<;>omega) ag23,map_get,get_some (show k<ds.length by omega)]
  refine bq_intro (fun hc=>?_) (fun hc=>?_)
  ·simp -dsimp (disch:=omega) only[wpS,Nat.reduceEqDiff,f5,h2]
   refine⟨k,by omega,rfl,by omega,by simp,by simp[f0],by simp[f1],by simp[f4],fun j hj=>?_⟩
   by_cases hjk:j=k
   ·subst hjk;simpa using hc
   ·exact hz j (by omega)
  ·obtain⟨r,hr,hbk,hW,hN,hv,hpp⟩:=fin (k+1) hm hz (.inr (by simpa using hc))
   cases b
   ·have:=out (k+1) r hbk hW hN hv hpp false (by simp)
    simp -dsimp (disch:=omega) only[wpS,wpT,Nat.reduceEqDiff,Nat.reduceLeDiff,Nat.reduceAdd,bv49,pl49_0,pl49_1,st49,ld49,f5,f0,f1,f4,hr,hW.1.cells,hW.1.cok]
    exact this
   ·have:=out (k+1) r hbk hW hN hv hpp true (by simp)
    simp -dsimp (disch:=omega) only[wpS,wpT,Nat.reduceEqDiff,Nat.reduceLeDiff,Nat.reduceAdd,bv49,pl49_0,pl49_1,st49,ld49,f5,f0,f1,f4,hr,hW.1.cells,hW.1.cok]
    exact this
theorem trimmed_ok {h:IH} {v:Value} {ds:List Nat} (hd:WrdU h v ds) (b:Bool):WV Proofs.Try.prog (.func (.func 69) #[] #[]) [.bool b,v] h fun r h'=>Ext h h'∧PLong h' r (if b then -(B.valD ds:Int) else B.valD ds):=(trimmed_at hd b).mono fun _ _ k=>k.1
theorem compared_ok {h:IH} {v w:Value} {a b:List Nat} (ha:WrdU h v a) (hb:WrdU h w b) (na:B.Norm a) (nb:B.Norm b) :
  WV Proofs.Try.prog (.func (.func 72) #[] #[]) [v,w] h fun r h'=>h'=h ∧ ∃c:Int,r=KI c∧(c<0↔B.valD a<B.valD b)∧(c=0↔B.valD a=B.valD b) ∧ -9223372036854775808≤c∧c≤9223372036854775807:=by
 have la:=ha.2.2
 have lb:=hb.2.2
 refine enter (nt:=43) (rs:=[.tmp 4]) Proofs.Try.func72 rfl rfl rfl (by simp) ?_
 simp -dsimp (maxSteps:=1000000) (disch:=first|omega|(simp only[new_n,put_n];omega)|decide +kernel|(repeat first|rw[new_n]|rw[put_n])) only[wpS,Nat.reduceEqDiff,Nat.reduceAdd,ha.1.len sl47,hb.1.len sl47]
 refine bq_intro ?_ ?_<;>intro hc<;>simp only[bne_iff_ne,bne_eq_false_iff_eq,ne_eq] at hc
 ·simp -dsimp (maxSteps:=1000000) (disch:=first|omega|(simp only[new_n,put_n];omega)|decide +kernel|(repeat first|rw[new_n]|rw[put_n])) only[wpS,wpT,Nat.reduceEqDiff,ha.1.len sl47,hb.1.len sl47]
  refine⟨_,rfl,?_,?_,by omega,by omega⟩
  ·constructor
   ·intro h1;exact B.lt_of_len ha.2.1 nb (by omega)
   ·intro h1
    have:=na.len_le hb.2.1 (Nat.le_of_lt h1)
    omega
  ·constructor
   ·intro h1;omega
   ·intro h1
    have h2:=na.len_le hb.2.1 (Nat.le_of_eq h1)
    have h3:=nb.len_le ha.2.1 (Nat.le_of_eq h1.symm)
    omega
 ·have hl:a.length=b.length:=by omega
  simp -dsimp (maxSteps:=1000000) (disch:=first|omega|(simp only[new_n,put_n];omega)|decide +kernel|(repeat first|rw[new_n]|rw[put_n])) only[wpS,wpT,Nat.reduceEqDiff,ha.1.len sl47]
  refine loop (fun m fr h1=>h1=h∧m≤a.length∧fget fr 5=some (KI ((m:Int) - 1))∧fget fr 0=some v∧fget fr 1=some w ∧ ∀j,m≤j→j<a.length→a.getD j 0=b.getD j 0) a.length ⟨rfl,Nat.le_refl _,by simp,by simp,by simp,fun j hj hj2=>by omega⟩ ?_
  rintro m fr h1 ⟨rfl,hm,f5,f0,f1,hz⟩
  rcases Nat.eq_zero_or_pos m with rfl|hp
  ·simp -dsimp (maxSteps:=1000000) (disch:=first|omega|(simp only[new_n,put_n];omega)|decide +kernel|(repeat first|rw[new_n]|rw[put_n])) only[wpS,wpT,Nat.reduceEqDiff,f5]
   refine⟨_,rfl,?_,?_,by omega,by omega⟩
   ·have:=B.eq_of_all hl (fun j hj=>hz j (Nat.zero_le _) hj);omega
   ·have:=B.eq_of_all hl (fun j hj=>hz j (Nat.zero_le _) hj);omega
  ·obtain⟨k,rfl⟩ : ∃k,m=k+1:=⟨m - 1,by omega⟩
   have h2:(((k+1:Nat):Int) - 1)=(k:Int):=by omega
   rw[h2] at f5
   have da:=B.getD_lt ha.2.1 k
   have db:=B.getD_lt hb.2.1 k
   have key:(a.getD k 0<b.getD k 0→B.valD a<B.valD b)∧(b.getD k 0<a.getD k 0→B.valD b<B.valD a) :=
    ⟨fun h=>B.lt_of_top ha.2.1 hl (by omega) h (fun j x y=>hz j (by omega) y),fun h=>B.lt_of_top hb.2.1 hl.symm (by omega) h (fun j x y=>(hz j (by omega) (by omega)).symm)⟩
   simp -dsimp (maxSteps:=1000000) (disch:=first|omega|(simp only[new_n,put_n];omega)|decide +kernel|(repeat first|rw[new_n]|rw[put_n])) only[wpS,wpT,Nat.reduceEqDiff,f5,f0,f1,ha.1.idx es47 (show k<a.length by omega),ha.1.ld (Keep.refl _) (P:=Proofs.Try.prog) (t:=23) (c:=k) (by simp<;>omega) ag23,hb.1.idx es47 (show k<b.length by omega),hb.1.ld (Keep.refl _) (P:=Proofs.Try.prog) (t:=23) (c:=k) (by simp<;>omega) ag23,map_get,get_some (show k<a.length by omega),get_some (show k<b.length by omega)]
   refine bq_intro ?_ ?_<;>intro hc<;>simp only[decide_eq_true_eq,decide_eq_false_iff_not] at hc
   ·simp -dsimp (maxSteps:=1000000) (disch:=first|omega|(simp only[new_n,put_n];omega)|decide +kernel|(repeat first|rw[new_n]|rw[put_n])) only[wpS,wpT,Nat.reduceEqDiff]
    have:=key.1 (by omega)
    exact⟨_,rfl,by omega,by omega,by omega,by omega⟩
   ·simp -dsimp (maxSteps:=1000000) (disch:=first|omega|(simp only[new_n,put_n];omega)|decide +kernel|(repeat first|rw[new_n]|rw[put_n])) only[wpS,wpT,Nat.reduceEqDiff,f5,f0,f1,ha.1.idx es47 (show k<a.length by omega),ha.1.ld (Keep.refl _) (P:=Proofs.Try.prog) (t:=23) (c:=k) (by simp<;>omega) ag23,hb.1.idx es47 (show k<b.length by omega),hb.1.ld (Keep.refl _) (P:=Proofs.Try.prog) (t:=23) (c:=k) (by simp<;>omega) ag23,map_get,get_some (show k<a.length by omega),get_some (show k<b.length by omega)]
    refine bq_intro ?_ ?_<;>intro hc4<;>simp only[decide_eq_true_eq,decide_eq_false_iff_not] at hc4
    ·simp -dsimp (maxSteps:=1000000) (disch:=first|omega|(simp only[new_n,put_n];omega)|decide +kernel|(repeat first|rw[new_n]|rw[put_n])) only[wpS,wpT,Nat.reduceEqDiff]
     have:=key.2 (by omega)
     exact⟨_,rfl,by omega,by omega,by omega,by omega⟩
    ·simp -dsimp (maxSteps:=1000000) (disch:=first|omega|(simp only[new_n,put_n];omega)|decide +kernel|(repeat first|rw[new_n]|rw[put_n])) only[wpS,wpT,Nat.reduceEqDiff,f5]
     refine⟨k,by omega,rfl,by omega,by simp,by simp[f0],by simp[f1],fun j h3 h4=>?_⟩
     by_cases hjk:j=k
     ·subst hjk;omega
     ·exact hz j (by omega) h4
theorem add64_ok {h:IH} (x y c:Nat) (hc:c≤1):WV Proofs.Try.prog (.func (.func 83) #[] #[]) [K64 x,K64 y,K64 c] h fun r h'=>h'=h∧r=.tuple #[K64 ((x+y+c) % 18446744073709551616),K64 ((x+y+c) / 18446744073709551616)] :=
 wv_carry Proofs.Try.func83 rfl (carry_add rfl x y hc) ⟨rfl,rfl⟩
theorem sub64_ok {h:IH} (x y c:Nat) (hc:c≤1):WV Proofs.Try.prog (.func (.func 84) #[] #[]) [K64 x,K64 y,K64 c] h fun r h'=>h'=h∧r=.tuple #[K64 ((x+18446744073709551616 - y - c) % 18446744073709551616),K64 (bif Nat.blt x (y+c) then 1 else 0)] :=
 wv_carry Proofs.Try.func84 rfl (carry_sub rfl x y hc) ⟨rfl,rfl⟩
end Go.Id

/-! Contracts: the program's long integers: sums, differences and products of words. -/
namespace Go.Id
open Go
theorem valT_set_low {os:List Nat} {k x i:Nat} (h:i≤k) (hk:k<os.length):B.valT (os.set k x) i=B.valT os i :=
 B.valT_congr fun j hj=>by rw[B.getD_set hk,if_neg (by omega)]
theorem valT_set_next {os:List Nat} {k x:Nat} (hk:k<os.length):B.valT (os.set k x) (k+1)=B.valT os k+x*18446744073709551616 ^ k:=by
 rw[B.valT,valT_set_low (Nat.le_refl _) hk,B.getD_set hk,if_pos rfl]
theorem taken_ok {h:IH} {v w:Value} {a b:List Nat} (ha:WrdU h v a) (hb:WrdU h w b) (nb:B.Norm b) (hle:B.valD b≤B.valD a) :
  WV Proofs.Try.prog (.func (.func 73) #[] #[]) [v,w] h fun r h'=>Ext h h' ∧ ∃os,r=.slice (some ⟨2*h.n,0,none⟩) a.length (2*a.length+1)∧WrdU h' r os∧B.valD os=B.valD a - B.valD b:=by
 have la:=ha.2.2
 have lb:=hb.2.2
 refine enter (nt:=40) (rs:=[.tmp 4]) Proofs.Try.func73 rfl rfl rfl (by simp) ?_
 simp -dsimp (disch:=omega) only[wpS,Nat.reduceEqDiff,Nat.reduceAdd,ms47,ha.1.len sl47]
 refine loop (fun m fr h1 => ∃(i bor:Nat) (os:List Nat),i+m=a.length∧fget fr 1=some w∧fget fr 5=some (.slice (some ⟨2*h.n,0,none⟩) a.length (2*a.length+1))∧fget fr 6=some (K64 bor)∧fget fr 13=some v∧fget fr 14=some (KN a.length)∧fget fr 15=some (KN i)∧bor≤1∧os.length=a.length∧B.Digs os ∧
  B.valT a i+bor*18446744073709551616 ^ i=B.valT b i+B.valT os i∧h.n<h1.n∧h1.ext.get h.n=some (.cells (os.map K64) 1 none)∧Ext h h1) a.length
  ⟨0,0,List.replicate a.length 0,by simp,by simp,by simp,by simp,by simp,by simp,by simp,by omega,by simp,B.Digs.repl _,by simp[B.valT],by simp,by rw[get_new_same _ _ rfl,repl_k64],(Ext.refl h).new _⟩ ?_
 rintro m fr h1 ⟨i,bor,os,him,f1,f5,f6,f13,f14,f15,hbor,hos,hd,hv,hn,hg,hE⟩
 simp -dsimp (disch:=omega) only[wpS,f14,f15]
 refine bq_intro ?_ ?_<;>intro hc<;>simp only[decide_eq_true_eq,decide_eq_false_iff_not] at hc
 ·have hi:i<a.length:=by omega
  have da:=B.getD_lt ha.2.1 i
  have db:=B.getD_lt hb.2.1 i
  have gx:=get_some hi
  generalize hx:a.getD i 0=x at *
  generalize hy:b.getD i 0=y at *
  simp -dsimp (disch:=omega) only[wpS,wpT,Nat.reduceEqDiff,f1,f13,f15,ha.1.idx es47 hi,ha.1.ld hE.keep (P:=Proofs.Try.prog) (t:=23) (c:=i) (by simpa using hi) ag23,map_get,gx,hb.1.len sl47]
  refine bq_cut (fun fr2 h2=>h2=h1∧fget fr2 1=some w∧fget fr2 5=some (.slice (some ⟨2*h.n,0,none⟩) a.length (2*a.length+1))∧fget fr2 6=some (K64 bor)∧fget fr2 7=some (KN i)∧fget fr2 8=some (K64 x)∧fget fr2 9=some (K64 y)∧fget fr2 13=some v∧fget fr2 14=some (KN a.length)∧fget fr2 15=some (KN i)) (fun hc=>?_) (fun hc=>?_) ?_
  ·simp only[decide_eq_true_eq] at hc
   have hi2:i<b.length:=by omega
   have gy:=get_some hi2
   rw[hy] at gy
   simp -dsimp (disch:=omega) only[wpS,wpT,Nat.reduceEqDiff,f1,hb.1.idx es47 hi2,hb.1.ld hE.keep (P:=Proofs.Try.prog) (t:=23) (c:=i) (by simpa using hi2) ag23,map_get,gy]
   exact⟨rfl,by simp[f1],by simp[f5],by simp[f6],by simp,by simp,by simp,by simp[f13],by simp[f14],by simp[f15]⟩
  ·simp only[decide_eq_false_iff_not] at hc
   have hy0:y=0:=by rw[←hy];exact B.getD_of_ge (by omega)
   subst hy0
   simp -dsimp (disch:=omega) only[wpS,wpT]
   exact⟨rfl,by simp[f1],by simp[f5],by simp[f6],by simp,by simp,by simp,by simp[f13],by simp[f14],by simp[f15]⟩
  ·rintro fr2 h2 ⟨rfl,f1,f5,f6,f7,f8,f9,f13,f14,f15⟩
   simp -dsimp (disch:=omega) only[wpS,Nat.reduceEqDiff,f5,f6,f7,f8,f9]
   refine call (sub64_ok x y bor hbor) ?_
   rintro _ _ ⟨rfl,rfl⟩
   have hi3:i<os.length:=by omega
   generalize hdd:(x+18446744073709551616 - y - bor) % 18446744073709551616=d
   obtain⟨b2,hb2,hb1,hrel⟩ : ∃b2:Nat,(bif Nat.blt x (y+bor) then 1 else 0)=b2∧b2≤1∧x+b2*18446744073709551616=y+bor+d:=by
    by_cases hlt:x<y+bor
    ·have e:Nat.blt x (y+bor)=true:=by simp only[Nat.blt,Nat.ble_eq];exact hlt
     refine⟨1,by rw[e];rfl,by omega,by omega⟩
    ·have e:Nat.blt x (y+bor)=false:=by rw[Bool.eq_false_iff];intro h;simp[Nat.blt] at h;omega
     refine⟨0,by rw[e];rfl,by omega,by omega⟩
   rw[hb2]
   have hd2:d<18446744073709551616:=by omega
   have spl:=spl_k64 d hi3
   rename_i h3
   simp -dsimp (disch:=omega) only[wpS,wpT,Nat.reduceEqDiff,es47,st23,f15,hg,spl,List.length_map,hos]
   refine⟨m - 1,by omega,i+1,b2,os.set i d,by omega,by simp[f1],by simp[f5],by simp,by simp[f13],by simp[f14],by simp,hb1,by rw[List.length_set,hos],hd.set _ hd2,?_,hn,get_put_same _ _ rfl,hE.put (Nat.le_refl _) _⟩
   rw[valT_set_next hi3,B.valT,B.valT,hx,hy,Nat.pow_succ]
   have e3:x*18446744073709551616 ^ i+b2*(18446744073709551616 ^ i*18446744073709551616)=(y+bor+d)*18446744073709551616 ^ i:=by rw[←hrel];grind
   have e4:(y+bor+d)*18446744073709551616 ^ i=y*18446744073709551616 ^ i+bor*18446744073709551616 ^ i+d*18446744073709551616 ^ i:=by grind
   omega
 ·obtain rfl:i=a.length:=by omega
  have hbl:=nb.len_le ha.2.1 hle
  rw[B.valT_ge hbl,B.valT_ge (Nat.le_refl _),B.valT_ge (show os.length≤a.length by omega)] at hv
  have hlt:=B.valD_lt hd
  rw[hos] at hlt
  have hb0:bor=0:=by
   apply Classical.byContradiction;intro hne
   have:bor=1:=by omega
   subst this;omega
  subst hb0
  simp -dsimp (disch:=omega) only[wpS,wpT,Nat.reduceEqDiff,f5]
  exact⟨hE,os,⟨by rw[hos];exact sl_block hg hn (by decide) (by simp[hos]) (by omega) (by omega),hd,by omega⟩,by omega⟩
theorem added_ok {h:IH} {v w:Value} {a b:List Nat} (ha:WrdU h v a) (hb:WrdU h w b) (la:a.length≤1000001) (lb:b.length≤1000001) :
  WV Proofs.Try.prog (.func (.func 71) #[] #[]) [v,w] h fun r h'=>Ext h h' ∧ ∃os,WrdU h' r os∧B.valD os=B.valD a+B.valD b:=by
 refine enter (nt:=53) (rs:=[.tmp 4]) Proofs.Try.func71 rfl rfl rfl (by simp) ?_
 simp -dsimp (disch:=omega) only[wpS,Nat.reduceEqDiff,Nat.reduceAdd,ha.1.len sl47,hb.1.len sl47]
 refine bq_cut (fun fr2 h2=>h2=h ∧ ∃(v' w':Value) (a' b':List Nat),WrdU h v' a'∧WrdU h w' b'∧a'.length≤1000001∧b'.length≤a'.length∧B.valD a'+B.valD b'=B.valD a+B.valD b∧fget fr2 0=some v'∧fget fr2 1=some w') (fun hc=>?_) (fun hc=>?_) ?_
 ·simp only[decide_eq_true_eq] at hc
  simp -dsimp (disch:=omega) only[wpS,wpT,Nat.reduceEqDiff]
  exact⟨rfl,w,v,b,a,hb,ha,lb,by omega,by omega,by simp,by simp⟩
 ·simp only[decide_eq_false_iff_not] at hc
  simp -dsimp (disch:=omega) only[wpS,wpT]
  exact⟨rfl,v,w,a,b,ha,hb,la,by omega,rfl,by simp,by simp⟩
 clear ha hb la lb
 rintro fr h1 ⟨rfl,v,w,a',b',ha,hb,la,hle,hsum,f0,f1⟩
 rw[←hsum]
 clear hsum
 have eL:(a'.length:Int)+1=((a'.length+1:Nat):Int):=by omega
 simp -dsimp (disch:=omega) only[wpS,wpT,Nat.reduceEqDiff,ms47,f0,ha.1.len sl47,eL]
 refine loop (fun m fr h2 => ∃(i c:Nat) (os:List Nat),i+m=a'.length∧fget fr 0=some v∧fget fr 1=some w∧fget fr 5=some (.slice (some ⟨2*h1.n,0,none⟩) (a'.length+1) (2*(a'.length+1)+1))∧fget fr 6=some (K64 c)∧fget fr 21=some v∧fget fr 22=some (KN a'.length)∧fget fr 23=some (KN i)∧c≤1∧os.length=a'.length+1∧B.Digs os ∧
  B.valT os i+c*18446744073709551616 ^ i=B.valT a' i+B.valT b' i∧h1.n<h2.n∧h2.ext.get h1.n=some (.cells (os.map K64) 1 none)∧Ext h1 h2) a'.length
  ⟨0,0,List.replicate (a'.length+1) 0,by simp,by simp[f0],by simp[f1],by simp,by simp,by simp,by simp,by simp,by omega,by simp,B.Digs.repl _,by simp[B.valT],by simp,by rw[get_new_same _ _ rfl,repl_k64];rfl,(Ext.refl h1).new _⟩ ?_
 clear f0 f1
 rintro m fr h2 ⟨i,c,os,him,f0,f1,f5,f6,f21,f22,f23,hcc,hos,hd,hv,hn,hg,hE⟩
 simp -dsimp (disch:=omega) only[wpS,f22,f23]
 refine bq_intro ?_ ?_<;>intro hc<;>simp only[decide_eq_true_eq,decide_eq_false_iff_not] at hc
 ·have hi:i<a'.length:=by omega
  have da:=B.getD_lt ha.2.1 i
  have db:=B.getD_lt hb.2.1 i
  have gx:=get_some hi
  generalize hx:a'.getD i 0=x at *
  generalize hy:b'.getD i 0=y at *
  simp -dsimp (disch:=omega) only[wpS,wpT,Nat.reduceEqDiff,f1,f21,f23,ha.1.idx es47 hi,ha.1.ld hE.keep (P:=Proofs.Try.prog) (t:=23) (c:=i) (by simpa using hi) ag23,map_get,gx,hb.1.len sl47]
  refine bq_cut (fun fr2 h3=>h3=h2∧fget fr2 0=some v∧fget fr2 1=some w∧fget fr2 5=some (.slice (some ⟨2*h1.n,0,none⟩) (a'.length+1) (2*(a'.length+1)+1))∧fget fr2 6=some (K64 c)∧fget fr2 7=some (KN i)∧fget fr2 8=some (K64 x)∧fget fr2 9=some (K64 y)∧fget fr2 21=some v∧fget fr2 22=some (KN a'.length)∧fget fr2 23=some (KN i)) (fun hc=>?_) (fun hc=>?_) ?_
  ·simp only[decide_eq_true_eq] at hc
   have hi2:i<b'.length:=by omega
   have gy:=get_some hi2
   rw[hy] at gy
   simp -dsimp (disch:=omega) only[wpS,wpT,Nat.reduceEqDiff,f1,hb.1.idx es47 hi2,hb.1.ld hE.keep (P:=Proofs.Try.prog) (t:=23) (c:=i) (by simpa using hi2) ag23,map_get,gy]
   exact⟨rfl,by simp[f0],by simp[f1],by simp[f5],by simp[f6],by simp,by simp,by simp,by simp[f21],by simp[f22],by simp[f23]⟩
  ·simp only[decide_eq_false_iff_not] at hc
   have hy0:y=0:=by rw[←hy];exact B.getD_of_ge (by omega)
   subst hy0
   simp -dsimp (disch:=omega) only[wpS,wpT]
   exact⟨rfl,by simp[f0],by simp[f1],by simp[f5],by simp[f6],by simp,by simp,by simp,by simp[f21],by simp[f22],by simp[f23]⟩
  ·rintro fr2 h3 ⟨rfl,f0,f1,f5,f6,f7,f8,f9,f21,f22,f23⟩
   simp -dsimp (disch:=omega) only[wpS,Nat.reduceEqDiff,f5,f6,f7,f8,f9]
   refine call (add64_ok x y c hcc) ?_
   rintro _ _ ⟨rfl,rfl⟩
   have hi3:i<os.length:=by omega
   generalize hs:x+y+c=s
   have spl:=spl_k64 (s % 18446744073709551616) hi3
   simp -dsimp (disch:=omega) only[wpS,wpT,Nat.reduceEqDiff,Nat.reduceLeDiff,es47,st23,f23,hg,spl,List.length_map,hos]
   refine⟨m - 1,by omega,i+1,s / 18446744073709551616,os.set i (s % 18446744073709551616),by omega,by simp[f0],by simp[f1],by simp[f5],by simp,by simp[f21],by simp[f22],by simp,by omega,by rw[List.length_set,hos],hd.set _ (by omega),?_,hn,get_put_same _ _ rfl,hE.put (Nat.le_refl _) _⟩
   rw[valT_set_next hi3,B.valT,B.valT,hx,hy,Nat.pow_succ]
   have hrel:s % 18446744073709551616+s / 18446744073709551616*18446744073709551616=x+y+c:=by omega
   have e3:s % 18446744073709551616*18446744073709551616 ^ i+s / 18446744073709551616*(18446744073709551616 ^ i*18446744073709551616)=(x+y+c)*18446744073709551616 ^ i:=by rw[←hrel];grind
   have e4:(x+y+c)*18446744073709551616 ^ i=x*18446744073709551616 ^ i+y*18446744073709551616 ^ i+c*18446744073709551616 ^ i:=by grind
   omega
 ·obtain rfl:i=a'.length:=by omega
  have hi3:a'.length<os.length:=by omega
  have spl:=spl_k64 c hi3
  simp -dsimp (disch:=omega) only[wpS,wpT,Nat.reduceEqDiff,Nat.reduceLeDiff,es47,st23,f0,f5,f6,ha.1.len sl47,hg,spl,List.length_map,hos]
  refine⟨hE.put (Nat.le_refl _) _,os.set a'.length c,⟨?_,hd.set _ (by omega),by rw[List.length_set];omega⟩,?_⟩
  ·rw[List.length_set,hos]
   exact sl_block (get_put_same _ _ rfl) hn (by decide) (by simp[hos]) (by omega) (by omega)
  ·have:=valT_set_next (x:=c) hi3
   rw[B.valT_ge hle,B.valT_ge (Nat.le_refl _)] at hv
   rw[B.valD,List.length_set,hos,this,hv]
theorem mulF_ok {h:IH} (x y:Nat) (hx:x<18446744073709551616) (hy:y<18446744073709551616):WV Proofs.Try.prog (.func (.func 82) #[] #[]) [K64 x,K64 y] h fun r h'=>h'=h∧r=.tuple #[K64 (x*y / 18446744073709551616),K64 (x*y % 18446744073709551616)]:=by
 obtain⟨x0,hx0⟩ : ∃x0,x0=x % 4294967296:=⟨_,rfl⟩
 obtain⟨x1,hx1⟩ : ∃x1,x1=x / 4294967296:=⟨_,rfl⟩
 obtain⟨y0,hy0⟩ : ∃y0,y0=y % 4294967296:=⟨_,rfl⟩
 obtain⟨y1,hy1⟩ : ∃y1,y1=y / 4294967296:=⟨_,rfl⟩
 have ex:x=x1*4294967296+x0:=by omega
 have ey:y=y1*4294967296+y0:=by omega
 obtain⟨m1,m2,m3⟩:=mul_high (x1:=x1) (x0:=x0) (y1:=y1) (y0:=y0) (by omega) (by omega) (by omega) (by omega)
 rw[←ex,←ey] at m3
 have a1:x &&& 4294967295=x0:=by rw[hx0];exact Nat.and_two_pow_sub_one_eq_mod x 32
 have a2:y &&& 4294967295=y0:=by rw[hy0];exact Nat.and_two_pow_sub_one_eq_mod y 32
 have a3:nshr x 32=x1:=by rw[hx1];exact Nat.shiftRight_eq_div_pow x 32
 have a4:nshr y 32=y1:=by rw[hy1];exact Nat.shiftRight_eq_div_pow y 32
 have b00:x0*y0≤4294967295*4294967295:=Nat.mul_le_mul (by omega) (by omega)
 have b01:x0*y1≤4294967295*4294967295:=Nat.mul_le_mul (by omega) (by omega)
 have b10:x1*y0≤4294967295*4294967295:=Nat.mul_le_mul (by omega) (by omega)
 have b11:x1*y1≤4294967295*4294967295:=Nat.mul_le_mul (by omega) (by omega)
 have c00:(x0:Int)*(y0:Int)=((x0*y0:Nat):Int):=by simp
 have c01:(x0:Int)*(y1:Int)=((x0*y1:Nat):Int):=by simp
 have c10:(x1:Int)*(y0:Int)=((x1*y0:Nat):Int):=by simp
 have c11:(x1:Int)*(y1:Int)=((x1*y1:Nat):Int):=by simp
 have cxy:(x:Int)*(y:Int)=((x*y:Nat):Int):=by simp
 generalize x0*y0=p00 at *
 generalize x0*y1=p01 at *
 generalize x1*y0=p10 at *
 generalize x1*y1=p11 at *
 generalize x*y=pp at *
 obtain⟨t,ht⟩ : ∃t,t=p10+p00 / 4294967296:=⟨_,rfl⟩
 rw[←ht] at m1 m2 m3
 obtain⟨w,hw⟩ : ∃w,w=t % 4294967296+p01:=⟨_,rfl⟩
 rw[←hw] at m2 m3
 have s1:nshr p00 32=p00 / 4294967296:=Nat.shiftRight_eq_div_pow p00 32
 have s2:nshr t 32=t / 4294967296:=Nat.shiftRight_eq_div_pow t 32
 have s3:nshr w 32=w / 4294967296:=Nat.shiftRight_eq_div_pow w 32
 have a5:t &&& 4294967295=t % 4294967296:=Nat.and_two_pow_sub_one_eq_mod t 32
 have eT:(p10:Int)+((p00 / 4294967296:Nat):Int)=(t:Int):=by omega
 have eW:((t % 4294967296:Nat):Int)+(p01:Int)=(w:Int):=by omega
 have wr:IntKind.u64.wrap (pp:Int)=((pp % 18446744073709551616:Nat):Int):=by rw[wrapU];omega
 refine enter (nt:=51) (rs:=[.tmp 4,.tmp 5]) Proofs.Try.func82 rfl rfl rfl (by simp) ?_
 simp -dsimp (maxSteps:=1000000) (disch:=first|omega|(simp only[new_n,put_n];omega)|decide +kernel|(repeat first|rw[new_n]|rw[put_n])) only[wpS,wpT,Nat.reduceEqDiff,Nat.reduceAdd,Int.reduceToNat,a1,a2,a3,a4,c00,c01,c10,c11,s1,eT,a5,s2,eW,s3]
 rw[cxy,wr,←m3]
 simp
theorem add64_0 {h:IH} (x y:Nat):WV Proofs.Try.prog (.func (.func 83) #[] #[]) [K64 x,K64 y,.int .u64 0] h fun r h'=>h'=h∧r=.tuple #[K64 ((x+y) % 18446744073709551616),K64 ((x+y) / 18446744073709551616)]:=add64_ok x y 0 (by omega)
theorem multiplied_ok {h:IH} {v w:Value} {a b:List Nat} (ha:WrdU h v a) (hb:WrdU h w b) (hab:a.length+b.length≤1100000) :
  WV Proofs.Try.prog (.func (.func 70) #[] #[]) [v,w] h fun r h'=>Ext h h' ∧ ∃os,WrdU h' r os∧B.valD os=B.valD a*B.valD b:=by
 have eL:(a.length:Int)+(b.length:Int)=((a.length+b.length:Nat):Int):=by omega
 refine enter (nt:=80) (rs:=[.tmp 4]) Proofs.Try.func70 rfl rfl rfl (by simp) ?_
 simp -dsimp (maxSteps:=1000000) (disch:=first|omega|(simp only[new_n,put_n];omega)|decide +kernel|(repeat first|rw[new_n]|rw[put_n])) only[wpS,Nat.reduceEqDiff,Nat.reduceAdd,ms47,ha.1.len sl47,hb.1.len sl47,eL]
 refine loop (fun m fr h1 => ∃(i:Nat) (os:List Nat),i+m=a.length∧Ext h h1∧h.n<h1.n∧h1.ext.get h.n=some (.cells (os.map K64) 1 none)∧os.length=a.length+b.length∧B.Digs os∧B.valD os=B.valT a i*B.valD b∧(∀k,i+b.length≤k→os.getD k 0=0) ∧
   fget fr 1=some w∧fget fr 5=some (.slice (some ⟨2*h.n,0,none⟩) (a.length+b.length) (2*(a.length+b.length)+1))∧fget fr 22=some v∧fget fr 23=some (KN a.length)∧fget fr 24=some (KN i)) a.length
  ⟨0,List.replicate (a.length+b.length) 0,by omega,(Ext.refl h).new _,by simp,by rw[get_new_same _ _ rfl,repl_k64],by simp,B.Digs.repl _,by rw[B.valD_repl];simp[B.valT],fun k _=>B.getD_repl _ _,by simp,by simp,by simp,by simp,by simp⟩ ?_
 rintro m fr h1 ⟨i,os,him,hE,hn,hg,hol,hod,hov,hoz,f1,f5,f22,f23,f24⟩
 simp -dsimp (maxSteps:=1000000) (disch:=first|omega|(simp only[new_n,put_n];omega)|decide +kernel|(repeat first|rw[new_n]|rw[put_n])) only[wpS,f23,f24]
 refine bq_intro ?_ ?_<;>intro hc<;>simp only[decide_eq_true_eq,decide_eq_false_iff_not] at hc
 ·have hi:i<a.length:=by omega
  have da:=B.getD_lt ha.2.1 i
  have gx:=get_some hi
  generalize hx:a.getD i 0=x at *
  simp -dsimp (maxSteps:=1000000) (disch:=first|omega|(simp only[new_n,put_n];omega)|decide +kernel|(repeat first|rw[new_n]|rw[put_n])) only[wpS,wpT,Nat.reduceEqDiff,f1,f22,f24,ha.1.idx es47 hi,ha.1.ld hE.keep (P:=Proofs.Try.prog) (t:=23) (c:=i) (by simpa using hi) ag23,map_get,gx,hb.1.len sl47]
  refine loop (fun m2 fr h2 => ∃(j c:Nat) (os2:List Nat),j+m2=b.length∧Ext h h2∧h.n<h2.n∧h2.ext.get h.n=some (.cells (os2.map K64) 1 none)∧os2.length=a.length+b.length∧B.Digs os2∧c<18446744073709551616∧B.valD os2+c*18446744073709551616 ^ (i+j)=B.valT a i*B.valD b+x*B.valT b j*18446744073709551616 ^ i∧(∀k,i+b.length≤k→os2.getD k 0=0) ∧
    fget fr 1=some w∧fget fr 5=some (.slice (some ⟨2*h.n,0,none⟩) (a.length+b.length) (2*(a.length+b.length)+1))∧fget fr 22=some v∧fget fr 23=some (KN a.length)∧fget fr 24=some (KN i)∧fget fr 6=some (KN i)∧fget fr 7=some (K64 x)∧fget fr 8=some (K64 c)∧fget fr 29=some w∧fget fr 30=some (KN b.length)∧fget fr 31=some (KN j)) b.length
   ⟨0,0,os,by omega,hE,hn,hg,hol,hod,by omega,by rw[hov];simp[B.valT],hoz,by simp[f1],by simp[f5],by simp[f22],by simp[f23],by simp[f24],by simp,by simp,by simp,by simp,by simp,by simp⟩ ?_
  clear hE hn hg hol hod hov hoz f1 f5 f22 f23 f24
  rintro m2 fr h2 ⟨j,c,os2,hjm,hE,hn,hg,hol,hod,hc4,hov,hoz,f1,f5,f22,f23,f24,f6,f7,f8,f29,f30,f31⟩
  simp -dsimp (maxSteps:=1000000) (disch:=first|omega|(simp only[new_n,put_n];omega)|decide +kernel|(repeat first|rw[new_n]|rw[put_n])) only[wpS,f30,f31]
  refine bq_intro ?_ ?_<;>intro hc2<;>simp only[decide_eq_true_eq,decide_eq_false_iff_not] at hc2
  ·have hj:j<b.length:=by omega
   have db:=B.getD_lt hb.2.1 j
   have doo:=B.getD_lt hod (i+j)
   have hr:h2.row (2*h.n)=some (os2.map K64):=row_kn hg
   have gy:=get_some hj
   have go:=get_some (show i+j<os2.length by omega)
   generalize hy:b.getD j 0=y at *
   generalize ho:os2.getD (i+j) 0=o at *
   have gor:(os2.map K64)[i+j]?=some (K64 o):=by rw[List.getElem?_map,go];rfl
   have eI:(i:Int)+(j:Int)=((i+j:Nat):Int):=by omega
   have hp:x*y≤18446744073709551615*18446744073709551615:=Nat.mul_le_mul (by omega) (by omega)
   simp -dsimp (maxSteps:=1000000) (disch:=first|omega|(simp only[new_n,put_n];omega)|decide +kernel|(repeat first|rw[new_n]|rw[put_n])) only[wpS,wpT,Nat.reduceEqDiff,f7,f29,f31,hb.1.idx es47 hj,hb.1.ld hE.keep (P:=Proofs.Try.prog) (t:=23) (c:=j) (by simpa using hj) ag23,map_get,gy]
   refine call (mulF_ok x y da db) ?_
   rintro _ _ ⟨rfl,rfl⟩
   obtain⟨p,hpp⟩ : ∃p,p=x*y:=⟨_,rfl⟩
   rw[←hpp] at hp ⊢
   rename_i h3
   simp -dsimp (maxSteps:=1000000) (disch:=first|omega|(simp only[new_n,put_n];omega)|decide +kernel|(repeat first|rw[new_n]|rw[put_n])) only[wpS,Nat.reduceEqDiff,es47,ld23,f5,f6,hr,gor,eI]
   refine call (add64_0 o (p % 18446744073709551616)) ?_
   rintro _ _ ⟨rfl,rfl⟩
   rename_i h4
   simp -dsimp (maxSteps:=1000000) (disch:=first|omega|(simp only[new_n,put_n];omega)|decide +kernel|(repeat first|rw[new_n]|rw[put_n])) only[wpS,Nat.reduceEqDiff,f8]
   refine call (add64_0 ((o+p % 18446744073709551616) % 18446744073709551616) c) ?_
   rintro _ _ ⟨rfl,rfl⟩
   rename_i h5
   obtain⟨s,hs⟩ : ∃s,s=c+o+p:=⟨_,rfl⟩
   have eR:((o+p % 18446744073709551616) % 18446744073709551616+c) % 18446744073709551616=s % 18446744073709551616:=by omega
   have eQ:((p / 18446744073709551616:Nat):Int)+(((o+p % 18446744073709551616) / 18446744073709551616:Nat):Int)+((((o+p % 18446744073709551616) % 18446744073709551616+c) / 18446744073709551616:Nat):Int)=((s / 18446744073709551616:Nat):Int):=by omega
   have spl:=spl_k64 (s % 18446744073709551616) (show i+j<os2.length by omega)
   rw[eR]
   simp -dsimp (maxSteps:=1000000) (disch:=first|omega|(simp only[new_n,put_n];omega)|decide +kernel|(repeat first|rw[new_n]|rw[put_n])) only[wpS,wpT,Nat.reduceEqDiff,es47,st23,f5,f6,f31,eI,eQ,hg,spl,List.length_map,hol]
   refine⟨m2 - 1,by omega,j+1,s / 18446744073709551616,os2.set (i+j) (s % 18446744073709551616),by omega,hE.put (Nat.le_refl _) _,hn,get_put_same _ _ rfl,by rw[List.length_set,hol],hod.set _ (by omega),by omega,?_,?_,by simp[f1],by simp[f5],by simp[f22],by simp[f23],by simp[f24],by simp[f6],by simp[f7],by simp,by simp[f29],by simp[f30],by simp⟩
   ·have hv:=B.valD_set (s % 18446744073709551616) (show i+j<os2.length by omega)
    rw[ho] at hv
    have hsd:s % 18446744073709551616+s / 18446744073709551616*18446744073709551616=c+o+x*y:=by omega
    rw[B.valT,hy]
    have e1:18446744073709551616 ^ (i+(j+1))=18446744073709551616 ^ (i+j)*18446744073709551616:=by rw[←Nat.add_assoc,Nat.pow_succ]
    have e2:18446744073709551616 ^ (i+j)=18446744073709551616 ^ i*18446744073709551616 ^ j:=Nat.pow_add _ _ _
    rw[e1]
    have e3:s % 18446744073709551616*18446744073709551616 ^ (i+j)+s / 18446744073709551616*(18446744073709551616 ^ (i+j)*18446744073709551616)=(c+o+x*y)*18446744073709551616 ^ (i+j):=by rw[←hsd];grind
    have e4:x*(B.valT b j+y*18446744073709551616 ^ j)*18446744073709551616 ^ i=x*B.valT b j*18446744073709551616 ^ i+x*y*18446744073709551616 ^ (i+j):=by rw[e2];grind
    have e5:(c+o+x*y)*18446744073709551616 ^ (i+j)=c*18446744073709551616 ^ (i+j)+o*18446744073709551616 ^ (i+j)+x*y*18446744073709551616 ^ (i+j):=by grind
    omega
   ·intro k hk
    rw[B.getD_set (by omega),if_neg (by omega)]
    exact hoz k hk
  ·obtain rfl:j=b.length:=by omega
   have hz:=hoz (i+b.length) (Nat.le_refl _)
   have eI:(i:Int)+(b.length:Int)=((i+b.length:Nat):Int):=by omega
   have spl:=spl_k64 c (show i+b.length<os2.length by omega)
   simp -dsimp (maxSteps:=1000000) (disch:=first|omega|(simp only[new_n,put_n];omega)|decide +kernel|(repeat first|rw[new_n]|rw[put_n])) only[wpS,wpT,Nat.reduceEqDiff,es47,st23,f1,f5,f6,f8,f24,hb.1.len sl47,eI,hg,spl,List.length_map,hol]
   refine⟨m - 1,by omega,i+1,os2.set (i+b.length) c,by omega,hE.put (Nat.le_refl _) _,hn,get_put_same _ _ rfl,by rw[List.length_set,hol],hod.set _ (by omega),?_,?_,by simp[f1],by simp[f5],by simp[f22],by simp[f23],by simp⟩
   ·have hv:=B.valD_set c (show i+b.length<os2.length by omega)
    rw[hz,Nat.zero_mul,Nat.add_zero] at hv
    rw[hv,hov,B.valT,hx,show B.valT b b.length=B.valD b from rfl]
    grind
   ·intro k hk
    rw[B.getD_set (by omega),if_neg (by omega)]
    exact hoz k (by omega)
 ·obtain rfl:i=a.length:=by omega
  simp -dsimp (maxSteps:=1000000) (disch:=first|omega|(simp only[new_n,put_n];omega)|decide +kernel|(repeat first|rw[new_n]|rw[put_n])) only[wpS,wpT,Nat.reduceEqDiff,f5]
  refine⟨hE,os,⟨?_,hod,by omega⟩,hov⟩
  rw[hol]
  exact sl_block hg hn (by decide) (by rw[List.length_map,hol];omega) (by omega) (by omega)
end Go.Id

/-! Contracts: the length of a number. -/
namespace Go.Id
open Go
def blen:Nat→Nat
 | 0=>0
 | n+1=>Nat.log2 (n+1)+1
theorem blen_ok : ∀x,x<256 → ∀N,N<9→(N<blen x↔2 ^ N≤x):=by decide +kernel
theorem index_tab {P:Program} {t:TypeId} (ht:P.underlying t=some .string) (s:ByteArray) (hs:(List.range 256).all (fun j=>decide (s[j]?=some (UInt8.ofNat (blen j))))=true) {j:Nat} (hj:j<256):indexV P t (.string s) (.int .u8 j)=some (.int .u8 (blen j)):=by
 rw[List.all_eq_true] at hs
 have h1:=hs j (List.mem_range.2 hj)
 simp only[decide_eq_true_eq] at h1
 have hb:blen j<256:=by
  have:=(blen_ok j hj 8 (by omega)).1
  rcases Nat.lt_or_ge 8 (blen j) with h|h
  ·have:=this h;omega
  ·omega
 have h2:pureRun P (Instr.index t (.string s) (.int .u8 j))=some (.int .u8 (blen j)):=by
  unfold Instr.index
  rw[pr_bind (show pureRun P (asIntOf (.int .u8 j))=some (IntKind.u8,(j:Int)) from rfl)]
  simp only
  rw[pr_bind (pr_underlying ht)]
  simp only[Int.toNat_natCast,show(0:Int)≤(j:Int) by omega,if_true,h1]
  rw[pr_pure]
  have:(UInt8.ofNat (blen j)).toNat=blen j:=by simp;omega
  rw[this]
 have hp:plain (.int .u8 j)=true:=rfl
 simp only[indexV,hp,cond_true,pureVal,h2]
 rfl
theorem ex_intro {α:Type} {o:Option α} {K:α→Prop} {v:α} (h:o=some v) (k:K v):Do (Ex o) K nx:=⟨v,h,k⟩
def LenR (u x k:Nat):Prop:=x=u / 2 ^ k∧(0<k→0<x)
theorem LenR.ok {u x k:Nat} (h:LenR u x k) (hx:x<256) (N:Nat):N<k+blen x↔2 ^ N≤u:=by
 obtain⟨rfl,h2⟩:=h
 rcases Nat.lt_or_ge N k with h|h
 ·have hx0:=h2 (by omega)
  have h3:2 ^ k≤u:=by
   apply Classical.byContradiction;intro hh
   rw[Nat.div_eq_of_lt (by omega)] at hx0;omega
  have h4:2 ^ N≤2 ^ k:=Nat.pow_le_pow_right (by omega) (by omega)
  exact⟨fun _=>Nat.le_trans h4 h3,fun _=>by omega⟩
 ·obtain⟨d,rfl⟩ : ∃d,N=k+d:=⟨N - k,by omega⟩
  have e:2 ^ (k+d)≤u↔2 ^ d≤u / 2 ^ k:=by
   rw[Nat.le_div_iff_mul_le (Nat.pow_pos (by omega)),Nat.pow_add,Nat.mul_comm]
  rw[e]
  rcases Nat.lt_or_ge d 9 with hd|hd
  ·rw[←blen_ok _ hx d hd];omega
  ·have h9:2 ^ 9≤2 ^ d:=Nat.pow_le_pow_right (by omega) hd
   have hb : ¬9≤blen (u / 2 ^ k):=by
    intro hh
    have:=(blen_ok _ hx 8 (by omega)).1 (by omega);omega
   constructor
   ·intro;omega
   ·intro;omega
theorem LenR.more {u x k d:Nat} (h:LenR u x k) (hx:2 ^ d≤x):LenR u (x / 2 ^ d) (k+d):=by
 obtain⟨rfl,h2⟩:=h
 refine⟨by rw[Nat.div_div_eq_div_mul,Nat.pow_add],fun _=>?_⟩
 exact Nat.div_pos hx (Nat.pow_pos (by omega))
theorem len64_ok {h:IH} (u:Nat) (hu:u<18446744073709551616):WV Proofs.Try.prog (.func (.func 89) #[] #[]) [K64 u] h fun r h'=>h'=h ∧ ∃k:Nat,r=KN k∧k<1000 ∧ ∀N,N<k↔2 ^ N≤u:=by
 refine enter (nt:=25) (rs:=[.tmp 2]) Proofs.Try.func89 rfl rfl rfl (by simp) ?_
 simp -dsimp (disch:=omega) only[wpS,Nat.reduceEqDiff]
 refine bq_cut (fun fr2 h2=>h2=h ∧ ∃x k:Nat,fget fr2 0=some (K64 x)∧fget fr2 2=some (KN k)∧k≤32∧x<4294967296∧LenR u x k) (fun hc=>?_) (fun hc=>?_) ?_
 ·simp only[decide_eq_true_eq] at hc
  have e1:nshr u 32=u / 4294967296:=by rw[nshr,Nat.shiftRight_eq_div_pow]
  simp -dsimp (disch:=omega) only[wpS,wpT,Nat.reduceEqDiff,Int.reduceToNat,e1]
  refine⟨rfl,u / 4294967296,32,by simp,by simp,by omega,by omega,by simp,fun _=>by omega⟩
 ·simp only[decide_eq_false_iff_not] at hc
  simp -dsimp (disch:=omega) only[wpS,wpT]
  refine⟨rfl,u,0,by simp,by simp,by omega,by omega,by simp,by omega⟩
 rintro fr h1 ⟨rfl,x,k,f0,f2,hk,hx,hL⟩
 simp -dsimp (disch:=omega) only[wpS,Nat.reduceEqDiff,f0]
 refine bq_cut (fun fr2 h2=>h2=h1 ∧ ∃x k:Nat,fget fr2 0=some (K64 x)∧fget fr2 2=some (KN k)∧k≤48∧x<65536∧LenR u x k) (fun hc=>?_) (fun hc=>?_) ?_
 ·simp only[decide_eq_true_eq] at hc
  have e1:nshr x 16=x / 65536:=by rw[nshr,Nat.shiftRight_eq_div_pow]
  simp -dsimp (disch:=omega) only[wpS,wpT,Nat.reduceEqDiff,Int.reduceToNat,f0,f2,e1]
  exact⟨rfl,x / 65536,k+16,by simp,by simp,by omega,by omega,hL.more (d:=16) (by omega)⟩
 ·simp only[decide_eq_false_iff_not] at hc
  simp -dsimp (disch:=omega) only[wpS,wpT]
  refine⟨rfl,x,k,by simp[f0],by simp[f2],by omega,by omega,hL⟩
 rintro fr h2 ⟨rfl,x,k,f0,f2,hk,hx,hL⟩
 simp -dsimp (disch:=omega) only[wpS,Nat.reduceEqDiff,f0]
 refine bq_cut (fun fr2 h3=>h3=h2 ∧ ∃x k:Nat,fget fr2 0=some (K64 x)∧fget fr2 2=some (KN k)∧k≤56∧x<256∧LenR u x k) (fun hc=>?_) (fun hc=>?_) ?_
 ·simp only[decide_eq_true_eq] at hc
  have e1:nshr x 8=x / 256:=by rw[nshr,Nat.shiftRight_eq_div_pow]
  simp -dsimp (disch:=omega) only[wpS,wpT,Nat.reduceEqDiff,Int.reduceToNat,f0,f2,e1]
  exact⟨rfl,x / 256,k+8,by simp,by simp,by omega,by omega,hL.more (d:=8) (by omega)⟩
 ·simp only[decide_eq_false_iff_not] at hc
  simp -dsimp (disch:=omega) only[wpS,wpT]
  refine⟨rfl,x,k,by simp[f0],by simp[f2],by omega,by omega,hL⟩
 rintro fr h3 ⟨rfl,x,k,f0,f2,hk,hx,hL⟩
 simp -dsimp (disch:=omega) only[wpS,Nat.reduceEqDiff,cv23_5,f0,f2]
 refine ex_intro (index_tab u9 _ (by decide +kernel) hx) ?_
 simp -dsimp (disch:=omega) only[wpS,wpT,Nat.reduceEqDiff,cv5_3]
 have hb:blen x<256:=by
  have:=(blen_ok x hx 8 (by omega)).1
  rcases Nat.lt_or_ge 8 (blen x) with h|h
  ·have:=this h;omega
  ·omega
 refine⟨k+blen x,?_,by omega,fun N=>hL.ok hx N⟩
 rw[wrap_i64 (x:=(blen x:Int)) (by omega),wrap_i64 (by omega)]
 exact congrArg (Value.int .i64) (by omega)
end Go.Id
