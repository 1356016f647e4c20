/-
  Words: carries, borrows, products, quotients; plain numbers. Digits to the base 2^64: bits; long division bit by bit; plain numbers. The types of this seat's program, as the machine asks of them; made by program (tools/mk.py). Digits to the base 2^32, the lowest first: plain numbers. Contracts: the reference's long integers. Contracts: the reference's long integers, second part: sums and differences of digits. Contracts: the reference's long integers, third part: sums, differences, comparisons. Contracts: the reference's long integers, fourth part: differences, comparisons, integers. Words to the base 2^64: plain numbers. Contracts: the reference's long integers, fifth part: words. Contracts: the reference's long integers, sixth part: wide integers read and written.
-/
import Derived.Test.YthbkinefgmfgeaaGreatDiagnoseMovesAf
import Derived.Test.YthbkinefgmfgeaaGreatProg
import Derived.KernelRfl
import Init
set_option linter.unusedVariables false
set_option linter.unusedSimpArgs false
set_option linter.defProp false
set_option linter.deprecated false
/-! Words: carries, borrows, products, quotients; plain numbers. -/
namespace Go.Id
open Go
theorem mul_high {x1 x0 y1 y0:Nat} (h0:x0<4294967296) (h1:x1<4294967296) (g0:y0<4294967296) (g1:y1<4294967296) :
  x1*y0+x0*y0 / 4294967296<18446744073709551616∧(x1*y0+x0*y0 / 4294967296) % 4294967296+x0*y1<18446744073709551616 ∧
   x1*y1+(x1*y0+x0*y0 / 4294967296) / 4294967296+((x1*y0+x0*y0 / 4294967296) % 4294967296+x0*y1) / 4294967296=(x1*4294967296+x0)*(y1*4294967296+y0) / 18446744073709551616:=by
 have b00:x0*y0≤4294967295*4294967295:=Nat.mul_le_mul (by omega) (by omega)
 have b10:x1*y0≤4294967295*4294967295:=Nat.mul_le_mul (by omega) (by omega)
 have b01:x0*y1≤4294967295*4294967295:=Nat.mul_le_mul (by omega) (by omega)
 have e:(x1*4294967296+x0)*(y1*4294967296+y0)=x1*y1*18446744073709551616+x1*y0*4294967296+x0*y1*4294967296+x0*y0:=by grind
 rw[e]
 generalize x0*y0=a at *
 generalize x1*y0=b at *
 generalize x0*y1=c at *
 generalize x1*y1=d at *
 refine⟨by omega,by omega,by omega⟩
def DivJ (y1 y0 u d q r:Nat):Prop:=q*y1+r=u∧(u*4294967296+d) / (y1*4294967296+y0)≤q∧q≤4294967297
theorem divJ_start {y1 y0 u d:Nat} (h1:2147483648≤y1) (h0:y0<4294967296) (hu:u<y1*4294967296+y0) (hd:d<4294967296):DivJ y1 y0 u d (u / y1) (u % y1):=by
 have e:=Nat.div_add_mod u y1
 have hm:=Nat.mod_lt u (show 0<y1 by omega)
 have e1:u / y1*y1=y1*(u / y1):=Nat.mul_comm _ _
 refine⟨by omega,?_,?_⟩
 ·generalize hq:u / y1=q at *
  rw[Nat.div_le_iff_le_mul_add_pred (by omega)]
  have e2:(y1*4294967296+y0)*q=y1*q*4294967296+y0*q:=by grind
  rw[e2]
  have:0≤y0*q:=Nat.zero_le _
  omega
 ·rw[Nat.div_le_iff_le_mul_add_pred (by omega)]
  omega
theorem divJ_step {y1 y0 u d q r:Nat} (h1:2147483648≤y1) (h0:y0<4294967296) (hu:u<y1*4294967296+y0) (hd:d<4294967296) (J:DivJ y1 y0 u d q r) (hc:4294967296≤q∨4294967296*r+d<q*y0):0<q∧DivJ y1 y0 u d (q - 1) (r+y1):=by
 obtain⟨j1,j2,j3⟩:=J
 have hlt:(u*4294967296+d) / (y1*4294967296+y0)<q:=by
  rw[Nat.div_lt_iff_lt_mul (by omega)]
  have e2:q*(y1*4294967296+y0)=q*y1*4294967296+q*y0:=by grind
  rw[e2]
  rcases hc with hc|hc
  ·have e3:4294967296*y0≤q*y0:=Nat.mul_le_mul_right _ hc
   have e4:4294967296*y1≤q*y1:=Nat.mul_le_mul_right _ hc
   omega
  ·omega
 have hq:0<q:=Nat.lt_of_le_of_lt (Nat.zero_le _) hlt
 refine⟨hq,?_,Nat.le_sub_one_of_lt hlt,by omega⟩
 have e5:(q - 1)*y1+y1=q*y1:=by
  obtain⟨p,rfl⟩ : ∃p,q=p+1:=⟨q - 1,by omega⟩
  rw[Nat.add_sub_cancel,Nat.add_mul,Nat.one_mul]
 omega
theorem divJ_done {y1 y0 u d q r:Nat} (h1:2147483648≤y1) (h0:y0<4294967296) (J:DivJ y1 y0 u d q r) (hc:q*y0≤4294967296*r+d):(u*4294967296+d) / (y1*4294967296+y0)=q:=by
 obtain⟨j1,j2,j3⟩:=J
 refine Nat.le_antisymm j2 ?_
 rw[Nat.le_div_iff_mul_le (by omega)]
 have e2:q*(y1*4294967296+y0)=q*y1*4294967296+q*y0:=by grind
 rw[e2];omega
theorem divJ_break {y1 y0 u d q r:Nat} (h1:2147483648≤y1) (h0:y0<4294967296) (J:DivJ y1 y0 u d q r) (hr:4294967296≤r) (hq:q≤4294967296):(u*4294967296+d) / (y1*4294967296+y0)=q:=by
 refine divJ_done h1 h0 J ?_
 have:q*y0≤4294967296*4294967295:=Nat.mul_le_mul hq (by omega)
 omega
end Go.Id

/-! Digits to the base 2^64: bits; long division bit by bit; plain numbers. -/
namespace Go.Id.B
theorem or_add {x y n:Nat} (hx:2 ^ n∣x) (hy:y<2 ^ n):x ||| y=x+y:=by
 obtain⟨c,rfl⟩:=hx
 exact(Nat.two_pow_add_eq_or_of_lt hy c).symm
theorem or_add' {x y n:Nat} (hx:x<2 ^ n) (hy:2 ^ n∣y):x ||| y=x+y:=by
 rw[Nat.or_comm,or_add hy hx,Nat.add_comm]
theorem valT_eq {ds:List Nat} (h:Digs ds) : ∀{n k:Nat},n≤k→valT ds k % 18446744073709551616 ^ n=valT ds n
 | n,0,hk=>by
  obtain rfl:n=0:=by omega
  simp[valT]
 | n,k+1,hk=>by
  by_cases hn:n=k+1
  ·subst hn;exact Nat.mod_eq_of_lt (valT_lt h _)
  ·have ih:=valT_eq h (show n≤k by omega)
   rw[valT]
   have hd:18446744073709551616 ^ n∣ds.getD k 0*18446744073709551616 ^ k:=Nat.dvd_trans (Nat.pow_dvd_pow _ (by omega)) (Nat.dvd_mul_left _ _)
   obtain⟨c,hc⟩:=hd
   rw[hc,Nat.add_mul_mod_self_left,ih]
theorem digit_eq {ds:List Nat} (h:Digs ds) (j:Nat):ds.getD j 0=valD ds / 18446744073709551616 ^ j % 18446744073709551616:=by
 have hp:=pow_pos' j
 by_cases hj:j<ds.length
 ·have e1:valT ds (j+1)=valD ds % 18446744073709551616 ^ (j+1):=(valT_eq h (show j+1≤ds.length by omega)).symm
  have e2:valT ds (j+1) / 18446744073709551616 ^ j=ds.getD j 0:=by
   rw[valT,Nat.add_mul_div_right _ _ hp,Nat.div_eq_of_lt (valT_lt h j),Nat.zero_add]
  rw[←e2,e1,Nat.pow_succ,Nat.mod_mul_right_div_self]
 ·rw[getD_of_ge (by omega)]
  have h1:=valD_lt h
  have h2:18446744073709551616 ^ ds.length≤18446744073709551616 ^ j:=Nat.pow_le_pow_right (by omega) (by omega)
  rw[Nat.div_eq_of_lt (by omega)]
theorem pow64 (j:Nat):18446744073709551616 ^ j=2 ^ (64*j):=by rw[Nat.pow_mul]
theorem bit_set {ds:List Nat} (h:Digs ds) {k:Nat} (hk:2 ^ (k+1)∣valD ds):ds.getD (k / 64) 0 ||| 2 ^ (k % 64)=ds.getD (k / 64) 0+2 ^ (k % 64)∧ds.getD (k / 64) 0+2 ^ (k % 64)<18446744073709551616:=by
 have hs:k % 64<64:=Nat.mod_lt _ (by omega)
 have hd:2 ^ (k % 64+1)∣ds.getD (k / 64) 0:=by
  rw[digit_eq h,pow64]
  obtain⟨c,hc⟩:=hk
  have e:2 ^ (k+1)=2 ^ (64*(k / 64))*2 ^ (k % 64+1):=by rw[←Nat.pow_add];congr 1;omega
  rw[hc,e,Nat.mul_assoc,Nat.mul_div_cancel_left _ (Nat.pow_pos (by omega))]
  have e2:18446744073709551616=2 ^ (k % 64+1)*2 ^ (63 - k % 64):=by rw[←Nat.pow_add,show k % 64+1+(63 - k % 64)=64 by omega]
  rw[show(18446744073709551616:Nat)=2 ^ (k % 64+1)*2 ^ (63 - k % 64) from e2]
  exact(Nat.dvd_mod_iff (Nat.dvd_mul_right _ _)).2 (Nat.dvd_mul_right _ _)
 have hlt:2 ^ (k % 64)<2 ^ (k % 64+1):=Nat.pow_lt_pow_right (by omega) (by omega)
 have hw:=getD_lt h (k / 64)
 refine⟨or_add hd hlt,?_⟩
 obtain⟨c,hc⟩:=hd
 rw[hc] at hw ⊢
 have e2:18446744073709551616=2 ^ (k % 64+1)*2 ^ (63 - k % 64):=by rw[←Nat.pow_add,show k % 64+1+(63 - k % 64)=64 by omega]
 rw[e2] at hw ⊢
 have hc2:c<2 ^ (63 - k % 64):=Nat.lt_of_mul_lt_mul_left hw
 have:2 ^ (k % 64+1)*(c+1)≤2 ^ (k % 64+1)*2 ^ (63 - k % 64):=Nat.mul_le_mul_left _ hc2
 rw[Nat.mul_add,Nat.mul_one] at this
 omega
theorem shl_parts {x s:Nat} (hx:x<18446744073709551616) (hs:s<64):x*2 ^ s % 18446744073709551616+x / 2 ^ (64 - s)*18446744073709551616=x*2 ^ s:=by
 have e:18446744073709551616=2 ^ (64 - s)*2 ^ s:=by rw[←Nat.pow_add,show 64 - s+s=64 by omega]
 have h:=Nat.div_add_mod (x*2 ^ s) 18446744073709551616
 have e2:x*2 ^ s / 18446744073709551616=x / 2 ^ (64 - s):=by rw[e,Nat.mul_div_mul_right _ _ (Nat.pow_pos (by omega))]
 rw[e2] at h
 omega
theorem shl_dvd (x:Nat) {s:Nat} (hs:s<64):2 ^ s∣x*2 ^ s % 18446744073709551616:=by
 have e:18446744073709551616=2 ^ s*2 ^ (64 - s):=by rw[←Nat.pow_add,show s+(64 - s)=64 by omega]
 rw[e]
 exact(Nat.dvd_mod_iff (Nat.dvd_mul_right _ _)).2 (Nat.dvd_mul_left _ _)
theorem shr_small {x s:Nat} (hx:x<18446744073709551616) (hs:s≤64):x / 2 ^ (64 - s)<2 ^ s:=by
 rw[Nat.div_lt_iff_lt_mul (Nat.pow_pos (by omega)),←Nat.pow_add,show s+(64 - s)=64 by omega];exact hx
theorem bits_of {ds:List Nat} {n k:Nat} (h:Digs ds) (hl:ds.length=n+1) (h1:2 ^ k≤ds.getD n 0) (h2:ds.getD n 0<2 ^ (k+1)):2 ^ (64*n+k)≤valD ds∧valD ds<2 ^ (64*n+k+1):=by
 rw[valD,hl,valT,pow64]
 have hb:=valT_lt h n
 rw[pow64] at hb
 have e1:2 ^ (64*n+k)=2 ^ k*2 ^ (64*n):=by rw[Nat.pow_add,Nat.mul_comm]
 have e2:2 ^ (64*n+k+1)=2 ^ (k+1)*2 ^ (64*n):=by rw[Nat.add_assoc,Nat.pow_add,Nat.mul_comm]
 rw[e1,e2]
 have h3:2 ^ k*2 ^ (64*n)≤ds.getD n 0*2 ^ (64*n):=Nat.mul_le_mul_right _ h1
 have h4:(ds.getD n 0+1)*2 ^ (64*n)≤2 ^ (k+1)*2 ^ (64*n):=Nat.mul_le_mul_right _ h2
 rw[Nat.add_mul,Nat.one_mul] at h4
 omega
def DivB (a b k V r:Nat):Prop:=a=b*V+r∧2 ^ k∣V∧r<b*2 ^ k
theorem divB_start {a b la lb:Nat} (ha:a<2 ^ la) (hb:2 ^ lb≤b) (hl:lb≤la):DivB a b (la - lb) 0 a:=by
 refine⟨by omega,Nat.dvd_zero _,?_⟩
 have h1:2 ^ lb*2 ^ (la - lb)≤b*2 ^ (la - lb):=Nat.mul_le_mul_right _ hb
 rw[←Nat.pow_add,show lb+(la - lb)=la by omega] at h1
 omega
theorem divB_one {a b k V r:Nat} (h:DivB a b (k+1) V r) (hc:b*2 ^ k≤r):DivB a b k (V+2 ^ k) (r - b*2 ^ k):=by
 obtain⟨h1,h2,h3⟩:=h
 have e:b*2 ^ (k+1)=b*2 ^ k+b*2 ^ k:=by rw[Nat.pow_succ];grind
 refine⟨?_,?_,by omega⟩
 ·rw[Nat.mul_add];omega
 ·exact(Nat.dvd_add_right (Nat.dvd_trans (Nat.pow_dvd_pow _ (by omega)) h2)).2 (Nat.dvd_refl _)
theorem divB_zero {a b k V r:Nat} (h:DivB a b (k+1) V r) (hc:r<b*2 ^ k):DivB a b k V r :=
 ⟨h.1,Nat.dvd_trans (Nat.pow_dvd_pow _ (by omega)) h.2.1,hc⟩
theorem divB_end {a b V r:Nat} (h:DivB a b 0 V r):V=a / b∧r=a % b:=by
 obtain⟨h1,_,h3⟩:=h
 rw[Nat.pow_zero,Nat.mul_one] at h3
 have e1:=Nat.mul_add_mod b V r
 have e2:=Nat.mul_add_div (show 0<b by omega) V r
 rw[←h1,Nat.mod_eq_of_lt h3] at e1
 rw[←h1,Nat.div_eq_of_lt h3,Nat.add_zero] at e2
 exact⟨e2.symm,e1.symm⟩
end Go.Id.B

/-! The types of this seat's program, as the machine asks of them; made by program (tools/mk.py). -/
namespace Go.Id
open Go
theorem ag103:isAggT Proofs.Tryz.prog 103=some false:=by kernel_rfl
theorem ag107:isAggT Proofs.Tryz.prog 107=some true:=by kernel_rfl
theorem ag165:isAggT Proofs.Tryz.prog 165=some true:=by kernel_rfl
theorem ag167:isAggT Proofs.Tryz.prog 167=some true:=by kernel_rfl
theorem ag22:isAggT Proofs.Tryz.prog 22=some false:=by kernel_rfl
theorem ag25:isAggT Proofs.Tryz.prog 25=some false:=by kernel_rfl
theorem ag26:isAggT Proofs.Tryz.prog 26=some false:=by kernel_rfl
theorem ag28:isAggT Proofs.Tryz.prog 28=some true:=by kernel_rfl
theorem ag3:isAggT Proofs.Tryz.prog 3=some false:=by kernel_rfl
theorem ag30:isAggT Proofs.Tryz.prog 30=some true:=by kernel_rfl
theorem ag32:isAggT Proofs.Tryz.prog 32=some false:=by kernel_rfl
theorem ag34:isAggT Proofs.Tryz.prog 34=some true:=by kernel_rfl
theorem ag36:isAggT Proofs.Tryz.prog 36=some true:=by kernel_rfl
theorem ag4:isAggT Proofs.Tryz.prog 4=some false:=by kernel_rfl
theorem ag40:isAggT Proofs.Tryz.prog 40=some false:=by kernel_rfl
theorem ag79:isAggT Proofs.Tryz.prog 79=some false:=by kernel_rfl
theorem ag81:isAggT Proofs.Tryz.prog 81=some true:=by kernel_rfl
theorem ag83:isAggT Proofs.Tryz.prog 83=some true:=by kernel_rfl
theorem ag87:isAggT Proofs.Tryz.prog 87=some false:=by kernel_rfl
theorem ag89:isAggT Proofs.Tryz.prog 89=some true:=by kernel_rfl
theorem ag91:isAggT Proofs.Tryz.prog 91=some true:=by kernel_rfl
theorem ap103:appT Proofs.Tryz.prog 103=some (4,64):=by kernel_rfl
theorem ap111:appT Proofs.Tryz.prog 111=some (4,64):=by kernel_rfl
theorem ap25:appT Proofs.Tryz.prog 25=some (16,128):=by kernel_rfl
theorem ap79:appT Proofs.Tryz.prog 79=some (1,8):=by kernel_rfl
theorem ap87:appT Proofs.Tryz.prog 87=some (1,8):=by kernel_rfl
theorem ar165:arrOf Proofs.Tryz.prog 165=some (8,1):=by kernel_rfl
theorem ar28:arrOf Proofs.Tryz.prog 28=some (8,1):=by kernel_rfl
theorem as107:allSized Proofs.Tryz.prog 107=true:=by kernel_rfl
theorem as165:allSized Proofs.Tryz.prog 165=true:=by kernel_rfl
theorem as167:allSized Proofs.Tryz.prog 167=true:=by kernel_rfl
theorem as28:allSized Proofs.Tryz.prog 28=true:=by kernel_rfl
theorem as30:allSized Proofs.Tryz.prog 30=true:=by kernel_rfl
theorem as57:allSized Proofs.Tryz.prog 57=true:=by kernel_rfl
theorem as81:allSized Proofs.Tryz.prog 81=true:=by kernel_rfl
theorem as83:allSized Proofs.Tryz.prog 83=true:=by kernel_rfl
theorem as89:allSized Proofs.Tryz.prog 89=true:=by kernel_rfl
theorem as91:allSized Proofs.Tryz.prog 91=true:=by kernel_rfl
theorem eg28:Proofs.Tryz.prog.eqGuardType Proofs.Tryz.prog.depth 28=false:=by kernel_rfl
theorem es103:elemSize Proofs.Tryz.prog 103=some 4:=by kernel_rfl
theorem es111:elemSize Proofs.Tryz.prog 111=some 4:=by kernel_rfl
theorem es22:elemSize Proofs.Tryz.prog 22=some 1:=by kernel_rfl
theorem es23:elemSize Proofs.Tryz.prog 23=some 6:=by kernel_rfl
theorem es25:elemSize Proofs.Tryz.prog 25=some 16:=by kernel_rfl
theorem es79:elemSize Proofs.Tryz.prog 79=some 1:=by kernel_rfl
theorem es87:elemSize Proofs.Tryz.prog 87=some 1:=by kernel_rfl
theorem fa107_0:fieldAt Proofs.Tryz.prog 107 0=some 0:=by kernel_rfl
theorem fa107_1:fieldAt Proofs.Tryz.prog 107 1=some 1:=by kernel_rfl
theorem fa167_0:fieldAt Proofs.Tryz.prog 167 0=some 0:=by kernel_rfl
theorem fa167_1:fieldAt Proofs.Tryz.prog 167 1=some 1:=by kernel_rfl
theorem fa30_0:fieldAt Proofs.Tryz.prog 30 0=some 0:=by kernel_rfl
theorem fa30_1:fieldAt Proofs.Tryz.prog 30 1=some 8:=by kernel_rfl
theorem fa34_0:fieldAt Proofs.Tryz.prog 34 0=some 0:=by kernel_rfl
theorem fa34_2:fieldAt Proofs.Tryz.prog 34 2=some 2:=by kernel_rfl
theorem fa36_0:fieldAt Proofs.Tryz.prog 36 0=some 0:=by kernel_rfl
theorem fa36_1:fieldAt Proofs.Tryz.prog 36 1=some 3:=by kernel_rfl
theorem fa81_0:fieldAt Proofs.Tryz.prog 81 0=some 0:=by kernel_rfl
theorem fa81_1:fieldAt Proofs.Tryz.prog 81 1=some 1:=by kernel_rfl
theorem fa83_0:fieldAt Proofs.Tryz.prog 83 0=some 0:=by kernel_rfl
theorem fa83_1:fieldAt Proofs.Tryz.prog 83 1=some 2:=by kernel_rfl
theorem fa89_0:fieldAt Proofs.Tryz.prog 89 0=some 0:=by kernel_rfl
theorem fa89_1:fieldAt Proofs.Tryz.prog 89 1=some 1:=by kernel_rfl
theorem fa91_0:fieldAt Proofs.Tryz.prog 91 0=some 0:=by kernel_rfl
theorem fa91_1:fieldAt Proofs.Tryz.prog 91 1=some 2:=by kernel_rfl
theorem fp107_0:fieldPart Proofs.Tryz.prog 107 0=some (false,0,1):=by kernel_rfl
theorem fp107_1:fieldPart Proofs.Tryz.prog 107 1=some (true,1,4):=by kernel_rfl
theorem fp81_1:fieldPart Proofs.Tryz.prog 81 1=some (false,1,1):=by kernel_rfl
theorem is2:(Program.underlying Proofs.Tryz.prog 2).isSome=true:=by kernel_rfl
theorem is26:(Program.underlying Proofs.Tryz.prog 26).isSome=true:=by kernel_rfl
theorem is3:(Program.underlying Proofs.Tryz.prog 3).isSome=true:=by kernel_rfl
theorem is32:(Program.underlying Proofs.Tryz.prog 32).isSome=true:=by kernel_rfl
theorem is5:(Program.underlying Proofs.Tryz.prog 5).isSome=true:=by kernel_rfl
theorem is56:(Program.underlying Proofs.Tryz.prog 56).isSome=true:=by kernel_rfl
theorem mk103:makeT Proofs.Tryz.prog 103=some (4,64,[.bool false,.slice none 0 0,.bool false,.slice none 0 0]):=by kernel_rfl
theorem mk111:makeT Proofs.Tryz.prog 111=some (4,64,[.bool false,.slice none 0 0,.bool false,.slice none 0 0]):=by kernel_rfl
theorem mk22:makeT Proofs.Tryz.prog 22=some (1,24,[.slice none 0 0]):=by kernel_rfl
theorem mk25:makeT Proofs.Tryz.prog 25=some (16,128,[.int .u64 (0),.int .u64 (0),.int .u64 (0),.int .u64 (0),.int .u64 (0),.int .u64 (0),.int .u64 (0),.int .u64 (0),.int .u64 (0),.int .u64 (0),.int .u64 (0),.int .u64 (0),.int .u64 (0),.int .u64 (0),.int .u64 (0),.int .u64 (0)]):=by kernel_rfl
theorem mk79:makeT Proofs.Tryz.prog 79=some (1,8,[.int .u64 (0)]):=by kernel_rfl
theorem mk87:makeT Proofs.Tryz.prog 87=some (1,8,[.int .i64 (0)]):=by kernel_rfl
theorem pl107_0:placeOf Proofs.Tryz.prog 107 0=some (0,1):=by kernel_rfl
theorem pl107_1:placeOf Proofs.Tryz.prog 107 1=some (1,4):=by kernel_rfl
theorem pl165_7:placeOf Proofs.Tryz.prog 165 7=some (7,1):=by kernel_rfl
theorem pl167_0:placeOf Proofs.Tryz.prog 167 0=some (0,1):=by kernel_rfl
theorem pl167_1:placeOf Proofs.Tryz.prog 167 1=some (1,8):=by kernel_rfl
theorem pl28_0:placeOf Proofs.Tryz.prog 28 0=some (0,1):=by kernel_rfl
theorem pl30_0:placeOf Proofs.Tryz.prog 30 0=some (0,8):=by kernel_rfl
theorem pl30_1:placeOf Proofs.Tryz.prog 30 1=some (8,8):=by kernel_rfl
theorem pl57_0:placeOf Proofs.Tryz.prog 57 0=some (0,1):=by kernel_rfl
theorem pl57_1:placeOf Proofs.Tryz.prog 57 1=some (1,1):=by kernel_rfl
theorem pl81_0:placeOf Proofs.Tryz.prog 81 0=some (0,1):=by kernel_rfl
theorem pl81_1:placeOf Proofs.Tryz.prog 81 1=some (1,1):=by kernel_rfl
theorem pl83_0:placeOf Proofs.Tryz.prog 83 0=some (0,2):=by kernel_rfl
theorem pl83_1:placeOf Proofs.Tryz.prog 83 1=some (2,2):=by kernel_rfl
theorem pl89_0:placeOf Proofs.Tryz.prog 89 0=some (0,1):=by kernel_rfl
theorem pl89_1:placeOf Proofs.Tryz.prog 89 1=some (1,1):=by kernel_rfl
theorem pl91_0:placeOf Proofs.Tryz.prog 91 0=some (0,2):=by kernel_rfl
theorem pl91_1:placeOf Proofs.Tryz.prog 91 1=some (2,2):=by kernel_rfl
theorem sl103:isSliceT Proofs.Tryz.prog (some 103)=true:=by kernel_rfl
theorem sl111:isSliceT Proofs.Tryz.prog (some 111)=true:=by kernel_rfl
theorem sl22:isSliceT Proofs.Tryz.prog (some 22)=true:=by kernel_rfl
theorem sl23:isSliceT Proofs.Tryz.prog (some 23)=true:=by kernel_rfl
theorem sl25:isSliceT Proofs.Tryz.prog (some 25)=true:=by kernel_rfl
theorem sl79:isSliceT Proofs.Tryz.prog (some 79)=true:=by kernel_rfl
theorem sl87:isSliceT Proofs.Tryz.prog (some 87)=true:=by kernel_rfl
theorem sz107:sizeT Proofs.Tryz.prog 107=some 5:=by kernel_rfl
theorem sz165:sizeT Proofs.Tryz.prog 165=some 8:=by kernel_rfl
theorem sz167:sizeT Proofs.Tryz.prog 167=some 9:=by kernel_rfl
theorem sz25:sizeT Proofs.Tryz.prog 25=some 1:=by kernel_rfl
theorem sz26:sizeT Proofs.Tryz.prog 26=some 1:=by kernel_rfl
theorem sz28:sizeT Proofs.Tryz.prog 28=some 8:=by kernel_rfl
theorem sz3:sizeT Proofs.Tryz.prog 3=some 1:=by kernel_rfl
theorem sz30:sizeT Proofs.Tryz.prog 30=some 16:=by kernel_rfl
theorem sz34:sizeT Proofs.Tryz.prog 34=some 3:=by kernel_rfl
theorem sz36:sizeT Proofs.Tryz.prog 36=some 6:=by kernel_rfl
theorem sz40:sizeT Proofs.Tryz.prog 40=some 1:=by kernel_rfl
theorem sz81:sizeT Proofs.Tryz.prog 81=some 2:=by kernel_rfl
theorem sz83:sizeT Proofs.Tryz.prog 83=some 4:=by kernel_rfl
theorem sz89:sizeT Proofs.Tryz.prog 89=some 2:=by kernel_rfl
theorem sz91:sizeT Proofs.Tryz.prog 91=some 4:=by kernel_rfl
theorem u103:Program.underlying Proofs.Tryz.prog 103=some (.slice 83):=by kernel_rfl
theorem u165:Program.underlying Proofs.Tryz.prog 165=some (.array 8 26):=by kernel_rfl
theorem u2:Program.underlying Proofs.Tryz.prog 2=some (.int .i64):=by kernel_rfl
theorem u23:Program.underlying Proofs.Tryz.prog 23=some (.slice 36):=by kernel_rfl
theorem u25:Program.underlying Proofs.Tryz.prog 25=some (.slice 30):=by kernel_rfl
theorem u26:Program.underlying Proofs.Tryz.prog 26=some (.int .u64):=by kernel_rfl
theorem u28:Program.underlying Proofs.Tryz.prog 28=some (.array 8 26):=by kernel_rfl
theorem u3:Program.underlying Proofs.Tryz.prog 3=some (.int .i64):=by kernel_rfl
theorem u4:Program.underlying Proofs.Tryz.prog 4=some .bool:=by kernel_rfl
theorem u5:Program.underlying Proofs.Tryz.prog 5=some (.int .u8):=by kernel_rfl
theorem u56:Program.underlying Proofs.Tryz.prog 56=some (.int .u64):=by kernel_rfl
theorem u79:Program.underlying Proofs.Tryz.prog 79=some (.slice 26):=by kernel_rfl
theorem u87:Program.underlying Proofs.Tryz.prog 87=some (.slice 3):=by kernel_rfl
theorem u9:Program.underlying Proofs.Tryz.prog 9=some .string:=by kernel_rfl
theorem zc107:zeroCellsT Proofs.Tryz.prog 107=some [.slice none 0 0,.bool false,.slice none 0 0,.bool false,.slice none 0 0]:=by kernel_rfl
theorem zc165:zeroCellsT Proofs.Tryz.prog 165=some [.int .u64 (0),.int .u64 (0),.int .u64 (0),.int .u64 (0),.int .u64 (0),.int .u64 (0),.int .u64 (0),.int .u64 (0)]:=by kernel_rfl
theorem zc167:zeroCellsT Proofs.Tryz.prog 167=some [.bool false,.int .u64 (0),.int .u64 (0),.int .u64 (0),.int .u64 (0),.int .u64 (0),.int .u64 (0),.int .u64 (0),.int .u64 (0)]:=by kernel_rfl
theorem zc25:zeroCellsT Proofs.Tryz.prog 25=some [.slice none 0 0]:=by kernel_rfl
theorem zc26:zeroCellsT Proofs.Tryz.prog 26=some [.int .u64 (0)]:=by kernel_rfl
theorem zc28:zeroCellsT Proofs.Tryz.prog 28=some [.int .u64 (0),.int .u64 (0),.int .u64 (0),.int .u64 (0),.int .u64 (0),.int .u64 (0),.int .u64 (0),.int .u64 (0)]:=by kernel_rfl
theorem zc30:zeroCellsT Proofs.Tryz.prog 30=some [.int .u64 (0),.int .u64 (0),.int .u64 (0),.int .u64 (0),.int .u64 (0),.int .u64 (0),.int .u64 (0),.int .u64 (0),.int .u64 (0),.int .u64 (0),.int .u64 (0),.int .u64 (0),.int .u64 (0),.int .u64 (0),.int .u64 (0),.int .u64 (0)]:=by kernel_rfl
theorem zc36:zeroCellsT Proofs.Tryz.prog 36=some [.bool false,.slice none 0 0,.int .u32 (0),.bool false,.slice none 0 0,.int .u32 (0)]:=by kernel_rfl
theorem zc40:zeroCellsT Proofs.Tryz.prog 40=some [.int .i64 (0)]:=by kernel_rfl
theorem zc57:zeroCellsT Proofs.Tryz.prog 57=some [.int .i64 (0),.int .i64 (0)]:=by kernel_rfl
theorem zc81:zeroCellsT Proofs.Tryz.prog 81=some [.bool false,.slice none 0 0]:=by kernel_rfl
theorem zc83:zeroCellsT Proofs.Tryz.prog 83=some [.bool false,.slice none 0 0,.bool false,.slice none 0 0]:=by kernel_rfl
theorem zc89:zeroCellsT Proofs.Tryz.prog 89=some [.bool false,.slice none 0 0]:=by kernel_rfl
theorem zc91:zeroCellsT Proofs.Tryz.prog 91=some [.bool false,.slice none 0 0,.bool false,.slice none 0 0]:=by kernel_rfl
theorem ba103_103 (h:IH) (x y:Value):builtin Proofs.Tryz.prog h .append #[103,103] [x,y]=append Proofs.Tryz.prog h 103 x y:=builtin_append Proofs.Tryz.prog h 103 103 x y sl103
theorem ba111_111 (h:IH) (x y:Value):builtin Proofs.Tryz.prog h .append #[111,111] [x,y]=append Proofs.Tryz.prog h 111 x y:=builtin_append Proofs.Tryz.prog h 111 111 x y sl111
theorem ba25_25 (h:IH) (x y:Value):builtin Proofs.Tryz.prog h .append #[25,25] [x,y]=append Proofs.Tryz.prog h 25 x y:=builtin_append Proofs.Tryz.prog h 25 25 x y sl25
theorem ba79_79 (h:IH) (x y:Value):builtin Proofs.Tryz.prog h .append #[79,79] [x,y]=append Proofs.Tryz.prog h 79 x y:=builtin_append Proofs.Tryz.prog h 79 79 x y sl79
theorem ba87_87 (h:IH) (x y:Value):builtin Proofs.Tryz.prog h .append #[87,87] [x,y]=append Proofs.Tryz.prog h 87 x y:=builtin_append Proofs.Tryz.prog h 87 87 x y sl87
theorem be4 (ox oy:Operand) (a b:Bool):binop Proofs.Tryz.prog .eql 4 ox oy (.bool a) (.bool b)=some (.bool (a == b)):=binop_eql_bool u4 ox oy a b
theorem bn4 (ox oy:Operand) (a b:Bool):binop Proofs.Tryz.prog .neq 4 ox oy (.bool a) (.bool b)=some (.bool (!(a == b))):=binop_neq_bool u4 ox oy a b
theorem bs103 (h:IH) (len:Nat) (ps:List (Nat×Value)) (hl:len*4≤16777216):buildSlice Proofs.Tryz.prog h 103 len ps=(fillP (fun i=>some (i*4,4)) (repl len [.bool false,.slice none 0 0,.bool false,.slice none 0 0]) ps).map fun cells=>(.slice (some ⟨2*h.n,0,none⟩) len (2*len+1),h.new (.cells cells 4 none)):=buildSlice_eq mk103 h len ps hl
theorem bs111 (h:IH) (len:Nat) (ps:List (Nat×Value)) (hl:len*4≤16777216):buildSlice Proofs.Tryz.prog h 111 len ps=(fillP (fun i=>some (i*4,4)) (repl len [.bool false,.slice none 0 0,.bool false,.slice none 0 0]) ps).map fun cells=>(.slice (some ⟨2*h.n,0,none⟩) len (2*len+1),h.new (.cells cells 4 none)):=buildSlice_eq mk111 h len ps hl
theorem bs22 (h:IH) (len:Nat) (ps:List (Nat×Value)) (hl:len*1≤16777216):buildSlice Proofs.Tryz.prog h 22 len ps=(fillP (fun i=>some (i*1,1)) (repl len [.slice none 0 0]) ps).map fun cells=>(.slice (some ⟨2*h.n,0,none⟩) len (2*len+1),h.new (.cells cells 1 none)):=buildSlice_eq mk22 h len ps hl
theorem bs25 (h:IH) (len:Nat) (ps:List (Nat×Value)) (hl:len*16≤16777216):buildSlice Proofs.Tryz.prog h 25 len ps=(fillP (fun i=>some (i*16,16)) (repl len [.int .u64 (0),.int .u64 (0),.int .u64 (0),.int .u64 (0),.int .u64 (0),.int .u64 (0),.int .u64 (0),.int .u64 (0),.int .u64 (0),.int .u64 (0),.int .u64 (0),.int .u64 (0),.int .u64 (0),.int .u64 (0),.int .u64 (0),.int .u64 (0)]) ps).map fun cells=>(.slice (some ⟨2*h.n,0,none⟩) len (2*len+1),h.new (.cells cells 16 none)):=buildSlice_eq mk25 h len ps hl
theorem bs79 (h:IH) (len:Nat) (ps:List (Nat×Value)) (hl:len*1≤16777216):buildSlice Proofs.Tryz.prog h 79 len ps=(fillP (fun i=>some (i*1,1)) (repl len [.int .u64 (0)]) ps).map fun cells=>(.slice (some ⟨2*h.n,0,none⟩) len (2*len+1),h.new (.cells cells 1 none)):=buildSlice_eq mk79 h len ps hl
theorem bs87 (h:IH) (len:Nat) (ps:List (Nat×Value)) (hl:len*1≤16777216):buildSlice Proofs.Tryz.prog h 87 len ps=(fillP (fun i=>some (i*1,1)) (repl len [.int .i64 (0)]) ps).map fun cells=>(.slice (some ⟨2*h.n,0,none⟩) len (2*len+1),h.new (.cells cells 1 none)):=buildSlice_eq mk87 h len ps hl
theorem bv107 (ps:List (Nat×Value)):buildV Proofs.Tryz.prog 107 ps=(fillP (placeOf Proofs.Tryz.prog 107) [.slice none 0 0,.bool false,.slice none 0 0,.bool false,.slice none 0 0] ps).map fun cs=>.agg cs.toArray:=buildV_eq zc107 as107 ps
theorem bv165 (ps:List (Nat×Value)):buildV Proofs.Tryz.prog 165 ps=(fillP (placeOf Proofs.Tryz.prog 165) [.int .u64 (0),.int .u64 (0),.int .u64 (0),.int .u64 (0),.int .u64 (0),.int .u64 (0),.int .u64 (0),.int .u64 (0)] ps).map fun cs=>.agg cs.toArray:=buildV_eq zc165 as165 ps
theorem bv167 (ps:List (Nat×Value)):buildV Proofs.Tryz.prog 167 ps=(fillP (placeOf Proofs.Tryz.prog 167) [.bool false,.int .u64 (0),.int .u64 (0),.int .u64 (0),.int .u64 (0),.int .u64 (0),.int .u64 (0),.int .u64 (0),.int .u64 (0)] ps).map fun cs=>.agg cs.toArray:=buildV_eq zc167 as167 ps
theorem bv28 (ps:List (Nat×Value)):buildV Proofs.Tryz.prog 28 ps=(fillP (placeOf Proofs.Tryz.prog 28) [.int .u64 (0),.int .u64 (0),.int .u64 (0),.int .u64 (0),.int .u64 (0),.int .u64 (0),.int .u64 (0),.int .u64 (0)] ps).map fun cs=>.agg cs.toArray:=buildV_eq zc28 as28 ps
theorem bv30 (ps:List (Nat×Value)):buildV Proofs.Tryz.prog 30 ps=(fillP (placeOf Proofs.Tryz.prog 30) [.int .u64 (0),.int .u64 (0),.int .u64 (0),.int .u64 (0),.int .u64 (0),.int .u64 (0),.int .u64 (0),.int .u64 (0),.int .u64 (0),.int .u64 (0),.int .u64 (0),.int .u64 (0),.int .u64 (0),.int .u64 (0),.int .u64 (0),.int .u64 (0)] ps).map fun cs=>.agg cs.toArray:=buildV_eq zc30 as30 ps
theorem bv57 (ps:List (Nat×Value)):buildV Proofs.Tryz.prog 57 ps=(fillP (placeOf Proofs.Tryz.prog 57) [.int .i64 (0),.int .i64 (0)] ps).map fun cs=>.agg cs.toArray:=buildV_eq zc57 as57 ps
theorem bv81 (ps:List (Nat×Value)):buildV Proofs.Tryz.prog 81 ps=(fillP (placeOf Proofs.Tryz.prog 81) [.bool false,.slice none 0 0] ps).map fun cs=>.agg cs.toArray:=buildV_eq zc81 as81 ps
theorem bv83 (ps:List (Nat×Value)):buildV Proofs.Tryz.prog 83 ps=(fillP (placeOf Proofs.Tryz.prog 83) [.bool false,.slice none 0 0,.bool false,.slice none 0 0] ps).map fun cs=>.agg cs.toArray:=buildV_eq zc83 as83 ps
theorem bv89 (ps:List (Nat×Value)):buildV Proofs.Tryz.prog 89 ps=(fillP (placeOf Proofs.Tryz.prog 89) [.bool false,.slice none 0 0] ps).map fun cs=>.agg cs.toArray:=buildV_eq zc89 as89 ps
theorem bv91 (ps:List (Nat×Value)):buildV Proofs.Tryz.prog 91 ps=(fillP (placeOf Proofs.Tryz.prog 91) [.bool false,.slice none 0 0,.bool false,.slice none 0 0] ps).map fun cs=>.agg cs.toArray:=buildV_eq zc91 as91 ps
theorem cv26_2 (k:IntKind) (n:Int):convV Proofs.Tryz.prog 26 2 (.int k n)=some (.int .i64 (IntKind.i64.wrap n)):=convV_int is26 u2
theorem cv26_3 (k:IntKind) (n:Int):convV Proofs.Tryz.prog 26 3 (.int k n)=some (.int .i64 (IntKind.i64.wrap n)):=convV_int is26 u3
theorem cv26_5 (k:IntKind) (n:Int):convV Proofs.Tryz.prog 26 5 (.int k n)=some (.int .u8 (IntKind.u8.wrap n)):=convV_int is26 u5
theorem cv2_26 (k:IntKind) (n:Int):convV Proofs.Tryz.prog 2 26 (.int k n)=some (.int .u64 (IntKind.u64.wrap n)):=convV_int is2 u26
theorem cv32_3 (k:IntKind) (n:Int):convV Proofs.Tryz.prog 32 3 (.int k n)=some (.int .i64 (IntKind.i64.wrap n)):=convV_int is32 u3
theorem cv3_26 (k:IntKind) (n:Int):convV Proofs.Tryz.prog 3 26 (.int k n)=some (.int .u64 (IntKind.u64.wrap n)):=convV_int is3 u26
theorem cv3_56 (k:IntKind) (n:Int):convV Proofs.Tryz.prog 3 56 (.int k n)=some (.int .u64 (IntKind.u64.wrap n)):=convV_int is3 u56
theorem cv56_3 (k:IntKind) (n:Int):convV Proofs.Tryz.prog 56 3 (.int k n)=some (.int .i64 (IntKind.i64.wrap n)):=convV_int is56 u3
theorem cv5_3 (k:IntKind) (n:Int):convV Proofs.Tryz.prog 5 3 (.int k n)=some (.int .i64 (IntKind.i64.wrap n)):=convV_int is5 u3
theorem ld103 (h:IH) (b o:Nat):load Proofs.Tryz.prog h 103 (ptr b o)=ld h b o:=load_scal ag103 h b o
theorem ld107 (h:IH) (b o:Nat):load Proofs.Tryz.prog h 107 (ptr b o)=(h.rd b o 5).map fun cs=>.agg cs.toArray:=load_agg ag107 sz107 h b o
theorem ld165 (h:IH) (b o:Nat):load Proofs.Tryz.prog h 165 (ptr b o)=(h.rd b o 8).map fun cs=>.agg cs.toArray:=load_agg ag165 sz165 h b o
theorem ld167 (h:IH) (b o:Nat):load Proofs.Tryz.prog h 167 (ptr b o)=(h.rd b o 9).map fun cs=>.agg cs.toArray:=load_agg ag167 sz167 h b o
theorem ld22 (h:IH) (b o:Nat):load Proofs.Tryz.prog h 22 (ptr b o)=ld h b o:=load_scal ag22 h b o
theorem ld25 (h:IH) (b o:Nat):load Proofs.Tryz.prog h 25 (ptr b o)=ld h b o:=load_scal ag25 h b o
theorem ld26 (h:IH) (b o:Nat):load Proofs.Tryz.prog h 26 (ptr b o)=ld h b o:=load_scal ag26 h b o
theorem ld28 (h:IH) (b o:Nat):load Proofs.Tryz.prog h 28 (ptr b o)=(h.rd b o 8).map fun cs=>.agg cs.toArray:=load_agg ag28 sz28 h b o
theorem ld3 (h:IH) (b o:Nat):load Proofs.Tryz.prog h 3 (ptr b o)=ld h b o:=load_scal ag3 h b o
theorem ld30 (h:IH) (b o:Nat):load Proofs.Tryz.prog h 30 (ptr b o)=(h.rd b o 16).map fun cs=>.agg cs.toArray:=load_agg ag30 sz30 h b o
theorem ld32 (h:IH) (b o:Nat):load Proofs.Tryz.prog h 32 (ptr b o)=ld h b o:=load_scal ag32 h b o
theorem ld34 (h:IH) (b o:Nat):load Proofs.Tryz.prog h 34 (ptr b o)=(h.rd b o 3).map fun cs=>.agg cs.toArray:=load_agg ag34 sz34 h b o
theorem ld36 (h:IH) (b o:Nat):load Proofs.Tryz.prog h 36 (ptr b o)=(h.rd b o 6).map fun cs=>.agg cs.toArray:=load_agg ag36 sz36 h b o
theorem ld4 (h:IH) (b o:Nat):load Proofs.Tryz.prog h 4 (ptr b o)=ld h b o:=load_scal ag4 h b o
theorem ld40 (h:IH) (b o:Nat):load Proofs.Tryz.prog h 40 (ptr b o)=ld h b o:=load_scal ag40 h b o
theorem ld79 (h:IH) (b o:Nat):load Proofs.Tryz.prog h 79 (ptr b o)=ld h b o:=load_scal ag79 h b o
theorem ld81 (h:IH) (b o:Nat):load Proofs.Tryz.prog h 81 (ptr b o)=(h.rd b o 2).map fun cs=>.agg cs.toArray:=load_agg ag81 sz81 h b o
theorem ld83 (h:IH) (b o:Nat):load Proofs.Tryz.prog h 83 (ptr b o)=(h.rd b o 4).map fun cs=>.agg cs.toArray:=load_agg ag83 sz83 h b o
theorem ld87 (h:IH) (b o:Nat):load Proofs.Tryz.prog h 87 (ptr b o)=ld h b o:=load_scal ag87 h b o
theorem ld89 (h:IH) (b o:Nat):load Proofs.Tryz.prog h 89 (ptr b o)=(h.rd b o 2).map fun cs=>.agg cs.toArray:=load_agg ag89 sz89 h b o
theorem ld91 (h:IH) (b o:Nat):load Proofs.Tryz.prog h 91 (ptr b o)=(h.rd b o 4).map fun cs=>.agg cs.toArray:=load_agg ag91 sz91 h b o
theorem ln79 (h:IH) (a:Option Addr) (n c:Nat):lenB Proofs.Tryz.prog h 79 (.slice a n c)=some (.int .i64 n):=lenB_slice sl79 h a n c
theorem ln87 (h:IH) (a:Option Addr) (n c:Nat):lenB Proofs.Tryz.prog h 87 (.slice a n c)=some (.int .i64 n):=lenB_slice sl87 h a n c
theorem ms79 (h:IH) (k j:IntKind) {l c:Int} (h0:0≤l) (h1:l≤c) (h2:c*9≤1099511627776):makeSlice Proofs.Tryz.prog h 79 (.int k l) (.int j c)=some (.slice (some ⟨2*h.n,0,none⟩) l.toNat (2*c.toNat+1),h.new (.cells (repl c.toNat [.int .u64 (0)]) 1 none)):=makeSlice_eq mk79 h k j h0 h1 h2
theorem ms87 (h:IH) (k j:IntKind) {l c:Int} (h0:0≤l) (h1:l≤c) (h2:c*9≤1099511627776):makeSlice Proofs.Tryz.prog h 87 (.int k l) (.int j c)=some (.slice (some ⟨2*h.n,0,none⟩) l.toNat (2*c.toNat+1),h.new (.cells (repl c.toNat [.int .i64 (0)]) 1 none)):=makeSlice_eq mk87 h k j h0 h1 h2
theorem st107 (h:IH) (k o:Nat) (v:Value):store Proofs.Tryz.prog h 107 (ptr (2*k) o) v=stE 5 h k o v.cells.toList (h.ext.get k):=store_stE sz107 h k o v
theorem st165 (h:IH) (k o:Nat) (v:Value):store Proofs.Tryz.prog h 165 (ptr (2*k) o) v=stE 8 h k o v.cells.toList (h.ext.get k):=store_stE sz165 h k o v
theorem st167 (h:IH) (k o:Nat) (v:Value):store Proofs.Tryz.prog h 167 (ptr (2*k) o) v=stE 9 h k o v.cells.toList (h.ext.get k):=store_stE sz167 h k o v
theorem st25 (h:IH) (k o:Nat) (v:Value):store Proofs.Tryz.prog h 25 (ptr (2*k) o) v=stE 1 h k o v.cells.toList (h.ext.get k):=store_stE sz25 h k o v
theorem st26 (h:IH) (k o:Nat) (v:Value):store Proofs.Tryz.prog h 26 (ptr (2*k) o) v=stE 1 h k o v.cells.toList (h.ext.get k):=store_stE sz26 h k o v
theorem st28 (h:IH) (k o:Nat) (v:Value):store Proofs.Tryz.prog h 28 (ptr (2*k) o) v=stE 8 h k o v.cells.toList (h.ext.get k):=store_stE sz28 h k o v
theorem st3 (h:IH) (k o:Nat) (v:Value):store Proofs.Tryz.prog h 3 (ptr (2*k) o) v=stE 1 h k o v.cells.toList (h.ext.get k):=store_stE sz3 h k o v
theorem st30 (h:IH) (k o:Nat) (v:Value):store Proofs.Tryz.prog h 30 (ptr (2*k) o) v=stE 16 h k o v.cells.toList (h.ext.get k):=store_stE sz30 h k o v
theorem st36 (h:IH) (k o:Nat) (v:Value):store Proofs.Tryz.prog h 36 (ptr (2*k) o) v=stE 6 h k o v.cells.toList (h.ext.get k):=store_stE sz36 h k o v
theorem st40 (h:IH) (k o:Nat) (v:Value):store Proofs.Tryz.prog h 40 (ptr (2*k) o) v=stE 1 h k o v.cells.toList (h.ext.get k):=store_stE sz40 h k o v
theorem st81 (h:IH) (k o:Nat) (v:Value):store Proofs.Tryz.prog h 81 (ptr (2*k) o) v=stE 2 h k o v.cells.toList (h.ext.get k):=store_stE sz81 h k o v
theorem st83 (h:IH) (k o:Nat) (v:Value):store Proofs.Tryz.prog h 83 (ptr (2*k) o) v=stE 4 h k o v.cells.toList (h.ext.get k):=store_stE sz83 h k o v
theorem st89 (h:IH) (k o:Nat) (v:Value):store Proofs.Tryz.prog h 89 (ptr (2*k) o) v=stE 2 h k o v.cells.toList (h.ext.get k):=store_stE sz89 h k o v
theorem st91 (h:IH) (k o:Nat) (v:Value):store Proofs.Tryz.prog h 91 (ptr (2*k) o) v=stE 4 h k o v.cells.toList (h.ext.get k):=store_stE sz91 h k o v
end Go.Id

/-! Digits to the base 2^32, the lowest first: plain numbers. -/
namespace Go.Id
def valT (ds:List Nat):Nat→Nat
 | 0=>0
 | k+1=>valT ds k+ds.getD k 0*4294967296 ^ k
def valD (ds:List Nat):Nat:=valT ds ds.length
def Digs (ds:List Nat):Prop:=∀d∈ds,d<4294967296
def Norm (ds:List Nat):Prop:=ds = []∨ds.getD (ds.length - 1) 0≠0
theorem getD_lt {ds:List Nat} (h:Digs ds) (k:Nat):ds.getD k 0<4294967296:=by
 rw[List.getD_eq_getElem?_getD]
 cases hx:ds[k]? with
 | none=>simp
 | some x=>simpa using h x (List.mem_of_getElem? hx)
theorem getD_of_ge {ds:List Nat} {k:Nat} (h:ds.length≤k):ds.getD k 0=0:=by
 rw[List.getD_eq_getElem?_getD,List.getElem?_eq_none h];rfl
theorem pow_pos' (k:Nat):0<4294967296 ^ k:=Nat.pow_pos (by omega)
theorem valT_lt {ds:List Nat} (h:Digs ds) : ∀k,valT ds k<4294967296 ^ k
 | 0=>by simp[valT]
 | k+1=>by
  have ih:=valT_lt h k
  have hd:=getD_lt h k
  have h2:ds.getD k 0*4294967296 ^ k≤4294967295*4294967296 ^ k:=Nat.mul_le_mul_right _ (by omega)
  rw[valT,Nat.pow_succ]
  omega
theorem valT_ge {ds:List Nat} : ∀{k:Nat},ds.length≤k→valT ds k=valD ds
 | 0,h=>by
  have:ds = []:=List.length_eq_zero_iff.1 (by omega)
  subst this;rfl
 | k+1,h=>by
  by_cases hk:ds.length≤k
  ·rw[valT,valT_ge hk,getD_of_ge hk];simp
  ·have:ds.length=k+1:=by omega
   rw[valD,this]
theorem valT_congr {ds es:List Nat} : ∀{k:Nat},(∀j,j<k→ds.getD j 0=es.getD j 0)→valT ds k=valT es k
 | 0,_=>rfl
 | k+1,h=>by rw[valT,valT,valT_congr fun j hj=>h j (by omega),h k (by omega)]
theorem valD_lt {ds:List Nat} (h:Digs ds):valD ds<4294967296 ^ ds.length:=valT_lt h _
theorem getD_append {ds:List Nat} {x:Nat} (j:Nat):(ds ++ [x]).getD j 0=if j<ds.length then ds.getD j 0 else if j=ds.length then x else 0:=by
 simp only[List.getD_eq_getElem?_getD]
 by_cases h:j<ds.length
 ·rw[if_pos h,List.getElem?_append_left h]
 ·rw[if_neg h,List.getElem?_append_right (by omega)]
  by_cases h2:j=ds.length
  ·rw[if_pos h2];subst h2;simp
  ·rw[if_neg h2,List.getElem?_eq_none (by simp;omega)];rfl
theorem valD_append (ds:List Nat) (x:Nat):valD (ds ++ [x])=valD ds+x*4294967296 ^ ds.length:=by
 have h1:(ds ++ [x]).length=ds.length+1:=by simp
 rw[valD,h1,valT,getD_append,if_neg (by omega),if_pos rfl]
 congr 1
 refine valT_congr fun j hj=>?_
 rw[getD_append,if_pos hj]
theorem Digs.append {ds:List Nat} {x:Nat} (h:Digs ds) (hx:x<4294967296):Digs (ds ++ [x]):=by
 intro d hd
 rcases List.mem_append.1 hd with h1|h1
 ·exact h d h1
 ·simp at h1;omega
theorem Digs.take {ds:List Nat} (h:Digs ds) (n:Nat):Digs (ds.take n):=fun d hd=>h d (List.mem_of_mem_take hd)
theorem getD_take (ds:List Nat) (n j:Nat):(ds.take n).getD j 0=if j<n then ds.getD j 0 else 0:=by
 simp only[List.getD_eq_getElem?_getD,List.getElem?_take]
 split<;>rfl
theorem valT_split (ds:List Nat) (m:Nat) : ∀k,(∀j,m≤j→j<m+k→ds.getD j 0=0)→valT ds (m+k)=valT ds m
 | 0,_=>rfl
 | k+1,h=>by
  rw[show m+(k+1)=(m+k)+1 from rfl,valT,valT_split ds m k (fun j a b=>h j a (by omega)),h (m+k) (by omega) (by omega)]
  simp
theorem valD_take {ds:List Nat} {m:Nat} (hm:m≤ds.length) (h : ∀j,m≤j→ds.getD j 0=0):valD (ds.take m)=valD ds:=by
 have h1:(ds.take m).length=m:=by simp[hm]
 rw[valD,h1]
 have h2:valT (ds.take m) m=valT ds m:=valT_congr fun j hj=>by rw[getD_take,if_pos hj]
 rw[h2]
 have:=valT_split ds m (ds.length - m) (fun j a _=>h j a)
 rw[show m+(ds.length - m)=ds.length from by omega] at this
 exact this.symm
theorem Norm.ge {ds:List Nat} (h:Norm ds) (hne:ds ≠ []):4294967296 ^ (ds.length - 1)≤valD ds:=by
 rcases h with h|h
 ·exact absurd h hne
 ·have hl:0<ds.length:=List.length_pos_iff.2 hne
  obtain⟨n,hn⟩ : ∃n,ds.length=n+1:=⟨ds.length - 1,by omega⟩
  rw[valD,hn,valT]
  rw[hn] at h
  simp only[Nat.add_sub_cancel] at h ⊢
  have:1*4294967296 ^ n≤ds.getD n 0*4294967296 ^ n:=Nat.mul_le_mul_right _ (by omega)
  omega
theorem lt_of_len {a b:List Nat} (ha:Digs a) (hb:Norm b) (hl:a.length<b.length):valD a<valD b:=by
 have h1:=valD_lt ha
 have h2:=hb.ge (by intro h;subst h;simp at hl)
 have h3:4294967296 ^ a.length≤4294967296 ^ (b.length - 1):=Nat.pow_le_pow_right (by omega) (by omega)
 omega
theorem valT_top {a b:List Nat} (ha:Digs a) {i:Nat} (hi:a.getD i 0<b.getD i 0) : ∀k,(∀j,i<j→j<i+1+k→a.getD j 0=b.getD j 0)→valT a (i+1+k)<valT b (i+1+k)
 | 0,_=>by
  have h1:=valT_lt ha i
  have h2:(a.getD i 0+1)*4294967296 ^ i≤b.getD i 0*4294967296 ^ i:=Nat.mul_le_mul_right _ (by omega)
  rw[Nat.add_mul] at h2
  rw[Nat.add_zero,valT,valT]
  omega
 | k+1,h=>by
  have:=valT_top ha hi k (fun j x y=>h j x (by omega))
  rw[show i+1+(k+1)=(i+1+k)+1 from rfl,valT,valT,h (i+1+k) (by omega) (by omega)]
  omega
theorem lt_of_top {a b:List Nat} (ha:Digs a) (hl:a.length=b.length) {i:Nat} (hn:i<a.length) (hi:a.getD i 0<b.getD i 0) (h : ∀j,i<j→j<a.length→a.getD j 0=b.getD j 0):valD a<valD b:=by
 have:=valT_top ha hi (a.length - (i+1)) (fun j x y=>h j x (by omega))
 rw[show i+1+(a.length - (i+1))=a.length from by omega] at this
 rw[valD,valD,←hl];exact this
theorem eq_of_all {a b:List Nat} (hl:a.length=b.length) (h : ∀j,j<a.length→a.getD j 0=b.getD j 0):valD a=valD b:=by
 rw[valD,valD,←hl];exact valT_congr h
theorem Norm.nil_iff {ds:List Nat} (h:Norm ds):valD ds=0↔ds = []:=by
 constructor
 ·intro h0
  apply Classical.byContradiction;intro hne
  have:=h.ge hne
  have:=pow_pos' (ds.length - 1)
  omega
 ·rintro rfl;rfl
theorem Norm.len_le {a b:List Nat} (ha:Norm a) (hb:Digs b) (h:valD a≤valD b):a.length≤b.length:=by
 apply Classical.byContradiction;intro hn
 have:=lt_of_len hb ha (by omega)
 omega
theorem valT_cons (d:Nat) (ds:List Nat) : ∀k,valT (d :: ds) (k+1)=d+4294967296*valT ds k
 | 0=>by simp[valT]
 | k+1=>by
  rw[valT,valT_cons d ds k,valT]
  simp only[List.getD_cons_succ,Nat.pow_succ]
  grind
theorem valD_cons (d:Nat) (ds:List Nat):valD (d :: ds)=d+4294967296*valD ds:=valT_cons d ds _
end Go.Id

/-! Contracts: the reference's long integers. -/
namespace Go.Id
open Go
abbrev KN (n:Nat):Value:=.int .i64 (n:Int)
def DigU (h:IH) (v:Value) (ds:List Nat):Prop:=SlOf h 1 v ds.length (ds.map KN)∧Digs ds∧ds.length≤1100000
def Dig (h:IH) (v:Value) (x:Nat):Prop:=∃ds,DigU h v ds∧Norm ds∧valD ds=x
theorem DigU.keep {h h':IH} {v:Value} {ds:List Nat} (d:DigU h v ds) (e:Keep h h'):DigU h' v ds:=⟨d.1.keep e,d.2⟩
theorem Dig.keep {h h':IH} {v:Value} {x:Nat} (d:Dig h v x) (e:Keep h h'):Dig h' v x:=let ⟨ds,a,b⟩:=d;⟨ds,a.keep e,b⟩
theorem getD_some {ds:List Nat} {i x:Nat} (h:ds[i]?=some x):ds.getD i 0=x:=by rw[List.getD_eq_getElem?_getD,h];rfl
theorem get_some {ds:List Nat} {i:Nat} (h:i<ds.length):ds[i]?=some (ds.getD i 0):=by
 rw[List.getD_eq_getElem?_getD,List.getElem?_eq_getElem h];rfl
theorem map_get {α β:Type} (f:α→β) (l:List α) (i:Nat):(l.map f)[i]?=(l[i]?).map f:=List.getElem?_map
theorem cut_ok {h:IH} {v:Value} {ds:List Nat} (hd:DigU h v ds):WV Proofs.Tryz.prog (.func (.func 143) #[] #[]) [v] h fun r h'=>h'=h∧Dig h r (valD ds):=by
 refine enter (nt:=21) (rs:=[.tmp 2]) Proofs.Tryz.func143 rfl rfl rfl (by simp) ?_
 simp -dsimp (disch:=omega) only[wpS,Nat.reduceEqDiff,hd.1.len sl87]
 refine loop (fun m fr h1=>h1=h∧m≤ds.length∧fget fr 3=some (KN m)∧fget fr 0=some v ∧ ∀j,m≤j→ds.getD j 0=0) ds.length ⟨rfl,Nat.le_refl _,by simp,by simp,fun j hj=>getD_of_ge hj⟩ ?_
 rintro m fr h1 ⟨rfl,hm,f3,f0,hz⟩
 have fin : ∀n:Nat,n≤ds.length→(∀j,n≤j→ds.getD j 0=0)→(n=0∨ds.getD (n - 1) 0≠0) → ∃r,sliceOp Proofs.Tryz.prog h1 87 v none (some (KN n)) none=some r∧Dig h1 r (valD ds):=by
  intro n hn hz hne
  obtain⟨r,hr,hs⟩:=hd.1.slice (Keep.refl _) (P:=Proofs.Tryz.prog) (t:=87) u87 sz3 (l:=0) (m:=n) (Nat.zero_le _) hn (lo:=none) (hi:=some (KN n)) rfl (fun c hc=>natOf_nat (k:=.i64) (by omega))
  refine⟨r,hr,ds.take n,⟨?_,hd.2.1.take n,by simp;have:=hd.2.2;omega⟩,?_,valD_take hn hz⟩
  ·have hl:(ds.take n).length=n:=by simp[hn]
   rw[hl]
   simpa [List.map_take] using hs
  ·rcases hne with rfl|hne
   ·left;simp
   ·by_cases h0:n=0
    ·subst h0;left;simp
    ·right
     have hl:(ds.take n).length=n:=by simp[hn]
     rw[hl,getD_take,if_pos (by omega)];exact hne
 have hb:=hd.2.2
 rcases Nat.eq_zero_or_pos m with rfl|hp
 ·obtain⟨r,hr,hD⟩:=fin 0 hm hz (.inl rfl)
  simp -dsimp (disch:=omega) only[wpS,wpT,Nat.reduceEqDiff,f3,f0,hr]
  exact hD
 ·obtain⟨k,rfl⟩ : ∃k,m=k+1:=⟨m - 1,by omega⟩
  have h2:IntKind.i64.wrap (((k+1:Nat):Int) - 1)=(k:Int):=by rw[wrap_i64 (by omega)];omega
  simp -dsimp (disch:=omega) only[wpS,wpT,Nat.reduceEqDiff,f3,f0,h2,hd.1.idx es87 (show k<ds.length by omega),hd.1.ld (Keep.refl _) (P:=Proofs.Tryz.prog) (t:=3) (c:=k) (by simp<;>omega) ag3,map_get,get_some (show k<ds.length by omega)]
  refine bq_intro (fun hc=>?_) (fun hc=>?_)
  ·simp -dsimp (disch:=omega) only[wpS,Nat.reduceEqDiff,f3,h2]
   refine⟨k,by omega,rfl,by omega,by simp,by simp[f0],fun j hj=>?_⟩
   by_cases hjk:j=k
   ·subst hjk;simpa using hc
   ·exact hz j (by omega)
  ·obtain⟨r,hr,hD⟩:=fin (k+1) hm hz (.inr (by simpa using hc))
   simp -dsimp (disch:=omega) only[wpS,wpT,Nat.reduceEqDiff,f3,f0,hr]
   exact hD
theorem cut_block {h:IH} {v:Value} {ds:List Nat} (hd:DigU h v ds):WV Proofs.Tryz.prog (.func (.func 143) #[] #[]) [v] h fun r h'=>blockOf r=blockOf v:=by
 have hb:=hd.2.2
 refine enter (nt:=21) (rs:=[.tmp 2]) Proofs.Tryz.func143 rfl rfl rfl (by simp) ?_
 simp -dsimp (disch:=omega) only[wpS,Nat.reduceEqDiff,hd.1.len sl87]
 refine loop (fun m fr h1=>h1=h∧m≤ds.length∧fget fr 3=some (KN m)∧fget fr 0=some v) ds.length ⟨rfl,Nat.le_refl _,by simp,by simp⟩ ?_
 rintro m fr h1 ⟨rfl,hm,f3,f0⟩
 have fin : ∀n:Nat,n≤ds.length → ∃r,sliceOp Proofs.Tryz.prog h1 87 v none (some (KN n)) none=some r∧blockOf r=blockOf v:=by
  intro n hn
  obtain⟨r,hr,hs⟩:=hd.1.slice (Keep.refl _) (P:=Proofs.Tryz.prog) (t:=87) u87 sz3 (l:=0) (m:=n) (Nat.zero_le _) hn (lo:=none) (hi:=some (KN n)) rfl (fun c hc=>natOf_nat (k:=.i64) (by omega))
  exact⟨r,hr,slice_block u87 hr⟩
 rcases Nat.eq_zero_or_pos m with rfl|hp
 ·obtain⟨r,hr,hD⟩:=fin 0 hm
  simp -dsimp (disch:=omega) only[wpS,wpT,Nat.reduceEqDiff,f3,f0,hr]
  exact hD
 ·obtain⟨k,rfl⟩ : ∃k,m=k+1:=⟨m - 1,by omega⟩
  have h2:IntKind.i64.wrap (((k+1:Nat):Int) - 1)=(k:Int):=by rw[wrap_i64 (by omega)];omega
  simp -dsimp (disch:=omega) only[wpS,wpT,Nat.reduceEqDiff,f3,f0,h2,hd.1.idx es87 (show k<ds.length by omega),hd.1.ld (Keep.refl _) (P:=Proofs.Tryz.prog) (t:=3) (c:=k) (by simp<;>omega) ag3,map_get,get_some (show k<ds.length by omega)]
  refine bq_intro (fun hc=>?_) (fun hc=>?_)
  ·simp -dsimp (disch:=omega) only[wpS,Nat.reduceEqDiff,f3,h2]
   exact⟨k,by omega,rfl,by omega,by simp,by simp[f0]⟩
  ·obtain⟨r,hr,hD⟩:=fin (k+1) hm
   simp -dsimp (disch:=omega) only[wpS,Nat.reduceEqDiff,f3,f0,hr]
   exact hD
def LongIs (h:IH) (v:Value) (z:Int):Prop:=∃s,v=.agg #[.bool (decide (z<0)),s]∧Dig h s z.natAbs
theorem LongIs.keep {h h':IH} {v:Value} {z:Int} (d:LongIs h v z) (e:Keep h h'):LongIs h' v z:=let ⟨s,a,b⟩:=d;⟨s,a,b.keep e⟩
theorem made_ok {h:IH} {v:Value} {ds:List Nat} (hd:DigU h v ds) (b:Bool):WV Proofs.Tryz.prog (.func (.func 141) #[] #[]) [.bool b,v] h fun r h'=>Ext h h'∧LongIs h' r (if b then -(valD ds:Int) else valD ds):=by
 refine enter (nt:=15) (rs:=[.cell 4 89]) Proofs.Tryz.func141 rfl rfl rfl (by simp) ?_
 simp -dsimp (disch:=omega) only[wpS,Nat.reduceEqDiff,Nat.reduceAdd,zc89]
 refine call (cut_ok (hd.keep ((Keep.refl h).new _))) ?_
 rintro r h1 ⟨rfl,ds',hD,hN,hv⟩
 have hl:=hD.2.2
 have hz:=hN.nil_iff
 have hk : ∀o,Keep (h.new (.cells [.bool false,.slice none 0 0] 0 none)) ((h.new (.cells [.bool false,.slice none 0 0] 0 none)).put h.n o):=fun o=>(Keep.refl _).put (get_new_same _ _ rfl) o
 cases b
 ·simp -dsimp (disch:=omega) only[wpS,wpT,Nat.reduceEqDiff,Nat.reduceLeDiff,Nat.reduceAdd,bv89,pl89_0,pl89_1,st89,ld89,hD.1.cells,hD.1.cok]
  refine⟨((Ext.refl h).new _).put (Nat.le_refl _) _,r,?_,ds',hD.keep (hk _),hN,?_⟩
  ·simp
  ·simp[hv]
 ·simp -dsimp (disch:=omega) only[wpS,wpT,Nat.reduceEqDiff,Nat.reduceLeDiff,Nat.reduceAdd,bv89,pl89_0,pl89_1,st89,ld89,hD.1.cells,hD.1.cok,hD.1.len sl87]
  refine⟨((Ext.refl h).new _).put (Nat.le_refl _) _,r,?_,ds',hD.keep (hk _),hN,?_⟩
  ·rw[hv] at hz
   have:0<ds'.length↔0<valD ds:=by
    cases ds' with
    | nil=>simp at hz;simp[hz]
    | cons x l=>simp at hz;simp;omega
   simp[this]
  ·simp[hv]
theorem order_ok {h:IH} {v w:Value} {a b:List Nat} (ha:DigU h v a) (hb:DigU h w b) (na:Norm a) (nb:Norm b) :
  WV Proofs.Tryz.prog (.func (.func 139) #[] #[]) [v,w] h fun r h'=>h'=h ∧ ∃c:Int,r=KI c∧(c<0↔valD a<valD b)∧(c=0↔valD a=valD b) ∧ -9223372036854775808≤c∧c≤9223372036854775807:=by
 have la:=ha.2.2
 have lb:=hb.2.2
 refine enter (nt:=41) (rs:=[.tmp 4]) Proofs.Tryz.func139 rfl rfl rfl (by simp) ?_
 simp -dsimp (maxSteps:=1000000) (disch:=first|omega|(simp only[new_n,put_n];omega)|decide +kernel|(repeat first|rw[new_n]|rw[put_n])) only[wpS,Nat.reduceEqDiff,Nat.reduceAdd,ha.1.len sl87,hb.1.len sl87]
 refine bq_intro ?_ ?_<;>intro hc<;>simp only[bne_iff_ne,bne_eq_false_iff_eq,ne_eq] at hc
 ·simp -dsimp (maxSteps:=1000000) (disch:=first|omega|(simp only[new_n,put_n];omega)|decide +kernel|(repeat first|rw[new_n]|rw[put_n])) only[wpS,wpT,Nat.reduceEqDiff,ha.1.len sl87,hb.1.len sl87]
  refine⟨_,rfl,?_,?_,by omega,by omega⟩
  ·constructor
   ·intro h1;exact lt_of_len ha.2.1 nb (by omega)
   ·intro h1
    have:=na.len_le hb.2.1 (Nat.le_of_lt h1)
    omega
  ·constructor
   ·intro h1;omega
   ·intro h1
    have h2:=na.len_le hb.2.1 (Nat.le_of_eq h1)
    have h3:=nb.len_le ha.2.1 (Nat.le_of_eq h1.symm)
    omega
 ·have hl:a.length=b.length:=by omega
  simp -dsimp (maxSteps:=1000000) (disch:=first|omega|(simp only[new_n,put_n];omega)|decide +kernel|(repeat first|rw[new_n]|rw[put_n])) only[wpS,wpT,Nat.reduceEqDiff,ha.1.len sl87]
  refine loop (fun m fr h1=>h1=h∧m≤a.length∧fget fr 5=some (KI ((m:Int) - 1))∧fget fr 0=some v∧fget fr 1=some w ∧ ∀j,m≤j→j<a.length→a.getD j 0=b.getD j 0) a.length ⟨rfl,Nat.le_refl _,by simp,by simp,by simp,fun j hj hj2=>by omega⟩ ?_
  rintro m fr h1 ⟨rfl,hm,f5,f0,f1,hz⟩
  rcases Nat.eq_zero_or_pos m with rfl|hp
  ·simp -dsimp (maxSteps:=1000000) (disch:=first|omega|(simp only[new_n,put_n];omega)|decide +kernel|(repeat first|rw[new_n]|rw[put_n])) only[wpS,wpT,Nat.reduceEqDiff,f5]
   refine⟨_,rfl,?_,?_,by omega,by omega⟩
   ·have:=eq_of_all hl (fun j hj=>hz j (Nat.zero_le _) hj);omega
   ·have:=eq_of_all hl (fun j hj=>hz j (Nat.zero_le _) hj);omega
  ·obtain⟨k,rfl⟩ : ∃k,m=k+1:=⟨m - 1,by omega⟩
   have h2:(((k+1:Nat):Int) - 1)=(k:Int):=by omega
   rw[h2] at f5
   have da:=getD_lt ha.2.1 k
   have db:=getD_lt hb.2.1 k
   simp -dsimp (maxSteps:=1000000) (disch:=first|omega|(simp only[new_n,put_n];omega)|decide +kernel|(repeat first|rw[new_n]|rw[put_n])) only[wpS,wpT,Nat.reduceEqDiff,f5,f0,f1,ha.1.idx es87 (show k<a.length by omega),ha.1.ld (Keep.refl _) (P:=Proofs.Tryz.prog) (t:=3) (c:=k) (by simp<;>omega) ag3,hb.1.idx es87 (show k<b.length by omega),hb.1.ld (Keep.refl _) (P:=Proofs.Tryz.prog) (t:=3) (c:=k) (by simp<;>omega) ag3,map_get,get_some (show k<a.length by omega),get_some (show k<b.length by omega)]
   refine bq_intro ?_ ?_<;>intro hc<;>simp only[bne_iff_ne,bne_eq_false_iff_eq,ne_eq] at hc
   ·simp -dsimp (maxSteps:=1000000) (disch:=first|omega|(simp only[new_n,put_n];omega)|decide +kernel|(repeat first|rw[new_n]|rw[put_n])) only[wpS,wpT,Nat.reduceEqDiff,f5,f0,f1,ha.1.idx es87 (show k<a.length by omega),ha.1.ld (Keep.refl _) (P:=Proofs.Tryz.prog) (t:=3) (c:=k) (by simp<;>omega) ag3,hb.1.idx es87 (show k<b.length by omega),hb.1.ld (Keep.refl _) (P:=Proofs.Tryz.prog) (t:=3) (c:=k) (by simp<;>omega) ag3,map_get,get_some (show k<a.length by omega),get_some (show k<b.length by omega)]
    have key:(a.getD k 0<b.getD k 0→valD a<valD b)∧(b.getD k 0<a.getD k 0→valD b<valD a) :=
     ⟨fun h=>lt_of_top ha.2.1 hl (by omega) h (fun j x y=>hz j (by omega) y),fun h=>lt_of_top hb.2.1 hl.symm (by omega) h (fun j x y=>(hz j (by omega) (by omega)).symm)⟩
    refine⟨_,rfl,?_,?_,by omega,by omega⟩
    ·constructor
     ·intro h1;exact key.1 (by omega)
     ·intro h1
      apply Classical.byContradiction;intro h3
      have:=key.2 (by omega)
      omega
    ·constructor
     ·intro h1;omega
     ·intro h1
      rcases Nat.lt_or_ge (a.getD k 0) (b.getD k 0) with h3|h3
      ·have:=key.1 h3;omega
      ·have:=key.2 (by omega);omega
   ·simp -dsimp (maxSteps:=1000000) (disch:=first|omega|(simp only[new_n,put_n];omega)|decide +kernel|(repeat first|rw[new_n]|rw[put_n])) only[wpS,wpT,Nat.reduceEqDiff,f5]
    refine⟨k,by omega,rfl,by omega,by simp,by simp[f0],by simp[f1],fun j h3 h4=>?_⟩
    by_cases hjk:j=k
    ·subst hjk;exact Int.ofNat.inj hc
    ·exact hz j (by omega) h4
end Go.Id

/-! Contracts: the reference's long integers, second part: sums and differences of digits. -/
namespace Go.Id
open Go
theorem map_snoc (os:List Nat) (d:Nat):os.map KN ++ [KN d]=(os ++ [d]).map KN:=by simp
theorem Acc.block {h:IH} {n0 sz:Nat} {v:Value} {n:Nat} {cs:List Value} (a:Acc h n0 sz v n cs) {k:Nat} (hk:k<n0):blockOf v≠some (2*k):=by
 obtain⟨hz,hl,⟨rfl,_⟩|⟨j,fam,rfl,hn,h1,h2,h3,h4⟩⟩:=a
 ·intro h;cases h
 ·intro h
  have:2*j=2*k:=Option.some.inj h
  omega
theorem less_at {h:IH} {v w:Value} {a b:List Nat} (ha:DigU h v a) (hb:DigU h w b) (nb:Norm b) (hle:valD b≤valD a) :
  WV Proofs.Tryz.prog (.func (.func 140) #[] #[]) [v,w] h fun r h'=>(Ext h h'∧Dig h' r (valD a - valD b)) ∧ ∀k,k<h.n→blockOf r≠some (2*k):=by
 have la:=ha.2.2
 have lb:=hb.2.2
 refine enter (nt:=41) (rs:=[.tmp 4]) Proofs.Tryz.func140 rfl rfl rfl (by simp) ?_
 simp -dsimp (disch:=omega) only[wpS,Nat.reduceAdd]
 refine loop (fun m fr h1 => ∃(i bor:Nat) (os:List Nat) (out:Value),i+m=a.length∧fget fr 0=some v∧fget fr 1=some w∧fget fr 5=some out∧fget fr 6=some (KN bor)∧fget fr 7=some (KN i)∧bor≤1∧os.length=i∧Digs os ∧
  valT a i+bor*4294967296 ^ i=valT b i+valD os∧Acc h1 h.n 1 out i (os.map KN)∧Ext h h1) a.length ⟨0,0,[],.slice none 0 0,by simp,by simp,by simp,by simp,by simp,by simp,by omega,rfl,fun d hd=>(by cases hd),by simp[valT,valD],Acc.nil _ _ (by omega),Ext.refl _⟩ ?_
 rintro m fr h1 ⟨i,bor,os,out,him,f0,f1,f5,f6,f7,hbor,hos,hd,hv,hA,hE⟩
 simp -dsimp (disch:=omega) only[wpS,Nat.reduceEqDiff,f0,f7,ha.1.len sl87]
 refine bq_intro ?_ ?_<;>intro hc<;>simp only[decide_eq_true_eq,decide_eq_false_iff_not] at hc
 ·have hi:i<a.length:=by omega
  have da:=getD_lt ha.2.1 i
  have db:=getD_lt hb.2.1 i
  simp -dsimp (disch:=omega) only[wpS,wpT,Nat.reduceEqDiff,f0,f1,f6,f7,ha.1.idx es87 hi,ha.1.ld hE.keep (P:=Proofs.Tryz.prog) (t:=3) (c:=i) (by simpa using hi) ag3,map_get,get_some hi,hb.1.len sl87]
  refine bq_cut (fun fr2 h2=>h2=h1∧fget fr2 0=some v∧fget fr2 1=some w∧fget fr2 5=some out∧fget fr2 7=some (KN i)∧fget fr2 8=some (KI ((a.getD i 0:Int) - bor - (b.getD i 0:Int)))) (fun hc=>?_) (fun hc=>?_) ?_
  ·simp only[decide_eq_true_eq] at hc
   have hi2:i<b.length:=by omega
   simp -dsimp (disch:=omega) only[wpS,wpT,Nat.reduceEqDiff,f1,f7,hb.1.idx es87 hi2,hb.1.ld hE.keep (P:=Proofs.Tryz.prog) (t:=3) (c:=i) (by simpa using hi2) ag3,map_get,get_some hi2]
   exact⟨rfl,by simp[f0],by simp[f1],by simp[f5],by simp[f7],by simp⟩
  ·simp only[decide_eq_false_iff_not] at hc
   simp -dsimp (disch:=omega) only[wpS,wpT]
   exact⟨rfl,by simp[f0],by simp[f1],by simp[f5],by simp[f7],by rw[getD_of_ge (show b.length≤i by omega)];simp⟩
  ·rintro fr2 h2 ⟨rfl,f0,f1,f5,f7,f8⟩
   simp -dsimp (disch:=omega) only[wpS,Nat.reduceEqDiff,f8]
   refine bq_cut (fun fr3 h3=>h3=h2∧fget fr3 0=some v∧fget fr3 1=some w∧fget fr3 5=some out∧fget fr3 7=some (KN i) ∧ ∃d bor':Nat,fget fr3 8=some (KN d)∧fget fr3 6=some (KN bor')∧d<4294967296∧bor'≤1∧a.getD i 0+bor'*4294967296=b.getD i 0+bor+d) (fun hc=>?_) (fun hc=>?_) ?_
   ·simp only[decide_eq_true_eq] at hc
    simp -dsimp (disch:=omega) only[wpS,wpT,Nat.reduceEqDiff,f8]
    refine⟨rfl,by simp[f0],by simp[f1],by simp[f5],by simp[f7],a.getD i 0+4294967296 - bor - b.getD i 0,1,?_,by simp,by omega,by omega,by omega⟩
    simp only[fget_cons,Nat.reduceEqDiff,if_false,if_true]
    congr 2;omega
   ·simp only[decide_eq_false_iff_not] at hc
    simp -dsimp (disch:=omega) only[wpS,wpT]
    refine⟨rfl,by simp[f0],by simp[f1],by simp[f5],by simp[f7],a.getD i 0 - bor - b.getD i 0,0,?_,by simp,by omega,by omega,by omega⟩
    simp only[fget_cons,Nat.reduceEqDiff,if_false,f8]
    congr 2;omega
   ·rintro fr3 h3 ⟨rfl,f0,f1,f5,f7,d,bor',f8,f6,hd2,hb2,hrel⟩
    obtain⟨out',h',hap,hA',hG,hE'⟩:=hA.app1 (P:=Proofs.Tryz.prog) (t:=87) ap87 (x:=KN d) rfl (by omega) hE.n hE (Nat.le_refl _)
    simp -dsimp (disch:=omega) only[wpS,wpT,Nat.reduceEqDiff,Nat.reduceLeDiff,Nat.reduceAdd,bs87,ba87_87,f5,f7,f8,hap]
    refine⟨m - 1,by omega,i+1,bor',os ++ [d],out',by omega,by simp[f0],by simp[f1],by simp,by simp[f6],by simp,hb2,by simp[hos],hd.append hd2,?_,by rw[←map_snoc];exact hA',hE'⟩
    rw[valD_append,valT,valT,hos]
    grind
 ·obtain rfl:i=a.length:=by omega
  have hbl:=nb.len_le ha.2.1 hle
  rw[valT_ge hbl,valT_ge (Nat.le_refl _)] at hv
  have hlt:=valD_lt hd
  rw[hos] at hlt
  have hb0:bor=0:=by
   apply Classical.byContradiction;intro hne
   have:bor=1:=by omega
   subst this;omega
  subst hb0
  have hD:DigU h1 out os:=⟨by rw[hos];exact hA.sl,hd,by omega⟩
  simp -dsimp (disch:=omega) only[wpS,wpT,Nat.reduceEqDiff,f5]
  refine call ((cut_ok hD).and (cut_block hD)) ?_
  rintro r h2 ⟨⟨rfl,hr⟩,hbk⟩
  simp -dsimp (disch:=omega) only[wpS,Nat.reduceEqDiff]
  refine⟨⟨hE,?_⟩,fun k hk=>?_⟩
  ·rw[show valD a - valD b=valD os by omega];exact hr
  ·rw[hbk];exact hA.block hk
theorem less_ok {h:IH} {v w:Value} {a b:List Nat} (ha:DigU h v a) (hb:DigU h w b) (nb:Norm b) (hle:valD b≤valD a) :
  WV Proofs.Tryz.prog (.func (.func 140) #[] #[]) [v,w] h fun r h'=>Ext h h'∧Dig h' r (valD a - valD b):=(less_at ha hb nb hle).mono fun _ _ k=>k.1
theorem more_ok {h:IH} {v w:Value} {a b:List Nat} (ha:DigU h v a) (hb:DigU h w b) (la:a.length≤1000001) (lb:b.length≤1000001) :
  WV Proofs.Tryz.prog (.func (.func 159) #[] #[]) [v,w] h fun r h'=>Ext h h' ∧ ∃os,DigU h' r os∧valD os=valD a+valD b:=by
 refine enter (nt:=52) (rs:=[.tmp 4]) Proofs.Tryz.func159 rfl rfl rfl (by simp) ?_
 simp -dsimp (disch:=omega) only[wpS,Nat.reduceAdd]
 refine loop (fun m fr h1 => ∃(i c:Nat) (os:List Nat) (out:Value),i+m=1000003∧fget fr 0=some v∧fget fr 1=some w∧fget fr 5=some out∧fget fr 6=some (KN c)∧fget fr 7=some (KN i)∧c≤1∧os.length=i∧Digs os∧i≤1000002∧(1000001<i→c=0) ∧
  valD os+c*4294967296 ^ i=valT a i+valT b i∧Acc h1 h.n 1 out i (os.map KN)∧Ext h h1) 1000003 ⟨0,0,[],.slice none 0 0,by simp,by simp,by simp,by simp,by simp,by simp,by omega,rfl,fun d hd=>(by cases hd),by omega,by omega,by simp[valT,valD],Acc.nil _ _ (by omega),Ext.refl _⟩ ?_
 rintro m fr h1 ⟨i,c,os,out,him,f0,f1,f5,f6,f7,hcc,hos,hd,hi2,hi3,hv,hA,hE⟩
 rw[d_seq]
 by_cases hcont:i<a.length∨i<b.length∨0<c
 ·refine cut (fun fr2 h2=>h2=h1∧fget fr2 0=some v∧fget fr2 1=some w∧fget fr2 5=some out∧fget fr2 6=some (KN c)∧fget fr2 7=some (KN i)) ?_ ?_
  ·by_cases c1:i<a.length
   ·simp -dsimp (disch:=omega) only[wpS,wpT,Nat.reduceEqDiff,f0,f7,ha.1.len sl87]
    exact⟨rfl,by simp[f0],by simp[f1],by simp[f5],by simp[f6],by simp[f7]⟩
   ·by_cases c2:i<b.length
    ·simp -dsimp (disch:=omega) only[wpS,wpT,Nat.reduceEqDiff,f0,f1,f7,ha.1.len sl87,hb.1.len sl87]
     exact⟨rfl,by simp[f0],by simp[f1],by simp[f5],by simp[f6],by simp[f7]⟩
    ·simp -dsimp (disch:=omega) only[wpS,wpT,Nat.reduceEqDiff,f0,f1,f6,f7,ha.1.len sl87,hb.1.len sl87]
     exact⟨rfl,by simp[f0],by simp[f1],by simp[f5],by simp[f6],by simp[f7]⟩
  ·rintro fr2 h2 ⟨rfl,f0,f1,f5,f6,f7⟩
   have da:=getD_lt ha.2.1 i
   have db:=getD_lt hb.2.1 i
   simp -dsimp (disch:=omega) only[wpS,Nat.reduceEqDiff,f0,f7,ha.1.len sl87]
   refine bq_cut (fun fr3 h3=>h3=h2∧fget fr3 0=some v∧fget fr3 1=some w∧fget fr3 5=some out∧fget fr3 7=some (KN i)∧fget fr3 6=some (KN (c+a.getD i 0))) (fun hc=>?_) (fun hc=>?_) ?_
   ·simp only[decide_eq_true_eq] at hc
    have hi:i<a.length:=by omega
    simp -dsimp (disch:=omega) only[wpS,wpT,Nat.reduceEqDiff,f0,f6,f7,ha.1.idx es87 hi,ha.1.ld hE.keep (P:=Proofs.Tryz.prog) (t:=3) (c:=i) (by simpa using hi) ag3,map_get,get_some hi]
    exact⟨rfl,by simp[f0],by simp[f1],by simp[f5],by simp[f7],by simp⟩
   ·simp only[decide_eq_false_iff_not] at hc
    simp -dsimp (disch:=omega) only[wpS,wpT]
    exact⟨rfl,by simp[f0],by simp[f1],by simp[f5],by simp[f7],by rw[getD_of_ge (show a.length≤i by omega)];simp[f6]⟩
   ·rintro fr3 h3 ⟨rfl,f0,f1,f5,f7,f6⟩
    simp -dsimp (disch:=omega) only[wpS,Nat.reduceEqDiff,f1,f7,hb.1.len sl87]
    refine bq_cut (fun fr4 h4=>h4=h3∧fget fr4 0=some v∧fget fr4 1=some w∧fget fr4 5=some out∧fget fr4 7=some (KN i)∧fget fr4 6=some (KN (c+a.getD i 0+b.getD i 0))) (fun hc=>?_) (fun hc=>?_) ?_
    ·simp only[decide_eq_true_eq] at hc
     have hi:i<b.length:=by omega
     simp -dsimp (disch:=omega) only[wpS,wpT,Nat.reduceEqDiff,f1,f6,f7,hb.1.idx es87 hi,hb.1.ld hE.keep (P:=Proofs.Tryz.prog) (t:=3) (c:=i) (by simpa using hi) ag3,map_get,get_some hi]
     exact⟨rfl,by simp[f0],by simp[f1],by simp[f5],by simp[f7],by simp⟩
    ·simp only[decide_eq_false_iff_not] at hc
     simp -dsimp (disch:=omega) only[wpS,wpT]
     exact⟨rfl,by simp[f0],by simp[f1],by simp[f5],by simp[f7],by rw[getD_of_ge (show b.length≤i by omega)];simp[f6]⟩
    ·rintro fr4 h4 ⟨rfl,f0,f1,f5,f7,f6⟩
     have hi5:i≤1000001:=by
      apply Classical.byContradiction;intro hn
      have:=hi3 (by omega)
      omega
     generalize hs:c+a.getD i 0+b.getD i 0=s at f6
     have e1:((s:Int) % 4294967296)=((s % 4294967296:Nat):Int):=by omega
     have e2:((s:Int) / 4294967296)=((s / 4294967296:Nat):Int):=by omega
     obtain⟨out',h',hap,hA',hG,hE'⟩:=hA.app1 (P:=Proofs.Tryz.prog) (t:=87) ap87 (x:=KN (s % 4294967296)) rfl (by omega) hE.n hE (Nat.le_refl _)
     simp -dsimp (disch:=omega) only[wpS,wpT,Nat.reduceEqDiff,Nat.reduceLeDiff,Nat.reduceAdd,bs87,ba87_87,f5,f6,f7,e1,hap,e2]
     refine⟨m - 1,by omega,i+1,s / 4294967296,os ++ [s % 4294967296],out',by omega,by simp[f0],by simp[f1],by simp,by simp,by simp,by omega,by simp[hos],hd.append (by omega),by omega,fun hh=>?_,?_,by rw[←map_snoc];exact hA',hE'⟩
     ·have h1:=getD_of_ge (ds:=a) (k:=i) (by omega)
      have h2:=getD_of_ge (ds:=b) (k:=i) (by omega)
      omega
     ·rw[valD_append,valT,valT,hos]
      have h5:s % 4294967296+s / 4294967296*4294967296=c+a.getD i 0+b.getD i 0:=by omega
      grind
 ·refine cut (fun fr2 h2=>False) ?_ (fun _ _ h=>h.elim)
  simp -dsimp (disch:=omega) only[wpS,wpT,Nat.reduceEqDiff,f0,f1,f5,f6,f7,ha.1.len sl87,hb.1.len sl87]
  obtain rfl:c=0:=by omega
  rw[valT_ge (by omega),valT_ge (by omega)] at hv
  exact⟨hE,os,⟨by rw[hos];exact hA.sl,hd,by omega⟩,by omega⟩
end Go.Id

/-! Contracts: the reference's long integers, third part: sums, differences, comparisons. -/
namespace Go.Id
open Go
@[irreducible] def Small (x:Nat):Prop:=x<4294967296 ^ 1000000
theorem Small.lt {x:Nat} (h:Small x):x<4294967296 ^ 1000000:=by unfold Small at h;exact h
theorem Small.mk {x:Nat} (h:x<4294967296 ^ 1000000):Small x:=by unfold Small;exact h
theorem Small.le {x y:Nat} (h:Small x) (k:y≤x):Small y:=.mk (Nat.lt_of_le_of_lt k h.lt)
theorem Norm.small {ds:List Nat} (h:Norm ds) (hs:Small (valD ds)):ds.length≤1000000:=by
 by_cases hne:ds = []
 ·subst hne;simp
 ·have h1:=h.ge hne
  have h2:4294967296 ^ (ds.length - 1)<4294967296 ^ 1000000:=Nat.lt_of_le_of_lt h1 hs.lt
  have:=(Nat.pow_lt_pow_iff_right (a:=4294967296) (by omega)).1 h2
  omega
abbrev SmallI (z:Int):Prop:=Small z.natAbs
theorem turn_ok {h:IH} {v:Value} {z:Int} (hv:LongIs h v z):WV Proofs.Tryz.prog (.func (.func 157) #[] #[]) [v] h fun r h'=>Ext h h'∧LongIs h' r (-z):=by
 obtain⟨s,rfl,ds,hD,hN,hx⟩:=hv
 refine enter (nt:=9) (rs:=[.cell 2 89]) Proofs.Tryz.func157 rfl rfl rfl (by simp) ?_
 simp -dsimp (maxSteps:=1000000) (disch:=first|omega|(simp only[new_n,put_n];omega)|decide +kernel|(repeat first|rw[new_n]|rw[put_n])) only[wpS,Nat.reduceEqDiff,zc89,fa89_0,ld4,fa89_1,ld87]
 refine call (made_ok (hD.keep (((Keep.refl h).new _).new _)) _) ?_
 rintro r h1 ⟨hE,s1,rfl,h2⟩
 have hg:h1.ext.get (h.n+1)=some (.cells [.bool false,.slice none 0 0] 0 none):=by
  rw[hE.get _ (by simp)];exact get_new_same _ _ rfl
 obtain⟨ds1,hD1,hr1⟩:=h2
 simp -dsimp (maxSteps:=1000000) (disch:=first|omega|(simp only[new_n,put_n];omega)|decide +kernel|(repeat first|rw[new_n]|rw[put_n])) only[wpS,wpT,Nat.reduceEqDiff,Nat.reduceLeDiff,Nat.reduceAdd,st89,ld89,hg,hD1.1.cok]
 refine⟨((((Ext.refl h).new _).new _).trans hE).put (by omega) _,?_⟩
 have hz:(if (!decide (z<0))=true then -(valD ds:Int) else valD ds) = -z:=by
  by_cases h0:z<0<;>simp[h0]<;>omega
 rw[hz] at hr1 ⊢
 exact⟨s1,rfl,ds1,hD1.keep ((Keep.refl _).put hg _),hr1⟩
set_option maxHeartbeats 4000000 in
theorem plus_ok {h:IH} {v w:Value} {x y:Int} (hv:LongIs h v x) (hw:LongIs h w y) (sx:SmallI x) (sy:SmallI y) :
  WV Proofs.Tryz.prog (.func (.func 119) #[] #[]) [v,w] h fun r h'=>Ext h h'∧LongIs h' r (x+y):=by
 obtain⟨s,rfl,a,ha,na,hx⟩:=hv
 obtain⟨t,rfl,b,hb,nb,hy⟩:=hw
 have la:a.length≤1000000:=na.small (by rw[hx];exact sx)
 have lb:b.length≤1000000:=nb.small (by rw[hy];exact sy)
 refine enter (nt:=40) (rs:=[.cell 4 89]) Proofs.Tryz.func119 rfl rfl rfl (by simp) ?_
 simp -dsimp (maxSteps:=1000000) (disch:=first|omega|(simp only[new_n,put_n];omega)|decide +kernel|(repeat first|rw[new_n]|rw[put_n])) only[wpS,Nat.reduceEqDiff,Nat.reduceAdd,zc89,fa89_0,ld4,be4]
 have kk : ∀o1 o2 o3,Keep h (((h.new o1).new o2).new o3):=fun o1 o2 o3=>(((Keep.refl h).new _).new _).new _
 have ee : ∀o1 o2 o3,Ext h (((h.new o1).new o2).new o3):=fun o1 o2 o3=>(((Ext.refl h).new _).new _).new _
 refine bq_intro (fun hc=>?_) (fun hc=>?_)
 ·have hc:(x<0↔y<0):=by simpa using hc
  simp -dsimp (maxSteps:=1000000) (disch:=first|omega|(simp only[new_n,put_n];omega)|decide +kernel|(repeat first|rw[new_n]|rw[put_n])) only[wpS]
  refine drawn [(1,[7])] (by kernel_rfl) (by kernel_rfl) rfl ?_
  simp -dsimp (maxSteps:=1000000) (disch:=first|omega|(simp only[new_n,put_n];omega)|decide +kernel|(repeat first|rw[new_n]|rw[put_n])) only[wpS,Nat.reduceEqDiff,fa89_0,ld4,fa89_1,ld87]
  refine call (more_ok (ha.keep (kk _ _ _)) (hb.keep (kk _ _ _)) (by omega) (by omega)) ?_
  rintro r h1 ⟨hE,os,hD,hval⟩
  simp -dsimp (maxSteps:=1000000) (disch:=first|omega|(simp only[new_n,put_n];omega)|decide +kernel|(repeat first|rw[new_n]|rw[put_n])) only[wpS,Nat.reduceEqDiff]
  refine call (made_ok hD _) ?_
  rintro r2 h2 ⟨hE2,s1,rfl,ds1,hD1,hr1⟩
  have hg:h2.ext.get (h.n+1+1)=some (.cells [.bool false,.slice none 0 0] 0 none):=by
   rw[hE2.get _ (by have:=hE.n;simp at this;omega),hE.get _ (by simp)];exact get_new_same _ _ rfl
  have hrow : ∀k',k'≤h.n→True:=fun _ _=>trivial
  have hr0:h1.row (2*h.n)=some [.bool (decide (x<0)),s]:=by
   rw[hE.row (by simp<;>omega)];simp -dsimp (maxSteps:=1000000) (disch:=first|omega|(simp only[new_n,put_n];omega)|decide +kernel|(repeat first|rw[new_n]|rw[put_n])) only[wpS]
  simp -dsimp (maxSteps:=1000000) (disch:=first|omega|(simp only[new_n,put_n];omega)|decide +kernel|(repeat first|rw[new_n]|rw[put_n])) only[wpS,wpT,Nat.reduceEqDiff,Nat.reduceLeDiff,Nat.reduceAdd,st89,hg,hD1.1.cok]
  refine⟨wpSteady_one rfl rfl rfl rfl (steady_load (av:=ptr (2*h.n) 0) (v:=.bool (decide (x<0))) rfl ?_ ?_),?_⟩
  ·simp -dsimp (maxSteps:=1000000) (disch:=first|omega|(simp only[new_n,put_n];omega)|decide +kernel|(repeat first|rw[new_n]|rw[put_n])) only[wpS,ld4]
  ·simp -dsimp (maxSteps:=1000000) (disch:=first|omega|(simp only[new_n,put_n];omega)|decide +kernel|(repeat first|rw[new_n]|rw[put_n])) only[wpS,ld4,hr0]
  ·simp -dsimp (maxSteps:=1000000) (disch:=first|omega|(simp only[new_n,put_n];omega)|decide +kernel|(repeat first|rw[new_n]|rw[put_n])) only[wpS,wpT,Nat.reduceEqDiff,Nat.reduceLeDiff,Nat.reduceAdd,ld89]
   refine⟨(((ee _ _ _).trans hE).trans hE2).put (by omega) _,?_⟩
   have hz:(if decide (x<0)=true then -(valD os:Int) else valD os)=x+y:=by
    by_cases h0:x<0<;>simp[h0]<;>omega
   rw[hz] at hr1 ⊢
   exact⟨s1,rfl,ds1,hD1.keep ((Keep.refl _).put hg _),hr1⟩
 ·have hc : ¬(x<0↔y<0):=by simpa using hc
  simp -dsimp (maxSteps:=1000000) (disch:=first|omega|(simp only[new_n,put_n];omega)|decide +kernel|(repeat first|rw[new_n]|rw[put_n])) only[wpS,Nat.reduceEqDiff,fa89_1,ld87]
  refine call (order_ok (ha.keep (kk _ _ _)) (hb.keep (kk _ _ _)) na nb) ?_
  rintro r h1 ⟨rfl,c,rfl,hc1,hc2,hc3,hc4⟩
  simp -dsimp (maxSteps:=1000000) (disch:=first|omega|(simp only[new_n,put_n];omega)|decide +kernel|(repeat first|rw[new_n]|rw[put_n])) only[wpS,Nat.reduceEqDiff]
  refine bq_intro ?_ ?_<;>intro hc5<;>simp only[decide_eq_true_eq,decide_eq_false_iff_not] at hc5
  ·simp -dsimp (maxSteps:=1000000) (disch:=first|omega|(simp only[new_n,put_n];omega)|decide +kernel|(repeat first|rw[new_n]|rw[put_n])) only[wpS,wpT]
   refine drawn [(1,[7])] (by kernel_rfl) (by kernel_rfl) rfl ?_
   simp -dsimp (maxSteps:=1000000) (disch:=first|omega|(simp only[new_n,put_n];omega)|decide +kernel|(repeat first|rw[new_n]|rw[put_n])) only[wpS,Nat.reduceEqDiff,fa89_0,ld4,fa89_1,ld87]
   refine call (less_ok (ha.keep (kk _ _ _)) (hb.keep (kk _ _ _)) nb (by omega)) ?_
   rintro r h1 ⟨hE,os,hD,hN,hval⟩
   simp -dsimp (maxSteps:=1000000) (disch:=first|omega|(simp only[new_n,put_n];omega)|decide +kernel|(repeat first|rw[new_n]|rw[put_n])) only[wpS,Nat.reduceEqDiff]
   refine call (made_ok hD _) ?_
   rintro r2 h2 ⟨hE2,s1,rfl,ds1,hD1,hr1⟩
   have hg:h2.ext.get (h.n+1+1)=some (.cells [.bool false,.slice none 0 0] 0 none):=by
    rw[hE2.get _ (by have:=hE.n;simp at this;omega),hE.get _ (by simp)];exact get_new_same _ _ rfl
   have hr0:h1.row (2*h.n)=some [.bool (decide (x<0)),s]:=by
    rw[hE.row (by simp<;>omega)];simp -dsimp (maxSteps:=1000000) (disch:=first|omega|(simp only[new_n,put_n];omega)|decide +kernel|(repeat first|rw[new_n]|rw[put_n])) only[wpS]
   simp -dsimp (maxSteps:=1000000) (disch:=first|omega|(simp only[new_n,put_n];omega)|decide +kernel|(repeat first|rw[new_n]|rw[put_n])) only[wpS,wpT,Nat.reduceEqDiff,Nat.reduceLeDiff,Nat.reduceAdd,st89,hg,hD1.1.cok]
   refine⟨wpSteady_one rfl rfl rfl rfl (steady_load (av:=ptr (2*h.n) 0) (v:=.bool (decide (x<0))) rfl ?_ ?_),?_⟩
   ·simp -dsimp (maxSteps:=1000000) (disch:=first|omega|(simp only[new_n,put_n];omega)|decide +kernel|(repeat first|rw[new_n]|rw[put_n])) only[wpS,ld4]
   ·simp -dsimp (maxSteps:=1000000) (disch:=first|omega|(simp only[new_n,put_n];omega)|decide +kernel|(repeat first|rw[new_n]|rw[put_n])) only[wpS,ld4,hr0]
   ·simp -dsimp (maxSteps:=1000000) (disch:=first|omega|(simp only[new_n,put_n];omega)|decide +kernel|(repeat first|rw[new_n]|rw[put_n])) only[wpS,wpT,Nat.reduceEqDiff,Nat.reduceLeDiff,Nat.reduceAdd,ld89]
    refine⟨(((ee _ _ _).trans hE).trans hE2).put (by omega) _,?_⟩
    have hz:(if decide (x<0)=true then -(valD os:Int) else valD os).natAbs=(x+y).natAbs∧((if decide (x<0)=true then -(valD os:Int) else valD os)<0↔x+y<0):=by
     by_cases h0:x<0<;>simp[h0]<;>omega
    rw[hz.1] at hr1
    refine⟨s1,?_,ds1,hD1.keep ((Keep.refl _).put hg _),hr1⟩
    simp only[hz.2]<;>rfl
  ·simp -dsimp (maxSteps:=1000000) (disch:=first|omega|(simp only[new_n,put_n];omega)|decide +kernel|(repeat first|rw[new_n]|rw[put_n])) only[wpS,wpT]
   refine drawn [(1,[7])] (by kernel_rfl) (by kernel_rfl) rfl ?_
   simp -dsimp (maxSteps:=1000000) (disch:=first|omega|(simp only[new_n,put_n];omega)|decide +kernel|(repeat first|rw[new_n]|rw[put_n])) only[wpS,Nat.reduceEqDiff,fa89_0,ld4,fa89_1,ld87]
   refine call (less_ok (hb.keep (kk _ _ _)) (ha.keep (kk _ _ _)) na (by omega)) ?_
   rintro r h1 ⟨hE,os,hD,hN,hval⟩
   simp -dsimp (maxSteps:=1000000) (disch:=first|omega|(simp only[new_n,put_n];omega)|decide +kernel|(repeat first|rw[new_n]|rw[put_n])) only[wpS,Nat.reduceEqDiff]
   refine call (made_ok hD _) ?_
   rintro r2 h2 ⟨hE2,s1,rfl,ds1,hD1,hr1⟩
   have hg:h2.ext.get (h.n+1+1)=some (.cells [.bool false,.slice none 0 0] 0 none):=by
    rw[hE2.get _ (by have:=hE.n;simp at this;omega),hE.get _ (by simp)];exact get_new_same _ _ rfl
   have hr0:h1.row (2*(h.n+1))=some [.bool (decide (y<0)),t]:=by
    rw[hE.row (by simp<;>omega)];simp -dsimp (maxSteps:=1000000) (disch:=first|omega|(simp only[new_n,put_n];omega)|decide +kernel|(repeat first|rw[new_n]|rw[put_n])) only[wpS]
   simp -dsimp (maxSteps:=1000000) (disch:=first|omega|(simp only[new_n,put_n];omega)|decide +kernel|(repeat first|rw[new_n]|rw[put_n])) only[wpS,wpT,Nat.reduceEqDiff,Nat.reduceLeDiff,Nat.reduceAdd,st89,hg,hD1.1.cok]
   refine⟨wpSteady_one rfl rfl rfl rfl (steady_load (av:=ptr (2*(h.n+1)) 0) (v:=.bool (decide (y<0))) rfl ?_ ?_),?_⟩
   ·simp -dsimp (maxSteps:=1000000) (disch:=first|omega|(simp only[new_n,put_n];omega)|decide +kernel|(repeat first|rw[new_n]|rw[put_n])) only[wpS,ld4]
   ·simp -dsimp (maxSteps:=1000000) (disch:=first|omega|(simp only[new_n,put_n];omega)|decide +kernel|(repeat first|rw[new_n]|rw[put_n])) only[wpS,ld4,hr0]
   ·simp -dsimp (maxSteps:=1000000) (disch:=first|omega|(simp only[new_n,put_n];omega)|decide +kernel|(repeat first|rw[new_n]|rw[put_n])) only[wpS,wpT,Nat.reduceEqDiff,Nat.reduceLeDiff,Nat.reduceAdd,ld89]
    refine⟨(((ee _ _ _).trans hE).trans hE2).put (by omega) _,?_⟩
    have hz:(if decide (y<0)=true then -(valD os:Int) else valD os).natAbs=(x+y).natAbs∧((if decide (y<0)=true then -(valD os:Int) else valD os)<0↔x+y<0):=by
     by_cases h0:y<0<;>simp[h0]<;>omega
    rw[hz.1] at hr1
    refine⟨s1,?_,ds1,hD1.keep ((Keep.refl _).put hg _),hr1⟩
    simp only[hz.2]<;>rfl
end Go.Id

/-! Contracts: the reference's long integers, fourth part: differences, comparisons, integers. -/
namespace Go.Id
open Go
theorem LongIs.form {h:IH} {v:Value} {z:Int} (d:LongIs h v z) : ∃s n,v=.agg #[.bool (decide (z<0)),s]∧s.cells = #[s]∧cellOK s=true∧(∀{P:Program} {t:TypeId} (_:isSliceT P (some t)=true) (h':IH),lenB P h' t s=some (.int .i64 ((n:Nat):Int)))∧(n=0↔z=0):=by
 obtain⟨s,rfl,ds,hD,hN,hx⟩:=d
 refine⟨s,ds.length,rfl,hD.1.cells,hD.1.cok,fun hT h'=>hD.1.len hT h',?_⟩
 have:=hN.nil_iff
 rw[hx] at this
 rw[List.length_eq_zero_iff,←this];omega
set_option maxHeartbeats 2000000 in
theorem minus_ok {h:IH} {v w:Value} {x y:Int} (hv:LongIs h v x) (hw:LongIs h w y) (sx:SmallI x) (sy:SmallI y) :
  WV Proofs.Tryz.prog (.func (.func 164) #[] #[]) [v,w] h fun r h'=>Ext h h'∧LongIs h' r (x - y):=by
 obtain⟨s,n1,rfl,c1,o1,l1,z1⟩:=hv.form
 obtain⟨t,n2,rfl,c2,o2,l2,z2⟩:=hw.form
 refine enter (nt:=9) (rs:=[.cell 4 89]) Proofs.Tryz.func164 rfl rfl rfl (by simp) ?_
 simp -dsimp (maxSteps:=1000000) (disch:=first|omega|(simp only[new_n,put_n];omega)|decide +kernel|(repeat first|rw[new_n]|rw[put_n])) only[wpS,Nat.reduceEqDiff,Nat.reduceAdd,zc89]
 have kk : ∀o1 o2 o3,Keep h (((h.new o1).new o2).new o3):=fun o1 o2 o3=>(((Keep.refl h).new _).new _).new _
 have ee : ∀o1 o2 o3,Ext h (((h.new o1).new o2).new o3):=fun o1 o2 o3=>(((Ext.refl h).new _).new _).new _
 refine drawn [(0,[3])] (by kernel_rfl) (by kernel_rfl) rfl ?_
 simp -dsimp (maxSteps:=1000000) (disch:=first|omega|(simp only[new_n,put_n];omega)|decide +kernel|(repeat first|rw[new_n]|rw[put_n])) only[wpS,wpT,Nat.reduceEqDiff,Nat.reduceLeDiff,Nat.reduceAdd,ld89]
 refine call (turn_ok (hw.keep (kk _ _ _))) ?_
 rintro r h1 ⟨hE,hT⟩
 simp -dsimp (maxSteps:=1000000) (disch:=first|omega|(simp only[new_n,put_n];omega)|decide +kernel|(repeat first|rw[new_n]|rw[put_n])) only[wpS,Nat.reduceEqDiff]
 refine call (plus_ok (hv.keep ((kk _ _ _).trans hE.keep)) hT sx (by rw[SmallI,Int.natAbs_neg];exact sy)) ?_
 rintro r2 h2 ⟨hE2,hr⟩
 obtain⟨s1,n3,rfl,c3,o3,l3,z3⟩:=hr.form
 have hg:h2.ext.get (h.n+1+1)=some (.cells [.bool false,.slice none 0 0] 0 none):=by
  rw[hE2.get _ (by have:=hE.n;simp at this;omega),hE.get _ (by simp)];exact get_new_same _ _ rfl
 have hr0:h1.row (2*h.n)=some [.bool (decide (x<0)),s]:=by
  rw[hE.row (by simp<;>omega)];simp -dsimp (maxSteps:=1000000) (disch:=first|omega|(simp only[new_n,put_n];omega)|decide +kernel|(repeat first|rw[new_n]|rw[put_n])) only[wpS]
 simp -dsimp (maxSteps:=1000000) (disch:=first|omega|(simp only[new_n,put_n];omega)|decide +kernel|(repeat first|rw[new_n]|rw[put_n])) only[wpS,wpT,Nat.reduceEqDiff,Nat.reduceLeDiff,Nat.reduceAdd,st89,hg,o3]
 refine⟨wpSteady_one rfl rfl rfl rfl (steady_load (av:=ptr (2*h.n) 0) (v:=.agg #[.bool (decide (x<0)),s]) rfl ?_ ?_),?_⟩
 ·simp -dsimp (maxSteps:=1000000) (disch:=first|omega|(simp only[new_n,put_n];omega)|decide +kernel|(repeat first|rw[new_n]|rw[put_n])) only[wpS,wpT,Nat.reduceLeDiff,Nat.reduceAdd,ld89]
  rfl
 ·simp -dsimp (maxSteps:=1000000) (disch:=first|omega|(simp only[new_n,put_n];omega)|decide +kernel|(repeat first|rw[new_n]|rw[put_n])) only[wpS,wpT,Nat.reduceLeDiff,Nat.reduceAdd,ld89,hr0]
  rfl
 ·simp -dsimp (maxSteps:=1000000) (disch:=first|omega|(simp only[new_n,put_n];omega)|decide +kernel|(repeat first|rw[new_n]|rw[put_n])) only[wpS,wpT,Nat.reduceEqDiff,Nat.reduceLeDiff,Nat.reduceAdd,ld89]
  refine⟨(((ee _ _ _).trans hE).trans hE2).put (by omega) _,?_⟩
  have:x + -y=x - y:=by omega
  rw[this] at hr ⊢
  exact hr.keep ((Keep.refl _).put hg _)
theorem lorder_ok {h:IH} {v w:Value} {x y:Int} (hv:LongIs h v x) (hw:LongIs h w y) (sx:SmallI x) (sy:SmallI y) :
  WV Proofs.Tryz.prog (.func (.func 132) #[] #[]) [v,w] h fun r h'=>Ext h h'∧r=KI (if x<y then -1 else if y<x then 1 else 0):=by
 obtain⟨s,n1,rfl,c1,o1,l1,z1⟩:=hv.form
 obtain⟨t,n2,rfl,c2,o2,l2,z2⟩:=hw.form
 refine enter (nt:=15) (rs:=[.tmp 4]) Proofs.Tryz.func132 rfl rfl rfl (by simp) ?_
 simp -dsimp (maxSteps:=1000000) (disch:=first|omega|(simp only[new_n,put_n];omega)|decide +kernel|(repeat first|rw[new_n]|rw[put_n])) only[wpS,wpT,Nat.reduceEqDiff,Nat.reduceLeDiff,Nat.reduceAdd,ld89]
 refine call (minus_ok (hv.keep (((Keep.refl h).new _).new _)) (hw.keep (((Keep.refl h).new _).new _)) sx sy) ?_
 rintro r h1 ⟨hE,hr⟩
 obtain⟨s1,n3,rfl,c3,o3,l3,z3⟩:=hr.form
 have hE2:Ext h h1:=(((Ext.refl h).new _).new _).trans hE
 simp -dsimp (maxSteps:=1000000) (disch:=first|omega|(simp only[new_n,put_n];omega)|decide +kernel|(repeat first|rw[new_n]|rw[put_n])) only[wpS,wpT,Nat.reduceEqDiff,Nat.reduceLeDiff,Nat.reduceAdd,zc89,st89,fa89_0,ld4,o3]
 refine bq_intro ?_ ?_<;>intro hc<;>simp only[decide_eq_true_eq,decide_eq_false_iff_not] at hc
 ·simp -dsimp (maxSteps:=1000000) (disch:=first|omega|(simp only[new_n,put_n];omega)|decide +kernel|(repeat first|rw[new_n]|rw[put_n])) only[wpS,wpT,Nat.reduceEqDiff]
  refine⟨(hE2.new _).put hE2.n _,?_⟩
  rw[if_pos (by omega)]
 ·simp -dsimp (maxSteps:=1000000) (disch:=first|omega|(simp only[new_n,put_n];omega)|decide +kernel|(repeat first|rw[new_n]|rw[put_n])) only[wpS,wpT,Nat.reduceEqDiff,fa89_1,ld87,l3 sl87]
  refine bq_intro ?_ ?_<;>intro hc2<;>simp only[decide_eq_true_eq,decide_eq_false_iff_not] at hc2
  ·simp -dsimp (maxSteps:=1000000) (disch:=first|omega|(simp only[new_n,put_n];omega)|decide +kernel|(repeat first|rw[new_n]|rw[put_n])) only[wpS,wpT,Nat.reduceEqDiff]
   refine⟨(hE2.new _).put hE2.n _,?_⟩
   rw[if_neg (by omega),if_pos (by omega)]
  ·simp -dsimp (maxSteps:=1000000) (disch:=first|omega|(simp only[new_n,put_n];omega)|decide +kernel|(repeat first|rw[new_n]|rw[put_n])) only[wpS,wpT]
   refine⟨(hE2.new _).put hE2.n _,?_⟩
   rw[if_neg (by omega),if_neg (by omega)]
end Go.Id

/-! Words to the base 2^64: plain numbers. -/
namespace Go.Id
def wrd (n i:Nat):Nat:=n / 18446744073709551616 ^ i % 18446744073709551616
theorem wrd_lt (n i:Nat):wrd n i<18446744073709551616:=Nat.mod_lt _ (by omega)
theorem mod_wrd (n i:Nat):n % 18446744073709551616 ^ (i+1)=n % 18446744073709551616 ^ i+18446744073709551616 ^ i*wrd n i:=Nat.mod_pow_succ
theorem pow_two (i:Nat):4294967296 ^ (2*i)=18446744073709551616 ^ i:=by
 rw[Nat.pow_mul]
theorem pow_odd (i:Nat):4294967296 ^ (2*i+1)=4294967296*18446744073709551616 ^ i:=by
 rw[Nat.pow_succ,pow_two,Nat.mul_comm]
theorem wrd_high {n i j:Nat} (h:n<18446744073709551616 ^ i) (hj:i≤j):wrd n j=0:=by
 have:n<18446744073709551616 ^ j:=Nat.lt_of_lt_of_le h (Nat.pow_le_pow_right (by omega) hj)
 rw[wrd,Nat.div_eq_of_lt this]
theorem wrd_add_low {n x i j:Nat} (hj:j<i):wrd (n+x*18446744073709551616 ^ i) j=wrd n j:=by
 obtain⟨d,rfl⟩ : ∃d,i=j+1+d:=⟨i - j - 1,by omega⟩
 rw[wrd,wrd,show x*18446744073709551616 ^ (j+1+d)=18446744073709551616 ^ j*(18446744073709551616*(x*18446744073709551616 ^ d)) from by
  rw[Nat.pow_add,Nat.pow_add];grind]
 rw[Nat.add_mul_div_left _ _ (Nat.pow_pos (by omega)),Nat.add_mul_mod_self_left]
theorem wrd_add_at {n x i:Nat} (h:n<18446744073709551616 ^ (i+1)) (hx:wrd n i+x<18446744073709551616):wrd (n+x*18446744073709551616 ^ i) i=wrd n i+x:=by
 have h1:n / 18446744073709551616 ^ i<18446744073709551616:=by
  rw[Nat.div_lt_iff_lt_mul (Nat.pow_pos (by omega))]
  rw[Nat.pow_succ] at h;rw[Nat.mul_comm];exact h
 have h2:wrd n i=n / 18446744073709551616 ^ i:=Nat.mod_eq_of_lt h1
 rw[wrd,Nat.add_mul_div_right _ _ (Nat.pow_pos (by omega)),←h2,Nat.mod_eq_of_lt hx]
theorem add_at_lt {n x i:Nat} (h:n<18446744073709551616 ^ (i+1)) (hx:wrd n i+x<18446744073709551616):n+x*18446744073709551616 ^ i<18446744073709551616 ^ (i+1):=by
 have h1:n / 18446744073709551616 ^ i<18446744073709551616:=by
  rw[Nat.div_lt_iff_lt_mul (Nat.pow_pos (by omega))]
  rw[Nat.pow_succ] at h;rw[Nat.mul_comm];exact h
 have h2:wrd n i=n / 18446744073709551616 ^ i:=Nat.mod_eq_of_lt h1
 have hp:0<18446744073709551616 ^ i:=Nat.pow_pos (by omega)
 have h3:=Nat.div_add_mod n (18446744073709551616 ^ i)
 have h4:=Nat.mod_lt n hp
 rw[h2] at hx
 have h5:(n / 18446744073709551616 ^ i+x+1)*18446744073709551616 ^ i≤18446744073709551616*18446744073709551616 ^ i:=Nat.mul_le_mul_right _ (by omega)
 rw[Nat.pow_succ]
 generalize 18446744073709551616 ^ i=p at *
 have h6:(n / p+x+1)*p=p*(n / p)+x*p+p:=by grind
 rw[Nat.mul_comm 18446744073709551616 p] at h5
 omega
@[irreducible] def W8:Nat:=18446744073709551616 ^ 8
@[irreducible] def H8:Nat:=9223372036854775808*18446744073709551616 ^ 7
theorem W8_eq:W8=18446744073709551616 ^ 8:=by unfold W8;rfl
theorem W8_two:W8=2*H8:=by unfold W8 H8;rfl
theorem W8_dig:W8=4294967296 ^ 16:=by unfold W8;rfl
theorem H8_dig:H8=2147483648*4294967296 ^ 15:=by unfold H8;rfl
theorem H8_big:9223372036854775808<H8:=by unfold H8;decide
def wdI (n:Nat):Int:=if n<H8 then (n:Int) else (n:Int) - W8
theorem wrd7 {n:Nat} (h:n<W8):wrd n 7<9223372036854775808↔n<H8:=by
 rw[W8_eq] at h
 unfold H8
 have h1:n / 18446744073709551616 ^ 7<18446744073709551616:=by
  rw[Nat.div_lt_iff_lt_mul (Nat.pow_pos (by decide))];exact h
 rw[wrd,Nat.mod_eq_of_lt h1,Nat.div_lt_iff_lt_mul (Nat.pow_pos (by decide))]
end Go.Id

/-! Contracts: the reference's long integers, fifth part: words. -/
namespace Go.Id
open Go
def wdC (n:Nat):List Value:=(List.range 8).map fun i=>K64 (wrd n i)
def wdV (n:Nat):Value:=.agg (wdC n).toArray
theorem wdC_len (n:Nat):(wdC n).length=8:=by simp[wdC]
theorem wdC_get (n i:Nat) (hi:i<8):(wdC n)[i]?=some (K64 (wrd n i)):=by simp[wdC,hi]
theorem wdV_cells (n:Nat):(wdV n).cells.toList=wdC n:=rfl
theorem wdC_all (n:Nat):(wdC n).all cellOK=true:=by simp[wdC,cellOK]
set_option maxHeartbeats 1000000 in
theorem halves_ok {h:IH} (n:Nat):WV Proofs.Tryz.prog (.func (.func 142) #[] #[]) [wdV n] h fun r h'=>Ext h h' ∧ ∃os,DigU h' r os∧os.length=16∧valD os=n % W8:=by
 refine enter (nt:=23) (rs:=[.tmp 2]) Proofs.Tryz.func142 rfl rfl rfl (by simp) ?_
 simp -dsimp (disch:=omega) only[wpS,wdV_cells]
 refine loop (fun m fr h1 => ∃(i:Nat) (os:List Nat) (out:Value),i+m=8∧fget fr 1=some (ptr (2*h.n) 0)∧fget fr 3=some out∧fget fr 4=some (KN i)∧os.length=2*i∧Digs os∧valD os=n % 18446744073709551616 ^ i ∧
  Acc h1 (h.n+1) 1 out (2*i) (os.map KN)∧Ext (h.new (.cells (wdC n) 0 none)) h1) 8 ⟨0,[],.slice none 0 0,by simp,by simp,by simp,by simp,rfl,fun d hd=>(by cases hd),by simp[valD,valT,Nat.mod_one],Acc.nil _ _ (by omega),Ext.refl _⟩ ?_
 rintro m fr h1 ⟨i,os,out,him,f1,f3,f4,hos,hd,hv,hA,hE⟩
 have hr:h1.row (2*h.n)=some (wdC n):=by rw[hE.row (by simp)];exact row_new_same _ _ _ _ rfl
 simp -dsimp (disch:=omega) only[wpS,Nat.reduceEqDiff,f4]
 refine bq_intro ?_ ?_<;>intro hc<;>simp only[decide_eq_true_eq,decide_eq_false_iff_not] at hc
 ·have hi:i<8:=by omega
  have hw:=wrd_lt n i
  have e1:((wrd n i:Int) % 4294967296)=((wrd n i % 4294967296:Nat):Int):=by omega
  have e2:((wrd n i:Int) / 4294967296)=((wrd n i / 4294967296:Nat):Int):=by omega
  simp -dsimp (disch:=omega) only[wpS,wpT]
  refine drawn [(3,[12]),(8,[12])] (by kernel_rfl) (by kernel_rfl) rfl ?_
  obtain⟨out',h',hap,hA',hG,hE'⟩:=hA.app2 (P:=Proofs.Tryz.prog) (t:=87) ap87 (x:=KN (wrd n i % 4294967296)) (y:=KN (wrd n i / 4294967296)) rfl rfl (by omega) hE.n hE (by simp)
  simp -dsimp (disch:=omega) only[wpS,wpT,Nat.reduceEqDiff,Nat.reduceLeDiff,Nat.reduceAdd,Nat.reduceMul,ar28,ld26,cv26_3,bs87,ba87_87,f1,f3,f4,hr,ar28,wdC_get n i hi,e1,e2,hap]
  refine⟨wpSteady_cons (wpSteady_one rfl rfl rfl rfl (steady_load (av:=ptr (2*h.n) (0+i)) (v:=K64 (wrd n i)) (by simp) ?_ ?_)) (wpSteady_one rfl rfl rfl rfl (steady_load (av:=ptr (2*h.n) (0+i)) (v:=K64 (wrd n i)) (by simp) ?_ ?_)),?_⟩
  ·simp -dsimp (disch:=omega) only[wpS,ld26,hr,wdC_get n i hi]
  ·have:=hE.n
   simp at this
   simp -dsimp (disch:=omega) only[wpS,ld26,hr,wdC_get n i hi]
  ·simp -dsimp (disch:=omega) only[wpS,ld26,hr,wdC_get n i hi]
  ·have:=hE.n
   simp at this
   simp -dsimp (disch:=omega) only[wpS,ld26,hr,wdC_get n i hi]
  ·simp -dsimp (disch:=omega) only[wpS,wpT,Nat.reduceEqDiff,Nat.reduceAdd,f4]
   refine⟨m - 1,by omega,i+1,os ++ [wrd n i % 4294967296] ++ [wrd n i / 4294967296],out',by omega,by simp[f1],by simp,by simp,by simp[hos];omega,(hd.append (by omega)).append (by omega),?_,?_,hE'⟩
   ·rw[valD_append,valD_append,hv,mod_wrd]
    have h1:(os ++ [wrd n i % 4294967296]).length=2*i+1:=by simp[hos]
    rw[h1,hos,pow_two,pow_odd]
    have h2:wrd n i % 4294967296+4294967296*(wrd n i / 4294967296)=wrd n i:=Nat.mod_add_div _ _
    generalize hx:wrd n i % 4294967296=x at *
    generalize hy:wrd n i / 4294967296=y at *
    rw[←h2]
    grind
   ·have:List.map KN os ++ [KN (wrd n i % 4294967296),KN (wrd n i / 4294967296)]=(os ++ [wrd n i % 4294967296] ++ [wrd n i / 4294967296]).map KN:=by simp
    rw[←this];exact hA'
 ·obtain rfl:i=8:=by omega
  simp -dsimp (disch:=omega) only[wpS,wpT,Nat.reduceEqDiff,f3]
  exact⟨((Ext.refl h).new _).trans hE,os,⟨by rw[hos];exact hA.sl,hd,by omega⟩,hos,by rw[W8_eq];exact hv⟩
end Go.Id

/-! Contracts: the reference's long integers, sixth part: wide integers read and written. -/
namespace Go.Id
open Go
theorem wd_take (n:Nat):List.take 8 (List.drop 0 (wdC n))=wdC n:=by
 rw[List.drop_zero,List.take_of_length_le (by rw[wdC_len];omega)]
set_option maxRecDepth 100000 in
set_option maxHeartbeats 1000000 in
theorem in_ok {h:IH} (n:Nat) (hn:n<W8):WV Proofs.Tryz.prog (.func (.func 101) #[] #[]) [wdV n] h fun r h'=>Ext h h'∧LongIs h' r (wdI n):=by
 refine enter (nt:=20) (rs:=[.cell 2 89]) Proofs.Tryz.func101 rfl rfl rfl (by simp) ?_
 simp -dsimp (maxSteps:=1000000) (disch:=first|omega|(simp only[new_n,put_n];omega)|decide +kernel|(repeat first|rw[new_n]|rw[put_n])) only[wpS,Nat.reduceEqDiff,Nat.reduceLeDiff,zc89,ld28,wdV_cells,wdC_len,wd_take]
 refine call (halves_ok n) ?_
 rintro d h1 ⟨hE,os,hD,hos,hval⟩
 rw[Nat.mod_eq_of_lt hn] at hval
 have hE1:Ext h h1:=(((Ext.refl h).new _).new _).trans hE
 have hr:h1.row (2*h.n)=some (wdC n):=by
  rw[hE.row (by simp<;>omega)];simp -dsimp (maxSteps:=1000000) (disch:=first|omega|(simp only[new_n,put_n];omega)|decide +kernel|(repeat first|rw[new_n]|rw[put_n])) only[wpS]
 have h7:=wrd7 hn
 simp -dsimp (maxSteps:=1000000) (disch:=first|omega|(simp only[new_n,put_n];omega)|decide +kernel|(repeat first|rw[new_n]|rw[put_n])) only[wpS,wpT,Nat.reduceEqDiff,Nat.reduceAdd,Nat.reduceMul,Int.reduceToNat,ar28,ld26,ms87,es87,hr,ar28,wdC_get n 7 (by omega),show idxAt 7 8=some 7 from rfl]
 refine bq_intro ?_ ?_<;>intro hc<;>simp only[decide_eq_true_eq,decide_eq_false_iff_not] at hc
 ·simp -dsimp (maxSteps:=1000000) (disch:=first|omega|(simp only[new_n,put_n];omega)|decide +kernel|(repeat first|rw[new_n]|rw[put_n])) only[wpS,wpT,Nat.reduceEqDiff]
  refine call (made_ok hD false) ?_
  rintro r h2 ⟨hE2,hr2⟩
  have hg:h2.ext.get (h.n+1)=some (.cells [.bool false,.slice none 0 0] 0 none):=by
   rw[hE2.get _ (by have:=hE.n;simp at this;omega),hE.get _ (by simp)];exact get_new_same _ _ rfl
  obtain⟨s1,n3,rfl,c3,o3,l3,z3⟩:=hr2.form
  simp -dsimp (maxSteps:=1000000) (disch:=first|omega|(simp only[new_n,put_n];omega)|decide +kernel|(repeat first|rw[new_n]|rw[put_n])) only[wpS,wpT,Nat.reduceEqDiff,Nat.reduceLeDiff,Nat.reduceAdd,Nat.reduceMul,Int.reduceToNat,st89,ms87,es87,ld89,hg,o3]
  refine⟨(hE1.trans hE2).put (by omega) _,?_⟩
  have:(if false=true then -(valD os:Int) else valD os)=wdI n:=by
   rw[wdI,if_pos (h7.1 (by omega)),hval];rfl
  rw[this] at hr2 ⊢
  exact hr2.keep ((Keep.refl _).put hg _)
 ·simp -dsimp (maxSteps:=1000000) (disch:=first|omega|(simp only[new_n,put_n];omega)|decide +kernel|(repeat first|rw[new_n]|rw[put_n])) only[wpS,wpT,Nat.reduceEqDiff,Nat.reduceAdd,Nat.reduceMul,Int.reduceToNat,ms87,es87]
  simp -dsimp (maxSteps:=1000000) (disch:=first|omega|(simp only[new_n,put_n];omega)|decide +kernel|(repeat first|rw[new_n]|rw[put_n])) only[wpS,wpT,Nat.reduceEqDiff,Nat.reduceLeDiff,Nat.reduceAdd,st3,show idxAt 16 17=some 16 from rfl]
  have hE3 : ∀a b:IObj,Ext h1 ((h1.new a).put h1.n b):=fun a b=>((Ext.refl h1).new _).put (Nat.le_refl _) _
  refine call (cut_ok (hD.keep (hE3 _ _).keep)) ?_
  rintro c h2 ⟨rfl,ds,hDs,hNs,hvs⟩
  have hW:DigU ((h1.new (.cells (List.map KN [0,0,0,0,0,0,0,0,0,0,0,0,0,0,0,0,0]) 1 none)).put h1.n (.cells (List.map KN [0,0,0,0,0,0,0,0,0,0,0,0,0,0,0,0,1]) 1 none)) (.slice (some ⟨2*h1.n,0,none⟩) 17 35) [0,0,0,0,0,0,0,0,0,0,0,0,0,0,0,0,1] :=
   ⟨sl_block (f:=none) (get_put_same _ _ rfl) (by simp) (by omega) rfl (by omega) (by simp),by intro d hd;simp at hd;omega,by simp⟩
  have hWv:valD [0,0,0,0,0,0,0,0,0,0,0,0,0,0,0,0,1]=W8:=by rw[W8_dig];simp[valD,valT]
  simp -dsimp (maxSteps:=1000000) (disch:=first|omega|(simp only[new_n,put_n];omega)|decide +kernel|(repeat first|rw[new_n]|rw[put_n])) only[wpS,Nat.reduceEqDiff]
  refine call (less_ok hW hDs hNs (by rw[hWv,hvs,hval];omega)) ?_
  rintro e h3 ⟨hE4,es,hDe,hNe,hve⟩
  rw[hWv,hvs,hval] at hve
  simp -dsimp (maxSteps:=1000000) (disch:=first|omega|(simp only[new_n,put_n];omega)|decide +kernel|(repeat first|rw[new_n]|rw[put_n])) only[wpS,Nat.reduceEqDiff]
  refine call (made_ok hDe true) ?_
  rintro r h4 ⟨hE5,hr2⟩
  have hz:(if true=true then -(valD es:Int) else valD es)=wdI n:=by
   have hnot : ¬n<H8:=by rw[←h7];omega
   rw[if_pos rfl,wdI,if_neg hnot,hve];omega
  rw[hz] at hr2
  have hE6:=(hE3 _ _).trans (hE4.trans hE5)
  have hg:h4.ext.get (h.n+1)=some (.cells [.bool false,.slice none 0 0] 0 none):=by
   rw[hE6.get _ (by have:=hE.n;simp at this;omega),hE.get _ (by simp)];exact get_new_same _ _ rfl
  obtain⟨s1,n3,rfl,c3,o3,l3,z3⟩:=hr2.form
  simp -dsimp (maxSteps:=1000000) (disch:=first|omega|(simp only[new_n,put_n];omega)|decide +kernel|(repeat first|rw[new_n]|rw[put_n])) only[wpS,wpT,Nat.reduceEqDiff,Nat.reduceLeDiff,Nat.reduceAdd,st89,ld89,hg,o3]
  refine⟨(hE1.trans hE6).put (by omega) _,?_⟩
  exact hr2.keep ((Keep.refl _).put hg _)
end Go.Id
