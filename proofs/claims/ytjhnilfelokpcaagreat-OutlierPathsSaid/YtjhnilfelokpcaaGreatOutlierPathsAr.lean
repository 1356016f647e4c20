/-
  Words: carries, borrows, products, quotients; plain numbers. Digits to the base 2^64: bits; long division bit by bit; plain numbers.
-/
import Derived.Test.YtjhnilfelokpcaaGreatOutlierPathsAo
import Derived.Test.YtjhnilfelokpcaaGreatOutlierPathsAq
import Derived.Test.YtjhnilfelokpcaaGreatProg
import Derived.KernelRfl
import Init
set_option linter.unusedVariables false
set_option linter.unusedSimpArgs false
set_option linter.defProp false
set_option linter.deprecated false
namespace Go.Id
open Go
theorem Po {x1 x0 y1 y0:Nat} (h0:x0<4294967296) (h1:x1<4294967296) (g0:y0<4294967296) (g1:y1<4294967296) :
  x1*y0+x0*y0 / 4294967296<18446744073709551616∧(x1*y0+x0*y0 / 4294967296) % 4294967296+x0*y1<18446744073709551616 ∧
   x1*y1+(x1*y0+x0*y0 / 4294967296) / 4294967296+((x1*y0+x0*y0 / 4294967296) % 4294967296+x0*y1) / 4294967296=(x1*4294967296+x0)*(y1*4294967296+y0) / 18446744073709551616:=by
 have b00:x0*y0≤4294967295*4294967295:=Nat.mul_le_mul (by omega) (by omega)
 have b10:x1*y0≤4294967295*4294967295:=Nat.mul_le_mul (by omega) (by omega)
 have b01:x0*y1≤4294967295*4294967295:=Nat.mul_le_mul (by omega) (by omega)
 have e:(x1*4294967296+x0)*(y1*4294967296+y0)=x1*y1*18446744073709551616+x1*y0*4294967296+x0*y1*4294967296+x0*y0:=by grind
 rw[e]
 generalize x0*y0=a at *
 generalize x1*y0=b at *
 generalize x0*y1=c at *
 generalize x1*y1=d at *
 refine⟨by omega,by omega,by omega⟩
def D4 (y1 y0 u d q r:Nat):Prop:=q*y1+r=u∧(u*4294967296+d) / (y1*4294967296+y0)≤q∧q≤4294967297
theorem z6 {y1 y0 u d:Nat} (h1:2147483648≤y1) (h0:y0<4294967296) (hu:u<y1*4294967296+y0) (hd:d<4294967296):D4 y1 y0 u d (u / y1) (u % y1):=by
 have e:=Nat.div_add_mod u y1
 have hm:=Nat.mod_lt u (show 0<y1 by omega)
 have e1:u / y1*y1=y1*(u / y1):=Nat.mul_comm _ _
 refine⟨by omega,?_,?_⟩
 ·generalize hq:u / y1=q at *
  rw[Nat.div_le_iff_le_mul_add_pred (by omega)]
  have e2:(y1*4294967296+y0)*q=y1*q*4294967296+y0*q:=by grind
  rw[e2]
  have:0≤y0*q:=Nat.zero_le _
  omega
 ·rw[Nat.div_le_iff_le_mul_add_pred (by omega)]
  omega
theorem Ca {y1 y0 u d q r:Nat} (h1:2147483648≤y1) (h0:y0<4294967296) (hu:u<y1*4294967296+y0) (hd:d<4294967296) (J:D4 y1 y0 u d q r) (hc:4294967296≤q∨4294967296*r+d<q*y0):0<q∧D4 y1 y0 u d (q - 1) (r+y1):=by
 obtain⟨j1,j2,j3⟩:=J
 have hlt:(u*4294967296+d) / (y1*4294967296+y0)<q:=by
  rw[Nat.div_lt_iff_lt_mul (by omega)]
  have e2:q*(y1*4294967296+y0)=q*y1*4294967296+q*y0:=by grind
  rw[e2]
  rcases hc with hc|hc
  ·have e3:4294967296*y0≤q*y0:=Nat.mul_le_mul_right _ hc
   have e4:4294967296*y1≤q*y1:=Nat.mul_le_mul_right _ hc
   omega
  ·omega
 have hq:0<q:=Nat.lt_of_le_of_lt (Nat.zero_le _) hlt
 refine⟨hq,?_,Nat.le_sub_one_of_lt hlt,by omega⟩
 have e5:(q - 1)*y1+y1=q*y1:=by
  obtain⟨p,rfl⟩ : ∃p,q=p+1:=⟨q - 1,by omega⟩
  rw[Nat.add_sub_cancel,Nat.add_mul,Nat.one_mul]
 omega
theorem vM {y1 y0 u d q r:Nat} (h1:2147483648≤y1) (h0:y0<4294967296) (J:D4 y1 y0 u d q r) (hc:q*y0≤4294967296*r+d):(u*4294967296+d) / (y1*4294967296+y0)=q:=by
 obtain⟨j1,j2,j3⟩:=J
 refine Nat.le_antisymm j2 ?_
 rw[Nat.le_div_iff_mul_le (by omega)]
 have e2:q*(y1*4294967296+y0)=q*y1*4294967296+q*y0:=by grind
 rw[e2];omega
theorem pd {y1 y0 u d q r:Nat} (h1:2147483648≤y1) (h0:y0<4294967296) (J:D4 y1 y0 u d q r) (hr:4294967296≤r) (hq:q≤4294967296):(u*4294967296+d) / (y1*4294967296+y0)=q:=by
 refine vM h1 h0 J ?_
 have:q*y0≤4294967296*4294967295:=Nat.mul_le_mul hq (by omega)
 omega
end Go.Id

namespace Go.Id.B
theorem HD {x y n:Nat} (hx:2 ^ n∣x) (hy:y<2 ^ n):x ||| y=x+y:=by
 obtain⟨c,rfl⟩:=hx
 exact(Nat.two_pow_add_eq_or_of_lt hy c).symm
theorem R9 {x y n:Nat} (hx:x<2 ^ n) (hy:2 ^ n∣y):x ||| y=x+y:=by
 rw[Nat.or_comm,HD hy hx,Nat.add_comm]
theorem tF {ds:List Nat} (h:bH ds) : ∀{n k:Nat},n≤k→aE ds k % 18446744073709551616 ^ n=aE ds n
 | n,0,hk=>by
  obtain rfl:n=0:=by omega
  simp[aE]
 | n,k+1,hk=>by
  by_cases hn:n=k+1
  ·subst hn;exact Nat.mod_eq_of_lt (gR h _)
  ·have ih:=tF h (show n≤k by omega)
   rw[aE]
   have hd:18446744073709551616 ^ n∣ds.getD k 0*18446744073709551616 ^ k:=Nat.dvd_trans (Nat.pow_dvd_pow _ (by omega)) (Nat.dvd_mul_left _ _)
   obtain⟨c,hc⟩:=hd
   rw[hc,Nat.add_mul_mod_self_left,ih]
theorem qF {ds:List Nat} (h:bH ds) (j:Nat):ds.getD j 0=au ds / 18446744073709551616 ^ j % 18446744073709551616:=by
 have hp:=qe j
 by_cases hj:j<ds.length
 ·have e1:aE ds (j+1)=au ds % 18446744073709551616 ^ (j+1):=(tF h (show j+1≤ds.length by omega)).symm
  have e2:aE ds (j+1) / 18446744073709551616 ^ j=ds.getD j 0:=by
   rw[aE,Nat.add_mul_div_right _ _ hp,Nat.div_eq_of_lt (gR h j),Nat.zero_add]
  rw[←e2,e1,Nat.pow_succ,Nat.mod_mul_right_div_self]
 ·rw[cN (by omega)]
  have h1:=iC h
  have h2:18446744073709551616 ^ ds.length≤18446744073709551616 ^ j:=Nat.pow_le_pow_right (by omega) (by omega)
  rw[Nat.div_eq_of_lt (by omega)]
theorem qf (j:Nat):18446744073709551616 ^ j=2 ^ (64*j):=by rw[Nat.pow_mul]
theorem Ta {ds:List Nat} (h:bH ds) {k:Nat} (hk:2 ^ (k+1)∣au ds):ds.getD (k / 64) 0 ||| 2 ^ (k % 64)=ds.getD (k / 64) 0+2 ^ (k % 64)∧ds.getD (k / 64) 0+2 ^ (k % 64)<18446744073709551616:=by
 have hs:k % 64<64:=Nat.mod_lt _ (by omega)
 have hd:2 ^ (k % 64+1)∣ds.getD (k / 64) 0:=by
  rw[qF h,qf]
  obtain⟨c,hc⟩:=hk
  have e:2 ^ (k+1)=2 ^ (64*(k / 64))*2 ^ (k % 64+1):=by rw[←Nat.pow_add];congr 1;omega
  rw[hc,e,Nat.mul_assoc,Nat.mul_div_cancel_left _ (Nat.pow_pos (by omega))]
  have e2:18446744073709551616=2 ^ (k % 64+1)*2 ^ (63 - k % 64):=by rw[←Nat.pow_add,show k % 64+1+(63 - k % 64)=64 by omega]
  rw[show(18446744073709551616:Nat)=2 ^ (k % 64+1)*2 ^ (63 - k % 64) from e2]
  exact(Nat.dvd_mod_iff (Nat.dvd_mul_right _ _)).2 (Nat.dvd_mul_right _ _)
 have hlt:2 ^ (k % 64)<2 ^ (k % 64+1):=Nat.pow_lt_pow_right (by omega) (by omega)
 have hw:=bF h (k / 64)
 refine⟨HD hd hlt,?_⟩
 obtain⟨c,hc⟩:=hd
 rw[hc] at hw ⊢
 have e2:18446744073709551616=2 ^ (k % 64+1)*2 ^ (63 - k % 64):=by rw[←Nat.pow_add,show k % 64+1+(63 - k % 64)=64 by omega]
 rw[e2] at hw ⊢
 have hc2:c<2 ^ (63 - k % 64):=Nat.lt_of_mul_lt_mul_left hw
 have:2 ^ (k % 64+1)*(c+1)≤2 ^ (k % 64+1)*2 ^ (63 - k % 64):=Nat.mul_le_mul_left _ hc2
 rw[Nat.mul_add,Nat.mul_one] at this
 omega
theorem Bp {x s:Nat} (hx:x<18446744073709551616) (hs:s<64):x*2 ^ s % 18446744073709551616+x / 2 ^ (64 - s)*18446744073709551616=x*2 ^ s:=by
 have e:18446744073709551616=2 ^ (64 - s)*2 ^ s:=by rw[←Nat.pow_add,show 64 - s+s=64 by omega]
 have h:=Nat.div_add_mod (x*2 ^ s) 18446744073709551616
 have e2:x*2 ^ s / 18446744073709551616=x / 2 ^ (64 - s):=by rw[e,Nat.mul_div_mul_right _ _ (Nat.pow_pos (by omega))]
 rw[e2] at h
 omega
theorem RR (x:Nat) {s:Nat} (hs:s<64):2 ^ s∣x*2 ^ s % 18446744073709551616:=by
 have e:18446744073709551616=2 ^ s*2 ^ (64 - s):=by rw[←Nat.pow_add,show s+(64 - s)=64 by omega]
 rw[e]
 exact(Nat.dvd_mod_iff (Nat.dvd_mul_right _ _)).2 (Nat.dvd_mul_left _ _)
theorem Bn {x s:Nat} (hx:x<18446744073709551616) (hs:s≤64):x / 2 ^ (64 - s)<2 ^ s:=by
 rw[Nat.div_lt_iff_lt_mul (Nat.pow_pos (by omega)),←Nat.pow_add,show s+(64 - s)=64 by omega];exact hx
theorem S9 {ds:List Nat} {n k:Nat} (h:bH ds) (hl:ds.length=n+1) (h1:2 ^ k≤ds.getD n 0) (h2:ds.getD n 0<2 ^ (k+1)):2 ^ (64*n+k)≤au ds∧au ds<2 ^ (64*n+k+1):=by
 rw[au,hl,aE,qf]
 have hb:=gR h n
 rw[qf] at hb
 have e1:2 ^ (64*n+k)=2 ^ k*2 ^ (64*n):=by rw[Nat.pow_add,Nat.mul_comm]
 have e2:2 ^ (64*n+k+1)=2 ^ (k+1)*2 ^ (64*n):=by rw[Nat.add_assoc,Nat.pow_add,Nat.mul_comm]
 rw[e1,e2]
 have h3:2 ^ k*2 ^ (64*n)≤ds.getD n 0*2 ^ (64*n):=Nat.mul_le_mul_right _ h1
 have h4:(ds.getD n 0+1)*2 ^ (64*n)≤2 ^ (k+1)*2 ^ (64*n):=Nat.mul_le_mul_right _ h2
 rw[Nat.add_mul,Nat.one_mul] at h4
 omega
def GM (a b k V r:Nat):Prop:=a=b*V+r∧2 ^ k∣V∧r<b*2 ^ k
theorem Iq {a b la lb:Nat} (ha:a<2 ^ la) (hb:2 ^ lb≤b) (hl:lb≤la):GM a b (la - lb) 0 a:=by
 refine⟨by omega,Nat.dvd_zero _,?_⟩
 have h1:2 ^ lb*2 ^ (la - lb)≤b*2 ^ (la - lb):=Nat.mul_le_mul_right _ hb
 rw[←Nat.pow_add,show lb+(la - lb)=la by omega] at h1
 omega
theorem Qn {a b k V r:Nat} (h:GM a b (k+1) V r) (hc:b*2 ^ k≤r):GM a b k (V+2 ^ k) (r - b*2 ^ k):=by
 obtain⟨h1,h2,h3⟩:=h
 have e:b*2 ^ (k+1)=b*2 ^ k+b*2 ^ k:=by rw[Nat.pow_succ];grind
 refine⟨?_,?_,by omega⟩
 ·rw[Nat.mul_add];omega
 ·exact(Nat.dvd_add_right (Nat.dvd_trans (Nat.pow_dvd_pow _ (by omega)) h2)).2 (Nat.dvd_refl _)
theorem MS {a b k V r:Nat} (h:GM a b (k+1) V r) (hc:r<b*2 ^ k):GM a b k V r :=
 ⟨h.1,Nat.dvd_trans (Nat.pow_dvd_pow _ (by omega)) h.2.1,hc⟩
theorem Qo {a b V r:Nat} (h:GM a b 0 V r):V=a / b∧r=a % b:=by
 obtain⟨h1,_,h3⟩:=h
 rw[Nat.pow_zero,Nat.mul_one] at h3
 have e1:=Nat.mul_add_mod b V r
 have e2:=Nat.mul_add_div (show 0<b by omega) V r
 rw[←h1,Nat.mod_eq_of_lt h3] at e1
 rw[←h1,Nat.div_eq_of_lt h3,Nat.add_zero] at e2
 exact⟨e2.symm,e1.symm⟩
end Go.Id.B

namespace Go.Id
open Go
open Go.Proofs.Tryz (prog)
theorem Yu:bE prog 121=some false:=by kernel_rfl
theorem Yt:bE prog 123=some true:=by kernel_rfl
theorem Ys:bE prog 131=some true:=by kernel_rfl
theorem Yr:bE prog 169=some true:=by kernel_rfl
theorem Uq:bE prog 186=some true:=by kernel_rfl
theorem Yq:bE prog 199=some true:=by kernel_rfl
theorem Yp:bE prog 201=some true:=by kernel_rfl
theorem ag22:bE prog 22=some false:=by kernel_rfl
theorem Yo:bE prog 226=some false:=by kernel_rfl
theorem ag24:bE prog 24=some true:=by kernel_rfl
theorem ag25:bE prog 25=some false:=by kernel_rfl
theorem Yn:bE prog 278=some false:=by kernel_rfl
theorem ag3:bE prog 3=some false:=by kernel_rfl
theorem Ym:bE prog 303=some false:=by kernel_rfl
theorem ag33:bE prog 33=some false:=by kernel_rfl
theorem ag4:bE prog 4=some false:=by kernel_rfl
theorem pK:bE prog 42=some false:=by kernel_rfl
theorem Tk:bE prog 44=some true:=by kernel_rfl
theorem Yl:bE prog 48=some true:=by kernel_rfl
theorem ag5:bE prog 5=some false:=by kernel_rfl
theorem ag53:bE prog 53=some true:=by kernel_rfl
theorem ag54:bE prog 54=some false:=by kernel_rfl
theorem ag63:bE prog 63=some true:=by kernel_rfl
theorem Rh:bE prog 82=some false:=by kernel_rfl
theorem Yj:kL prog 121=some (1,8):=by kernel_rfl
theorem uR:kL prog 25=some (1,8):=by kernel_rfl
theorem Wc:kL prog 28=some (8,64):=by kernel_rfl
theorem Ti:kL prog 54=some (1,24):=by kernel_rfl
theorem Th:kL prog 82=some (16,128):=by kernel_rfl
theorem Cp:GG prog 199=some (8,1):=by kernel_rfl
theorem Tf:GG prog 36=some (2,1):=by kernel_rfl
theorem ns:GG prog 44=some (8,1):=by kernel_rfl
theorem Yh:bU prog 123=true:=by kernel_rfl
theorem Yg:bU prog 131=true:=by kernel_rfl
theorem Yf:bU prog 164=true:=by kernel_rfl
theorem Ye:bU prog 169=true:=by kernel_rfl
theorem Yd:bU prog 186=true:=by kernel_rfl
theorem Yc:bU prog 199=true:=by kernel_rfl
theorem Yb:bU prog 201=true:=by kernel_rfl
theorem Ya:bU prog 231=true:=by kernel_rfl
theorem XZ:bU prog 233=true:=by kernel_rfl
theorem as36:bU prog 36=true:=by kernel_rfl
theorem as44:bU prog 44=true:=by kernel_rfl
theorem as48:bU prog 48=true:=by kernel_rfl
theorem as57:bU prog 57=true:=by kernel_rfl
theorem as63:bU prog 63=true:=by kernel_rfl
theorem as70:bU prog 70=true:=by kernel_rfl
theorem XM:prog.eqGuardType prog.depth 199=false:=by kernel_rfl
theorem eg44:prog.eqGuardType prog.depth 44=false:=by kernel_rfl
theorem fU:gK prog 121=some 1:=by kernel_rfl
theorem Z9:gK prog 22=some 1:=by kernel_rfl
theorem gU:gK prog 25=some 1:=by kernel_rfl
theorem Ge:gK prog 28=some 8:=by kernel_rfl
theorem SR:gK prog 54=some 1:=by kernel_rfl
theorem xJ:gK prog 82=some 16:=by kernel_rfl
theorem iF:fieldAt prog 123 0=some 0:=by kernel_rfl
theorem jo:fieldAt prog 123 1=some 1:=by kernel_rfl
theorem dJ:fieldAt prog 131 0=some 0:=by kernel_rfl
theorem eV:fieldAt prog 131 1=some 1:=by kernel_rfl
theorem SP:fieldAt prog 164 0=some 0:=by kernel_rfl
theorem jY:fieldAt prog 169 0=some 0:=by kernel_rfl
theorem iE:fieldAt prog 169 1=some 2:=by kernel_rfl
theorem oY:fieldAt prog 186 0=some 0:=by kernel_rfl
theorem rj:fieldAt prog 186 1=some 2:=by kernel_rfl
theorem jn:fieldAt prog 201 0=some 0:=by kernel_rfl
theorem fm:fieldAt prog 201 1=some 1:=by kernel_rfl
theorem DF:fieldAt prog 231 0=some 0:=by kernel_rfl
theorem yd:fieldAt prog 233 0=some 0:=by kernel_rfl
theorem VJ:fieldAt prog 24 0=some 0:=by kernel_rfl
theorem P9:fieldAt prog 24 1=some 1:=by kernel_rfl
theorem zW:fieldAt prog 48 0=some 0:=by kernel_rfl
theorem tm:fieldAt prog 48 1=some 8:=by kernel_rfl
theorem VI:fieldAt prog 53 0=some 0:=by kernel_rfl
theorem P8:fieldAt prog 53 1=some 1:=by kernel_rfl
theorem P7:fieldAt prog 53 2=some 2:=by kernel_rfl
theorem P6:fieldAt prog 63 0=some 0:=by kernel_rfl
theorem DC:og prog 123 1=some (false,1,1):=by kernel_rfl
theorem SO:og prog 169 0=some (true,0,2):=by kernel_rfl
theorem DB:og prog 201 0=some (false,0,1):=by kernel_rfl
theorem is3:(Program.underlying prog 3).isSome=true:=by kernel_rfl
theorem Zr:(Program.underlying prog 35).isSome=true:=by kernel_rfl
theorem WY:(Program.underlying prog 42).isSome=true:=by kernel_rfl
theorem is5:(Program.underlying prog 5).isSome=true:=by kernel_rfl
theorem TS:uo prog 121=some (1,8,[.int .u64 (0)]):=by kernel_rfl
theorem WL:uo prog 25=some (1,8,[.int .i64 (0)]):=by kernel_rfl
theorem Zh:uo prog 28=some (8,64,[.int .u64 (0),.int .u64 (0),.int .u64 (0),.int .u64 (0),.int .u64 (0),.int .u64 (0),.int .u64 (0),.int .u64 (0)]):=by kernel_rfl
theorem Zg:uo prog 54=some (1,24,[.slice none 0 0]):=by kernel_rfl
theorem Zf:uo prog 82=some (16,128,[.int .u64 (0),.int .u64 (0),.int .u64 (0),.int .u64 (0),.int .u64 (0),.int .u64 (0),.int .u64 (0),.int .u64 (0),.int .u64 (0),.int .u64 (0),.int .u64 (0),.int .u64 (0),.int .u64 (0),.int .u64 (0),.int .u64 (0),.int .u64 (0)]):=by kernel_rfl
theorem uf:placeOf prog 123 0=some (0,1):=by kernel_rfl
theorem oO:placeOf prog 123 1=some (1,1):=by kernel_rfl
theorem JI:placeOf prog 131 0=some (0,1):=by kernel_rfl
theorem xT:placeOf prog 131 1=some (1,1):=by kernel_rfl
theorem JH:placeOf prog 164 0=some (0,1):=by kernel_rfl
theorem xS:placeOf prog 169 0=some (0,2):=by kernel_rfl
theorem xR:placeOf prog 169 1=some (2,2):=by kernel_rfl
theorem JG:placeOf prog 186 0=some (0,2):=by kernel_rfl
theorem JF:placeOf prog 186 1=some (2,2):=by kernel_rfl
theorem R7:placeOf prog 199 7=some (7,1):=by kernel_rfl
theorem JE:placeOf prog 201 0=some (0,1):=by kernel_rfl
theorem R6:placeOf prog 201 1=some (1,8):=by kernel_rfl
theorem R5:placeOf prog 231 0=some (0,1):=by kernel_rfl
theorem R4:placeOf prog 233 0=some (0,1):=by kernel_rfl
theorem U7:placeOf prog 36 0=some (0,1):=by kernel_rfl
theorem U6:placeOf prog 36 1=some (1,1):=by kernel_rfl
theorem U5:placeOf prog 44 0=some (0,1):=by kernel_rfl
theorem O4:placeOf prog 48 0=some (0,8):=by kernel_rfl
theorem O3:placeOf prog 48 1=some (8,8):=by kernel_rfl
theorem U4:placeOf prog 57 0=some (0,1):=by kernel_rfl
theorem U3:placeOf prog 57 1=some (1,1):=by kernel_rfl
theorem U2:placeOf prog 63 0=some (0,1):=by kernel_rfl
theorem U1:placeOf prog 70 0=some (0,2):=by kernel_rfl
theorem U0:placeOf prog 70 1=some (2,2):=by kernel_rfl
theorem fj:cM prog (some 121)=true:=by kernel_rfl
theorem Wz:cM prog (some 22)=true:=by kernel_rfl
theorem eH:cM prog (some 25)=true:=by kernel_rfl
theorem Ok:cM prog (some 28)=true:=by kernel_rfl
theorem US:cM prog (some 54)=true:=by kernel_rfl
theorem tP:cM prog (some 82)=true:=by kernel_rfl
theorem TD:aJ prog 123=some 2:=by kernel_rfl
theorem TC:aJ prog 131=some 2:=by kernel_rfl
theorem TB:aJ prog 169=some 4:=by kernel_rfl
theorem N8:aJ prog 186=some 4:=by kernel_rfl
theorem TA:aJ prog 199=some 8:=by kernel_rfl
theorem Tz:aJ prog 201=some 9:=by kernel_rfl
theorem YQ:aJ prog 24=some 2:=by kernel_rfl
theorem sz3:aJ prog 3=some 1:=by kernel_rfl
theorem YP:aJ prog 33=some 1:=by kernel_rfl
theorem YO:aJ prog 36=some 2:=by kernel_rfl
theorem Ew:aJ prog 42=some 1:=by kernel_rfl
theorem N7:aJ prog 44=some 8:=by kernel_rfl
theorem Lj:aJ prog 48=some 16:=by kernel_rfl
theorem YN:aJ prog 53=some 18:=by kernel_rfl
theorem Wx:aJ prog 63=some 1:=by kernel_rfl
theorem YM:aJ prog 82=some 1:=by kernel_rfl
theorem RH:Program.underlying prog 121=some (.slice 42):=by kernel_rfl
theorem UG:Program.underlying prog 199=some (.array 8 42):=by kernel_rfl
theorem u25:Program.underlying prog 25=some (.slice 3):=by kernel_rfl
theorem u3:Program.underlying prog 3=some (.int .i64):=by kernel_rfl
theorem YK:Program.underlying prog 314=some (.map 5 313):=by kernel_rfl
theorem u35:Program.underlying prog 35=some (.int .u64):=by kernel_rfl
theorem u4:Program.underlying prog 4=some .bool:=by kernel_rfl
theorem u42:Program.underlying prog 42=some (.int .u64):=by kernel_rfl
theorem u44:Program.underlying prog 44=some (.array 8 42):=by kernel_rfl
theorem u5:Program.underlying prog 5=some (.int .u8):=by kernel_rfl
theorem u63:Program.underlying prog 63=some (.struct { toList:=[{ name := "State",type:=42,offset:=0,embedded:=false,tag := "",pkgPath := "",byteOffset:=0 }] }):=by kernel_rfl
theorem u82:Program.underlying prog 82=some (.slice 48):=by kernel_rfl
theorem u9:Program.underlying prog 9=some .string:=by kernel_rfl
theorem iR:aB prog 123=some [.bool false,.slice none 0 0]:=by kernel_rfl
theorem dh:aB prog 131=some [.bool false,.slice none 0 0]:=by kernel_rfl
theorem Wr:aB prog 164=some [.slice none 0 0]:=by kernel_rfl
theorem ny:aB prog 169=some [.bool false,.slice none 0 0,.bool false,.slice none 0 0]:=by kernel_rfl
theorem tA:aB prog 186=some [.bool false,.slice none 0 0,.bool false,.slice none 0 0]:=by kernel_rfl
theorem AU:aB prog 199=some [.int .u64 (0),.int .u64 (0),.int .u64 (0),.int .u64 (0),.int .u64 (0),.int .u64 (0),.int .u64 (0),.int .u64 (0)]:=by kernel_rfl
theorem rH:aB prog 201=some [.bool false,.int .u64 (0),.int .u64 (0),.int .u64 (0),.int .u64 (0),.int .u64 (0),.int .u64 (0),.int .u64 (0),.int .u64 (0)]:=by kernel_rfl
theorem Wq:aB prog 231=some [.int .u64 (0)]:=by kernel_rfl
theorem Wp:aB prog 233=some [.int .u64 (0)]:=by kernel_rfl
theorem zc3:aB prog 3=some [.int .i64 (0)]:=by kernel_rfl
theorem GN:aB prog 33=some [.int .i64 (0)]:=by kernel_rfl
theorem Wo:aB prog 36=some [.int .i64 (0),.int .i64 (0)]:=by kernel_rfl
theorem YI:aB prog 42=some [.int .u64 (0)]:=by kernel_rfl
theorem fo:aB prog 44=some [.int .u64 (0),.int .u64 (0),.int .u64 (0),.int .u64 (0),.int .u64 (0),.int .u64 (0),.int .u64 (0),.int .u64 (0)]:=by kernel_rfl
theorem xr:aB prog 48=some [.int .u64 (0),.int .u64 (0),.int .u64 (0),.int .u64 (0),.int .u64 (0),.int .u64 (0),.int .u64 (0),.int .u64 (0),.int .u64 (0),.int .u64 (0),.int .u64 (0),.int .u64 (0),.int .u64 (0),.int .u64 (0),.int .u64 (0),.int .u64 (0)]:=by kernel_rfl
theorem YH:aB prog 57=some [.slice none 0 0,.slice none 0 0]:=by kernel_rfl
theorem jr:aB prog 63=some [.int .u64 (0)]:=by kernel_rfl
theorem YG:aB prog 70=some [.int .i64 (0),.int .i64 (0),.int .i64 (0),.int .i64 (0)]:=by kernel_rfl
theorem Nn (h:IH) (x y:Value):builtin prog h .append #[121,121] [x,y]=append prog h 121 x y:=builtin_append prog h 121 121 x y fj
theorem fY (h:IH) (x y:Value):builtin prog h .append #[25,25] [x,y]=append prog h 25 x y:=builtin_append prog h 25 25 x y eH
theorem DU (h:IH) (x y:Value):builtin prog h .append #[28,28] [x,y]=append prog h 28 x y:=builtin_append prog h 28 28 x y Ok
theorem yi (h:IH) (x y:Value):builtin prog h .append #[54,54] [x,y]=append prog h 54 x y:=builtin_append prog h 54 54 x y US
theorem yh (h:IH) (x y:Value):builtin prog h .append #[82,82] [x,y]=append prog h 82 x y:=builtin_append prog h 82 82 x y tP
theorem be4 (ox oy:Operand) (a b:Bool):binop prog .eql 4 ox oy (.bool a) (.bool b)=some (.bool (a == b)):=Am u4 ox oy a b
theorem bn4 (ox oy:Operand) (a b:Bool):binop prog .neq 4 ox oy (.bool a) (.bool b)=some (.bool (!(a == b))):=Al u4 ox oy a b
theorem Q0 (h:IH) (len:Nat) (ps:List (Nat×Value)) (hl:len*1≤16777216):buildSlice prog h 121 len ps=(cj (fun i=>some (i*1,1)) (bS len [.int .u64 (0)]) ps).map fun cells=>(.slice (some ⟨2*h.n,0,none⟩) len (2*len+1),h.new (.cells cells 1 none)):=iu TS h len ps hl
theorem tw (h:IH) (len:Nat) (ps:List (Nat×Value)) (hl:len*1≤16777216):buildSlice prog h 25 len ps=(cj (fun i=>some (i*1,1)) (bS len [.int .i64 (0)]) ps).map fun cells=>(.slice (some ⟨2*h.n,0,none⟩) len (2*len+1),h.new (.cells cells 1 none)):=iu WL h len ps hl
theorem V5 (h:IH) (len:Nat) (ps:List (Nat×Value)) (hl:len*8≤16777216):buildSlice prog h 28 len ps=(cj (fun i=>some (i*8,8)) (bS len [.int .u64 (0),.int .u64 (0),.int .u64 (0),.int .u64 (0),.int .u64 (0),.int .u64 (0),.int .u64 (0),.int .u64 (0)]) ps).map fun cells=>(.slice (some ⟨2*h.n,0,none⟩) len (2*len+1),h.new (.cells cells 8 none)):=iu Zh h len ps hl
theorem S7 (h:IH) (len:Nat) (ps:List (Nat×Value)) (hl:len*1≤16777216):buildSlice prog h 54 len ps=(cj (fun i=>some (i*1,1)) (bS len [.slice none 0 0]) ps).map fun cells=>(.slice (some ⟨2*h.n,0,none⟩) len (2*len+1),h.new (.cells cells 1 none)):=iu Zg h len ps hl
theorem QZ (h:IH) (len:Nat) (ps:List (Nat×Value)) (hl:len*16≤16777216):buildSlice prog h 82 len ps=(cj (fun i=>some (i*16,16)) (bS len [.int .u64 (0),.int .u64 (0),.int .u64 (0),.int .u64 (0),.int .u64 (0),.int .u64 (0),.int .u64 (0),.int .u64 (0),.int .u64 (0),.int .u64 (0),.int .u64 (0),.int .u64 (0),.int .u64 (0),.int .u64 (0),.int .u64 (0),.int .u64 (0)]) ps).map fun cells=>(.slice (some ⟨2*h.n,0,none⟩) len (2*len+1),h.new (.cells cells 16 none)):=iu Zf h len ps hl
theorem Ah (ps:List (Nat×Value)):dY prog 123 ps=(cj (placeOf prog 123) [.bool false,.slice none 0 0] ps).map fun cs=>.agg cs.toArray:=df iR Yh ps
theorem oo (ps:List (Nat×Value)):dY prog 131 ps=(cj (placeOf prog 131) [.bool false,.slice none 0 0] ps).map fun cs=>.agg cs.toArray:=df dh Yg ps
theorem Uk (ps:List (Nat×Value)):dY prog 164 ps=(cj (placeOf prog 164) [.slice none 0 0] ps).map fun cs=>.agg cs.toArray:=df Wr Yf ps
theorem KB (ps:List (Nat×Value)):dY prog 169 ps=(cj (placeOf prog 169) [.bool false,.slice none 0 0,.bool false,.slice none 0 0] ps).map fun cs=>.agg cs.toArray:=df ny Ye ps
theorem Uj (ps:List (Nat×Value)):dY prog 186 ps=(cj (placeOf prog 186) [.bool false,.slice none 0 0,.bool false,.slice none 0 0] ps).map fun cs=>.agg cs.toArray:=df tA Yd ps
theorem GA (ps:List (Nat×Value)):dY prog 199 ps=(cj (placeOf prog 199) [.int .u64 (0),.int .u64 (0),.int .u64 (0),.int .u64 (0),.int .u64 (0),.int .u64 (0),.int .u64 (0),.int .u64 (0)] ps).map fun cs=>.agg cs.toArray:=df AU Yc ps
theorem Ui (ps:List (Nat×Value)):dY prog 201 ps=(cj (placeOf prog 201) [.bool false,.int .u64 (0),.int .u64 (0),.int .u64 (0),.int .u64 (0),.int .u64 (0),.int .u64 (0),.int .u64 (0),.int .u64 (0)] ps).map fun cs=>.agg cs.toArray:=df rH Yb ps
theorem XR (ps:List (Nat×Value)):dY prog 231 ps=(cj (placeOf prog 231) [.int .u64 (0)] ps).map fun cs=>.agg cs.toArray:=df Wq Ya ps
theorem XQ (ps:List (Nat×Value)):dY prog 233 ps=(cj (placeOf prog 233) [.int .u64 (0)] ps).map fun cs=>.agg cs.toArray:=df Wp XZ ps
theorem bv36 (ps:List (Nat×Value)):dY prog 36 ps=(cj (placeOf prog 36) [.int .i64 (0),.int .i64 (0)] ps).map fun cs=>.agg cs.toArray:=df Wo as36 ps
theorem gV (ps:List (Nat×Value)):dY prog 44 ps=(cj (placeOf prog 44) [.int .u64 (0),.int .u64 (0),.int .u64 (0),.int .u64 (0),.int .u64 (0),.int .u64 (0),.int .u64 (0),.int .u64 (0)] ps).map fun cs=>.agg cs.toArray:=df fo as44 ps
theorem Nb (ps:List (Nat×Value)):dY prog 48 ps=(cj (placeOf prog 48) [.int .u64 (0),.int .u64 (0),.int .u64 (0),.int .u64 (0),.int .u64 (0),.int .u64 (0),.int .u64 (0),.int .u64 (0),.int .u64 (0),.int .u64 (0),.int .u64 (0),.int .u64 (0),.int .u64 (0),.int .u64 (0),.int .u64 (0),.int .u64 (0)] ps).map fun cs=>.agg cs.toArray:=df xr as48 ps
theorem bv57 (ps:List (Nat×Value)):dY prog 57 ps=(cj (placeOf prog 57) [.slice none 0 0,.slice none 0 0] ps).map fun cs=>.agg cs.toArray:=df YH as57 ps
theorem eX (ps:List (Nat×Value)):dY prog 63 ps=(cj (placeOf prog 63) [.int .u64 (0)] ps).map fun cs=>.agg cs.toArray:=df jr as63 ps
theorem bv70 (ps:List (Nat×Value)):dY prog 70 ps=(cj (placeOf prog 70) [.int .i64 (0),.int .i64 (0),.int .i64 (0),.int .i64 (0)] ps).map fun cs=>.agg cs.toArray:=df YG as70 ps
theorem VQ (k:IntKind) (n:Int):mU prog 35 3 (.int k n)=some (.int .i64 (IntKind.i64.wrap n)):=jN Zr u3
theorem QG (k:IntKind) (n:Int):mU prog 3 35 (.int k n)=some (.int .u64 (IntKind.u64.wrap n)):=jN is3 u35
theorem vT (k:IntKind) (n:Int):mU prog 3 42 (.int k n)=some (.int .u64 (IntKind.u64.wrap n)):=jN is3 u42
theorem vP (k:IntKind) (n:Int):mU prog 42 3 (.int k n)=some (.int .i64 (IntKind.i64.wrap n)):=jN WY u3
theorem VP (k:IntKind) (n:Int):mU prog 42 5 (.int k n)=some (.int .u8 (IntKind.u8.wrap n)):=jN WY u5
theorem Gr (k:IntKind) (n:Int):mU prog 5 3 (.int k n)=some (.int .i64 (IntKind.i64.wrap n)):=jN is5 u3
theorem qq (h:IH) (b o:Nat):load prog h 121 (ptr b o)=ld h b o:=dB Yu h b o
theorem bP (h:IH) (b o:Nat):load prog h 123 (ptr b o)=(h.rd b o 2).map fun cs=>.agg cs.toArray:=fy Yt TD h b o
theorem bq (h:IH) (b o:Nat):load prog h 131 (ptr b o)=(h.rd b o 2).map fun cs=>.agg cs.toArray:=fy Ys TC h b o
theorem nU (h:IH) (b o:Nat):load prog h 169 (ptr b o)=(h.rd b o 4).map fun cs=>.agg cs.toArray:=fy Yr TB h b o
theorem zB (h:IH) (b o:Nat):load prog h 186 (ptr b o)=(h.rd b o 4).map fun cs=>.agg cs.toArray:=fy Uq N8 h b o
theorem gY (h:IH) (b o:Nat):load prog h 199 (ptr b o)=(h.rd b o 8).map fun cs=>.agg cs.toArray:=fy Yq TA h b o
theorem pG (h:IH) (b o:Nat):load prog h 201 (ptr b o)=(h.rd b o 9).map fun cs=>.agg cs.toArray:=fy Yp Tz h b o
theorem WW (h:IH) (b o:Nat):load prog h 22 (ptr b o)=ld h b o:=dB ag22 h b o
theorem WU (h:IH) (b o:Nat):load prog h 226 (ptr b o)=ld h b o:=dB Yo h b o
theorem Zo (h:IH) (b o:Nat):load prog h 24 (ptr b o)=(h.rd b o 2).map fun cs=>.agg cs.toArray:=fy ag24 YQ h b o
theorem qp (h:IH) (b o:Nat):load prog h 25 (ptr b o)=ld h b o:=dB ag25 h b o
theorem WT (h:IH) (b o:Nat):load prog h 278 (ptr b o)=ld h b o:=dB Yn h b o
theorem ld3 (h:IH) (b o:Nat):load prog h 3 (ptr b o)=ld h b o:=dB ag3 h b o
theorem WS (h:IH) (b o:Nat):load prog h 303 (ptr b o)=ld h b o:=dB Ym h b o
theorem Mw (h:IH) (b o:Nat):load prog h 33 (ptr b o)=ld h b o:=dB ag33 h b o
theorem ld4 (h:IH) (b o:Nat):load prog h 4 (ptr b o)=ld h b o:=dB ag4 h b o
theorem kB (h:IH) (b o:Nat):load prog h 42 (ptr b o)=ld h b o:=dB pK h b o
theorem bL (h:IH) (b o:Nat):load prog h 44 (ptr b o)=(h.rd b o 8).map fun cs=>.agg cs.toArray:=fy Tk N7 h b o
theorem kA (h:IH) (b o:Nat):load prog h 48 (ptr b o)=(h.rd b o 16).map fun cs=>.agg cs.toArray:=fy Yl Lj h b o
theorem ld5 (h:IH) (b o:Nat):load prog h 5 (ptr b o)=ld h b o:=dB ag5 h b o
theorem WR (h:IH) (b o:Nat):load prog h 53 (ptr b o)=(h.rd b o 18).map fun cs=>.agg cs.toArray:=fy ag53 YN h b o
theorem Zn (h:IH) (b o:Nat):load prog h 54 (ptr b o)=ld h b o:=dB ag54 h b o
theorem bZ (h:IH) (b o:Nat):load prog h 63 (ptr b o)=(h.rd b o 1).map fun cs=>.agg cs.toArray:=fy ag63 Wx h b o
theorem Zj (h:IH) (a:Option Addr) (n c:Nat):qo prog h 25 (.slice a n c)=some (.int .i64 n):=sZ eH h a n c
theorem FG (h:IH) (k j:IntKind) {l c:Int} (h0:0≤l) (h1:l≤c) (h2:c*9≤1099511627776):makeSlice prog h 121 (.int k l) (.int j c)=some (.slice (some ⟨2*h.n,0,none⟩) l.toNat (2*c.toNat+1),h.new (.cells (bS c.toNat [.int .u64 (0)]) 1 none)):=uq TS h k j h0 h1 h2
theorem HP (h:IH) (k j:IntKind) {l c:Int} (h0:0≤l) (h1:l≤c) (h2:c*9≤1099511627776):makeSlice prog h 25 (.int k l) (.int j c)=some (.slice (some ⟨2*h.n,0,none⟩) l.toNat (2*c.toNat+1),h.new (.cells (bS c.toNat [.int .i64 (0)]) 1 none)):=uq WL h k j h0 h1 h2
theorem fi (h:IH) (k o:Nat) (v:Value):store prog h 123 (ptr (2*k) o) v=stE 2 h k o v.cells.toList (h.ext.get k):=dO TD h k o v
theorem bY (h:IH) (k o:Nat) (v:Value):store prog h 131 (ptr (2*k) o) v=stE 2 h k o v.cells.toList (h.ext.get k):=dO TC h k o v
theorem nK (h:IH) (k o:Nat) (v:Value):store prog h 169 (ptr (2*k) o) v=stE 4 h k o v.cells.toList (h.ext.get k):=dO TB h k o v
theorem tN (h:IH) (k o:Nat) (v:Value):store prog h 186 (ptr (2*k) o) v=stE 4 h k o v.cells.toList (h.ext.get k):=dO N8 h k o v
theorem wz (h:IH) (k o:Nat) (v:Value):store prog h 199 (ptr (2*k) o) v=stE 8 h k o v.cells.toList (h.ext.get k):=dO TA h k o v
theorem pC (h:IH) (k o:Nat) (v:Value):store prog h 201 (ptr (2*k) o) v=stE 9 h k o v.cells.toList (h.ext.get k):=dO Tz h k o v
theorem st3 (h:IH) (k o:Nat) (v:Value):store prog h 3 (ptr (2*k) o) v=stE 1 h k o v.cells.toList (h.ext.get k):=dO sz3 h k o v
theorem AB (h:IH) (k o:Nat) (v:Value):store prog h 33 (ptr (2*k) o) v=stE 1 h k o v.cells.toList (h.ext.get k):=dO YP h k o v
theorem YS (h:IH) (k o:Nat) (v:Value):store prog h 36 (ptr (2*k) o) v=stE 2 h k o v.cells.toList (h.ext.get k):=dO YO h k o v
theorem nJ (h:IH) (k o:Nat) (v:Value):store prog h 42 (ptr (2*k) o) v=stE 1 h k o v.cells.toList (h.ext.get k):=dO Ew h k o v
theorem dr (h:IH) (k o:Nat) (v:Value):store prog h 44 (ptr (2*k) o) v=stE 8 h k o v.cells.toList (h.ext.get k):=dO N7 h k o v
theorem rz (h:IH) (k o:Nat) (v:Value):store prog h 48 (ptr (2*k) o) v=stE 16 h k o v.cells.toList (h.ext.get k):=dO Lj h k o v
theorem dj (h:IH) (k o:Nat) (v:Value):store prog h 63 (ptr (2*k) o) v=stE 1 h k o v.cells.toList (h.ext.get k):=dO Wx h k o v
end Go.Id

namespace Go.Id
def aE (ds:List Nat):Nat→Nat
 | 0=>0
 | k+1=>aE ds k+ds.getD k 0*4294967296 ^ k
def au (ds:List Nat):Nat:=aE ds ds.length
def bH (ds:List Nat):Prop:=∀d∈ds,d<4294967296
def Norm (ds:List Nat):Prop:=ds = []∨ds.getD (ds.length - 1) 0≠0
theorem bF {ds:List Nat} (h:bH ds) (k:Nat):ds.getD k 0<4294967296:=by
 rw[List.getD_eq_getElem?_getD]
 cases hx:ds[k]? with
 | none=>simp
 | some x=>simpa using h x (List.mem_of_getElem? hx)
theorem cN {ds:List Nat} {k:Nat} (h:ds.length≤k):ds.getD k 0=0:=by
 rw[List.getD_eq_getElem?_getD,List.getElem?_eq_none h];rfl
theorem qe (k:Nat):0<4294967296 ^ k:=Nat.pow_pos (by omega)
theorem gR {ds:List Nat} (h:bH ds) : ∀k,aE ds k<4294967296 ^ k
 | 0=>by simp[aE]
 | k+1=>by
  have ih:=gR h k
  have hd:=bF h k
  have h2:ds.getD k 0*4294967296 ^ k≤4294967295*4294967296 ^ k:=Nat.mul_le_mul_right _ (by omega)
  rw[aE,Nat.pow_succ]
  omega
theorem iA {ds:List Nat} : ∀{k:Nat},ds.length≤k→aE ds k=au ds
 | 0,h=>by
  have:ds = []:=List.length_eq_zero_iff.1 (by omega)
  subst this;rfl
 | k+1,h=>by
  by_cases hk:ds.length≤k
  ·rw[aE,iA hk,cN hk];simp
  ·have:ds.length=k+1:=by omega
   rw[au,this]
theorem fe {ds es:List Nat} : ∀{k:Nat},(∀j,j<k→ds.getD j 0=es.getD j 0)→aE ds k=aE es k
 | 0,_=>rfl
 | k+1,h=>by rw[aE,aE,fe fun j hj=>h j (by omega),h k (by omega)]
theorem iC {ds:List Nat} (h:bH ds):au ds<4294967296 ^ ds.length:=gR h _
theorem wS {ds:List Nat} {x:Nat} (j:Nat):(ds ++ [x]).getD j 0=if j<ds.length then ds.getD j 0 else if j=ds.length then x else 0:=by
 simp only[List.getD_eq_getElem?_getD]
 by_cases h:j<ds.length
 ·rw[if_pos h,List.getElem?_append_left h]
 ·rw[if_neg h,List.getElem?_append_right (by omega)]
  by_cases h2:j=ds.length
  ·rw[if_pos h2];subst h2;simp
  ·rw[if_neg h2,List.getElem?_eq_none (by simp;omega)];rfl
theorem iU (ds:List Nat) (x:Nat):au (ds ++ [x])=au ds+x*4294967296 ^ ds.length:=by
 have h1:(ds ++ [x]).length=ds.length+1:=by simp
 rw[au,h1,aE,wS,if_neg (by omega),if_pos rfl]
 congr 1
 refine fe fun j hj=>?_
 rw[wS,if_pos hj]
theorem bH.append {ds:List Nat} {x:Nat} (h:bH ds) (hx:x<4294967296):bH (ds ++ [x]):=by
 intro d hd
 rcases List.mem_append.1 hd with h1|h1
 ·exact h d h1
 ·simp at h1;omega
theorem bH.take {ds:List Nat} (h:bH ds) (n:Nat):bH (ds.take n):=fun d hd=>h d (List.mem_of_mem_take hd)
theorem od (ds:List Nat) (n j:Nat):(ds.take n).getD j 0=if j<n then ds.getD j 0 else 0:=by
 simp only[List.getD_eq_getElem?_getD,List.getElem?_take]
 split<;>rfl
theorem jB (ds:List Nat) (m:Nat) : ∀k,(∀j,m≤j→j<m+k→ds.getD j 0=0)→aE ds (m+k)=aE ds m
 | 0,_=>rfl
 | k+1,h=>by
  rw[show m+(k+1)=(m+k)+1 from rfl,aE,jB ds m k (fun j a b=>h j a (by omega)),h (m+k) (by omega) (by omega)]
  simp
theorem u6 {ds:List Nat} {m:Nat} (hm:m≤ds.length) (h : ∀j,m≤j→ds.getD j 0=0):au (ds.take m)=au ds:=by
 have h1:(ds.take m).length=m:=by simp[hm]
 rw[au,h1]
 have h2:aE (ds.take m) m=aE ds m:=fe fun j hj=>by rw[od,if_pos hj]
 rw[h2]
 have:=jB ds m (ds.length - m) (fun j a _=>h j a)
 rw[show m+(ds.length - m)=ds.length from by omega] at this
 exact this.symm
theorem Norm.ge {ds:List Nat} (h:Norm ds) (hne:ds ≠ []):4294967296 ^ (ds.length - 1)≤au ds:=by
 rcases h with h|h
 ·exact absurd h hne
 ·have hl:0<ds.length:=List.length_pos_iff.2 hne
  obtain⟨n,hn⟩ : ∃n,ds.length=n+1:=⟨ds.length - 1,by omega⟩
  rw[au,hn,aE]
  rw[hn] at h
  simp only[Nat.add_sub_cancel] at h ⊢
  have:1*4294967296 ^ n≤ds.getD n 0*4294967296 ^ n:=Nat.mul_le_mul_right _ (by omega)
  omega
theorem jI {a b:List Nat} (ha:bH a) (hb:Norm b) (hl:a.length<b.length):au a<au b:=by
 have h1:=iC ha
 have h2:=hb.ge (by intro h;subst h;simp at hl)
 have h3:4294967296 ^ a.length≤4294967296 ^ (b.length - 1):=Nat.pow_le_pow_right (by omega) (by omega)
 omega
theorem pR {a b:List Nat} (ha:bH a) {i:Nat} (hi:a.getD i 0<b.getD i 0) : ∀k,(∀j,i<j→j<i+1+k→a.getD j 0=b.getD j 0)→aE a (i+1+k)<aE b (i+1+k)
 | 0,_=>by
  have h1:=gR ha i
  have h2:(a.getD i 0+1)*4294967296 ^ i≤b.getD i 0*4294967296 ^ i:=Nat.mul_le_mul_right _ (by omega)
  rw[Nat.add_mul] at h2
  rw[Nat.add_zero,aE,aE]
  omega
 | k+1,h=>by
  have:=pR ha hi k (fun j x y=>h j x (by omega))
  rw[show i+1+(k+1)=(i+1+k)+1 from rfl,aE,aE,h (i+1+k) (by omega) (by omega)]
  omega
theorem jH {a b:List Nat} (ha:bH a) (hl:a.length=b.length) {i:Nat} (hn:i<a.length) (hi:a.getD i 0<b.getD i 0) (h : ∀j,i<j→j<a.length→a.getD j 0=b.getD j 0):au a<au b:=by
 have:=pR ha hi (a.length - (i+1)) (fun j x y=>h j x (by omega))
 rw[show i+1+(a.length - (i+1))=a.length from by omega] at this
 rw[au,au,←hl];exact this
theorem lz {a b:List Nat} (hl:a.length=b.length) (h : ∀j,j<a.length→a.getD j 0=b.getD j 0):au a=au b:=by
 rw[au,au,←hl];exact fe h
theorem Norm.jV {ds:List Nat} (h:Norm ds):au ds=0↔ds = []:=by
 constructor
 ·intro h0
  apply Classical.byContradiction;intro hne
  have:=h.ge hne
  have:=qe (ds.length - 1)
  omega
 ·rintro rfl;rfl
theorem Norm.iM {a b:List Nat} (ha:Norm a) (hb:bH b) (h:au a≤au b):a.length≤b.length:=by
 apply Classical.byContradiction;intro hn
 have:=jI hb ha (by omega)
 omega
theorem nC (d:Nat) (ds:List Nat) : ∀k,aE (d :: ds) (k+1)=d+4294967296*aE ds k
 | 0=>by simp[aE]
 | k+1=>by
  rw[aE,nC d ds k,aE]
  simp only[List.getD_cons_succ,Nat.pow_succ]
  grind
theorem jD (d:Nat) (ds:List Nat):au (d :: ds)=d+4294967296*au ds:=nC d ds _
theorem wO : ∀{a b:List Nat},bH a→bH b→Norm a→Norm b→au a=au b→a=b:=by
 intro a b ha hb na nb h
 have l1:=na.iM hb (by omega)
 have l2:=nb.iM ha (by omega)
 have hl:a.length=b.length:=by omega
 clear l1 l2 na nb
 induction a generalizing b with
 | nil=>exact(List.length_eq_zero_iff.1 hl.symm).symm
 | cons x a ih =>
  cases b with
  | nil=>simp at hl
  | cons y b =>
   rw[jD,jD] at h
   have hx:x<4294967296:=ha x (by simp)
   have hy:y<4294967296:=hb y (by simp)
   have e1:x=y:=by omega
   have e2:au a=au b:=by omega
   rw[e1,ih (b:=b) (fun d hd=>ha d (by simp[hd])) (fun d hd=>hb d (by simp[hd])) e2 (by simpa using hl)]
end Go.Id
