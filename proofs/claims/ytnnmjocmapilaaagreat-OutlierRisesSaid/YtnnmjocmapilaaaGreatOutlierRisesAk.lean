/-
  Digits to the base 2^64: bits
-/
import Derived.Test.YtnnmjocmapilaaaGreatOutlierRisesAj
import Derived.Test.YtnnmjocmapilaaaGreatProg
set_option linter.unusedVariables false
set_option linter.unusedSimpArgs false
set_option linter.defProp false
set_option linter.deprecated false
namespace Go.Id.B
variable {y x n:Nat}
theorem JM (hx:2 ^ n∣x) (hy:y<2 ^ n):x ||| y=x+y:=by
 obtain⟨c,rfl⟩:=hx
 exact(Nat.two_pow_add_eq_or_of_lt hy c).symm
def UQ (hx:x<2 ^ n) (hy:2 ^ n∣y):x ||| y=x+y:=by
 rw[Nat.or_comm,JM hy hx,Nat.add_comm]
variable {ds:List Nat}
def uN (h:bJ ds) : ∀{n k:Nat},n≤k→aI ds k % 18446744073709551616 ^ n=aI ds n
 | n,0,hk=>by
  obtain rfl:n=0:=by omega
  simp[aI]
 | n,k+1,hk=>by
  by_cases hn:n=k+1
  ·subst hn;exact Nat.mod_eq_of_lt (iz h _)
  ·have ih:=uN h (show n≤k by omega)
   rw[aI]
   have hd:18446744073709551616 ^ n∣ds.getD k 0*18446744073709551616 ^ k:=Nat.dvd_trans (Nat.pow_dvd_pow _ (by omega)) (Nat.dvd_mul_left _ _)
   obtain⟨c,hc⟩:=hd
   rw[hc,Nat.add_mul_mod_self_left,ih]
theorem rR (h:bJ ds) (j:Nat):ds.getD j 0=ao ds / 18446744073709551616 ^ j % 18446744073709551616:=by
 have hp:=qZ j
 by_cases hj:j<ds.length
 ·have e1:aI ds (j+1)=ao ds % 18446744073709551616 ^ (j+1):=(uN h (show j+1≤ds.length by omega)).symm
  have e2:aI ds (j+1) / 18446744073709551616 ^ j=ds.getD j 0:=by
   rw[aI,Nat.add_mul_div_right _ _ hp,Nat.div_eq_of_lt (iz h j),Nat.zero_add]
  rw[←e2,e1,Nat.pow_succ,Nat.mod_mul_right_div_self]
 ·rw[cW (by omega)]
  have h1:=jz h
  have h2:18446744073709551616 ^ ds.length≤18446744073709551616 ^ j:=Nat.pow_le_pow_right (by omega) (by omega)
  rw[Nat.div_eq_of_lt (by omega)]
theorem CI (j:Nat):18446744073709551616 ^ j=2 ^ (64*j):=by rw[Nat.pow_mul]
variable {k:Nat}
def VP (h:bJ ds) (hk:2 ^ (k+1)∣ao ds):ds.getD (k / 64) 0 ||| 2 ^ (k % 64)=ds.getD (k / 64) 0+2 ^ (k % 64)∧ds.getD (k / 64) 0+2 ^ (k % 64)<18446744073709551616:=by
 have hs:k % 64<64:=Nat.mod_lt _ (by omega)
 have hd:2 ^ (k % 64+1)∣ds.getD (k / 64) 0:=by
  rw[rR h,CI]
  obtain⟨c,hc⟩:=hk
  have e:2 ^ (k+1)=2 ^ (64*(k / 64))*2 ^ (k % 64+1):=by rw[←Nat.pow_add];congr 1;omega
  rw[hc,e,Nat.mul_assoc,Nat.mul_div_cancel_left _ (Nat.pow_pos (by omega))]
  have e2:18446744073709551616=2 ^ (k % 64+1)*2 ^ (63 - k % 64):=by rw[←Nat.pow_add,show k % 64+1+(63 - k % 64)=64 by omega]
  rw[show(18446744073709551616:Nat)=2 ^ (k % 64+1)*2 ^ (63 - k % 64) from e2]
  exact(Nat.dvd_mod_iff (Nat.dvd_mul_right _ _)).2 (Nat.dvd_mul_right _ _)
 have hlt:2 ^ (k % 64)<2 ^ (k % 64+1):=Nat.pow_lt_pow_right (by omega) (by omega)
 have hw:=bS h (k / 64)
 refine⟨JM hd hlt,?_⟩
 obtain⟨c,hc⟩:=hd
 rw[hc] at hw ⊢
 have e2:18446744073709551616=2 ^ (k % 64+1)*2 ^ (63 - k % 64):=by rw[←Nat.pow_add,show k % 64+1+(63 - k % 64)=64 by omega]
 rw[e2] at hw ⊢
 have hc2:c<2 ^ (63 - k % 64):=Nat.lt_of_mul_lt_mul_left hw
 have:2 ^ (k % 64+1)*(c+1)≤2 ^ (k % 64+1)*2 ^ (63 - k % 64):=Nat.mul_le_mul_left _ hc2
 rw[Nat.mul_add,Nat.mul_one] at this
 omega
variable {s:Nat}
def CA (hx:x<18446744073709551616) (hs:s<64):x*2 ^ s % 18446744073709551616+x / 2 ^ (64 - s)*18446744073709551616=x*2 ^ s:=by
 have e:18446744073709551616=2 ^ (64 - s)*2 ^ s:=by rw[←Nat.pow_add,show 64 - s+s=64 by omega]
 have h:=Nat.div_add_mod (x*2 ^ s) 18446744073709551616
 have e2:x*2 ^ s / 18446744073709551616=x / 2 ^ (64 - s):=by rw[e,Nat.mul_div_mul_right _ _ (Nat.pow_pos (by omega))]
 rw[e2] at h
 omega
def Ut (x:Nat) (hs:s<64):2 ^ s∣x*2 ^ s % 18446744073709551616:=by
 have e:18446744073709551616=2 ^ s*2 ^ (64 - s):=by rw[←Nat.pow_add,show s+(64 - s)=64 by omega]
 rw[e]
 exact(Nat.dvd_mod_iff (Nat.dvd_mul_right _ _)).2 (Nat.dvd_mul_left _ _)
def Cy (hx:x<18446744073709551616) (hs:s≤64):x / 2 ^ (64 - s)<2 ^ s:=by
 rw[Nat.div_lt_iff_lt_mul (Nat.pow_pos (by omega)),←Nat.pow_add,show s+(64 - s)=64 by omega];exact hx
def VO (h:bJ ds) (hl:ds.length=n+1) (h1:2 ^ k≤ds.getD n 0) (h2:ds.getD n 0<2 ^ (k+1)):2 ^ (64*n+k)≤ao ds∧ao ds<2 ^ (64*n+k+1):=by
 rw[ao,hl,aI,CI]
 have hb:=iz h n
 rw[CI] at hb
 have e1:2 ^ (64*n+k)=2 ^ k*2 ^ (64*n):=by rw[Nat.pow_add,Nat.mul_comm]
 have e2:2 ^ (64*n+k+1)=2 ^ (k+1)*2 ^ (64*n):=by rw[Nat.add_assoc,Nat.pow_add,Nat.mul_comm]
 rw[e1,e2]
 have h3:2 ^ k*2 ^ (64*n)≤ds.getD n 0*2 ^ (64*n):=Nat.mul_le_mul_right _ h1
 have h4:(ds.getD n 0+1)*2 ^ (64*n)≤2 ^ (k+1)*2 ^ (64*n):=Nat.mul_le_mul_right _ h2
 rw[Nat.add_mul,Nat.one_mul] at h4
 omega
def IX (a b k V r:Nat):Prop:=a=b*V+r∧2 ^ k∣V∧r<b*2 ^ k
variable {a b:Nat}
def KG {la lb:Nat} (ha:a<2 ^ la) (hb:2 ^ lb≤b) (hl:lb≤la):IX a b (la - lb) 0 a:=by
 refine⟨by omega,Nat.dvd_zero _,?_⟩
 have h1:2 ^ lb*2 ^ (la - lb)≤b*2 ^ (la - lb):=Nat.mul_le_mul_right _ hb
 rw[←Nat.pow_add,show lb+(la - lb)=la by omega] at h1
 omega
variable {r V:Nat}
def SK (h:IX a b (k+1) V r) (hc:b*2 ^ k≤r):IX a b k (V+2 ^ k) (r - b*2 ^ k):=by
 obtain⟨h1,h2,h3⟩:=h
 have e:b*2 ^ (k+1)=b*2 ^ k+b*2 ^ k:=by rw[Nat.pow_succ];grind
 refine⟨?_,?_,by omega⟩
 ·rw[Nat.mul_add];omega
 ·exact(Nat.dvd_add_right (Nat.dvd_trans (Nat.pow_dvd_pow _ (by omega)) h2)).2 (Nat.dvd_refl _)
def Pw (h:IX a b (k+1) V r) (hc:r<b*2 ^ k):IX a b k V r :=
 ⟨h.1,Nat.dvd_trans (Nat.pow_dvd_pow _ (by omega)) h.2.1,hc⟩
def SL (h:IX a b 0 V r):V=a / b∧r=a % b:=by
 obtain⟨h1,_,h3⟩:=h
 rw[Nat.pow_zero,Nat.mul_one] at h3
 have e1:=Nat.mul_add_mod b V r
 have e2:=Nat.mul_add_div (show 0<b by omega) V r
 rw[←h1,Nat.mod_eq_of_lt h3] at e1
 rw[←h1,Nat.div_eq_of_lt h3,Nat.add_zero] at e2
 exact⟨e2.symm,e1.symm⟩
end Go.Id.B
namespace Go.Id
open Go
open Go.Proofs.Tryz (prog)
def ZcX:bh prog 133=some false:=by kernel_rfl
def ZcW:bh prog 135=some true:=by kernel_rfl
theorem BN:bh prog 137=some true:=by kernel_rfl
theorem yC:bh prog 139=some false:=by kernel_rfl
def ZcV:bh prog 143=some false:=by kernel_rfl
def ZcU:bh prog 145=some true:=by kernel_rfl
def TI:bh prog 147=some false:=by kernel_rfl
def NG:bh prog 150=some false:=by kernel_rfl
def ZcT:bh prog 175=some true:=by kernel_rfl
theorem IP:bh prog 177=some true:=by kernel_rfl
def ag22:bh prog 22=some false:=by kernel_rfl
def ZcS:bh prog 230=some false:=by kernel_rfl
def ag24:bh prog 24=some true:=by kernel_rfl
def ZcR:bh prog 244=some true:=by kernel_rfl
def ZcQ:bh prog 246=some true:=by kernel_rfl
def ag25:bh prog 25=some false:=by kernel_rfl
def tu:bh prog 28=some false:=by kernel_rfl
theorem ag3:bh prog 3=some false:=by kernel_rfl
def VT:bh prog 30=some true:=by kernel_rfl
def ag32:bh prog 32=some true:=by kernel_rfl
def ag38:bh prog 38=some false:=by kernel_rfl
def ag4:bh prog 4=some false:=by kernel_rfl
def ag42:bh prog 42=some false:=by kernel_rfl
theorem ag5:bh prog 5=some false:=by kernel_rfl
def ag54:bh prog 54=some false:=by kernel_rfl
def ag56:bh prog 56=some true:=by kernel_rfl
def ag58:bh prog 58=some true:=by kernel_rfl
def ZG:bh prog 61=some false:=by kernel_rfl
def ZcM:jh prog 133=some (1,8):=by kernel_rfl
def Xp:jh prog 139=some (4,64):=by kernel_rfl
def ZcL:jh prog 143=some (1,1):=by kernel_rfl
def ZcK:jh prog 147=some (1,24):=by kernel_rfl
def Xo:jh prog 220=some (4,64):=by kernel_rfl
def FV:jh prog 25=some (1,8):=by kernel_rfl
def ZD:jh prog 38=some (1,24):=by kernel_rfl
def ap42:jh prog 42=some (8,64):=by kernel_rfl
def KX:jh prog 61=some (16,128):=by kernel_rfl
def ND:NC prog 244=some (8,1):=by kernel_rfl
def uG:NC prog 30=some (8,1):=by kernel_rfl
def ZcH:cE prog 135=true:=by kernel_rfl
def ZcG:cE prog 137=true:=by kernel_rfl
def ZcF:cE prog 142=true:=by kernel_rfl
def ZcE:cE prog 145=true:=by kernel_rfl
def ZcD:cE prog 175=true:=by kernel_rfl
def ZcC:cE prog 177=true:=by kernel_rfl
def ZcB:cE prog 244=true:=by kernel_rfl
def ZcA:cE prog 246=true:=by kernel_rfl
def as30:cE prog 30=true:=by kernel_rfl
def as32:cE prog 32=true:=by kernel_rfl
def as77:cE prog 77=true:=by kernel_rfl
theorem eg30:prog.eqGuardType prog.depth 30=false:=by kernel_rfl
def gv:eu prog 133=some 1:=by kernel_rfl
def Bg:eu prog 139=some 4:=by kernel_rfl
def Zch:eu prog 143=some 1:=by kernel_rfl
def Na:eu prog 147=some 1:=by kernel_rfl
def es22:eu prog 22=some 1:=by kernel_rfl
def M9:eu prog 220=some 4:=by kernel_rfl
def j6:eu prog 25=some 1:=by kernel_rfl
theorem es38:eu prog 38=some 1:=by kernel_rfl
def Ps:eu prog 42=some 8:=by kernel_rfl
def es52:eu prog 52=some 6:=by kernel_rfl
def xl:eu prog 61=some 16:=by kernel_rfl
def iU:fieldAt prog 135 0=some 0:=by kernel_rfl
def jH:fieldAt prog 135 1=some 1:=by kernel_rfl
def gI:fieldAt prog 137 0=some 0:=by kernel_rfl
def iA:fieldAt prog 137 1=some 2:=by kernel_rfl
def Fx:fieldAt prog 142 0=some 0:=by kernel_rfl
def Fw:fieldAt prog 145 0=some 0:=by kernel_rfl
def VD:fieldAt prog 145 1=some 1:=by kernel_rfl
def dT:fieldAt prog 175 0=some 0:=by kernel_rfl
def fk:fieldAt prog 175 1=some 1:=by kernel_rfl
def jG:fieldAt prog 177 0=some 0:=by kernel_rfl
def kM:fieldAt prog 177 1=some 2:=by kernel_rfl
def sV:fieldAt prog 246 0=some 0:=by kernel_rfl
def kL:fieldAt prog 246 1=some 1:=by kernel_rfl
def Y8:fieldAt prog 24 0=some 0:=by kernel_rfl
def Fv:fieldAt prog 24 1=some 1:=by kernel_rfl
def Kz:fieldAt prog 32 0=some 0:=by kernel_rfl
def Ky:fieldAt prog 32 1=some 8:=by kernel_rfl
def Sw:fieldAt prog 56 0=some 0:=by kernel_rfl
def Sv:fieldAt prog 56 2=some 2:=by kernel_rfl
def Be:fieldAt prog 58 0=some 0:=by kernel_rfl
def Kx:fieldAt prog 58 1=some 3:=by kernel_rfl
def Fq:sU prog 135 1=some (false,1,1):=by kernel_rfl
def VC:sU prog 137 0=some (true,0,2):=by kernel_rfl
def is28:(Program.underlying prog 28).isSome=true:=by kernel_rfl
def is3:(Program.underlying prog 3).isSome=true:=by kernel_rfl
def is5:(Program.underlying prog 5).isSome=true:=by kernel_rfl
def is54:(Program.underlying prog 54).isSome=true:=by kernel_rfl
def WH:oN prog 133=some (1,8,[.int .u64 (0)]):=by kernel_rfl
def WG:oN prog 139=some (4,64,[.bool false,.slice none 0 0,.bool false,.slice none 0 0]):=by kernel_rfl
def ZaY:oN prog 143=some (1,1,[.bool false]):=by kernel_rfl
def WE:oN prog 147=some (1,24,[.slice none 0 0]):=by kernel_rfl
def ZaX:oN prog 220=some (4,64,[.bool false,.slice none 0 0,.bool false,.slice none 0 0]):=by kernel_rfl
def mk25:oN prog 25=some (1,8,[.int .i64 (0)]):=by kernel_rfl
def mk38:oN prog 38=some (1,24,[.slice none 0 0]):=by kernel_rfl
def mk42:oN prog 42=some (8,64,[.int .u64 (0),.int .u64 (0),.int .u64 (0),.int .u64 (0),.int .u64 (0),.int .u64 (0),.int .u64 (0),.int .u64 (0)]):=by kernel_rfl
def mk61:oN prog 61=some (16,128,[.int .u64 (0),.int .u64 (0),.int .u64 (0),.int .u64 (0),.int .u64 (0),.int .u64 (0),.int .u64 (0),.int .u64 (0),.int .u64 (0),.int .u64 (0),.int .u64 (0),.int .u64 (0),.int .u64 (0),.int .u64 (0),.int .u64 (0),.int .u64 (0)]):=by kernel_rfl
def vz:placeOf prog 135 0=some (0,1):=by kernel_rfl
def pO:placeOf prog 135 1=some (1,1):=by kernel_rfl
def y8:placeOf prog 137 0=some (0,2):=by kernel_rfl
def y7:placeOf prog 137 1=some (2,2):=by kernel_rfl
def UN:placeOf prog 142 0=some (0,1):=by kernel_rfl
def UM:placeOf prog 145 0=some (0,1):=by kernel_rfl
def UL:placeOf prog 145 1=some (1,1):=by kernel_rfl
def Mj:placeOf prog 175 0=some (0,1):=by kernel_rfl
def y5:placeOf prog 175 1=some (1,1):=by kernel_rfl
def yZ:placeOf prog 177 0=some (0,2):=by kernel_rfl
def yY:placeOf prog 177 1=some (2,2):=by kernel_rfl
def UK:placeOf prog 244 7=some (7,1):=by kernel_rfl
def Mi:placeOf prog 246 0=some (0,1):=by kernel_rfl
def UJ:placeOf prog 246 1=some (1,8):=by kernel_rfl
def Yd:placeOf prog 30 0=some (0,1):=by kernel_rfl
def Rq:placeOf prog 32 0=some (0,8):=by kernel_rfl
def Rp:placeOf prog 32 1=some (8,8):=by kernel_rfl
def ug:placeOf prog 77 0=some (0,1):=by kernel_rfl
def uf:placeOf prog 77 1=some (1,1):=by kernel_rfl
def fE:cj prog (some 133)=true:=by kernel_rfl
def Cu:cj prog (some 139)=true:=by kernel_rfl
def Zai:cj prog (some 143)=true:=by kernel_rfl
def QG:cj prog (some 147)=true:=by kernel_rfl
def Us:cj prog (some 22)=true:=by kernel_rfl
def Wk:cj prog (some 220)=true:=by kernel_rfl
def gh:cj prog (some 25)=true:=by kernel_rfl
def sl38:cj prog (some 38)=true:=by kernel_rfl
def Em:cj prog (some 42)=true:=by kernel_rfl
def sl52:cj prog (some 52)=true:=by kernel_rfl
def tZ:cj prog (some 61)=true:=by kernel_rfl
def Wh:aO prog 135=some 2:=by kernel_rfl
theorem tC:aO prog 137=some 4:=by kernel_rfl
def Wg:aO prog 139=some 1:=by kernel_rfl
def Wf:aO prog 145=some 2:=by kernel_rfl
def Zad:aO prog 147=some 1:=by kernel_rfl
def We:aO prog 175=some 2:=by kernel_rfl
theorem zS:aO prog 177=some 4:=by kernel_rfl
def Zac:aO prog 230=some 1:=by kernel_rfl
def sz24:aO prog 24=some 2:=by kernel_rfl
def Wd:aO prog 244=some 8:=by kernel_rfl
def Wc:aO prog 246=some 9:=by kernel_rfl
theorem Ei:aO prog 28=some 1:=by kernel_rfl
def sz3:aO prog 3=some 1:=by kernel_rfl
def Qx:aO prog 30=some 8:=by kernel_rfl
def XK:aO prog 32=some 16:=by kernel_rfl
def sz56:aO prog 56=some 3:=by kernel_rfl
def sz58:aO prog 58=some 6:=by kernel_rfl
def Uf:Program.underlying prog 133=some (.slice 28):=by kernel_rfl
def Z9:Program.underlying prog 244=some (.array 8 28):=by kernel_rfl
def u25:Program.underlying prog 25=some (.slice 3):=by kernel_rfl
theorem u28:Program.underlying prog 28=some (.int .u64):=by kernel_rfl
def u3:Program.underlying prog 3=some (.int .i64):=by kernel_rfl
theorem u30:Program.underlying prog 30=some (.array 8 28):=by kernel_rfl
def u32:Program.underlying prog 32=some (.struct { toList:=[{ name := "N",type:=30,offset:=0,embedded:=false,tag := "",pkgPath := "",byteOffset:=0 },{ name := "D",type:=30,offset:=8,embedded:=false,tag := "",pkgPath := "",byteOffset:=64 }] }):=by kernel_rfl
def u4:Program.underlying prog 4=some .bool:=by kernel_rfl
def u5:Program.underlying prog 5=some (.int .u8):=by kernel_rfl
def u61:Program.underlying prog 61=some (.slice 32):=by kernel_rfl
def u64:Program.underlying prog 64=some (.int .u64):=by kernel_rfl
def u9:Program.underlying prog 9=some .string:=by kernel_rfl
def jI:aE prog 135=some [.bool false,.slice none 0 0]:=by kernel_rfl
def dW:aE prog 137=some [.bool false,.slice none 0 0,.bool false,.slice none 0 0]:=by kernel_rfl
def ZZ:aE prog 139=some [.slice none 0 0]:=by kernel_rfl
def ZY:aE prog 142=some [.slice none 0 0]:=by kernel_rfl
def V1:aE prog 145=some [.slice none 0 0,.slice none 0 0]:=by kernel_rfl
def ZX:aE prog 147=some [.slice none 0 0]:=by kernel_rfl
def lD:aE prog 175=some [.bool false,.slice none 0 0]:=by kernel_rfl
def kQ:aE prog 177=some [.bool false,.slice none 0 0,.bool false,.slice none 0 0]:=by kernel_rfl
def ZV:aE prog 230=some [.nilFunc]:=by kernel_rfl
def P3:aE prog 244=some [.int .u64 (0),.int .u64 (0),.int .u64 (0),.int .u64 (0),.int .u64 (0),.int .u64 (0),.int .u64 (0),.int .u64 (0)]:=by kernel_rfl
def Lc:aE prog 246=some [.bool false,.int .u64 (0),.int .u64 (0),.int .u64 (0),.int .u64 (0),.int .u64 (0),.int .u64 (0),.int .u64 (0),.int .u64 (0)]:=by kernel_rfl
def zc3:aE prog 3=some [.int .i64 (0)]:=by kernel_rfl
def nW:aE prog 30=some [.int .u64 (0),.int .u64 (0),.int .u64 (0),.int .u64 (0),.int .u64 (0),.int .u64 (0),.int .u64 (0),.int .u64 (0)]:=by kernel_rfl
def fR:aE prog 32=some [.int .u64 (0),.int .u64 (0),.int .u64 (0),.int .u64 (0),.int .u64 (0),.int .u64 (0),.int .u64 (0),.int .u64 (0),.int .u64 (0),.int .u64 (0),.int .u64 (0),.int .u64 (0),.int .u64 (0),.int .u64 (0),.int .u64 (0),.int .u64 (0)]:=by kernel_rfl
def zc77:aE prog 77=some [.nilFunc,.nilFunc]:=by kernel_rfl
def PS (h:IH) (x y:Value):builtin prog h .append #[133,133] [x,y]=append prog h 133 x y:=builtin_append prog h 133 133 x y fE
def DL (h:IH) (x y:Value):builtin prog h .append #[139,139] [x,y]=append prog h 139 x y:=builtin_append prog h 139 139 x y Cu
def PR (h:IH) (x y:Value):builtin prog h .append #[143,143] [x,y]=append prog h 143 x y:=builtin_append prog h 143 143 x y Zai
def PQ (h:IH) (x y:Value):builtin prog h .append #[147,147] [x,y]=append prog h 147 x y:=builtin_append prog h 147 147 x y QG
def DK (h:IH) (x y:Value):builtin prog h .append #[220,220] [x,y]=append prog h 220 x y:=builtin_append prog h 220 220 x y Wk
def l6 (h:IH) (x y:Value):builtin prog h .append #[25,25] [x,y]=append prog h 25 x y:=builtin_append prog h 25 25 x y gh
def FQ (h:IH) (x y:Value):builtin prog h .append #[38,38] [x,y]=append prog h 38 x y:=builtin_append prog h 38 38 x y sl38
def NB (h:IH) (x y:Value):builtin prog h .append #[42,42] [x,y]=append prog h 42 x y:=builtin_append prog h 42 42 x y Em
def nR (h:IH) (x y:Value):builtin prog h .append #[61,61] [x,y]=append prog h 61 x y:=builtin_append prog h 61 61 x y tZ
def be4 (ox oy:Operand) (a b:Bool):binop prog .eql 4 ox oy (.bool a) (.bool b)=some (.bool (a == b)):=BJ u4 ox oy a b
def bn4 (ox oy:Operand) (a b:Bool):binop prog .neq 4 ox oy (.bool a) (.bool b)=some (.bool (!(a == b))):=BI u4 ox oy a b
def Tu (h:IH) (len:Nat) (ps:List (Nat×Value)) (hl:len*1≤16777216):buildSlice prog h 133 len ps=(ck (fun i=>some (i*1,1)) (bB len [.int .u64 (0)]) ps).map fun cells=>(.slice (some ⟨2*h.n,0,none⟩) len (2*len+1),h.new (.cells cells 1 none)):=dA WH h len ps hl
def Tt (h:IH) (len:Nat) (ps:List (Nat×Value)) (hl:len*4≤16777216):buildSlice prog h 139 len ps=(ck (fun i=>some (i*4,4)) (bB len [.bool false,.slice none 0 0,.bool false,.slice none 0 0]) ps).map fun cells=>(.slice (some ⟨2*h.n,0,none⟩) len (2*len+1),h.new (.cells cells 4 none)):=dA WG h len ps hl
def Zcv (h:IH) (len:Nat) (ps:List (Nat×Value)) (hl:len*1≤16777216):buildSlice prog h 143 len ps=(ck (fun i=>some (i*1,1)) (bB len [.bool false]) ps).map fun cells=>(.slice (some ⟨2*h.n,0,none⟩) len (2*len+1),h.new (.cells cells 1 none)):=dA ZaY h len ps hl
def Xh (h:IH) (len:Nat) (ps:List (Nat×Value)) (hl:len*1≤16777216):buildSlice prog h 147 len ps=(ck (fun i=>some (i*1,1)) (bB len [.slice none 0 0]) ps).map fun cells=>(.slice (some ⟨2*h.n,0,none⟩) len (2*len+1),h.new (.cells cells 1 none)):=dA WE h len ps hl
def Xg (h:IH) (len:Nat) (ps:List (Nat×Value)) (hl:len*4≤16777216):buildSlice prog h 220 len ps=(ck (fun i=>some (i*4,4)) (bB len [.bool false,.slice none 0 0,.bool false,.slice none 0 0]) ps).map fun cells=>(.slice (some ⟨2*h.n,0,none⟩) len (2*len+1),h.new (.cells cells 4 none)):=dA ZaX h len ps hl
def Ca (h:IH) (len:Nat) (ps:List (Nat×Value)) (hl:len*1≤16777216):buildSlice prog h 25 len ps=(ck (fun i=>some (i*1,1)) (bB len [.int .i64 (0)]) ps).map fun cells=>(.slice (some ⟨2*h.n,0,none⟩) len (2*len+1),h.new (.cells cells 1 none)):=dA mk25 h len ps hl
def Zx (h:IH) (len:Nat) (ps:List (Nat×Value)) (hl:len*1≤16777216):buildSlice prog h 38 len ps=(ck (fun i=>some (i*1,1)) (bB len [.slice none 0 0]) ps).map fun cells=>(.slice (some ⟨2*h.n,0,none⟩) len (2*len+1),h.new (.cells cells 1 none)):=dA mk38 h len ps hl
def bs42 (h:IH) (len:Nat) (ps:List (Nat×Value)) (hl:len*8≤16777216):buildSlice prog h 42 len ps=(ck (fun i=>some (i*8,8)) (bB len [.int .u64 (0),.int .u64 (0),.int .u64 (0),.int .u64 (0),.int .u64 (0),.int .u64 (0),.int .u64 (0),.int .u64 (0)]) ps).map fun cells=>(.slice (some ⟨2*h.n,0,none⟩) len (2*len+1),h.new (.cells cells 8 none)):=dA mk42 h len ps hl
theorem B9 (h:IH) (len:Nat) (ps:List (Nat×Value)) (hl:len*16≤16777216):buildSlice prog h 61 len ps=(ck (fun i=>some (i*16,16)) (bB len [.int .u64 (0),.int .u64 (0),.int .u64 (0),.int .u64 (0),.int .u64 (0),.int .u64 (0),.int .u64 (0),.int .u64 (0),.int .u64 (0),.int .u64 (0),.int .u64 (0),.int .u64 (0),.int .u64 (0),.int .u64 (0),.int .u64 (0),.int .u64 (0)]) ps).map fun cells=>(.slice (some ⟨2*h.n,0,none⟩) len (2*len+1),h.new (.cells cells 16 none)):=dA mk61 h len ps hl
def BC (ps:List (Nat×Value)):iI prog 135 ps=(ck (placeOf prog 135) [.bool false,.slice none 0 0] ps).map fun cs=>.agg cs.toArray:=fK jI ZcH ps
def Nt (ps:List (Nat×Value)):iI prog 137 ps=(ck (placeOf prog 137) [.bool false,.slice none 0 0,.bool false,.slice none 0 0] ps).map fun cs=>.agg cs.toArray:=fK dW ZcG ps
def Zct (ps:List (Nat×Value)):iI prog 142 ps=(ck (placeOf prog 142) [.slice none 0 0] ps).map fun cs=>.agg cs.toArray:=fK ZY ZcF ps
def Zcs (ps:List (Nat×Value)):iI prog 145 ps=(ck (placeOf prog 145) [.slice none 0 0,.slice none 0 0] ps).map fun cs=>.agg cs.toArray:=fK V1 ZcE ps
def Ns (ps:List (Nat×Value)):iI prog 175 ps=(ck (placeOf prog 175) [.bool false,.slice none 0 0] ps).map fun cs=>.agg cs.toArray:=fK lD ZcD ps
def Nr (ps:List (Nat×Value)):iI prog 177 ps=(ck (placeOf prog 177) [.bool false,.slice none 0 0,.bool false,.slice none 0 0] ps).map fun cs=>.agg cs.toArray:=fK kQ ZcC ps
def Nq (ps:List (Nat×Value)):iI prog 244 ps=(ck (placeOf prog 244) [.int .u64 (0),.int .u64 (0),.int .u64 (0),.int .u64 (0),.int .u64 (0),.int .u64 (0),.int .u64 (0),.int .u64 (0)] ps).map fun cs=>.agg cs.toArray:=fK P3 ZcB ps
def W9 (ps:List (Nat×Value)):iI prog 246 ps=(ck (placeOf prog 246) [.bool false,.int .u64 (0),.int .u64 (0),.int .u64 (0),.int .u64 (0),.int .u64 (0),.int .u64 (0),.int .u64 (0),.int .u64 (0)] ps).map fun cs=>.agg cs.toArray:=fK Lc ZcA ps
def FL (ps:List (Nat×Value)):iI prog 30 ps=(ck (placeOf prog 30) [.int .u64 (0),.int .u64 (0),.int .u64 (0),.int .u64 (0),.int .u64 (0),.int .u64 (0),.int .u64 (0),.int .u64 (0)] ps).map fun cs=>.agg cs.toArray:=fK nW as30 ps
def IE (ps:List (Nat×Value)):iI prog 32 ps=(ck (placeOf prog 32) [.int .u64 (0),.int .u64 (0),.int .u64 (0),.int .u64 (0),.int .u64 (0),.int .u64 (0),.int .u64 (0),.int .u64 (0),.int .u64 (0),.int .u64 (0),.int .u64 (0),.int .u64 (0),.int .u64 (0),.int .u64 (0),.int .u64 (0),.int .u64 (0)] ps).map fun cs=>.agg cs.toArray:=fK fR as32 ps
def KQ (ps:List (Nat×Value)):iI prog 77 ps=(ck (placeOf prog 77) [.nilFunc,.nilFunc] ps).map fun cs=>.agg cs.toArray:=fK zc77 as77 ps
def Bu (k:IntKind) (n:Int):nP prog 28 3 (.int k n)=some (.int .i64 (IntKind.i64.wrap n)):=kf is28 u3
def Zm (k:IntKind) (n:Int):nP prog 28 5 (.int k n)=some (.int .u8 (IntKind.u8.wrap n)):=kf is28 u5
def FE (k:IntKind) (n:Int):nP prog 3 28 (.int k n)=some (.int .u64 (IntKind.u64.wrap n)):=kf is3 u28
def Zl (k:IntKind) (n:Int):nP prog 3 64 (.int k n)=some (.int .u64 (IntKind.u64.wrap n)):=kf is3 u64
def Ta (k:IntKind) (n:Int):nP prog 54 3 (.int k n)=some (.int .i64 (IntKind.i64.wrap n)):=kf is54 u3
def Iu (k:IntKind) (n:Int):nP prog 5 3 (.int k n)=some (.int .i64 (IntKind.i64.wrap n)):=kf is5 u3
def rD (h:IH) (b o:Nat):load prog h 133 (ptr b o)=ld h b o:=cC ZcX h b o
def bR (h:IH) (b o:Nat):load prog h 135 (ptr b o)=(h.rd b o 2).map fun cs=>.agg cs.toArray:=fg ZcW Wh h b o
def fO (h:IH) (b o:Nat):load prog h 137 (ptr b o)=(h.rd b o 4).map fun cs=>.agg cs.toArray:=fg BN tC h b o
def Zbe (h:IH) (b o:Nat):load prog h 139 (ptr b o)=ld h b o:=cC yC h b o
def Zbd (h:IH) (b o:Nat):load prog h 143 (ptr b o)=ld h b o:=cC ZcV h b o
def MJ (h:IH) (b o:Nat):load prog h 145 (ptr b o)=(h.rd b o 2).map fun cs=>.agg cs.toArray:=fg ZcU Wf h b o
def MI (h:IH) (b o:Nat):load prog h 147 (ptr b o)=ld h b o:=cC TI h b o
def Zbc (h:IH) (b o:Nat):load prog h 150 (ptr b o)=ld h b o:=cC NG h b o
def cg (h:IH) (b o:Nat):load prog h 175 (ptr b o)=(h.rd b o 2).map fun cs=>.agg cs.toArray:=fg ZcT We h b o
def jK (h:IH) (b o:Nat):load prog h 177 (ptr b o)=(h.rd b o 4).map fun cs=>.agg cs.toArray:=fg IP zS h b o
def Vf (h:IH) (b o:Nat):load prog h 22 (ptr b o)=ld h b o:=cC ag22 h b o
def WN (h:IH) (b o:Nat):load prog h 230 (ptr b o)=ld h b o:=cC ZcS h b o
def Yt (h:IH) (b o:Nat):load prog h 24 (ptr b o)=(h.rd b o 2).map fun cs=>.agg cs.toArray:=fg ag24 sz24 h b o
def yd (h:IH) (b o:Nat):load prog h 244 (ptr b o)=(h.rd b o 8).map fun cs=>.agg cs.toArray:=fg ZcR Wd h b o
def RZ (h:IH) (b o:Nat):load prog h 246 (ptr b o)=(h.rd b o 9).map fun cs=>.agg cs.toArray:=fg ZcQ Wc h b o
def rC (h:IH) (b o:Nat):load prog h 25 (ptr b o)=ld h b o:=cC ag25 h b o
def tj (h:IH) (b o:Nat):load prog h 28 (ptr b o)=ld h b o:=cC tu h b o
def ld3 (h:IH) (b o:Nat):load prog h 3 (ptr b o)=ld h b o:=cC ag3 h b o
def fh (h:IH) (b o:Nat):load prog h 30 (ptr b o)=(h.rd b o 8).map fun cs=>.agg cs.toArray:=fg VT Qx h b o
def cq (h:IH) (b o:Nat):load prog h 32 (ptr b o)=(h.rd b o 16).map fun cs=>.agg cs.toArray:=fg ag32 XK h b o
def Ve (h:IH) (b o:Nat):load prog h 38 (ptr b o)=ld h b o:=cC ag38 h b o
def ld4 (h:IH) (b o:Nat):load prog h 4 (ptr b o)=ld h b o:=cC ag4 h b o
def ld42 (h:IH) (b o:Nat):load prog h 42 (ptr b o)=ld h b o:=cC ag42 h b o
def ld5 (h:IH) (b o:Nat):load prog h 5 (ptr b o)=ld h b o:=cC ag5 h b o
def ld54 (h:IH) (b o:Nat):load prog h 54 (ptr b o)=ld h b o:=cC ag54 h b o
def EY (h:IH) (b o:Nat):load prog h 56 (ptr b o)=(h.rd b o 3).map fun cs=>.agg cs.toArray:=fg ag56 sz56 h b o
def ld58 (h:IH) (b o:Nat):load prog h 58 (ptr b o)=(h.rd b o 6).map fun cs=>.agg cs.toArray:=fg ag58 sz58 h b o
def ld61 (h:IH) (b o:Nat):load prog h 61 (ptr b o)=ld h b o:=cC ZG h b o
def Za1 (h:IH) (a:Option Addr) (n c:Nat):ot prog h 147 (.slice a n c)=some (.int .i64 n):=uu QG h a n c
def ln25 (h:IH) (a:Option Addr) (n c:Nat):ot prog h 25 (.slice a n c)=some (.int .i64 n):=uu gh h a n c
variable {l c:Int}
def HJ (h:IH) (k j:IntKind) (h0:0≤l) (h1:l≤c) (h2:c*9≤1099511627776):makeSlice prog h 133 (.int k l) (.int j c)=some (.slice (some ⟨2*h.n,0,none⟩) l.toNat (2*c.toNat+1),h.new (.cells (bB c.toNat [.int .u64 (0)]) 1 none)):=lX WH h k j h0 h1 h2
def ZaV (h:IH) (k j:IntKind) (h0:0≤l) (h1:l≤c) (h2:c*65≤1099511627776):makeSlice prog h 139 (.int k l) (.int j c)=some (.slice (some ⟨2*h.n,0,none⟩) l.toNat (2*c.toNat+1),h.new (.cells (bB c.toNat [.bool false,.slice none 0 0,.bool false,.slice none 0 0]) 4 none)):=lX WG h k j h0 h1 h2
def ZaU (h:IH) (k j:IntKind) (h0:0≤l) (h1:l≤c) (h2:c*25≤1099511627776):makeSlice prog h 147 (.int k l) (.int j c)=some (.slice (some ⟨2*h.n,0,none⟩) l.toNat (2*c.toNat+1),h.new (.cells (bB c.toNat [.slice none 0 0]) 1 none)):=lX WE h k j h0 h1 h2
def J4 (h:IH) (k j:IntKind) (h0:0≤l) (h1:l≤c) (h2:c*9≤1099511627776):makeSlice prog h 25 (.int k l) (.int j c)=some (.slice (some ⟨2*h.n,0,none⟩) l.toNat (2*c.toNat+1),h.new (.cells (bB c.toNat [.int .i64 (0)]) 1 none)):=lX mk25 h k j h0 h1 h2
def gH (h:IH) (k o:Nat) (v:Value):store prog h 135 (ptr (2*k) o) v=stE 2 h k o v.cells.toList (h.ext.get k):=dH Wh h k o v
def df (h:IH) (k o:Nat) (v:Value):store prog h 137 (ptr (2*k) o) v=stE 4 h k o v.cells.toList (h.ext.get k):=dH tC h k o v
def Zag (h:IH) (k o:Nat) (v:Value):store prog h 139 (ptr (2*k) o) v=stE 1 h k o v.cells.toList (h.ext.get k):=dH Wg h k o v
def Zaf (h:IH) (k o:Nat) (v:Value):store prog h 145 (ptr (2*k) o) v=stE 2 h k o v.cells.toList (h.ext.get k):=dH Wf h k o v
def Wj (h:IH) (k o:Nat) (v:Value):store prog h 147 (ptr (2*k) o) v=stE 1 h k o v.cells.toList (h.ext.get k):=dH Zad h k o v
def gR (h:IH) (k o:Nat) (v:Value):store prog h 175 (ptr (2*k) o) v=stE 2 h k o v.cells.toList (h.ext.get k):=dH We h k o v
def jl (h:IH) (k o:Nat) (v:Value):store prog h 177 (ptr (2*k) o) v=stE 4 h k o v.cells.toList (h.ext.get k):=dH zS h k o v
def Zae (h:IH) (k o:Nat) (v:Value):store prog h 230 (ptr (2*k) o) v=stE 1 h k o v.cells.toList (h.ext.get k):=dH Zac h k o v
def GP (h:IH) (k o:Nat) (v:Value):store prog h 244 (ptr (2*k) o) v=stE 8 h k o v.cells.toList (h.ext.get k):=dH Wd h k o v
def GO (h:IH) (k o:Nat) (v:Value):store prog h 246 (ptr (2*k) o) v=stE 9 h k o v.cells.toList (h.ext.get k):=dH Wc h k o v
def wP (h:IH) (k o:Nat) (v:Value):store prog h 28 (ptr (2*k) o) v=stE 1 h k o v.cells.toList (h.ext.get k):=dH Ei h k o v
def st3 (h:IH) (k o:Nat) (v:Value):store prog h 3 (ptr (2*k) o) v=stE 1 h k o v.cells.toList (h.ext.get k):=dH sz3 h k o v
def lh (h:IH) (k o:Nat) (v:Value):store prog h 30 (ptr (2*k) o) v=stE 8 h k o v.cells.toList (h.ext.get k):=dH Qx h k o v
def dF (h:IH) (k o:Nat) (v:Value):store prog h 32 (ptr (2*k) o) v=stE 16 h k o v.cells.toList (h.ext.get k):=dH XK h k o v
end Go.Id
namespace Go.Id
def aI (ds:List Nat):Nat→Nat
 | 0=>0
 | k+1=>aI ds k+ds.getD k 0*4294967296 ^ k
def ao (ds:List Nat):Nat:=aI ds ds.length
def bJ (ds:List Nat):Prop:=∀d∈ds,d<4294967296
def Norm (ds:List Nat):Prop:=ds = []∨ds.getD (ds.length - 1) 0≠0
variable {ds:List Nat}
def bS (h:bJ ds) (k:Nat):ds.getD k 0<4294967296:=by
 rw[List.getD_eq_getElem?_getD]
 cases hx:ds[k]? with
 | none=>simp
 | some x=>simpa using h x (List.mem_of_getElem? hx)
theorem cW {k:Nat} (h:ds.length≤k):ds.getD k 0=0:=by
 rw[List.getD_eq_getElem?_getD,List.getElem?_eq_none h];rfl
def qZ (k:Nat):0<4294967296 ^ k:=Nat.pow_pos (by omega)
theorem iz (h:bJ ds) : ∀k,aI ds k<4294967296 ^ k
 | 0=>by simp[aI]
 | k+1=>by
  have ih:=iz h k
  have hd:=bS h k
  have h2:ds.getD k 0*4294967296 ^ k≤4294967295*4294967296 ^ k:=Nat.mul_le_mul_right _ (by omega)
  rw[aI,Nat.pow_succ]
  omega
theorem iS : ∀{k:Nat},ds.length≤k→aI ds k=ao ds
 | 0,h=>by
  have:ds = []:=List.length_eq_zero_iff.1 (by omega)
  subst this;rfl
 | k+1,h=>by
  by_cases hk:ds.length≤k
  ·rw[aI,iS hk,cW hk];simp
  ·have:ds.length=k+1:=by omega
   rw[ao,this]
theorem fm {es:List Nat} : ∀{k:Nat},(∀j,j<k→ds.getD j 0=es.getD j 0)→aI ds k=aI es k
 | 0,_=>rfl
 | k+1,h=>by rw[aI,aI,fm fun j hj=>h j (by omega),h k (by omega)]
def jz (h:bJ ds):ao ds<4294967296 ^ ds.length:=iz h _
variable {x:Nat}
theorem yg (j:Nat):(ds ++ [x]).getD j 0=if j<ds.length then ds.getD j 0 else if j=ds.length then x else 0:=by
 simp only[List.getD_eq_getElem?_getD]
 by_cases h:j<ds.length
 ·rw[if_pos h,List.getElem?_append_left h]
 ·rw[if_neg h,List.getElem?_append_right (by omega)]
  by_cases h2:j=ds.length
  ·rw[if_pos h2];subst h2;simp
  ·rw[if_neg h2,List.getElem?_eq_none (by simp;omega)];rfl
theorem jk (ds:List Nat) (x:Nat):ao (ds ++ [x])=ao ds+x*4294967296 ^ ds.length:=by
 have h1:(ds ++ [x]).length=ds.length+1:=by simp
 rw[ao,h1,aI,yg,if_neg (by omega),if_pos rfl]
 congr 1
 refine fm fun j hj=>?_
 rw[yg,if_pos hj]
theorem bJ.append (h:bJ ds) (hx:x<4294967296):bJ (ds ++ [x]):=by
 intro d hd
 rcases List.mem_append.1 hd with h1|h1
 ·exact h d h1
 ·simp at h1;omega
def bJ.take (h:bJ ds) (n:Nat):bJ (ds.take n):=fun d hd=>h d (List.mem_of_mem_take hd)
theorem oT (ds:List Nat) (n j:Nat):(ds.take n).getD j 0=if j<n then ds.getD j 0 else 0:=by
 simp only[List.getD_eq_getElem?_getD,List.getElem?_take]
 split<;>rfl
theorem jQ (ds:List Nat) (m:Nat) : ∀k,(∀j,m≤j→j<m+k→ds.getD j 0=0)→aI ds (m+k)=aI ds m
 | 0,_=>rfl
 | k+1,h=>by
  rw[show m+(k+1)=(m+k)+1 from rfl,aI,jQ ds m k (fun j a b=>h j a (by omega)),h (m+k) (by omega) (by omega)]
  simp
def wL {m:Nat} (hm:m≤ds.length) (h : ∀j,m≤j→ds.getD j 0=0):ao (ds.take m)=ao ds:=by
 have h1:(ds.take m).length=m:=by simp[hm]
 rw[ao,h1]
 have h2:aI (ds.take m) m=aI ds m:=fm fun j hj=>by rw[oT,if_pos hj]
 rw[h2]
 have:=jQ ds m (ds.length - m) (fun j a _=>h j a)
 rw[show m+(ds.length - m)=ds.length from by omega] at this
 exact this.symm
def Norm.ge (h:Norm ds) (hne:ds ≠ []):4294967296 ^ (ds.length - 1)≤ao ds:=by
 rcases h with h|h
 ·exact absurd h hne
 ·have hl:0<ds.length:=List.length_pos_iff.2 hne
  obtain⟨n,hn⟩ : ∃n,ds.length=n+1:=⟨ds.length - 1,by omega⟩
  rw[ao,hn,aI]
  rw[hn] at h
  simp only[Nat.add_sub_cancel] at h ⊢
  have:1*4294967296 ^ n≤ds.getD n 0*4294967296 ^ n:=Nat.mul_le_mul_right _ (by omega)
  omega
variable {a b:List Nat}
def jX (ha:bJ a) (hb:Norm b) (hl:a.length<b.length):ao a<ao b:=by
 have h1:=jz ha
 have h2:=hb.ge (by intro h;subst h;simp at hl)
 have h3:4294967296 ^ a.length≤4294967296 ^ (b.length - 1):=Nat.pow_le_pow_right (by omega) (by omega)
 omega
variable {i:Nat}
def qI (ha:bJ a) (hi:a.getD i 0<b.getD i 0) : ∀k,(∀j,i<j→j<i+1+k→a.getD j 0=b.getD j 0)→aI a (i+1+k)<aI b (i+1+k)
 | 0,_=>by
  have h1:=iz ha i
  have h2:(a.getD i 0+1)*4294967296 ^ i≤b.getD i 0*4294967296 ^ i:=Nat.mul_le_mul_right _ (by omega)
  rw[Nat.add_mul] at h2
  rw[Nat.add_zero,aI,aI]
  omega
 | k+1,h=>by
  have:=qI ha hi k (fun j x y=>h j x (by omega))
  rw[show i+1+(k+1)=(i+1+k)+1 from rfl,aI,aI,h (i+1+k) (by omega) (by omega)]
  omega
def jW (ha:bJ a) (hl:a.length=b.length) (hn:i<a.length) (hi:a.getD i 0<b.getD i 0) (h : ∀j,i<j→j<a.length→a.getD j 0=b.getD j 0):ao a<ao b:=by
 have:=qI ha hi (a.length - (i+1)) (fun j x y=>h j x (by omega))
 rw[show i+1+(a.length - (i+1))=a.length from by omega] at this
 rw[ao,ao,←hl];exact this
def mj (hl:a.length=b.length) (h : ∀j,j<a.length→a.getD j 0=b.getD j 0):ao a=ao b:=by
 rw[ao,ao,←hl];exact fm h
def Norm.kI (h:Norm ds):ao ds=0↔ds = []:=by
 constructor
 ·intro h0
  apply Classical.byContradiction;intro hne
  have:=h.ge hne
  have:=qZ (ds.length - 1)
  omega
 ·rintro rfl;rfl
def Norm.jd (ha:Norm a) (hb:bJ b) (h:ao a≤ao b):a.length≤b.length:=by
 apply Classical.byContradiction;intro hn
 have:=jX hb ha (by omega)
 omega
theorem oD (d:Nat) (ds:List Nat) : ∀k,aI (d :: ds) (k+1)=d+4294967296*aI ds k
 | 0=>by simp[aI]
 | k+1=>by
  rw[aI,oD d ds k,aI]
  simp only[List.getD_cons_succ,Nat.pow_succ]
  grind
theorem jS (d:Nat) (ds:List Nat):ao (d :: ds)=d+4294967296*ao ds:=oD d ds _
def yc : ∀{a b:List Nat},bJ a→bJ b→Norm a→Norm b→ao a=ao b→a=b:=by
 intro a b ha hb na nb h
 have l1:=na.jd hb (by omega)
 have l2:=nb.jd ha (by omega)
 have hl:a.length=b.length:=by omega
 clear l1 l2 na nb
 induction a generalizing b with
 | nil=>exact(List.length_eq_zero_iff.1 hl.symm).symm
 | cons x a ih =>
  cases b with
  | nil=>simp at hl
  | cons y b =>
   rw[jS,jS] at h
   have hx:x<4294967296:=ha x (by simp)
   have hy:y<4294967296:=hb y (by simp)
   have e1:x=y:=by omega
   have e2:ao a=ao b:=by omega
   rw[e1,ih (b:=b) (fun d hd=>ha d (by simp[hd])) (fun d hd=>hb d (by simp[hd])) e2 (by simpa using hl)]
open Go
open Go.Proofs.Tryz (prog)
open Nat renaming reduceAdd→zA,reduceEqDiff→zE,reduceLeDiff→zL
abbrev KN (n:Nat):Value:=.int .i64 (n:Int)
def iv (h:IH) (v:Value) (ds:List Nat):Prop:=bH h 1 v ds.length (ds.map KN)∧bJ ds∧ds.length≤1100000
def Dig (h:IH) (v:Value) (x:Nat):Prop:=∃ds,iv h v ds∧Norm ds∧ao ds=x
variable {ds:List Nat}{v:Value}{h h':IH}
def iv.aa (d:iv h v ds) (e:aK h h'):iv h' v ds:=⟨d.1.aa e,d.2⟩
def Dig.aa {x:Nat} (d:Dig h v x) (e:aK h h'):Dig h' v x:=let ⟨ds,a,b⟩:=d;⟨ds,a.aa e,b⟩
def get_some {i:Nat} (h:i<ds.length):ds[i]?=some (ds.getD i 0):=by
 rw[List.getD_eq_getElem?_getD,List.getElem?_eq_getElem h];rfl
def cp {α β:Type} (f:α→β) (l:List α) (i:Nat):(l.map f)[i]?=(l[i]?).map f:=List.getElem?_map
def xo (hd:iv h v ds):WV prog (.func (.func 218) #[] #[]) [v] h fun r h'=>h'=h∧Dig h r (ao ds):=by
 refine enter (nt:=21) (rs:=[.tmp 2]) Proofs.Tryz.func218 rfl rfl rfl (by simp) ?_
 simp -dsimp (disch:=omega) only[wpS,zE,hd.1.len gh]
 refine loop (fun m fr h1=>h1=h∧m≤ds.length∧ab fr 3=some (KN m)∧ab fr 0=some v ∧ ∀j,m≤j→ds.getD j 0=0) ds.length ⟨rfl,Nat.le_refl _,by simp,by simp,fun j hj=>cW hj⟩ ?_
 rintro m fr h1 ⟨rfl,hm,f3,f0,hz⟩
 have fin : ∀n:Nat,n≤ds.length→(∀j,n≤j→ds.getD j 0=0)→(n=0∨ds.getD (n - 1) 0≠0) → ∃r,cT prog h1 25 v none (some (KN n)) none=some r∧Dig h1 r (ao ds):=by
  intro n hn hz hne
  obtain⟨r,hr,hs⟩:=hd.1.slice (aK.refl _) (P:=prog) (t:=25) u25 sz3 (l:=0) (m:=n) (Nat.zero_le _) hn (lo:=none) (hi:=some (KN n)) rfl (fun c hc=>mi (k:=.i64) (by omega))
  refine⟨r,hr,ds.take n,⟨?_,hd.2.1.take n,by simp;have:=hd.2.2;omega⟩,?_,wL hn hz⟩
  ·have hl:(ds.take n).length=n:=by simp[hn]
   rw[hl]
   simpa [List.map_take] using hs
  ·rcases hne with rfl|hne
   ·left;simp
   ·by_cases h0:n=0
    ·subst h0;left;simp
    ·right
     have hl:(ds.take n).length=n:=by simp[hn]
     rw[hl,oT,if_pos (by omega)];exact hne
 have hb:=hd.2.2
 rcases Nat.eq_zero_or_pos m with rfl|hp
 ·obtain⟨r,hr,hD⟩:=fin 0 hm hz (.inl rfl)
  simp -dsimp (disch:=omega) only[wpS,wpT,zE,f3,f0,hr]
  exact hD
 ·obtain⟨k,rfl⟩ : ∃k,m=k+1:=⟨m - 1,by omega⟩
  have h2:IntKind.i64.wrap (((k+1:Nat):Int) - 1)=(k:Int):=by rw[wrap_i64 (by omega)];omega
  simp -dsimp (disch:=omega) only[wpS,wpT,zE,f3,f0,h2,hd.1.idx j6 (show k<ds.length by omega),hd.1.ld (aK.refl _) (P:=prog) (t:=3) (c:=k) (by simp<;>omega) ag3,cp,get_some (show k<ds.length by omega)]
  refine au (fun hc=>?_) (fun hc=>?_)
  ·simp -dsimp (disch:=omega) only[wpS,zE,f3,h2]
   refine⟨k,by omega,rfl,by omega,by simp,by simp[f0],fun j hj=>?_⟩
   by_cases hjk:j=k
   ·subst hjk;simpa using hc
   ·exact hz j (by omega)
  ·obtain⟨r,hr,hD⟩:=fin (k+1) hm hz (.inr (by simpa using hc))
   simp -dsimp (disch:=omega) only[wpS,wpT,zE,f3,f0,hr]
   exact hD
def Px (hd:iv h v ds):WV prog (.func (.func 218) #[] #[]) [v] h fun r h'=>dN r=dN v:=by
 have hb:=hd.2.2
 refine enter (nt:=21) (rs:=[.tmp 2]) Proofs.Tryz.func218 rfl rfl rfl (by simp) ?_
 simp -dsimp (disch:=omega) only[wpS,zE,hd.1.len gh]
 refine loop (fun m fr h1=>h1=h∧m≤ds.length∧ab fr 3=some (KN m)∧ab fr 0=some v) ds.length ⟨rfl,Nat.le_refl _,by simp⟩ ?_
 rintro m fr h1 ⟨rfl,hm,f3,f0⟩
 have fin : ∀n:Nat,n≤ds.length → ∃r,cT prog h1 25 v none (some (KN n)) none=some r∧dN r=dN v:=by
  intro n hn
  obtain⟨r,hr,hs⟩:=hd.1.slice (aK.refl _) (P:=prog) (t:=25) u25 sz3 (l:=0) (m:=n) (Nat.zero_le _) hn (lo:=none) (hi:=some (KN n)) rfl (fun c hc=>mi (k:=.i64) (by omega))
  exact⟨r,hr,xQ u25 hr⟩
 rcases Nat.eq_zero_or_pos m with rfl|hp
 ·obtain⟨r,hr,hD⟩:=fin 0 hm
  simp -dsimp (disch:=omega) only[wpS,wpT,zE,f3,f0,hr]
  exact hD
 ·obtain⟨k,rfl⟩ : ∃k,m=k+1:=⟨m - 1,by omega⟩
  have h2:IntKind.i64.wrap (((k+1:Nat):Int) - 1)=(k:Int):=by rw[wrap_i64 (by omega)];omega
  simp -dsimp (disch:=omega) only[wpS,wpT,zE,f3,f0,h2,hd.1.idx j6 (show k<ds.length by omega),hd.1.ld (aK.refl _) (P:=prog) (t:=3) (c:=k) (by simp<;>omega) ag3,cp,get_some (show k<ds.length by omega)]
  refine au (fun hc=>?_) (fun hc=>?_)
  ·simp -dsimp (disch:=omega) only[wpS,zE,f3,h2]
   exact⟨k,by omega,rfl,by omega,by simp[f0]⟩
  ·obtain⟨r,hr,hD⟩:=fin (k+1) hm
   simp -dsimp (disch:=omega) only[wpS,zE,f3,f0,hr]
   exact hD
def bd (h:IH) (v:Value) (z:Int):Prop:=∃s,v=.agg #[.bool (decide (z<0)),s]∧Dig h s z.natAbs
def bd.aa {z:Int} (d:bd h v z) (e:aK h h'):bd h' v z:=let ⟨s,a,b⟩:=d;⟨s,a,b.aa e⟩
def kJ (hd:iv h v ds) (b:Bool):WV prog (.func (.func 202) #[] #[]) [.bool b,v] h fun r h'=>Ext h h'∧bd h' r (if b then -(ao ds:Int) else ao ds):=by
 refine enter (nt:=15) (rs:=[.cell 4 175]) Proofs.Tryz.func202 rfl rfl rfl (by simp) ?_
 simp -dsimp (disch:=omega) only[wpS,zE,zA,lD]
 refine call (xo (hd.aa ((aK.refl h).new _))) ?_
 rintro r h1 ⟨rfl,ds',hD,hN,hv⟩
 have hl:=hD.2.2
 have hz:=hN.kI
 have hk : ∀o,aK (h.new (.cells [.bool false,.slice none 0 0] 0 none)) ((h.new (.cells [.bool false,.slice none 0 0] 0 none)).put h.n o):=fun o=>(aK.refl _).put (ah _ _ rfl) o
 cases b
 ·simp -dsimp (disch:=omega) only[wpS,wpT,zE,zL,zA,Ns,Mj,y5,gR,cg,hD.1.cells,hD.1.cok]
  refine⟨((Ext.refl h).new _).put (Nat.le_refl _) _,r,?_,ds',hD.aa (hk _),hN,?_⟩
  ·simp
  ·simp[hv]
 ·simp -dsimp (disch:=omega) only[wpS,wpT,zE,zL,zA,Ns,Mj,y5,gR,cg,hD.1.cells,hD.1.cok,hD.1.len gh]
  refine⟨((Ext.refl h).new _).put (Nat.le_refl _) _,r,?_,ds',hD.aa (hk _),hN,?_⟩
  ·rw[hv] at hz
   have:0<ds'.length↔0<ao ds:=by
    cases ds' with
    | nil=>simp at hz;simp[hz]
    | cons x l=>simp at hz;simp;omega
   simp[this]
  ·simp[hv]
def Au {w:Value} {a b:List Nat} (ha:iv h v a) (hb:iv h w b) (na:Norm a) (nb:Norm b) :
  WV prog (.func (.func 200) #[] #[]) [v,w] h fun r h'=>h'=h ∧ ∃c:Int,r=KI c∧(c<0↔ao a<ao b)∧(c=0↔ao a=ao b) ∧ -9223372036854775808≤c∧c≤9223372036854775807:=by
 have la:=ha.2.2
 have lb:=hb.2.2
 refine enter (nt:=41) (rs:=[.tmp 4]) Proofs.Tryz.func200 rfl rfl rfl (by simp) ?_
 simp -dsimp (disch:=omega) only[wpS,zE,zA,ha.1.len gh,hb.1.len gh]
 refine au ?_ ?_<;>intro hc<;>simp only[bne_iff_ne,bne_eq_false_iff_eq,ne_eq] at hc
 ·simp -dsimp (disch:=omega) only[wpS,wpT,zE,ha.1.len gh,hb.1.len gh]
  refine⟨_,rfl,?_,?_,by omega,by omega⟩
  ·constructor
   ·intro h1;exact jX ha.2.1 nb (by omega)
   ·intro h1
    have:=na.jd hb.2.1 (Nat.le_of_lt h1)
    omega
  ·constructor
   ·intro h1;omega
   ·intro h1
    have h2:=na.jd hb.2.1 (Nat.le_of_eq h1)
    have h3:=nb.jd ha.2.1 (Nat.le_of_eq h1.symm)
    omega
 ·have hl:a.length=b.length:=by omega
  simp -dsimp (disch:=omega) only[wpS,wpT,zE,ha.1.len gh]
  refine loop (fun m fr h1=>h1=h∧m≤a.length∧ab fr 5=some (KI ((m:Int) - 1))∧ab fr 0=some v∧ab fr 1=some w ∧ ∀j,m≤j→j<a.length→a.getD j 0=b.getD j 0) a.length ⟨rfl,Nat.le_refl _,by simp,by simp,by simp,fun j hj hj2=>by omega⟩ ?_
  rintro m fr h1 ⟨rfl,hm,f5,f0,f1,hz⟩
  rcases Nat.eq_zero_or_pos m with rfl|hp
  ·simp -dsimp (disch:=try exact dx) only[wpS,wpT,zE,f5]
   refine⟨_,rfl,?_,?_,by omega,by omega⟩
   ·have:=mj hl (fun j hj=>hz j (Nat.zero_le _) hj);omega
   ·have:=mj hl (fun j hj=>hz j (Nat.zero_le _) hj);omega
  ·obtain⟨k,rfl⟩ : ∃k,m=k+1:=⟨m - 1,by omega⟩
   have h2:(((k+1:Nat):Int) - 1)=(k:Int):=by omega
   rw[h2] at f5
   have da:=bS ha.2.1 k
   have db:=bS hb.2.1 k
   simp -dsimp (disch:=try exact dx) only[wpS,wpT,zE,f5,f0,f1,ha.1.idx j6 (show k<a.length by omega),ha.1.ld (aK.refl _) (P:=prog) (t:=3) (c:=k) (by simp<;>omega) ag3,hb.1.idx j6 (show k<b.length by omega),hb.1.ld (aK.refl _) (P:=prog) (t:=3) (c:=k) (by simp<;>omega) ag3,cp,get_some (show k<a.length by omega),get_some (show k<b.length by omega)]
   refine au ?_ ?_<;>intro hc<;>simp only[bne_iff_ne,bne_eq_false_iff_eq,ne_eq] at hc
   ·simp -dsimp (disch:=try exact dx) only[wpS,wpT,zE,f5,f0,f1,ha.1.idx j6 (show k<a.length by omega),ha.1.ld (aK.refl _) (P:=prog) (t:=3) (c:=k) (by simp<;>omega) ag3,hb.1.idx j6 (show k<b.length by omega),hb.1.ld (aK.refl _) (P:=prog) (t:=3) (c:=k) (by simp<;>omega) ag3,cp,get_some (show k<a.length by omega),get_some (show k<b.length by omega)]
    have key:(a.getD k 0<b.getD k 0→ao a<ao b)∧(b.getD k 0<a.getD k 0→ao b<ao a) :=
     ⟨fun h=>jW ha.2.1 hl (by omega) h (fun j x y=>hz j (by omega) y),fun h=>jW hb.2.1 hl.symm (by omega) h (fun j x y=>(hz j (by omega) (by omega)).symm)⟩
    refine⟨_,rfl,?_,?_,by omega,by omega⟩
    ·constructor
     ·intro h1;exact key.1 (by omega)
     ·intro h1
      apply Classical.byContradiction;intro h3
      have:=key.2 (by omega)
      omega
    ·constructor
     ·intro h1;omega
     ·intro h1
      rcases Nat.lt_or_ge (a.getD k 0) (b.getD k 0) with h3|h3
      ·have:=key.1 h3;omega
      ·have:=key.2 (by omega);omega
   ·simp -dsimp (disch:=omega) only[wpS,wpT,zE,f5]
    refine⟨k,by omega,rfl,by omega,by simp,by simp[f0],by simp[f1],fun j h3 h4=>?_⟩
    by_cases hjk:j=k
    ·subst hjk;exact Int.ofNat.inj hc
    ·exact hz j (by omega) h4
theorem vH (os:List Nat) (d:Nat):os.map KN ++ [KN d]=(os ++ [d]).map KN:=by simp
variable {v:Value}{h:IH}
def Acc.block {n0 sz:Nat} {n:Nat} {cs:List Value} (a:Acc h n0 sz v n cs) {k:Nat} (hk:k<n0):dN v≠some (2*k):=by
 obtain⟨hz,hl,⟨rfl,_⟩|⟨j,fam,rfl,hn,h1,h2,h3,h4⟩⟩:=a
 ·intro h;cases h
 ·intro h
  have:2*j=2*k:=Option.some.inj h
  omega
variable {b a:List Nat}{w:Value}
def MF (ha:iv h v a) (hb:iv h w b) (nb:Norm b) (hle:ao b≤ao a) :
  WV prog (.func (.func 201) #[] #[]) [v,w] h fun r h'=>(Ext h h'∧Dig h' r (ao a - ao b)) ∧ ∀k,k<h.n→dN r≠some (2*k):=by
 have la:=ha.2.2
 have lb:=hb.2.2
 refine enter (nt:=41) (rs:=[.tmp 4]) Proofs.Tryz.func201 rfl rfl rfl (by simp) ?_
 simp -dsimp (disch:=omega) only[wpS,zA]
 refine loop (fun m fr h1 => ∃(i bor:Nat) (os:List Nat) (out:Value),i+m=a.length∧ab fr 0=some v∧ab fr 1=some w∧ab fr 5=some out∧ab fr 6=some (KN bor)∧ab fr 7=some (KN i)∧bor≤1∧os.length=i∧bJ os ∧
  aI a i+bor*4294967296 ^ i=aI b i+ao os∧Acc h1 h.n 1 out i (os.map KN)∧Ext h h1) a.length ⟨0,0,[],.slice none 0 0,by simp,by simp,by simp,by simp,by simp,by simp,by omega,rfl,fun d hd=>(by cases hd),by simp[aI,ao],Acc.nil _ _ (by omega),Ext.refl _⟩ ?_
 rintro m fr h1 ⟨i,bor,os,out,him,f0,f1,f5,f6,f7,Sj,hos,hd,hv,hA,hE⟩
 simp -dsimp (disch:=omega) only[wpS,zE,f0,f7,ha.1.len gh]
 refine au ?_ ?_<;>intro hc<;>simp only[decide_eq_true_eq,decide_eq_false_iff_not] at hc
 ·have hi:i<a.length:=by omega
  have da:=bS ha.2.1 i
  have db:=bS hb.2.1 i
  simp -dsimp (disch:=omega) only[wpS,wpT,zE,f0,f1,f6,f7,ha.1.idx j6 hi,ha.1.ld hE.aa (P:=prog) (t:=3) (c:=i) (by simpa using hi) ag3,cp,get_some hi,hb.1.len gh]
  refine fB (fun fr2 h2=>h2=h1∧ab fr2 0=some v∧ab fr2 1=some w∧ab fr2 5=some out∧ab fr2 7=some (KN i)∧ab fr2 8=some (KI ((a.getD i 0:Int) - bor - (b.getD i 0:Int)))) (fun hc=>?_) (fun hc=>?_) ?_
  ·simp only[decide_eq_true_eq] at hc
   have hi2:i<b.length:=by omega
   simp -dsimp (disch:=omega) only[wpS,wpT,zE,f1,f7,hb.1.idx j6 hi2,hb.1.ld hE.aa (P:=prog) (t:=3) (c:=i) (by simpa using hi2) ag3,cp,get_some hi2]
   exact⟨rfl,by simp[f0,f1,f5,f7]⟩
  ·simp only[decide_eq_false_iff_not] at hc
   simp -dsimp (disch:=omega) only[wpS,wpT]
   exact⟨rfl,by simp[f0],by simp[f1],by simp[f5],by simp[f7],by rw[cW (show b.length≤i by omega)];simp⟩
  ·rintro fr2 h2 ⟨rfl,f0,f1,f5,f7,f8⟩
   simp -dsimp (disch:=omega) only[wpS,zE,f8]
   refine fB (fun fr3 h3=>h3=h2∧ab fr3 0=some v∧ab fr3 1=some w∧ab fr3 5=some out∧ab fr3 7=some (KN i) ∧ ∃d Tv:Nat,ab fr3 8=some (KN d)∧ab fr3 6=some (KN Tv)∧d<4294967296∧Tv≤1∧a.getD i 0+Tv*4294967296=b.getD i 0+bor+d) (fun hc=>?_) (fun hc=>?_) ?_
   ·simp only[decide_eq_true_eq] at hc
    simp -dsimp (disch:=omega) only[wpS,wpT,zE,f8]
    refine⟨rfl,by simp[f0],by simp[f1],by simp[f5],by simp[f7],a.getD i 0+4294967296 - bor - b.getD i 0,1,?_,by simp,by omega,by omega,by omega⟩
    simp only[oV,zE,if_false,if_true]
    congr 2;omega
   ·simp only[decide_eq_false_iff_not] at hc
    simp -dsimp (disch:=omega) only[wpS,wpT]
    refine⟨rfl,by simp[f0],by simp[f1],by simp[f5],by simp[f7],a.getD i 0 - bor - b.getD i 0,0,?_,by simp,by omega,by omega,by omega⟩
    simp only[oV,zE,if_false,f8]
    congr 2;omega
   ·rintro fr3 h3 ⟨rfl,f0,f1,f5,f7,d,Tv,f8,f6,hd2,hb2,jY⟩
    obtain⟨ef,h',hap,hA',hG,hE'⟩:=hA.FU (P:=prog) (t:=25) FV (x:=KN d) rfl (by omega) hE.n hE (Nat.le_refl _)
    simp -dsimp (disch:=omega) only[wpS,wpT,zE,zL,zA,Ca,l6,f5,f7,f8,hap]
    refine⟨m - 1,by omega,i+1,Tv,os ++ [d],ef,by omega,by simp[f0],by simp[f1],by simp,by simp[f6],by simp,hb2,by simp[hos],hd.append hd2,?_,by rw[←vH];exact hA',hE'⟩
    rw[jk,aI,aI,hos]
    grind
 ·obtain rfl:i=a.length:=by omega
  have hbl:=nb.jd ha.2.1 hle
  rw[iS hbl,iS (Nat.le_refl _)] at hv
  have hlt:=jz hd
  rw[hos] at hlt
  have hb0:bor=0:=by
   apply Classical.byContradiction;intro hne
   have:bor=1:=by omega
   subst this;omega
  subst hb0
  have hD:iv h1 out os:=⟨by rw[hos];exact hA.sl,hd,by omega⟩
  simp -dsimp (disch:=omega) only[wpS,wpT,zE,f5]
  refine call ((xo hD).and (Px hD)) ?_
  rintro r h2 ⟨⟨rfl,hr⟩,hbk⟩
  simp -dsimp (disch:=omega) only[wpS,zE]
  refine⟨⟨hE,?_⟩,fun k hk=>?_⟩
  ·rw[show ao a - ao b=ao os by omega];exact hr
  ·rw[hbk];exact hA.block hk
def zf (ha:iv h v a) (hb:iv h w b) (nb:Norm b) (hle:ao b≤ao a) :
  WV prog (.func (.func 201) #[] #[]) [v,w] h fun r h'=>Ext h h'∧Dig h' r (ao a - ao b):=(MF ha hb nb hle).mono fun _ _ k=>k.1
def U4 (ha:iv h v a) (hb:iv h w b) (la:a.length≤1000001) (lb:b.length≤1000001) :
  WV prog (.func (.func 222) #[] #[]) [v,w] h fun r h'=>Ext h h' ∧ ∃os,iv h' r os∧ao os=ao a+ao b:=by
 refine enter (nt:=52) (rs:=[.tmp 4]) Proofs.Tryz.func222 rfl rfl rfl (by simp) ?_
 simp -dsimp (disch:=omega) only[wpS,zA]
 refine loop (fun m fr h1 => ∃(i c:Nat) (os:List Nat) (out:Value),i+m=1000003∧ab fr 0=some v∧ab fr 1=some w∧ab fr 5=some out∧ab fr 6=some (KN c)∧ab fr 7=some (KN i)∧c≤1∧os.length=i∧bJ os∧i≤1000002∧(1000001<i→c=0) ∧
  ao os+c*4294967296 ^ i=aI a i+aI b i∧Acc h1 h.n 1 out i (os.map KN)∧Ext h h1) 1000003 ⟨0,0,[],.slice none 0 0,by simp,by simp,by simp,by simp,by simp,by simp,by omega,rfl,fun d hd=>(by cases hd),by omega,by omega,by simp[aI,ao],Acc.nil _ _ (by omega),Ext.refl _⟩ ?_
 rintro m fr h1 ⟨i,c,os,out,him,f0,f1,f5,f6,f7,hcc,hos,hd,hi2,hi3,hv,hA,hE⟩
 rw[kX]
 by_cases hcont:i<a.length∨i<b.length∨0<c
 ·refine cut (fun fr2 h2=>h2=h1∧ab fr2 0=some v∧ab fr2 1=some w∧ab fr2 5=some out∧ab fr2 6=some (KN c)∧ab fr2 7=some (KN i)) ?_ ?_
  ·by_cases c1:i<a.length
   ·simp -dsimp (disch:=omega) only[wpS,wpT,zE,f0,f7,ha.1.len gh]
    exact⟨rfl,by simp[f0,f1,f5,f6,f7]⟩
   ·by_cases c2:i<b.length
    ·simp -dsimp (disch:=omega) only[wpS,wpT,zE,f0,f1,f7,ha.1.len gh,hb.1.len gh]
     exact⟨rfl,by simp[f0,f1,f5,f6,f7]⟩
    ·simp -dsimp (disch:=omega) only[wpS,wpT,zE,f0,f1,f6,f7,ha.1.len gh,hb.1.len gh]
     exact⟨rfl,by simp[f0,f1,f5,f6,f7]⟩
  ·rintro fr2 h2 ⟨rfl,f0,f1,f5,f6,f7⟩
   have da:=bS ha.2.1 i
   have db:=bS hb.2.1 i
   simp -dsimp (disch:=omega) only[wpS,zE,f0,f7,ha.1.len gh]
   refine fB (fun fr3 h3=>h3=h2∧ab fr3 0=some v∧ab fr3 1=some w∧ab fr3 5=some out∧ab fr3 7=some (KN i)∧ab fr3 6=some (KN (c+a.getD i 0))) (fun hc=>?_) (fun hc=>?_) ?_
   ·simp only[decide_eq_true_eq] at hc
    have hi:i<a.length:=by omega
    simp -dsimp (disch:=omega) only[wpS,wpT,zE,f0,f6,f7,ha.1.idx j6 hi,ha.1.ld hE.aa (P:=prog) (t:=3) (c:=i) (by simpa using hi) ag3,cp,get_some hi]
    exact⟨rfl,by simp[f0,f1,f5,f7]⟩
   ·simp only[decide_eq_false_iff_not] at hc
    simp -dsimp (disch:=omega) only[wpS,wpT]
    exact⟨rfl,by simp[f0],by simp[f1],by simp[f5],by simp[f7],by rw[cW (show a.length≤i by omega)];simp[f6]⟩
   ·rintro fr3 h3 ⟨rfl,f0,f1,f5,f7,f6⟩
    simp -dsimp (disch:=omega) only[wpS,zE,f1,f7,hb.1.len gh]
    refine fB (fun fr4 h4=>h4=h3∧ab fr4 0=some v∧ab fr4 1=some w∧ab fr4 5=some out∧ab fr4 7=some (KN i)∧ab fr4 6=some (KN (c+a.getD i 0+b.getD i 0))) (fun hc=>?_) (fun hc=>?_) ?_
    ·simp only[decide_eq_true_eq] at hc
     have hi:i<b.length:=by omega
     simp -dsimp (disch:=omega) only[wpS,wpT,zE,f1,f6,f7,hb.1.idx j6 hi,hb.1.ld hE.aa (P:=prog) (t:=3) (c:=i) (by simpa using hi) ag3,cp,get_some hi]
     exact⟨rfl,by simp[f0,f1,f5,f7]⟩
    ·simp only[decide_eq_false_iff_not] at hc
     simp -dsimp (disch:=omega) only[wpS,wpT]
     exact⟨rfl,by simp[f0],by simp[f1],by simp[f5],by simp[f7],by rw[cW (show b.length≤i by omega)];simp[f6]⟩
    ·rintro fr4 h4 ⟨rfl,f0,f1,f5,f7,f6⟩
     have hi5:i≤1000001:=by
      apply Classical.byContradiction;intro hn
      have:=hi3 (by omega)
      omega
     generalize hs:c+a.getD i 0+b.getD i 0=s at f6
     have e1:((s:Int) % 4294967296)=((s % 4294967296:Nat):Int):=by omega
     have e2:((s:Int) / 4294967296)=((s / 4294967296:Nat):Int):=by omega
     obtain⟨ef,h',hap,hA',hG,hE'⟩:=hA.FU (P:=prog) (t:=25) FV (x:=KN (s % 4294967296)) rfl (by omega) hE.n hE (Nat.le_refl _)
     simp -dsimp (disch:=omega) only[wpS,wpT,zE,zL,zA,Ca,l6,f5,f6,f7,e1,hap,e2]
     refine⟨m - 1,by omega,i+1,s / 4294967296,os ++ [s % 4294967296],ef,by omega,by simp[f0],by simp[f1],by simp,by simp,by simp,by omega,by simp[hos],hd.append (by omega),by omega,fun hh=>?_,?_,by rw[←vH];exact hA',hE'⟩
     ·have h1:=cW (ds:=a) (k:=i) (by omega)
      have h2:=cW (ds:=b) (k:=i) (by omega)
      omega
     ·rw[jk,aI,aI,hos]
      have h5:s % 4294967296+s / 4294967296*4294967296=c+a.getD i 0+b.getD i 0:=by omega
      grind
 ·refine cut (fun fr2 h2=>False) ?_ (fun _ _ h=>h.elim)
  simp -dsimp (disch:=omega) only[wpS,wpT,zE,f0,f1,f5,f6,f7,ha.1.len gh,hb.1.len gh]
  obtain rfl:c=0:=by omega
  rw[iS (by omega),iS (by omega)] at hv
  exact⟨hE,os,⟨by rw[hos];exact hA.sl,hd,by omega⟩,by omega⟩
end Go.Id
namespace Go.Id
open Go
open Nat renaming reduceAdd→zA,reduceEqDiff→zE,reduceLeDiff→zL
set_option maxHeartbeats 16000000
variable {x:Nat}
@[irreducible] def Small (x:Nat):Prop:=x<4294967296 ^ 1000000
theorem Small.lt (h:Small x):x<4294967296 ^ 1000000:=by unfold Small at h;exact h
def Small.mk (h:x<4294967296 ^ 1000000):Small x:=by unfold Small;exact h
def Small.le {y:Nat} (h:Small x) (k:y≤x):Small y:=.mk (Nat.lt_of_le_of_lt k h.lt)
def Norm.small {ds:List Nat} (h:Norm ds) (hs:Small (ao ds)):ds.length≤1000000:=by
 by_cases hne:ds = []
 ·subst hne;simp
 ·have h1:=h.ge hne
  have h2:4294967296 ^ (ds.length - 1)<4294967296 ^ 1000000:=Nat.lt_of_le_of_lt h1 hs.lt
  have:=(Nat.pow_lt_pow_iff_right (a:=4294967296) (by omega)).1 h2
  omega
abbrev aX (z:Int):Prop:=Small z.natAbs
variable {v:Value}{h:IH}
def D4 {z:Int} (hv:bd h v z):WV Proofs.Tryz.prog (.func (.func 233) #[] #[]) [v] h fun r h'=>Ext h h'∧bd h' r (-z):=by
 obtain⟨s,rfl,ds,hD,hN,hx⟩:=hv
 refine enter (nt:=9) (rs:=[.cell 2 175]) Proofs.Tryz.func233 rfl rfl rfl (by simp) ?_
 simp -dsimp (disch:=try exact dx) only[wpS,zE,lD,dT,ld4,fk,rC]
 refine call (kJ (hD.aa (((aK.refl h).new _).new _)) _) ?_
 rintro r h1 ⟨hE,s1,rfl,h2⟩
 have hg:h1.ext.get (h.n+1)=some (.cells [.bool false,.slice none 0 0] 0 none):=by
  rw[hE.get _ (by simp)];exact ah _ _ rfl
 obtain⟨ds1,hD1,hr1⟩:=h2
 simp -dsimp (disch:=try exact dx) only[wpS,wpT,zE,zL,zA,gR,cg,hg,hD1.1.cok]
 refine⟨((((Ext.refl h).new _).new _).trans hE).put (by omega) _,?_⟩
 have hz:(if (!decide (z<0))=true then -(ao ds:Int) else ao ds) = -z:=by
  by_cases h0:z<0<;>simp[h0]<;>omega
 rw[hz] at hr1 ⊢
 exact⟨s1,rfl,ds1,hD1.aa ((aK.refl _).put hg _),hr1⟩
def yX {w:Value} {x y:Int} (hv:bd h v x) (hw:bd h w y) (sx:aX x) (sy:aX y) :
  WV Proofs.Tryz.prog (.func (.func 141) #[] #[]) [v,w] h fun r h'=>Ext h h'∧bd h' r (x+y):=by
 obtain⟨s,rfl,a,ha,na,hx⟩:=hv
 obtain⟨t,rfl,b,hb,nb,hy⟩:=hw
 have la:a.length≤1000000:=na.small (by rw[hx];exact sx)
 have lb:b.length≤1000000:=nb.small (by rw[hy];exact sy)
 refine enter (nt:=40) (rs:=[.cell 4 175]) Proofs.Tryz.func141 rfl rfl rfl (by simp) ?_
 simp -dsimp (disch:=try exact dx) only[wpS,zE,zA,lD,dT,ld4,be4]
 have kk : ∀o1 o2 o3,aK h (((h.new o1).new o2).new o3):=fun o1 o2 o3=>(((aK.refl h).new _).new _).new _
 have ee : ∀o1 o2 o3,Ext h (((h.new o1).new o2).new o3):=fun o1 o2 o3=>(((Ext.refl h).new _).new _).new _
 refine au (fun hc=>?_) (fun hc=>?_)
 ·have hc:(x<0↔y<0):=by simpa using hc
  simp -dsimp (disch:=try exact dx) only[wpS]
  refine drawn [(1,[7])] (by kernel_rfl) (by kernel_rfl) rfl ?_
  simp -dsimp (disch:=try exact dx) only[wpS,zE,dT,ld4,fk,rC]
  refine call (U4 (ha.aa (kk _ _ _)) (hb.aa (kk _ _ _)) (by omega) (by omega)) ?_
  rintro r h1 ⟨hE,os,hD,ng⟩
  simp -dsimp (disch:=try exact dx) only[wpS,zE]
  refine call (kJ hD _) ?_
  rintro r2 h2 ⟨hE2,s1,rfl,ds1,hD1,hr1⟩
  have hg:h2.ext.get (h.n+1+1)=some (.cells [.bool false,.slice none 0 0] 0 none):=by
   rw[hE2.get _ (by have:=hE.n;simp at this;omega),hE.get _ (by simp)];exact ah _ _ rfl
  have fA : ∀k',k'≤h.n→True:=fun _ _=>trivial
  have hr0:h1.row (2*h.n)=some [.bool (decide (x<0)),s]:=by
   rw[hE.row (by simp<;>omega)];simp -dsimp (disch:=try exact dx) only[wpS]
  simp -dsimp (disch:=try exact dx) only[wpS,wpT,zE,zL,zA,gR,hg,hD1.1.cok]
  refine⟨ad rfl rfl rfl rfl (ai (av:=ptr (2*h.n) 0) (v:=.bool (decide (x<0))) rfl ?_ ?_),?_⟩
  ·simp -dsimp (disch:=try exact dx) only[wpS,ld4]
  ·simp -dsimp (disch:=try exact dx) only[wpS,ld4,hr0]
  ·simp -dsimp (disch:=try exact dx) only[wpS,wpT,zE,zL,zA,cg]
   refine⟨(((ee _ _ _).trans hE).trans hE2).put (by omega) _,?_⟩
   have hz:(if decide (x<0)=true then -(ao os:Int) else ao os)=x+y:=by
    by_cases h0:x<0<;>simp[h0]<;>omega
   rw[hz] at hr1 ⊢
   exact⟨s1,rfl,ds1,hD1.aa ((aK.refl _).put hg _),hr1⟩
 ·have hc : ¬(x<0↔y<0):=by simpa using hc
  simp -dsimp (disch:=try exact dx) only[wpS,zE,fk,rC]
  refine call (Au (ha.aa (kk _ _ _)) (hb.aa (kk _ _ _)) na nb) ?_
  rintro r h1 ⟨rfl,c,rfl,hc1,hc2,hc3,hc4⟩
  simp -dsimp (disch:=try exact dx) only[wpS,zE]
  refine au ?_ ?_<;>intro hc5<;>simp only[decide_eq_true_eq,decide_eq_false_iff_not] at hc5
  ·simp -dsimp (disch:=try exact dx) only[wpS,wpT]
   refine drawn [(1,[7])] (by kernel_rfl) (by kernel_rfl) rfl ?_
   simp -dsimp (disch:=try exact dx) only[wpS,zE,dT,ld4,fk,rC]
   refine call (zf (ha.aa (kk _ _ _)) (hb.aa (kk _ _ _)) nb (by omega)) ?_
   rintro r h1 ⟨hE,os,hD,hN,ng⟩
   simp -dsimp (disch:=try exact dx) only[wpS,zE]
   refine call (kJ hD _) ?_
   rintro r2 h2 ⟨hE2,s1,rfl,ds1,hD1,hr1⟩
   have hg:h2.ext.get (h.n+1+1)=some (.cells [.bool false,.slice none 0 0] 0 none):=by
    rw[hE2.get _ (by have:=hE.n;simp at this;omega),hE.get _ (by simp)];exact ah _ _ rfl
   have hr0:h1.row (2*h.n)=some [.bool (decide (x<0)),s]:=by
    rw[hE.row (by simp<;>omega)];simp -dsimp (disch:=try exact dx) only[wpS]
   simp -dsimp (disch:=try exact dx) only[wpS,wpT,zE,zL,zA,gR,hg,hD1.1.cok]
   refine⟨ad rfl rfl rfl rfl (ai (av:=ptr (2*h.n) 0) (v:=.bool (decide (x<0))) rfl ?_ ?_),?_⟩
   ·simp -dsimp (disch:=try exact dx) only[wpS,ld4]
   ·simp -dsimp (disch:=try exact dx) only[wpS,ld4,hr0]
   ·simp -dsimp (disch:=try exact dx) only[wpS,wpT,zE,zL,zA,cg]
    refine⟨(((ee _ _ _).trans hE).trans hE2).put (by omega) _,?_⟩
    have hz:(if decide (x<0)=true then -(ao os:Int) else ao os).natAbs=(x+y).natAbs∧((if decide (x<0)=true then -(ao os:Int) else ao os)<0↔x+y<0):=by
     by_cases h0:x<0<;>simp[h0]<;>omega
    rw[hz.1] at hr1
    refine⟨s1,?_,ds1,hD1.aa ((aK.refl _).put hg _),hr1⟩
    simp only[hz.2]<;>rfl
  ·simp -dsimp (disch:=try exact dx) only[wpS,wpT]
   refine drawn [(1,[7])] (by kernel_rfl) (by kernel_rfl) rfl ?_
   simp -dsimp (disch:=try exact dx) only[wpS,zE,dT,ld4,fk,rC]
   refine call (zf (hb.aa (kk _ _ _)) (ha.aa (kk _ _ _)) na (by omega)) ?_
   rintro r h1 ⟨hE,os,hD,hN,ng⟩
   simp -dsimp (disch:=try exact dx) only[wpS,zE]
   refine call (kJ hD _) ?_
   rintro r2 h2 ⟨hE2,s1,rfl,ds1,hD1,hr1⟩
   have hg:h2.ext.get (h.n+1+1)=some (.cells [.bool false,.slice none 0 0] 0 none):=by
    rw[hE2.get _ (by have:=hE.n;simp at this;omega),hE.get _ (by simp)];exact ah _ _ rfl
   have hr0:h1.row (2*(h.n+1))=some [.bool (decide (y<0)),t]:=by
    rw[hE.row (by simp<;>omega)];simp -dsimp (disch:=try exact dx) only[wpS]
   simp -dsimp (disch:=try exact dx) only[wpS,wpT,zE,zL,zA,gR,hg,hD1.1.cok]
   refine⟨ad rfl rfl rfl rfl (ai (av:=ptr (2*(h.n+1)) 0) (v:=.bool (decide (y<0))) rfl ?_ ?_),?_⟩
   ·simp -dsimp (disch:=try exact dx) only[wpS,ld4]
   ·simp -dsimp (disch:=omega) only[wpS,ld4,hr0]
   ·simp -dsimp (disch:=omega) only[wpS,wpT,zE,zL,zA,cg]
    refine⟨(((ee _ _ _).trans hE).trans hE2).put (by omega) _,?_⟩
    have hz:(if decide (y<0)=true then -(ao os:Int) else ao os).natAbs=(x+y).natAbs∧((if decide (y<0)=true then -(ao os:Int) else ao os)<0↔x+y<0):=by
     by_cases h0:y<0<;>simp[h0]<;>omega
    rw[hz.1] at hr1
    refine⟨s1,?_,ds1,hD1.aa ((aK.refl _).put hg _),hr1⟩
    simp only[hz.2]<;>rfl
end Go.Id
