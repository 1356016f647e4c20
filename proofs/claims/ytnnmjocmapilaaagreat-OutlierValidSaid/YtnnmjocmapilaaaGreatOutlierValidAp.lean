/-
  Digits to the base 2^64, the lowest first: plain numbers.
-/
import Derived.Test.YtnnmjocmapilaaaGreatOutlierValidAo
import Derived.Test.YtnnmjocmapilaaaGreatProg
set_option linter.unusedVariables false
set_option linter.unusedSimpArgs false
set_option linter.defProp false
set_option linter.deprecated false
namespace Go.Id.B
def aE (ds:List Nat):Nat→Nat
 | 0=>0
 | k+1=>aE ds k+ds.getD k 0*18446744073709551616 ^ k
def ao (ds:List Nat):Nat:=aE ds ds.length
def bB (ds:List Nat):Prop:=∀d∈ds,d<18446744073709551616
def Norm (ds:List Nat):Prop:=ds = []∨ds.getD (ds.length - 1) 0≠0
theorem bH {ds:List Nat} (h:bB ds) (k:Nat):ds.getD k 0<18446744073709551616:=by
 rw[List.getD_eq_getElem?_getD]
 cases hx:ds[k]? with
 | none=>simp
 | some x=>simpa using h x (List.mem_of_getElem? hx)
theorem cM {ds:List Nat} {k:Nat} (h:ds.length≤k):ds.getD k 0=0:=by
 rw[List.getD_eq_getElem?_getD,List.getElem?_eq_none h];rfl
theorem qD (k:Nat):0<18446744073709551616 ^ k:=Nat.pow_pos (by omega)
theorem gW {ds:List Nat} (h:bB ds) : ∀k,aE ds k<18446744073709551616 ^ k
 | 0=>by simp[aE]
 | k+1=>by
  have ih:=gW h k
  have hd:=bH h k
  have h2:ds.getD k 0*18446744073709551616 ^ k≤18446744073709551615*18446744073709551616 ^ k:=Nat.mul_le_mul_right _ (by omega)
  rw[aE,Nat.pow_succ]
  omega
theorem iE {ds:List Nat} : ∀{k:Nat},ds.length≤k→aE ds k=ao ds
 | 0,h=>by
  have:ds = []:=List.length_eq_zero_iff.1 (by omega)
  subst this;rfl
 | k+1,h=>by
  by_cases hk:ds.length≤k
  ·rw[aE,iE hk,cM hk];simp
  ·have:ds.length=k+1:=by omega
   rw[ao,this]
theorem ff {ds es:List Nat} : ∀{k:Nat},(∀j,j<k→ds.getD j 0=es.getD j 0)→aE ds k=aE es k
 | 0,_=>rfl
 | k+1,h=>by rw[aE,aE,ff fun j hj=>h j (by omega),h k (by omega)]
theorem jg {ds:List Nat} (h:bB ds):ao ds<18446744073709551616 ^ ds.length:=gW h _
theorem bB.append {ds:List Nat} {x:Nat} (h:bB ds) (hx:x<18446744073709551616):bB (ds ++ [x]):=by
 intro d hd
 rcases List.mem_append.1 hd with h1|h1
 ·exact h d h1
 ·simp at h1;omega
theorem bB.take {ds:List Nat} (h:bB ds) (n:Nat):bB (ds.take n):=fun d hd=>h d (List.mem_of_mem_take hd)
theorem oi (ds:List Nat) (n j:Nat):(ds.take n).getD j 0=if j<n then ds.getD j 0 else 0:=by
 simp only[List.getD_eq_getElem?_getD,List.getElem?_take]
 split<;>rfl
theorem jC (ds:List Nat) (m:Nat) : ∀k,(∀j,m≤j→j<m+k→ds.getD j 0=0)→aE ds (m+k)=aE ds m
 | 0,_=>rfl
 | k+1,h=>by
  rw[show m+(k+1)=(m+k)+1 from rfl,aE,jC ds m k (fun j a b=>h j a (by omega)),h (m+k) (by omega) (by omega)]
  simp
theorem vM {ds:List Nat} {m:Nat} (hm:m≤ds.length) (h : ∀j,m≤j→ds.getD j 0=0):ao (ds.take m)=ao ds:=by
 have h1:(ds.take m).length=m:=by simp[hm]
 rw[ao,h1]
 have h2:aE (ds.take m) m=aE ds m:=ff fun j hj=>by rw[oi,if_pos hj]
 rw[h2]
 have:=jC ds m (ds.length - m) (fun j a _=>h j a)
 rw[show m+(ds.length - m)=ds.length from by omega] at this
 exact this.symm
theorem Norm.ge {ds:List Nat} (h:Norm ds) (hne:ds ≠ []):18446744073709551616 ^ (ds.length - 1)≤ao ds:=by
 rcases h with h|h
 ·exact absurd h hne
 ·have hl:0<ds.length:=List.length_pos_iff.2 hne
  obtain⟨n,hn⟩ : ∃n,ds.length=n+1:=⟨ds.length - 1,by omega⟩
  rw[ao,hn,aE]
  rw[hn] at h
  simp only[Nat.add_sub_cancel] at h ⊢
  have:1*18446744073709551616 ^ n≤ds.getD n 0*18446744073709551616 ^ n:=Nat.mul_le_mul_right _ (by omega)
  omega
theorem jI {a b:List Nat} (ha:bB a) (hb:Norm b) (hl:a.length<b.length):ao a<ao b:=by
 have h1:=jg ha
 have h2:=hb.ge (by intro h;subst h;simp at hl)
 have h3:18446744073709551616 ^ a.length≤18446744073709551616 ^ (b.length - 1):=Nat.pow_le_pow_right (by omega) (by omega)
 omega
theorem qe {a b:List Nat} (ha:bB a) {i:Nat} (hi:a.getD i 0<b.getD i 0) : ∀k,(∀j,i<j→j<i+1+k→a.getD j 0=b.getD j 0)→aE a (i+1+k)<aE b (i+1+k)
 | 0,_=>by
  have h1:=gW ha i
  have h2:(a.getD i 0+1)*18446744073709551616 ^ i≤b.getD i 0*18446744073709551616 ^ i:=Nat.mul_le_mul_right _ (by omega)
  rw[Nat.add_mul] at h2
  rw[Nat.add_zero,aE,aE]
  omega
 | k+1,h=>by
  have:=qe ha hi k (fun j x y=>h j x (by omega))
  rw[show i+1+(k+1)=(i+1+k)+1 from rfl,aE,aE,h (i+1+k) (by omega) (by omega)]
  omega
theorem jH {a b:List Nat} (ha:bB a) (hl:a.length=b.length) {i:Nat} (hn:i<a.length) (hi:a.getD i 0<b.getD i 0) (h : ∀j,i<j→j<a.length→a.getD j 0=b.getD j 0):ao a<ao b:=by
 have:=qe ha hi (a.length - (i+1)) (fun j x y=>h j x (by omega))
 rw[show i+1+(a.length - (i+1))=a.length from by omega] at this
 rw[ao,ao,←hl];exact this
theorem lJ {a b:List Nat} (hl:a.length=b.length) (h : ∀j,j<a.length→a.getD j 0=b.getD j 0):ao a=ao b:=by
 rw[ao,ao,←hl];exact ff h
theorem Norm.jZ {ds:List Nat} (h:Norm ds):ao ds=0↔ds = []:=by
 constructor
 ·intro h0
  apply Classical.byContradiction;intro hne
  have:=h.ge hne
  have:=qD (ds.length - 1)
  omega
 ·rintro rfl;rfl
theorem Norm.iO {a b:List Nat} (ha:Norm a) (hb:bB b) (h:ao a≤ao b):a.length≤b.length:=by
 apply Classical.byContradiction;intro hn
 have:=jI hb ha (by omega)
 omega
theorem nK (d:Nat) (ds:List Nat) : ∀k,aE (d :: ds) (k+1)=d+18446744073709551616*aE ds k
 | 0=>by simp[aE]
 | k+1=>by
  rw[aE,nK d ds k,aE]
  simp only[List.getD_cons_succ,Nat.pow_succ]
  grind
theorem jE (d:Nat) (ds:List Nat):ao (d :: ds)=d+18446744073709551616*ao ds:=nK d ds _
theorem xw : ∀{a b:List Nat},bB a→bB b→Norm a→Norm b→ao a=ao b→a=b:=by
 intro a b ha hb na nb h
 have l1:=na.iO hb (by omega)
 have l2:=nb.iO ha (by omega)
 have hl:a.length=b.length:=by omega
 clear l1 l2 na nb
 induction a generalizing b with
 | nil=>exact(List.length_eq_zero_iff.1 hl.symm).symm
 | cons x a ih =>
  cases b with
  | nil=>simp at hl
  | cons y b =>
   rw[jE,jE] at h
   have hx:x<18446744073709551616:=ha x (by simp)
   have hy:y<18446744073709551616:=hb y (by simp)
   have e1:x=y:=by omega
   have e2:ao a=ao b:=by omega
   rw[e1,ih (b:=b) (fun d hd=>ha d (by simp[hd])) (fun d hd=>hb d (by simp[hd])) e2 (by simpa using hl)]
theorem dh {ds:List Nat} {k w:Nat} (hk:k<ds.length) (j:Nat):(ds.set k w).getD j 0=if j=k then w else ds.getD j 0:=by
 simp only[List.getD_eq_getElem?_getD,List.getElem?_set]
 by_cases h:k=j
 ·subst h;simp[hk]
 ·rw[if_neg h,if_neg (fun x=>h x.symm)]
theorem qf {ds:List Nat} {k w:Nat} (hk:k<ds.length) : ∀n,aE (ds.set k w) n+(if k<n then ds.getD k 0*18446744073709551616 ^ k else 0)=aE ds n+(if k<n then w*18446744073709551616 ^ k else 0)
 | 0=>by simp[aE]
 | n+1=>by
  have ih:=qf (w:=w) hk n
  rw[aE,aE,dh hk]
  by_cases h1:k<n
  ·rw[if_pos h1,if_pos h1] at ih
   rw[if_pos (show k<n+1 by omega),if_pos (show k<n+1 by omega),if_neg (show ¬n=k by omega)]
   omega
  ·rw[if_neg h1,if_neg h1] at ih
   by_cases h2:n=k
   ·subst h2
    rw[if_pos (Nat.lt_succ_self n),if_pos (Nat.lt_succ_self n),if_pos rfl]
    omega
   ·rw[if_neg (show ¬k<n+1 by omega),if_neg (show ¬k<n+1 by omega),if_neg h2]
    omega
theorem im {ds:List Nat} {k:Nat} (w:Nat) (hk:k<ds.length):ao (ds.set k w)+ds.getD k 0*18446744073709551616 ^ k=ao ds+w*18446744073709551616 ^ k:=by
 have h:=qf (w:=w) hk ds.length
 rw[if_pos hk,if_pos hk] at h
 rw[ao,ao,List.length_set];exact h
theorem nJ (m:Nat) : ∀n,aE (List.replicate m 0) n=0
 | 0=>rfl
 | n+1=>by
  rw[aE,nJ m n]
  have:(List.replicate m 0).getD n 0=0:=by
   rw[List.getD_eq_getElem?_getD,List.getElem?_replicate];split<;>rfl
  rw[this];simp
theorem jD (m:Nat):ao (List.replicate m 0)=0:=nJ m _
theorem jK (m j:Nat):(List.replicate m 0).getD j 0=0:=by
 rw[List.getD_eq_getElem?_getD,List.getElem?_replicate];split<;>rfl
theorem bB.set {ds:List Nat} (h:bB ds) (k:Nat) {w:Nat} (hw:w<18446744073709551616):bB (ds.set k w):=by
 intro d hd
 rcases List.mem_or_eq_of_mem_set hd with h1|h1
 ·exact h d h1
 ·omega
theorem bB.bq (m:Nat):bB (List.replicate m 0):=by
 intro d hd
 rw[List.mem_replicate] at hd
 omega
theorem Norm.K2 {ds:List Nat} (h:Norm ds) {m:Nat} (hs:ao ds<18446744073709551616 ^ m):ds.length≤m:=by
 apply Classical.byContradiction;intro hn
 have hne:ds ≠ []:=by intro h0;subst h0;simp at hn
 have h1:=h.ge hne
 have h2:18446744073709551616 ^ m≤18446744073709551616 ^ (ds.length - 1):=Nat.pow_le_pow_right (by omega) (by omega)
 omega
end Go.Id.B
namespace Go.Id
open Go
theorem Qp {x1 x0 y1 y0:Nat} (h0:x0<4294967296) (h1:x1<4294967296) (g0:y0<4294967296) (g1:y1<4294967296) :
  x1*y0+x0*y0 / 4294967296<18446744073709551616∧(x1*y0+x0*y0 / 4294967296) % 4294967296+x0*y1<18446744073709551616 ∧
   x1*y1+(x1*y0+x0*y0 / 4294967296) / 4294967296+((x1*y0+x0*y0 / 4294967296) % 4294967296+x0*y1) / 4294967296=(x1*4294967296+x0)*(y1*4294967296+y0) / 18446744073709551616:=by
 have b00:x0*y0≤4294967295*4294967295:=Nat.mul_le_mul (by omega) (by omega)
 have b10:x1*y0≤4294967295*4294967295:=Nat.mul_le_mul (by omega) (by omega)
 have b01:x0*y1≤4294967295*4294967295:=Nat.mul_le_mul (by omega) (by omega)
 have e:(x1*4294967296+x0)*(y1*4294967296+y0)=x1*y1*18446744073709551616+x1*y0*4294967296+x0*y1*4294967296+x0*y0:=by grind
 rw[e]
 generalize x0*y0=a at *
 generalize x1*y0=b at *
 generalize x0*y1=c at *
 generalize x1*y1=d at *
 refine⟨by omega,by omega,by omega⟩
def EB (y1 y0 u d q r:Nat):Prop:=q*y1+r=u∧(u*4294967296+d) / (y1*4294967296+y0)≤q∧q≤4294967297
theorem As {y1 y0 u d:Nat} (h1:2147483648≤y1) (h0:y0<4294967296) (hu:u<y1*4294967296+y0) (hd:d<4294967296):EB y1 y0 u d (u / y1) (u % y1):=by
 have e:=Nat.div_add_mod u y1
 have hm:=Nat.mod_lt u (show 0<y1 by omega)
 have e1:u / y1*y1=y1*(u / y1):=Nat.mul_comm _ _
 refine⟨by omega,?_,?_⟩
 ·generalize hq:u / y1=q at *
  rw[Nat.div_le_iff_le_mul_add_pred (by omega)]
  have e2:(y1*4294967296+y0)*q=y1*q*4294967296+y0*q:=by grind
  rw[e2]
  have:0≤y0*q:=Nat.zero_le _
  omega
 ·rw[Nat.div_le_iff_le_mul_add_pred (by omega)]
  omega
theorem Cw {y1 y0 u d q r:Nat} (h1:2147483648≤y1) (h0:y0<4294967296) (hu:u<y1*4294967296+y0) (hd:d<4294967296) (J:EB y1 y0 u d q r) (hc:4294967296≤q∨4294967296*r+d<q*y0):0<q∧EB y1 y0 u d (q - 1) (r+y1):=by
 obtain⟨j1,j2,j3⟩:=J
 have hlt:(u*4294967296+d) / (y1*4294967296+y0)<q:=by
  rw[Nat.div_lt_iff_lt_mul (by omega)]
  have e2:q*(y1*4294967296+y0)=q*y1*4294967296+q*y0:=by grind
  rw[e2]
  rcases hc with hc|hc
  ·have e3:4294967296*y0≤q*y0:=Nat.mul_le_mul_right _ hc
   have e4:4294967296*y1≤q*y1:=Nat.mul_le_mul_right _ hc
   omega
  ·omega
 have hq:0<q:=Nat.lt_of_le_of_lt (Nat.zero_le _) hlt
 refine⟨hq,?_,Nat.le_sub_one_of_lt hlt,by omega⟩
 have e5:(q - 1)*y1+y1=q*y1:=by
  obtain⟨p,rfl⟩ : ∃p,q=p+1:=⟨q - 1,by omega⟩
  rw[Nat.add_sub_cancel,Nat.add_mul,Nat.one_mul]
 omega
theorem wI {y1 y0 u d q r:Nat} (h1:2147483648≤y1) (h0:y0<4294967296) (J:EB y1 y0 u d q r) (hc:q*y0≤4294967296*r+d):(u*4294967296+d) / (y1*4294967296+y0)=q:=by
 obtain⟨j1,j2,j3⟩:=J
 refine Nat.le_antisymm j2 ?_
 rw[Nat.le_div_iff_mul_le (by omega)]
 have e2:q*(y1*4294967296+y0)=q*y1*4294967296+q*y0:=by grind
 rw[e2];omega
theorem pj {y1 y0 u d q r:Nat} (h1:2147483648≤y1) (h0:y0<4294967296) (J:EB y1 y0 u d q r) (hr:4294967296≤r) (hq:q≤4294967296):(u*4294967296+d) / (y1*4294967296+y0)=q:=by
 refine wI h1 h0 J ?_
 have:q*y0≤4294967296*4294967295:=Nat.mul_le_mul hq (by omega)
 omega
end Go.Id
namespace Go.Id.B
theorem IA {x y n:Nat} (hx:2 ^ n∣x) (hy:y<2 ^ n):x ||| y=x+y:=by
 obtain⟨c,rfl⟩:=hx
 exact(Nat.two_pow_add_eq_or_of_lt hy c).symm
theorem Tp {x y n:Nat} (hx:x<2 ^ n) (hy:2 ^ n∣y):x ||| y=x+y:=by
 rw[Nat.or_comm,IA hy hx,Nat.add_comm]
theorem ud {ds:List Nat} (h:bB ds) : ∀{n k:Nat},n≤k→aE ds k % 18446744073709551616 ^ n=aE ds n
 | n,0,hk=>by
  obtain rfl:n=0:=by omega
  simp[aE]
 | n,k+1,hk=>by
  by_cases hn:n=k+1
  ·subst hn;exact Nat.mod_eq_of_lt (gW h _)
  ·have ih:=ud h (show n≤k by omega)
   rw[aE]
   have hd:18446744073709551616 ^ n∣ds.getD k 0*18446744073709551616 ^ k:=Nat.dvd_trans (Nat.pow_dvd_pow _ (by omega)) (Nat.dvd_mul_left _ _)
   obtain⟨c,hc⟩:=hd
   rw[hc,Nat.add_mul_mod_self_left,ih]
theorem qY {ds:List Nat} (h:bB ds) (j:Nat):ds.getD j 0=ao ds / 18446744073709551616 ^ j % 18446744073709551616:=by
 have hp:=qD j
 by_cases hj:j<ds.length
 ·have e1:aE ds (j+1)=ao ds % 18446744073709551616 ^ (j+1):=(ud h (show j+1≤ds.length by omega)).symm
  have e2:aE ds (j+1) / 18446744073709551616 ^ j=ds.getD j 0:=by
   rw[aE,Nat.add_mul_div_right _ _ hp,Nat.div_eq_of_lt (gW h j),Nat.zero_add]
  rw[←e2,e1,Nat.pow_succ,Nat.mod_mul_right_div_self]
 ·rw[cM (by omega)]
  have h1:=jg h
  have h2:18446744073709551616 ^ ds.length≤18446744073709551616 ^ j:=Nat.pow_le_pow_right (by omega) (by omega)
  rw[Nat.div_eq_of_lt (by omega)]
theorem BM (j:Nat):18446744073709551616 ^ j=2 ^ (64*j):=by rw[Nat.pow_mul]
theorem Uv {ds:List Nat} (h:bB ds) {k:Nat} (hk:2 ^ (k+1)∣ao ds):ds.getD (k / 64) 0 ||| 2 ^ (k % 64)=ds.getD (k / 64) 0+2 ^ (k % 64)∧ds.getD (k / 64) 0+2 ^ (k % 64)<18446744073709551616:=by
 have hs:k % 64<64:=Nat.mod_lt _ (by omega)
 have hd:2 ^ (k % 64+1)∣ds.getD (k / 64) 0:=by
  rw[qY h,BM]
  obtain⟨c,hc⟩:=hk
  have e:2 ^ (k+1)=2 ^ (64*(k / 64))*2 ^ (k % 64+1):=by rw[←Nat.pow_add];congr 1;omega
  rw[hc,e,Nat.mul_assoc,Nat.mul_div_cancel_left _ (Nat.pow_pos (by omega))]
  have e2:18446744073709551616=2 ^ (k % 64+1)*2 ^ (63 - k % 64):=by rw[←Nat.pow_add,show k % 64+1+(63 - k % 64)=64 by omega]
  rw[show(18446744073709551616:Nat)=2 ^ (k % 64+1)*2 ^ (63 - k % 64) from e2]
  exact(Nat.dvd_mod_iff (Nat.dvd_mul_right _ _)).2 (Nat.dvd_mul_right _ _)
 have hlt:2 ^ (k % 64)<2 ^ (k % 64+1):=Nat.pow_lt_pow_right (by omega) (by omega)
 have hw:=bH h (k / 64)
 refine⟨IA hd hlt,?_⟩
 obtain⟨c,hc⟩:=hd
 rw[hc] at hw ⊢
 have e2:18446744073709551616=2 ^ (k % 64+1)*2 ^ (63 - k % 64):=by rw[←Nat.pow_add,show k % 64+1+(63 - k % 64)=64 by omega]
 rw[e2] at hw ⊢
 have hc2:c<2 ^ (63 - k % 64):=Nat.lt_of_mul_lt_mul_left hw
 have:2 ^ (k % 64+1)*(c+1)≤2 ^ (k % 64+1)*2 ^ (63 - k % 64):=Nat.mul_le_mul_left _ hc2
 rw[Nat.mul_add,Nat.mul_one] at this
 omega
theorem BF {x s:Nat} (hx:x<18446744073709551616) (hs:s<64):x*2 ^ s % 18446744073709551616+x / 2 ^ (64 - s)*18446744073709551616=x*2 ^ s:=by
 have e:18446744073709551616=2 ^ (64 - s)*2 ^ s:=by rw[←Nat.pow_add,show 64 - s+s=64 by omega]
 have h:=Nat.div_add_mod (x*2 ^ s) 18446744073709551616
 have e2:x*2 ^ s / 18446744073709551616=x / 2 ^ (64 - s):=by rw[e,Nat.mul_div_mul_right _ _ (Nat.pow_pos (by omega))]
 rw[e2] at h
 omega
theorem SV (x:Nat) {s:Nat} (hs:s<64):2 ^ s∣x*2 ^ s % 18446744073709551616:=by
 have e:18446744073709551616=2 ^ s*2 ^ (64 - s):=by rw[←Nat.pow_add,show s+(64 - s)=64 by omega]
 rw[e]
 exact(Nat.dvd_mod_iff (Nat.dvd_mul_right _ _)).2 (Nat.dvd_mul_left _ _)
theorem BD {x s:Nat} (hx:x<18446744073709551616) (hs:s≤64):x / 2 ^ (64 - s)<2 ^ s:=by
 rw[Nat.div_lt_iff_lt_mul (Nat.pow_pos (by omega)),←Nat.pow_add,show s+(64 - s)=64 by omega];exact hx
theorem Uu {ds:List Nat} {n k:Nat} (h:bB ds) (hl:ds.length=n+1) (h1:2 ^ k≤ds.getD n 0) (h2:ds.getD n 0<2 ^ (k+1)):2 ^ (64*n+k)≤ao ds∧ao ds<2 ^ (64*n+k+1):=by
 rw[ao,hl,aE,BM]
 have hb:=gW h n
 rw[BM] at hb
 have e1:2 ^ (64*n+k)=2 ^ k*2 ^ (64*n):=by rw[Nat.pow_add,Nat.mul_comm]
 have e2:2 ^ (64*n+k+1)=2 ^ (k+1)*2 ^ (64*n):=by rw[Nat.add_assoc,Nat.pow_add,Nat.mul_comm]
 rw[e1,e2]
 have h3:2 ^ k*2 ^ (64*n)≤ds.getD n 0*2 ^ (64*n):=Nat.mul_le_mul_right _ h1
 have h4:(ds.getD n 0+1)*2 ^ (64*n)≤2 ^ (k+1)*2 ^ (64*n):=Nat.mul_le_mul_right _ h2
 rw[Nat.add_mul,Nat.one_mul] at h4
 omega
def Hy (a b k V r:Nat):Prop:=a=b*V+r∧2 ^ k∣V∧r<b*2 ^ k
theorem Jy {a b la lb:Nat} (ha:a<2 ^ la) (hb:2 ^ lb≤b) (hl:lb≤la):Hy a b (la - lb) 0 a:=by
 refine⟨by omega,Nat.dvd_zero _,?_⟩
 have h1:2 ^ lb*2 ^ (la - lb)≤b*2 ^ (la - lb):=Nat.mul_le_mul_right _ hb
 rw[←Nat.pow_add,show lb+(la - lb)=la by omega] at h1
 omega
theorem Rq {a b k V r:Nat} (h:Hy a b (k+1) V r) (hc:b*2 ^ k≤r):Hy a b k (V+2 ^ k) (r - b*2 ^ k):=by
 obtain⟨h1,h2,h3⟩:=h
 have e:b*2 ^ (k+1)=b*2 ^ k+b*2 ^ k:=by rw[Nat.pow_succ];grind
 refine⟨?_,?_,by omega⟩
 ·rw[Nat.mul_add];omega
 ·exact(Nat.dvd_add_right (Nat.dvd_trans (Nat.pow_dvd_pow _ (by omega)) h2)).2 (Nat.dvd_refl _)
theorem Og {a b k V r:Nat} (h:Hy a b (k+1) V r) (hc:r<b*2 ^ k):Hy a b k V r :=
 ⟨h.1,Nat.dvd_trans (Nat.pow_dvd_pow _ (by omega)) h.2.1,hc⟩
theorem Rr {a b V r:Nat} (h:Hy a b 0 V r):V=a / b∧r=a % b:=by
 obtain⟨h1,_,h3⟩:=h
 rw[Nat.pow_zero,Nat.mul_one] at h3
 have e1:=Nat.mul_add_mod b V r
 have e2:=Nat.mul_add_div (show 0<b by omega) V r
 rw[←h1,Nat.mod_eq_of_lt h3] at e1
 rw[←h1,Nat.div_eq_of_lt h3,Nat.add_zero] at e2
 exact⟨e2.symm,e1.symm⟩
end Go.Id.B
namespace Go.Id
open Go
open Go.Proofs.Tryz (prog)
theorem ZaO:bj prog 133=some false:=by kernel_rfl
theorem ZaN:bj prog 135=some true:=by kernel_rfl
theorem AS:bj prog 137=some true:=by kernel_rfl
theorem xQ:bj prog 139=some false:=by kernel_rfl
theorem ZaM:bj prog 143=some false:=by kernel_rfl
theorem ZaL:bj prog 145=some true:=by kernel_rfl
theorem Si:bj prog 147=some false:=by kernel_rfl
theorem Mi:bj prog 150=some false:=by kernel_rfl
theorem ZaK:bj prog 175=some true:=by kernel_rfl
theorem Hs:bj prog 177=some true:=by kernel_rfl
theorem ag22:bj prog 22=some false:=by kernel_rfl
theorem ZaJ:bj prog 230=some false:=by kernel_rfl
theorem ag24:bj prog 24=some true:=by kernel_rfl
theorem ZaI:bj prog 244=some true:=by kernel_rfl
theorem ZaH:bj prog 246=some true:=by kernel_rfl
theorem ag25:bj prog 25=some false:=by kernel_rfl
theorem si:bj prog 28=some false:=by kernel_rfl
theorem ag3:bj prog 3=some false:=by kernel_rfl
theorem ag30:bj prog 30=some true:=by kernel_rfl
theorem ag32:bj prog 32=some true:=by kernel_rfl
theorem ag38:bj prog 38=some false:=by kernel_rfl
theorem ag4:bj prog 4=some false:=by kernel_rfl
theorem ag42:bj prog 42=some false:=by kernel_rfl
theorem ag5:bj prog 5=some false:=by kernel_rfl
theorem ag54:bj prog 54=some false:=by kernel_rfl
theorem ag56:bj prog 56=some true:=by kernel_rfl
theorem ag58:bj prog 58=some true:=by kernel_rfl
theorem XP:bj prog 61=some false:=by kernel_rfl
theorem ZaC:kG prog 133=some (1,8):=by kernel_rfl
theorem VK:kG prog 139=some (4,64):=by kernel_rfl
theorem ZaB:kG prog 143=some (1,1):=by kernel_rfl
theorem ZaA:kG prog 147=some (1,24):=by kernel_rfl
theorem VJ:kG prog 220=some (4,64):=by kernel_rfl
theorem Eu:kG prog 25=some (1,8):=by kernel_rfl
theorem XM:kG prog 38=some (1,24):=by kernel_rfl
theorem ap42:kG prog 42=some (8,64):=by kernel_rfl
theorem OG:kG prog 61=some (16,128):=by kernel_rfl
theorem Mg:Mf prog 244=some (8,1):=by kernel_rfl
theorem tV:Mf prog 30=some (8,1):=by kernel_rfl
theorem Zax:cu prog 135=true:=by kernel_rfl
theorem Zaw:cu prog 137=true:=by kernel_rfl
theorem Zav:cu prog 142=true:=by kernel_rfl
theorem Zau:cu prog 145=true:=by kernel_rfl
theorem Zat:cu prog 175=true:=by kernel_rfl
theorem Zas:cu prog 177=true:=by kernel_rfl
theorem Zar:cu prog 244=true:=by kernel_rfl
theorem Zaq:cu prog 246=true:=by kernel_rfl
theorem as30:cu prog 30=true:=by kernel_rfl
theorem as32:cu prog 32=true:=by kernel_rfl
theorem eg30:prog.eqGuardType prog.depth 30=false:=by kernel_rfl
theorem fX:dX prog 133=some 1:=by kernel_rfl
theorem An:dX prog 139=some 4:=by kernel_rfl
theorem Z9:dX prog 143=some 1:=by kernel_rfl
theorem LG:dX prog 147=some 1:=by kernel_rfl
theorem Z8:dX prog 22=some 1:=by kernel_rfl
theorem LF:dX prog 220=some 4:=by kernel_rfl
theorem jN:dX prog 25=some 1:=by kernel_rfl
theorem Z7:dX prog 38=some 1:=by kernel_rfl
theorem N9:dX prog 42=some 8:=by kernel_rfl
theorem es52:dX prog 52=some 6:=by kernel_rfl
theorem x8:dX prog 61=some 16:=by kernel_rfl
theorem iG:fieldAt prog 135 0=some 0:=by kernel_rfl
theorem jr:fieldAt prog 135 1=some 1:=by kernel_rfl
theorem fM:fieldAt prog 137 0=some 0:=by kernel_rfl
theorem gX:fieldAt prog 137 1=some 2:=by kernel_rfl
theorem D7:fieldAt prog 142 0=some 0:=by kernel_rfl
theorem D6:fieldAt prog 145 0=some 0:=by kernel_rfl
theorem Uj:fieldAt prog 145 1=some 1:=by kernel_rfl
theorem dL:fieldAt prog 175 0=some 0:=by kernel_rfl
theorem fc:fieldAt prog 175 1=some 1:=by kernel_rfl
theorem jq:fieldAt prog 177 0=some 0:=by kernel_rfl
theorem j6:fieldAt prog 177 1=some 2:=by kernel_rfl
theorem rR:fieldAt prog 246 0=some 0:=by kernel_rfl
theorem j5:fieldAt prog 246 1=some 1:=by kernel_rfl
theorem Xj:fieldAt prog 24 0=some 0:=by kernel_rfl
theorem D5:fieldAt prog 24 1=some 1:=by kernel_rfl
theorem Jq:fieldAt prog 32 0=some 0:=by kernel_rfl
theorem Jp:fieldAt prog 32 1=some 8:=by kernel_rfl
theorem Xi:fieldAt prog 56 0=some 0:=by kernel_rfl
theorem Xh:fieldAt prog 56 2=some 2:=by kernel_rfl
theorem Jo:fieldAt prog 58 0=some 0:=by kernel_rfl
theorem Ra:fieldAt prog 58 1=some 3:=by kernel_rfl
theorem DZ:rQ prog 135 1=some (false,1,1):=by kernel_rfl
theorem Ui:rQ prog 137 0=some (true,0,2):=by kernel_rfl
theorem Za:(Program.underlying prog 28).isSome=true:=by kernel_rfl
theorem is3:(Program.underlying prog 3).isSome=true:=by kernel_rfl
theorem is5:(Program.underlying prog 5).isSome=true:=by kernel_rfl
theorem is54:(Program.underlying prog 54).isSome=true:=by kernel_rfl
theorem Ve:nT prog 133=some (1,8,[.int .u64 (0)]):=by kernel_rfl
theorem Vd:nT prog 139=some (4,64,[.bool false,.slice none 0 0,.bool false,.slice none 0 0]):=by kernel_rfl
theorem YO:nT prog 143=some (1,1,[.bool false]):=by kernel_rfl
theorem Vc:nT prog 147=some (1,24,[.slice none 0 0]):=by kernel_rfl
theorem YN:nT prog 220=some (4,64,[.bool false,.slice none 0 0,.bool false,.slice none 0 0]):=by kernel_rfl
theorem YM:nT prog 25=some (1,8,[.int .i64 (0)]):=by kernel_rfl
theorem mk38:nT prog 38=some (1,24,[.slice none 0 0]):=by kernel_rfl
theorem mk42:nT prog 42=some (8,64,[.int .u64 (0),.int .u64 (0),.int .u64 (0),.int .u64 (0),.int .u64 (0),.int .u64 (0),.int .u64 (0),.int .u64 (0)]):=by kernel_rfl
theorem mk61:nT prog 61=some (16,128,[.int .u64 (0),.int .u64 (0),.int .u64 (0),.int .u64 (0),.int .u64 (0),.int .u64 (0),.int .u64 (0),.int .u64 (0),.int .u64 (0),.int .u64 (0),.int .u64 (0),.int .u64 (0),.int .u64 (0),.int .u64 (0),.int .u64 (0),.int .u64 (0)]):=by kernel_rfl
theorem uN:placeOf prog 135 0=some (0,1):=by kernel_rfl
theorem oY:placeOf prog 135 1=some (1,1):=by kernel_rfl
theorem yp:placeOf prog 137 0=some (0,2):=by kernel_rfl
theorem yo:placeOf prog 137 1=some (2,2):=by kernel_rfl
theorem Tk:placeOf prog 142 0=some (0,1):=by kernel_rfl
theorem Tj:placeOf prog 145 0=some (0,1):=by kernel_rfl
theorem Ti:placeOf prog 145 1=some (1,1):=by kernel_rfl
theorem KF:placeOf prog 175 0=some (0,1):=by kernel_rfl
theorem yn:placeOf prog 175 1=some (1,1):=by kernel_rfl
theorem ym:placeOf prog 177 0=some (0,2):=by kernel_rfl
theorem yl:placeOf prog 177 1=some (2,2):=by kernel_rfl
theorem Th:placeOf prog 244 7=some (7,1):=by kernel_rfl
theorem KE:placeOf prog 246 0=some (0,1):=by kernel_rfl
theorem Tg:placeOf prog 246 1=some (1,8):=by kernel_rfl
theorem Wo:placeOf prog 30 0=some (0,1):=by kernel_rfl
theorem Qa:placeOf prog 32 0=some (0,8):=by kernel_rfl
theorem P9:placeOf prog 32 1=some (8,8):=by kernel_rfl
theorem ft:bZ prog (some 133)=true:=by kernel_rfl
theorem Bz:bZ prog (some 139)=true:=by kernel_rfl
theorem Yt:bZ prog (some 143)=true:=by kernel_rfl
theorem Ps:bZ prog (some 147)=true:=by kernel_rfl
theorem SU:bZ prog (some 22)=true:=by kernel_rfl
theorem UW:bZ prog (some 220)=true:=by kernel_rfl
theorem fT:bZ prog (some 25)=true:=by kernel_rfl
theorem Ys:bZ prog (some 38)=true:=by kernel_rfl
theorem Dh:bZ prog (some 42)=true:=by kernel_rfl
theorem sl52:bZ prog (some 52)=true:=by kernel_rfl
theorem uu:bZ prog (some 61)=true:=by kernel_rfl
theorem US:aK prog 135=some 2:=by kernel_rfl
theorem sD:aK prog 137=some 4:=by kernel_rfl
theorem UR:aK prog 139=some 1:=by kernel_rfl
theorem UQ:aK prog 145=some 2:=by kernel_rfl
theorem Yo:aK prog 147=some 1:=by kernel_rfl
theorem UP:aK prog 175=some 2:=by kernel_rfl
theorem yZ:aK prog 177=some 4:=by kernel_rfl
theorem Yn:aK prog 230=some 1:=by kernel_rfl
theorem sz24:aK prog 24=some 2:=by kernel_rfl
theorem UO:aK prog 244=some 8:=by kernel_rfl
theorem UN:aK prog 246=some 9:=by kernel_rfl
theorem Fg:aK prog 28=some 1:=by kernel_rfl
theorem sz3:aK prog 3=some 1:=by kernel_rfl
theorem V9:aK prog 30=some 8:=by kernel_rfl
theorem V8:aK prog 32=some 16:=by kernel_rfl
theorem sz56:aK prog 56=some 3:=by kernel_rfl
theorem Ym:aK prog 58=some 6:=by kernel_rfl
theorem SG:Program.underlying prog 133=some (.slice 28):=by kernel_rfl
theorem Yk:Program.underlying prog 244=some (.array 8 28):=by kernel_rfl
theorem u25:Program.underlying prog 25=some (.slice 3):=by kernel_rfl
theorem u28:Program.underlying prog 28=some (.int .u64):=by kernel_rfl
theorem u3:Program.underlying prog 3=some (.int .i64):=by kernel_rfl
theorem u30:Program.underlying prog 30=some (.array 8 28):=by kernel_rfl
theorem u32:Program.underlying prog 32=some (.struct { toList:=[{ name := "N",type:=30,offset:=0,embedded:=false,tag := "",pkgPath := "",byteOffset:=0 },{ name := "D",type:=30,offset:=8,embedded:=false,tag := "",pkgPath := "",byteOffset:=64 }] }):=by kernel_rfl
theorem u4:Program.underlying prog 4=some .bool:=by kernel_rfl
theorem u5:Program.underlying prog 5=some (.int .u8):=by kernel_rfl
theorem u61:Program.underlying prog 61=some (.slice 32):=by kernel_rfl
theorem u64:Program.underlying prog 64=some (.int .u64):=by kernel_rfl
theorem u9:Program.underlying prog 9=some .string:=by kernel_rfl
theorem ju:aC prog 135=some [.bool false,.slice none 0 0]:=by kernel_rfl
theorem dr:aC prog 137=some [.bool false,.slice none 0 0,.bool false,.slice none 0 0]:=by kernel_rfl
theorem Yd:aC prog 139=some [.slice none 0 0]:=by kernel_rfl
theorem Yc:aC prog 142=some [.slice none 0 0]:=by kernel_rfl
theorem UG:aC prog 145=some [.slice none 0 0,.slice none 0 0]:=by kernel_rfl
theorem Yb:aC prog 147=some [.slice none 0 0]:=by kernel_rfl
theorem kS:aC prog 175=some [.bool false,.slice none 0 0]:=by kernel_rfl
theorem ku:aC prog 177=some [.bool false,.slice none 0 0,.bool false,.slice none 0 0]:=by kernel_rfl
theorem Ya:aC prog 230=some [.nilFunc]:=by kernel_rfl
theorem OP:aC prog 244=some [.int .u64 (0),.int .u64 (0),.int .u64 (0),.int .u64 (0),.int .u64 (0),.int .u64 (0),.int .u64 (0),.int .u64 (0)]:=by kernel_rfl
theorem JR:aC prog 246=some [.bool false,.int .u64 (0),.int .u64 (0),.int .u64 (0),.int .u64 (0),.int .u64 (0),.int .u64 (0),.int .u64 (0),.int .u64 (0)]:=by kernel_rfl
theorem zc3:aC prog 3=some [.int .i64 (0)]:=by kernel_rfl
theorem nh:aC prog 30=some [.int .u64 (0),.int .u64 (0),.int .u64 (0),.int .u64 (0),.int .u64 (0),.int .u64 (0),.int .u64 (0),.int .u64 (0)]:=by kernel_rfl
theorem gC:aC prog 32=some [.int .u64 (0),.int .u64 (0),.int .u64 (0),.int .u64 (0),.int .u64 (0),.int .u64 (0),.int .u64 (0),.int .u64 (0),.int .u64 (0),.int .u64 (0),.int .u64 (0),.int .u64 (0),.int .u64 (0),.int .u64 (0),.int .u64 (0),.int .u64 (0)]:=by kernel_rfl
theorem OE (h:IH) (x y:Value):builtin prog h .append #[133,133] [x,y]=append prog h 133 x y:=builtin_append prog h 133 133 x y ft
theorem CM (h:IH) (x y:Value):builtin prog h .append #[139,139] [x,y]=append prog h 139 x y:=builtin_append prog h 139 139 x y Bz
theorem OD (h:IH) (x y:Value):builtin prog h .append #[143,143] [x,y]=append prog h 143 x y:=builtin_append prog h 143 143 x y Yt
theorem OC (h:IH) (x y:Value):builtin prog h .append #[147,147] [x,y]=append prog h 147 x y:=builtin_append prog h 147 147 x y Ps
theorem CL (h:IH) (x y:Value):builtin prog h .append #[220,220] [x,y]=append prog h 220 x y:=builtin_append prog h 220 220 x y UW
theorem lC (h:IH) (x y:Value):builtin prog h .append #[25,25] [x,y]=append prog h 25 x y:=builtin_append prog h 25 25 x y fT
theorem Er (h:IH) (x y:Value):builtin prog h .append #[38,38] [x,y]=append prog h 38 x y:=builtin_append prog h 38 38 x y Ys
theorem Me (h:IH) (x y:Value):builtin prog h .append #[42,42] [x,y]=append prog h 42 x y:=builtin_append prog h 42 42 x y Dh
theorem rT (h:IH) (x y:Value):builtin prog h .append #[61,61] [x,y]=append prog h 61 x y:=builtin_append prog h 61 61 x y uu
theorem be4 (ox oy:Operand) (a b:Bool):binop prog .eql 4 ox oy (.bool a) (.bool b)=some (.bool (a == b)):=AO u4 ox oy a b
theorem bn4 (ox oy:Operand) (a b:Bool):binop prog .neq 4 ox oy (.bool a) (.bool b)=some (.bool (!(a == b))):=AN u4 ox oy a b
theorem RZ (h:IH) (len:Nat) (ps:List (Nat×Value)) (hl:len*1≤16777216):buildSlice prog h 133 len ps=(cd (fun i=>some (i*1,1)) (bq len [.int .u64 (0)]) ps).map fun cells=>(.slice (some ⟨2*h.n,0,none⟩) len (2*len+1),h.new (.cells cells 1 none)):=cZ Ve h len ps hl
theorem RY (h:IH) (len:Nat) (ps:List (Nat×Value)) (hl:len*4≤16777216):buildSlice prog h 139 len ps=(cd (fun i=>some (i*4,4)) (bq len [.bool false,.slice none 0 0,.bool false,.slice none 0 0]) ps).map fun cells=>(.slice (some ⟨2*h.n,0,none⟩) len (2*len+1),h.new (.cells cells 4 none)):=cZ Vd h len ps hl
theorem Zal (h:IH) (len:Nat) (ps:List (Nat×Value)) (hl:len*1≤16777216):buildSlice prog h 143 len ps=(cd (fun i=>some (i*1,1)) (bq len [.bool false]) ps).map fun cells=>(.slice (some ⟨2*h.n,0,none⟩) len (2*len+1),h.new (.cells cells 1 none)):=cZ YO h len ps hl
theorem VD (h:IH) (len:Nat) (ps:List (Nat×Value)) (hl:len*1≤16777216):buildSlice prog h 147 len ps=(cd (fun i=>some (i*1,1)) (bq len [.slice none 0 0]) ps).map fun cells=>(.slice (some ⟨2*h.n,0,none⟩) len (2*len+1),h.new (.cells cells 1 none)):=cZ Vc h len ps hl
theorem VC (h:IH) (len:Nat) (ps:List (Nat×Value)) (hl:len*4≤16777216):buildSlice prog h 220 len ps=(cd (fun i=>some (i*4,4)) (bq len [.bool false,.slice none 0 0,.bool false,.slice none 0 0]) ps).map fun cells=>(.slice (some ⟨2*h.n,0,none⟩) len (2*len+1),h.new (.cells cells 4 none)):=cZ YN h len ps hl
theorem Bf (h:IH) (len:Nat) (ps:List (Nat×Value)) (hl:len*1≤16777216):buildSlice prog h 25 len ps=(cd (fun i=>some (i*1,1)) (bq len [.int .i64 (0)]) ps).map fun cells=>(.slice (some ⟨2*h.n,0,none⟩) len (2*len+1),h.new (.cells cells 1 none)):=cZ YM h len ps hl
theorem XD (h:IH) (len:Nat) (ps:List (Nat×Value)) (hl:len*1≤16777216):buildSlice prog h 38 len ps=(cd (fun i=>some (i*1,1)) (bq len [.slice none 0 0]) ps).map fun cells=>(.slice (some ⟨2*h.n,0,none⟩) len (2*len+1),h.new (.cells cells 1 none)):=cZ mk38 h len ps hl
theorem bs42 (h:IH) (len:Nat) (ps:List (Nat×Value)) (hl:len*8≤16777216):buildSlice prog h 42 len ps=(cd (fun i=>some (i*8,8)) (bq len [.int .u64 (0),.int .u64 (0),.int .u64 (0),.int .u64 (0),.int .u64 (0),.int .u64 (0),.int .u64 (0),.int .u64 (0)]) ps).map fun cells=>(.slice (some ⟨2*h.n,0,none⟩) len (2*len+1),h.new (.cells cells 8 none)):=cZ mk42 h len ps hl
theorem Hm (h:IH) (len:Nat) (ps:List (Nat×Value)) (hl:len*16≤16777216):buildSlice prog h 61 len ps=(cd (fun i=>some (i*16,16)) (bq len [.int .u64 (0),.int .u64 (0),.int .u64 (0),.int .u64 (0),.int .u64 (0),.int .u64 (0),.int .u64 (0),.int .u64 (0),.int .u64 (0),.int .u64 (0),.int .u64 (0),.int .u64 (0),.int .u64 (0),.int .u64 (0),.int .u64 (0),.int .u64 (0)]) ps).map fun cells=>(.slice (some ⟨2*h.n,0,none⟩) len (2*len+1),h.new (.cells cells 16 none)):=cZ mk61 h len ps hl
theorem AI (ps:List (Nat×Value)):iS prog 135 ps=(cd (placeOf prog 135) [.bool false,.slice none 0 0] ps).map fun cs=>.agg cs.toArray:=gi ju Zax ps
theorem LZ (ps:List (Nat×Value)):iS prog 137 ps=(cd (placeOf prog 137) [.bool false,.slice none 0 0,.bool false,.slice none 0 0] ps).map fun cs=>.agg cs.toArray:=gi dr Zaw ps
theorem Zaj (ps:List (Nat×Value)):iS prog 142 ps=(cd (placeOf prog 142) [.slice none 0 0] ps).map fun cs=>.agg cs.toArray:=gi Yc Zav ps
theorem Zai (ps:List (Nat×Value)):iS prog 145 ps=(cd (placeOf prog 145) [.slice none 0 0,.slice none 0 0] ps).map fun cs=>.agg cs.toArray:=gi UG Zau ps
theorem LY (ps:List (Nat×Value)):iS prog 175 ps=(cd (placeOf prog 175) [.bool false,.slice none 0 0] ps).map fun cs=>.agg cs.toArray:=gi kS Zat ps
theorem LW (ps:List (Nat×Value)):iS prog 177 ps=(cd (placeOf prog 177) [.bool false,.slice none 0 0,.bool false,.slice none 0 0] ps).map fun cs=>.agg cs.toArray:=gi ku Zas ps
theorem LV (ps:List (Nat×Value)):iS prog 244 ps=(cd (placeOf prog 244) [.int .u64 (0),.int .u64 (0),.int .u64 (0),.int .u64 (0),.int .u64 (0),.int .u64 (0),.int .u64 (0),.int .u64 (0)] ps).map fun cs=>.agg cs.toArray:=gi OP Zar ps
theorem VB (ps:List (Nat×Value)):iS prog 246 ps=(cd (placeOf prog 246) [.bool false,.int .u64 (0),.int .u64 (0),.int .u64 (0),.int .u64 (0),.int .u64 (0),.int .u64 (0),.int .u64 (0),.int .u64 (0)] ps).map fun cs=>.agg cs.toArray:=gi JR Zaq ps
theorem Ek (ps:List (Nat×Value)):iS prog 30 ps=(cd (placeOf prog 30) [.int .u64 (0),.int .u64 (0),.int .u64 (0),.int .u64 (0),.int .u64 (0),.int .u64 (0),.int .u64 (0),.int .u64 (0)] ps).map fun cs=>.agg cs.toArray:=gi nh as30 ps
theorem Ej (ps:List (Nat×Value)):iS prog 32 ps=(cd (placeOf prog 32) [.int .u64 (0),.int .u64 (0),.int .u64 (0),.int .u64 (0),.int .u64 (0),.int .u64 (0),.int .u64 (0),.int .u64 (0),.int .u64 (0),.int .u64 (0),.int .u64 (0),.int .u64 (0),.int .u64 (0),.int .u64 (0),.int .u64 (0),.int .u64 (0)] ps).map fun cs=>.agg cs.toArray:=gi gC as32 ps
theorem Az (k:IntKind) (n:Int):mZ prog 28 3 (.int k n)=some (.int .i64 (IntKind.i64.wrap n)):=jP Za u3
theorem Xr (k:IntKind) (n:Int):mZ prog 28 5 (.int k n)=some (.int .u8 (IntKind.u8.wrap n)):=jP Za u5
theorem Ed (k:IntKind) (n:Int):mZ prog 3 28 (.int k n)=some (.int .u64 (IntKind.u64.wrap n)):=jP is3 u28
theorem Xq (k:IntKind) (n:Int):mZ prog 3 64 (.int k n)=some (.int .u64 (IntKind.u64.wrap n)):=jP is3 u64
theorem Xp (k:IntKind) (n:Int):mZ prog 54 3 (.int k n)=some (.int .i64 (IntKind.i64.wrap n)):=jP is54 u3
theorem G8 (k:IntKind) (n:Int):mZ prog 5 3 (.int k n)=some (.int .i64 (IntKind.i64.wrap n)):=jP is5 u3
theorem qN (h:IH) (b o:Nat):load prog h 133 (ptr b o)=ld h b o:=cp ZaO h b o
theorem bE (h:IH) (b o:Nat):load prog h 135 (ptr b o)=(h.rd b o 2).map fun cs=>.agg cs.toArray:=eP ZaN US h b o
theorem fA (h:IH) (b o:Nat):load prog h 137 (ptr b o)=(h.rd b o 4).map fun cs=>.agg cs.toArray:=eP AS sD h b o
theorem Y7 (h:IH) (b o:Nat):load prog h 139 (ptr b o)=ld h b o:=cp xQ h b o
theorem Y6 (h:IH) (b o:Nat):load prog h 143 (ptr b o)=ld h b o:=cp ZaM h b o
theorem K8 (h:IH) (b o:Nat):load prog h 145 (ptr b o)=(h.rd b o 2).map fun cs=>.agg cs.toArray:=eP ZaL UQ h b o
theorem K4 (h:IH) (b o:Nat):load prog h 147 (ptr b o)=ld h b o:=cp Si h b o
theorem Y5 (h:IH) (b o:Nat):load prog h 150 (ptr b o)=ld h b o:=cp Mi h b o
theorem bW (h:IH) (b o:Nat):load prog h 175 (ptr b o)=(h.rd b o 2).map fun cs=>.agg cs.toArray:=eP ZaK UP h b o
theorem jx (h:IH) (b o:Nat):load prog h 177 (ptr b o)=(h.rd b o 4).map fun cs=>.agg cs.toArray:=eP Hs yZ h b o
theorem TN (h:IH) (b o:Nat):load prog h 22 (ptr b o)=ld h b o:=cp ag22 h b o
theorem Vk (h:IH) (b o:Nat):load prog h 230 (ptr b o)=ld h b o:=cp ZaJ h b o
theorem WD (h:IH) (b o:Nat):load prog h 24 (ptr b o)=(h.rd b o 2).map fun cs=>.agg cs.toArray:=eP ag24 sz24 h b o
theorem xy (h:IH) (b o:Nat):load prog h 244 (ptr b o)=(h.rd b o 8).map fun cs=>.agg cs.toArray:=eP ZaI UO h b o
theorem QG (h:IH) (b o:Nat):load prog h 246 (ptr b o)=(h.rd b o 9).map fun cs=>.agg cs.toArray:=eP ZaH UN h b o
theorem qM (h:IH) (b o:Nat):load prog h 25 (ptr b o)=ld h b o:=cp ag25 h b o
theorem rY (h:IH) (b o:Nat):load prog h 28 (ptr b o)=ld h b o:=cp si h b o
theorem ld3 (h:IH) (b o:Nat):load prog h 3 (ptr b o)=ld h b o:=cp ag3 h b o
theorem eV (h:IH) (b o:Nat):load prog h 30 (ptr b o)=(h.rd b o 8).map fun cs=>.agg cs.toArray:=eP ag30 V9 h b o
theorem bY (h:IH) (b o:Nat):load prog h 32 (ptr b o)=(h.rd b o 16).map fun cs=>.agg cs.toArray:=eP ag32 V8 h b o
theorem TM (h:IH) (b o:Nat):load prog h 38 (ptr b o)=ld h b o:=cp ag38 h b o
theorem ld4 (h:IH) (b o:Nat):load prog h 4 (ptr b o)=ld h b o:=cp ag4 h b o
theorem Y0 (h:IH) (b o:Nat):load prog h 42 (ptr b o)=ld h b o:=cp ag42 h b o
theorem ld5 (h:IH) (b o:Nat):load prog h 5 (ptr b o)=ld h b o:=cp ag5 h b o
theorem ld54 (h:IH) (b o:Nat):load prog h 54 (ptr b o)=ld h b o:=cp ag54 h b o
theorem ND (h:IH) (b o:Nat):load prog h 56 (ptr b o)=(h.rd b o 3).map fun cs=>.agg cs.toArray:=eP ag56 sz56 h b o
theorem YZ (h:IH) (b o:Nat):load prog h 58 (ptr b o)=(h.rd b o 6).map fun cs=>.agg cs.toArray:=eP ag58 Ym h b o
theorem YY (h:IH) (b o:Nat):load prog h 61 (ptr b o)=ld h b o:=cp XP h b o
theorem YR (h:IH) (a:Option Addr) (n c:Nat):nB prog h 147 (.slice a n c)=some (.int .i64 n):=tG Ps h a n c
theorem ln25 (h:IH) (a:Option Addr) (n c:Nat):nB prog h 25 (.slice a n c)=some (.int .i64 n):=tG fT h a n c
theorem Gt (h:IH) (k j:IntKind) {l c:Int} (h0:0≤l) (h1:l≤c) (h2:c*9≤1099511627776):makeSlice prog h 133 (.int k l) (.int j c)=some (.slice (some ⟨2*h.n,0,none⟩) l.toNat (2*c.toNat+1),h.new (.cells (bq c.toNat [.int .u64 (0)]) 1 none)):=lq Ve h k j h0 h1 h2
theorem YL (h:IH) (k j:IntKind) {l c:Int} (h0:0≤l) (h1:l≤c) (h2:c*65≤1099511627776):makeSlice prog h 139 (.int k l) (.int j c)=some (.slice (some ⟨2*h.n,0,none⟩) l.toNat (2*c.toNat+1),h.new (.cells (bq c.toNat [.bool false,.slice none 0 0,.bool false,.slice none 0 0]) 4 none)):=lq Vd h k j h0 h1 h2
theorem YK (h:IH) (k j:IntKind) {l c:Int} (h0:0≤l) (h1:l≤c) (h2:c*25≤1099511627776):makeSlice prog h 147 (.int k l) (.int j c)=some (.slice (some ⟨2*h.n,0,none⟩) l.toNat (2*c.toNat+1),h.new (.cells (bq c.toNat [.slice none 0 0]) 1 none)):=lq Vc h k j h0 h1 h2
theorem IU (h:IH) (k j:IntKind) {l c:Int} (h0:0≤l) (h1:l≤c) (h2:c*9≤1099511627776):makeSlice prog h 25 (.int k l) (.int j c)=some (.slice (some ⟨2*h.n,0,none⟩) l.toNat (2*c.toNat+1),h.new (.cells (bq c.toNat [.int .i64 (0)]) 1 none)):=lq YM h k j h0 h1 h2
theorem gu (h:IH) (k o:Nat) (v:Value):store prog h 135 (ptr (2*k) o) v=stE 2 h k o v.cells.toList (h.ext.get k):=dA US h k o v
theorem cQ (h:IH) (k o:Nat) (v:Value):store prog h 137 (ptr (2*k) o) v=stE 4 h k o v.cells.toList (h.ext.get k):=dA sD h k o v
theorem Yr (h:IH) (k o:Nat) (v:Value):store prog h 139 (ptr (2*k) o) v=stE 1 h k o v.cells.toList (h.ext.get k):=dA UR h k o v
theorem Yq (h:IH) (k o:Nat) (v:Value):store prog h 145 (ptr (2*k) o) v=stE 2 h k o v.cells.toList (h.ext.get k):=dA UQ h k o v
theorem UU (h:IH) (k o:Nat) (v:Value):store prog h 147 (ptr (2*k) o) v=stE 1 h k o v.cells.toList (h.ext.get k):=dA Yo h k o v
theorem gF (h:IH) (k o:Nat) (v:Value):store prog h 175 (ptr (2*k) o) v=stE 2 h k o v.cells.toList (h.ext.get k):=dA UP h k o v
theorem iW (h:IH) (k o:Nat) (v:Value):store prog h 177 (ptr (2*k) o) v=stE 4 h k o v.cells.toList (h.ext.get k):=dA yZ h k o v
theorem Yp (h:IH) (k o:Nat) (v:Value):store prog h 230 (ptr (2*k) o) v=stE 1 h k o v.cells.toList (h.ext.get k):=dA Yn h k o v
theorem Fp (h:IH) (k o:Nat) (v:Value):store prog h 244 (ptr (2*k) o) v=stE 8 h k o v.cells.toList (h.ext.get k):=dA UO h k o v
theorem Fo (h:IH) (k o:Nat) (v:Value):store prog h 246 (ptr (2*k) o) v=stE 9 h k o v.cells.toList (h.ext.get k):=dA UN h k o v
theorem vU (h:IH) (k o:Nat) (v:Value):store prog h 28 (ptr (2*k) o) v=stE 1 h k o v.cells.toList (h.ext.get k):=dA Fg h k o v
theorem st3 (h:IH) (k o:Nat) (v:Value):store prog h 3 (ptr (2*k) o) v=stE 1 h k o v.cells.toList (h.ext.get k):=dA sz3 h k o v
theorem kK (h:IH) (k o:Nat) (v:Value):store prog h 30 (ptr (2*k) o) v=stE 8 h k o v.cells.toList (h.ext.get k):=dA V9 h k o v
theorem ed (h:IH) (k o:Nat) (v:Value):store prog h 32 (ptr (2*k) o) v=stE 16 h k o v.cells.toList (h.ext.get k):=dA V8 h k o v
end Go.Id
