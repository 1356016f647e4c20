/-
  The discharger of the walks, as a theorem with a default proof.
-/
import Derived.Test.YtnnmjocmapilaaaGreatTemperRoundsAi
import Derived.Test.YtnnmjocmapilaaaGreatProg
set_option linter.unusedVariables false
set_option linter.unusedSimpArgs false
set_option linter.defProp false
set_option linter.deprecated false
namespace Go.Id
theorem dx {p : Prop} (h : p := by first | omega | (simp only [aH, aJ]; omega) | decide +kernel | ((repeat first | rw [aH] | rw [aJ]); all_goals fail) | fail) : p := h
theorem exEq {α : Sort _} (a : α) : ∃ x, x = a := ⟨a, rfl⟩
theorem exAt {α : Type _} {l : List α} {i : Nat} (h : i < l.length) : ∃ a, l[i]? = some a := ⟨_, aK h⟩
end Go.Id
namespace Go.Id.B
section
def bm (ds:List Nat):Nat→Nat
 | 0=>0
 | k+1=>bm ds k+ds.getD k 0*18446744073709551616 ^ k
def aM (ds:List Nat):Nat:=bm ds ds.length
def dh (ds:List Nat):Prop:=∀d∈ds,d<18446744073709551616
def Norm (ds:List Nat):Prop:=ds = []∨ds.getD (ds.length - 1) 0≠0
variable {ds:List Nat}
def cK (h:dh ds) (k:Nat):ds.getD k 0<18446744073709551616:=by
 rw[bH];cases hx:ds[k]? with
 | none=>simp
 | some x=>simpa using h x (bh hx)
theorem fO {k:Nat} (h:ds.length≤k):ds.getD k 0=0:=by rw[bH,cy h];rfl
def uI (k:Nat):0<18446744073709551616 ^ k:=gM aa
theorem kX (h:dh ds) : ∀k,bm ds k<18446744073709551616 ^ k
 | 0=>by simp[bm]
 | k+1=>by have ih:=kX h k;have hd:=cK h k;have h2:ds.getD k 0*18446744073709551616 ^ k≤18446744073709551615*18446744073709551616 ^ k:=dU _ aa;rw[bm,eH];omega
theorem lX : ∀{k:Nat},ds.length≤k→bm ds k=aM ds
 | 0,h=>by have:ds = []:=jK.1 aa;subst this;rfl
 | k+1,h=>by
  by_cases hk:ds.length≤k;·rw[bm,lX hk,fO hk];simp
  ·have:ds.length=k+1:=aa
   rw[aM,this]
theorem jk {es:List Nat} : ∀{k:Nat},(∀j,j<k→ds.getD j 0=es.getD j 0)→bm ds k=bm es k
 | 0,_=>rfl
 | k+1,h=>by rw[bm,bm,jk fun j hj=>h j aa,h k aa]
def mS (h:dh ds):aM ds<18446744073709551616 ^ ds.length:=kX h _
def dh.append {x:Nat} (h:dh ds) (hx:x<18446744073709551616):dh (ds ++ [x]):=by
 intro d hd;rcases fC.1 hd with h1|h1;·exact h d h1
 ·simp at h1;omega
def dh.take (h:dh ds) (n:Nat):dh (ds.take n):=fun d hd=>h d (Cf hd)
theorem rZ (ds:List Nat) (n j:Nat):(ds.take n).getD j 0=if j<n then ds.getD j 0 else 0:=by simp only[bH,gR];split<;>rfl
theorem nP (ds:List Nat) (m:Nat) : ∀k,(∀j,m≤j→j<m+k→ds.getD j 0=0)→bm ds (m+k)=bm ds m
 | 0,_=>rfl
 | k+1,h=>by rw[show m+(k+1)=(m+k)+1 from rfl,bm,nP ds m k (fun j a b=>h j a aa),h (m+k) aa aa];simp
def zK {m:Nat} (hm:m≤ds.length) (h : ∀j,m≤j→ds.getD j 0=0):aM (ds.take m)=aM ds:=by
 have h1:(ds.take m).length=m:=by simp[hm]
 rw[aM,h1];have h2:bm (ds.take m) m=bm ds m:=jk fun j hj=>by rw[rZ,aq hj]
 rw[h2];have:=nP ds m (ds.length - m) (fun j a _=>h j a);rw[show m+(ds.length - m)=ds.length from by omega] at this;exact this.symm
def Norm.ge (h:Norm ds) (hne:ds ≠ []):18446744073709551616 ^ (ds.length - 1)≤aM ds:=by
 rcases h with h|h;·exact absurd h hne
 ·have hl:0<ds.length:=Gt.2 hne
  obtain⟨n,hn⟩ : ∃n,ds.length=n+1:=⟨ds.length - 1,aa⟩;rw[aM,hn,bm];rw[hn] at h;simp only[Cc] at h ⊢;have:1*18446744073709551616 ^ n≤ds.getD n 0*18446744073709551616 ^ n:=dU _ aa;omega
variable {a b:List Nat}
def nY (ha:dh a) (hb:Norm b) (hl:a.length<b.length):aM a<aM b:=by have h1:=mS ha;have h2:=hb.ge (by intro h;subst h;simp at hl);have h3:18446744073709551616 ^ a.length≤18446744073709551616 ^ (b.length - 1):=fA aa aa;omega
variable {i:Nat}
def uw (ha:dh a) (hi:a.getD i 0<b.getD i 0) : ∀k,(∀j,i<j→j<i+1+k→a.getD j 0=b.getD j 0)→bm a (i+1+k)<bm b (i+1+k)
 | 0,_=>by have h1:=kX ha i;have h2:(a.getD i 0+1)*18446744073709551616 ^ i≤b.getD i 0*18446744073709551616 ^ i:=dU _ aa;rw[dA] at h2;rw[gN,bm,bm];omega
 | k+1,h=>by have:=uw ha hi k (fun j x y=>h j x aa);rw[show i+1+(k+1)=(i+1+k)+1 from rfl,bm,bm,h (i+1+k) aa aa];omega
def nW (ha:dh a) (hl:a.length=b.length) (hn:i<a.length) (hi:a.getD i 0<b.getD i 0) (h : ∀j,i<j→j<a.length→a.getD j 0=b.getD j 0):aM a<aM b:=by have:=uw ha hi (a.length - (i+1)) (fun j x y=>h j x aa);rw[show i+1+(a.length - (i+1))=a.length from by omega] at this;rw[aM,aM,←hl];exact this
def pV (hl:a.length=b.length) (h : ∀j,j<a.length→a.getD j 0=b.getD j 0):aM a=aM b:=by rw[aM,aM,←hl];exact jk h
def Norm.ow (h:Norm ds):aM ds=0↔ds = []:=by
 constructor;·intro h0;apply di;intro hne;have:=h.ge hne;have:=uI (ds.length - 1);omega
 ·rintro rfl;rfl
def Norm.qm (ha:Norm a) (hb:dh b) (h:aM a≤aM b):a.length≤b.length:=by apply di;intro hn;have:=nY hb ha aa;omega
end
section
variable {ds:List Nat}{w k:Nat}
theorem fZ (hk:k<ds.length) (j:Nat):(ds.set k w).getD j 0=if j=k then w else ds.getD j 0:=by
 simp only[bH,re];by_cases h:k=j;·subst h;simp[hk]
 ·rw[ah h,ah (fun x=>h x.symm)]
def ux {ds:List Nat} {k w:Nat} (hk:k<ds.length) : ∀n,bm (ds.set k w) n+(if k<n then ds.getD k 0*18446744073709551616 ^ k else 0)=bm ds n+(if k<n then w*18446744073709551616 ^ k else 0)
 | 0=>by simp[bm]
 | n+1=>by
  have ih:=ux (w:=w) hk n;rw[bm,bm,fZ hk];by_cases h1:k<n;·rw[aq h1,aq h1] at ih;rw[aq (show k<n+1 by omega),aq (show k<n+1 by omega),ah (show ¬n=k by omega)];omega
  ·rw[ah h1,ah h1] at ih;by_cases h2:n=k
   ·subst h2;rw[aq (lj n),aq (lj n),aq rfl];omega
   ·rw[ah (show ¬k<n+1 by omega),ah (show ¬k<n+1 by omega),ah h2];omega
def lM (w:Nat) (hk:k<ds.length):aM (ds.set k w)+ds.getD k 0*18446744073709551616 ^ k=aM ds+w*18446744073709551616 ^ k:=by have h:=ux (w:=w) hk ds.length;rw[aq hk,aq hk] at h;rw[aM,aM,dB];exact h
theorem rE (m:Nat) : ∀n,bm (List.replicate m 0) n=0
 | 0=>rfl
 | n+1=>by
  rw[bm,rE m n];have:(List.replicate m 0).getD n 0=0:=by rw[bH,Gv];split<;>rfl
  rw[this];simp
theorem nQ (m:Nat):aM (List.replicate m 0)=0:=rE m _
def oe (m j:Nat):(List.replicate m 0).getD j 0=0:=by rw[bH,Gv];split<;>rfl
def dh.set (h:dh ds) (k:Nat) (hw:w<18446744073709551616):dh (ds.set k w):=by
 intro d hd;rcases xg hd with h1|h1;·exact h d h1
 ·omega
theorem dh.de (m:Nat):dh (List.replicate m 0):=by intro d hd;rw[List.mem_replicate] at hd;omega
def Norm.Nt (h:Norm ds) {m:Nat} (hs:aM ds<18446744073709551616 ^ m):ds.length≤m:=by
 apply di;intro hn;have hne:ds ≠ []:=by intro h0;subst h0;simp at hn
 have h1:=h.ge hne;have h2:18446744073709551616 ^ m≤18446744073709551616 ^ (ds.length - 1):=fA aa aa;omega
end
end Go.Id.B
namespace Go.Id
open Go
open Go renaming Operand→QY,Program→QX,TypeId→QZ,Value→QQ
open Nat renaming reduceAdd→zA,reduceEqDiff→zE,reduceLeDiff→zL
open Nat (reduceMul)
set_option maxHeartbeats 16000000
section
variable {y1 y0:Nat}
def Rj {x1 x0:Nat} (h0:x0<4294967296) (h1:x1<4294967296) (g0:y0<4294967296) (g1:y1<4294967296) :x1*y0+x0*y0 / 4294967296<18446744073709551616∧(x1*y0+x0*y0 / 4294967296) % 4294967296+x0*y1<18446744073709551616 ∧ x1*y1+(x1*y0+x0*y0 / 4294967296) / 4294967296+((x1*y0+x0*y0 / 4294967296) % 4294967296+x0*y1) / 4294967296=(x1*4294967296+x0)*(y1*4294967296+y0) / 18446744073709551616:=by have b00:x0*y0≤4294967295*4294967295:=jg aa aa;have b10:x1*y0≤4294967295*4294967295:=jg aa aa;have b01:x0*y1≤4294967295*4294967295:=jg aa aa;have e:(x1*4294967296+x0)*(y1*4294967296+y0)=x1*y1*18446744073709551616+x1*y0*4294967296+x0*y1*4294967296+x0*y0:=gh;rw[e];generalize x0*y0=a at *;generalize x1*y0=b at *;generalize x0*y1=c at *;generalize x1*y1=d at *;refine⟨aa,aa,aa⟩
def HQ (y1 y0 u d q r:Nat):Prop:=q*y1+r=u∧(u*4294967296+d) / (y1*4294967296+y0)≤q∧q≤4294967297
variable {d u:Nat}
def DI (h1:2147483648≤y1) (h0:y0<4294967296) (hu:u<y1*4294967296+y0) (hd:d<4294967296):HQ y1 y0 u d (u / y1) (u % y1):=by
 have e:=mN u y1;have hm:=ec u (show 0<y1 by omega);have e1:u / y1*y1=y1*(u / y1):=gE _ _;refine⟨aa,?_,?_⟩;·generalize hq:u / y1=q at *;rw[Nat.div_le_iff_le_mul_add_pred aa];have e2:(y1*4294967296+y0)*q=y1*q*4294967296+y0*q:=gh;rw[e2];have:0≤y0*q:=dQ _;omega
 ·rw[Nat.div_le_iff_le_mul_add_pred aa]
  omega
variable {q r:Nat}
def FI (h1:2147483648≤y1) (h0:y0<4294967296) (hu:u<y1*4294967296+y0) (hd:d<4294967296) (J:HQ y1 y0 u d q r) (hc:4294967296≤q∨4294967296*r+d<q*y0):0<q∧HQ y1 y0 u d (q - 1) (r+y1):=by
 obtain⟨j1,j2,j3⟩:=J
 have hlt:(u*4294967296+d) / (y1*4294967296+y0)<q:=by
  rw[oT aa];have e2:q*(y1*4294967296+y0)=q*y1*4294967296+q*y0:=gh;rw[e2];rcases hc with hc|hc;·have e3:4294967296*y0≤q*y0:=dU _ hc;have e4:4294967296*y1≤q*y1:=dU _ hc;omega
  ·omega
 have hq:0<q:=il (dQ _) hlt;refine⟨hq,?_,Nat.le_sub_one_of_lt hlt,aa⟩;have e5:(q - 1)*y1+y1=q*y1:=by obtain⟨p,rfl⟩ : ∃p,q=p+1:=⟨q - 1,aa⟩;rw[Cc,dA,Nat.one_mul]
 omega
theorem Am (h1:2147483648≤y1) (h0:y0<4294967296) (J:HQ y1 y0 u d q r) (hc:q*y0≤4294967296*r+d):(u*4294967296+d) / (y1*4294967296+y0)=q:=by obtain⟨j1,j2,j3⟩:=J;refine Nat.le_antisymm j2 ?_;rw[Gp aa];have e2:q*(y1*4294967296+y0)=q*y1*4294967296+q*y0:=gh;rw[e2];omega
theorem tI (h1:2147483648≤y1) (h0:y0<4294967296) (J:HQ y1 y0 u d q r) (hr:4294967296≤r) (hq:q≤4294967296):(u*4294967296+d) / (y1*4294967296+y0)=q:=by refine Am h1 h0 J ?_;have:q*y0≤4294967296*4294967295:=jg hq aa;omega
end
end Go.Id
namespace Go.Id.B
section
variable {x y n:Nat}
theorem Lm (hx:2 ^ n∣x) (hy:y<2 ^ n):x ||| y=x+y:=by obtain⟨c,rfl⟩:=hx;exact(Nat.two_pow_add_eq_or_of_lt hy c).symm
def Uh (hx:x<2 ^ n) (hy:2 ^ n∣y):x ||| y=x+y:=by rw[Nat.or_comm,Lm hy hx,xf]
variable {ds:List Nat}
def yh (h:dh ds) : ∀{n k:Nat},n≤k→bm ds k % 18446744073709551616 ^ n=bm ds n
 | n,0,hk=>by obtain rfl:n=0:=aa;simp[bm]
 | n,k+1,hk=>by
  by_cases hn:n=k+1;·subst hn;exact dR (kX h _)
  ·have ih:=yh h (show n≤k by omega)
   rw[bm];have hd:18446744073709551616 ^ n∣ds.getD k 0*18446744073709551616 ^ k:=qV (wZ _ aa) (zx _ _);obtain⟨c,hc⟩:=hd;rw[hc,Cd,ih]
theorem u7 (h:dh ds) (j:Nat):ds.getD j 0=aM ds / 18446744073709551616 ^ j % 18446744073709551616:=by
 have hp:=uI j;by_cases hj:j<ds.length
 ·have e1:bm ds (j+1)=aM ds % 18446744073709551616 ^ (j+1):=(yh h (show j+1≤ds.length by omega)).symm;have e2:bm ds (j+1) / 18446744073709551616 ^ j=ds.getD j 0:=by rw[bm,Nat.add_mul_div_right _ _ hp,mM (kX h j),fy]
  rw[←e2,e1,eH,B6]
 ·rw[fO aa];have h1:=mS h;have h2:18446744073709551616 ^ ds.length≤18446744073709551616 ^ j:=fA aa aa;rw[mM aa]
theorem uJ (j:Nat):18446744073709551616 ^ j=2 ^ (64*j):=by rw[wY]
variable {k:Nat}
def U9 (h:dh ds) (hk:2 ^ (k+1)∣aM ds):ds.getD (k / 64) 0 ||| 2 ^ (k % 64)=ds.getD (k / 64) 0+2 ^ (k % 64)∧ds.getD (k / 64) 0+2 ^ (k % 64)<18446744073709551616:=by
 have hs:k % 64<64:=ec _ aa;have hd:2 ^ (k % 64+1)∣ds.getD (k / 64) 0:=by
  rw[u7 h,uJ];obtain⟨c,hc⟩:=hk;have e:2 ^ (k+1)=2 ^ (64*(k / 64))*2 ^ (k % 64+1):=by rw[←dT];congr 1;omega
  rw[hc,e,w9,Nat.mul_div_cancel_left _ (gM aa)];have e2:18446744073709551616=2 ^ (k % 64+1)*2 ^ (63 - k % 64):=by rw[←dT,show k % 64+1+(63 - k % 64)=64 by omega]
  rw[show(18446744073709551616:Nat)=2 ^ (k % 64+1)*2 ^ (63 - k % 64) from e2];exact(Nat.dvd_mod_iff (xd _ _)).2 (xd _ _)
 have hlt:2 ^ (k % 64)<2 ^ (k % 64+1):=sG aa aa;have hw:=cK h (k / 64);refine⟨Lm hd hlt,?_⟩;obtain⟨c,hc⟩:=hd;rw[hc] at hw ⊢;have e2:18446744073709551616=2 ^ (k % 64+1)*2 ^ (63 - k % 64):=by rw[←dT,show k % 64+1+(63 - k % 64)=64 by omega]
 rw[e2] at hw ⊢;have hc2:c<2 ^ (63 - k % 64):=Nat.lt_of_mul_lt_mul_left hw;have:2 ^ (k % 64+1)*(c+1)≤2 ^ (k % 64+1)*2 ^ (63 - k % 64):=Nat.mul_le_mul_left _ hc2;rw[sH,fI] at this;omega
variable {s:Nat}
def Fa (hx:x<18446744073709551616) (hs:s<64):x*2 ^ s % 18446744073709551616+x / 2 ^ (64 - s)*18446744073709551616=x*2 ^ s:=by
 have e:18446744073709551616=2 ^ (64 - s)*2 ^ s:=by rw[←dT,show 64 - s+s=64 by omega]
 have h:=mN (x*2 ^ s) 18446744073709551616;have e2:x*2 ^ s / 18446744073709551616=x / 2 ^ (64 - s):=by rw[e,Nat.mul_div_mul_right _ _ (gM aa)]
 rw[e2] at h;omega
def TU (x:Nat) (hs:s<64):2 ^ s∣x*2 ^ s % 18446744073709551616:=by
 have e:18446744073709551616=2 ^ s*2 ^ (64 - s):=by rw[←dT,show s+(64 - s)=64 by omega]
 rw[e];exact(Nat.dvd_mod_iff (xd _ _)).2 (zx _ _)
def EZ (hx:x<18446744073709551616) (hs:s≤64):x / 2 ^ (64 - s)<2 ^ s:=by rw[oT (gM aa),←dT,show s+(64 - s)=64 by omega];exact hx
def U8 (h:dh ds) (hl:ds.length=n+1) (h1:2 ^ k≤ds.getD n 0) (h2:ds.getD n 0<2 ^ (k+1)):2 ^ (64*n+k)≤aM ds∧aM ds<2 ^ (64*n+k+1):=by
 rw[aM,hl,bm,uJ];have hb:=kX h n;rw[uJ] at hb;have e1:2 ^ (64*n+k)=2 ^ k*2 ^ (64*n):=by rw[dT,gE]
 have e2:2 ^ (64*n+k+1)=2 ^ (k+1)*2 ^ (64*n):=by rw[ma,dT,gE]
 rw[e1,e2];have h3:2 ^ k*2 ^ (64*n)≤ds.getD n 0*2 ^ (64*n):=dU _ h1;have h4:(ds.getD n 0+1)*2 ^ (64*n)≤2 ^ (k+1)*2 ^ (64*n):=dU _ h2;rw[dA,Nat.one_mul] at h4;omega
def Ka (a b k V r:Nat):Prop:=a=b*V+r∧2 ^ k∣V∧r<b*2 ^ k
variable {a b:Nat}
def Mf {la lb:Nat} (ha:a<2 ^ la) (hb:2 ^ lb≤b) (hl:lb≤la):Ka a b (la - lb) 0 a:=by refine⟨aa,Nat.dvd_zero _,?_⟩;have h1:2 ^ lb*2 ^ (la - lb)≤b*2 ^ (la - lb):=dU _ hb;rw[←dT,show lb+(la - lb)=la by omega] at h1;omega
variable {V r:Nat}
def St (h:Ka a b (k+1) V r) (hc:b*2 ^ k≤r):Ka a b k (V+2 ^ k) (r - b*2 ^ k):=by
 obtain⟨h1,h2,h3⟩:=h
 have e:b*2 ^ (k+1)=b*2 ^ k+b*2 ^ k:=by rw[eH];grind
 refine⟨?_,?_,aa⟩;·rw[sH];omega
 ·exact(Nat.dvd_add_right (qV (wZ _ aa) h2)).2 (Nat.dvd_refl _)
def Pr (h:Ka a b (k+1) V r) (hc:r<b*2 ^ k):Ka a b k V r :=
 ⟨h.1,qV (wZ _ aa) h.2.1,hc⟩
def Su (h:Ka a b 0 V r):V=a / b∧r=a % b:=by obtain⟨h1,_,h3⟩:=h;rw[sF,fI] at h3;have e1:=Nat.mul_add_mod b V r;have e2:=Nat.mul_add_div (show 0<b by omega) V r;rw[←h1,dR h3] at e1;rw[←h1,mM h3,gN] at e2;exact⟨e2.symm,e1.symm⟩
end
end Go.Id.B
namespace Go.Id
open Go
open Go renaming Operand→QY,Program→QX,TypeId→QZ,Value→QQ
open Nat renaming reduceAdd→zA,reduceEqDiff→zE,reduceLeDiff→zL
open Nat (reduceMul)
set_option maxHeartbeats 16000000
open Go.Proofs.Tryz (prog)
section
def ZaI:cu prog 100=some false:=ae
def ZaH:cu prog 105=some true:=ae
def N9:cu prog 106=some false:=ae
def ZaG:cu prog 133=some false:=ae
def ZaF:cu prog 135=some true:=ae
def J4:cu prog 137=some true:=ae
def ZaE:cu prog 175=some true:=ae
theorem J3:cu prog 177=some true:=ae
def ZaD:cu prog 187=some false:=ae
def ag22:cu prog 22=some false:=ae
def ag24:cu prog 24=some true:=ae
def ZaC:cu prog 244=some true:=ae
def ZaB:cu prog 246=some true:=ae
def D3:cu prog 25=some false:=ae
def ZaA:cu prog 264=some false:=ae
def ag27:cu prog 27=some true:=ae
def uf:cu prog 28=some false:=ae
def Zaz:cu prog 298=some false:=ae
theorem ag3:cu prog 3=some false:=ae
def PX:cu prog 30=some true:=ae
def ag32:cu prog 32=some true:=ae
def ag34:cu prog 34=some true:=ae
def ag36:cu prog 36=some true:=ae
def ag38:cu prog 38=some false:=ae
def ag4:cu prog 4=some false:=ae
def ag42:cu prog 42=some false:=ae
def Tl:cu prog 47=some false:=ae
theorem ag5:cu prog 5=some false:=ae
theorem Tk:cu prog 61=some false:=ae
def Zav:oR prog 100=some (1,8):=ae
def Zau:oR prog 118=some (1,24):=ae
def Zat:oR prog 133=some (1,8):=ae
def Zas:oR prog 139=some (4,64):=ae
def Wi:oR prog 220=some (4,64):=ae
def wg:oR prog 25=some (1,8):=ae
def PV:oR prog 38=some (1,24):=ae
def HL:oR prog 42=some (8,64):=ae
def Ms:oR prog 61=some (16,128):=ae
def Gd:N8 prog 244=some (8,1):=ae
def pN:N8 prog 30=some (8,1):=ae
def Zap:dZ prog 105=true:=ae
def Zao:dZ prog 108=true:=ae
def Zan:dZ prog 135=true:=ae
def Zam:dZ prog 137=true:=ae
def Zal:dZ prog 175=true:=ae
def Zak:dZ prog 177=true:=ae
def Zaj:dZ prog 192=true:=ae
def Zai:dZ prog 194=true:=ae
def Zah:dZ prog 244=true:=ae
def Zag:dZ prog 246=true:=ae
def as30:dZ prog 30=true:=ae
def as32:dZ prog 32=true:=ae
def as36:dZ prog 36=true:=ae
def as44:dZ prog 44=true:=ae
def as46:dZ prog 46=true:=ae
theorem Z2:prog.eqGuardType prog.depth 244=false:=ae
theorem Z0:prog.eqGuardType prog.depth 30=false:=ae
def NI:iK prog 100=some 1:=ae
def ZZ:iK prog 118=some 1:=ae
def jY:iK prog 133=some 1:=ae
def JA:iK prog 139=some 4:=ae
def Sk:iK prog 22=some 1:=ae
def NH:iK prog 220=some 4:=ae
def gl:iK prog 25=some 1:=ae
theorem UX:iK prog 38=some 1:=ae
def qE:iK prog 42=some 8:=ae
def tH:iK prog 61=some 16:=ae
def UT:fieldAt prog 105 0=some 0:=ae
def US:fieldAt prog 105 1=some 1:=ae
def NF:fieldAt prog 108 0=some 0:=ae
def vT:fieldAt prog 108 1=some 2:=ae
def l6:fieldAt prog 135 0=some 0:=ae
def ni:fieldAt prog 135 1=some 1:=ae
def oB:fieldAt prog 137 0=some 0:=ae
def l5:fieldAt prog 137 1=some 2:=ae
def gV:fieldAt prog 175 0=some 0:=ae
def iZ:fieldAt prog 175 1=some 1:=ae
def nf:fieldAt prog 177 0=some 0:=ae
def oA:fieldAt prog 177 1=some 2:=ae
def Hy:fieldAt prog 192 0=some 0:=ae
def BQ:fieldAt prog 194 0=some 0:=ae
def nc:fieldAt prog 246 0=some 0:=ae
def jt:fieldAt prog 246 1=some 1:=ae
def Xz:fieldAt prog 24 0=some 0:=ae
def Hx:fieldAt prog 24 1=some 1:=ae
def Sg:fieldAt prog 27 0=some 0:=ae
def Sf:fieldAt prog 27 1=some 2:=ae
def Xy:fieldAt prog 27 2=some 3:=ae
def Se:fieldAt prog 27 3=some 4:=ae
def Xx:fieldAt prog 27 4=some 5:=ae
def Xw:fieldAt prog 27 5=some 6:=ae
def qz:fieldAt prog 32 0=some 0:=ae
def qv:fieldAt prog 32 1=some 8:=ae
def Xv:fieldAt prog 34 0=some 0:=ae
def Sd:fieldAt prog 34 1=some 1:=ae
def Sc:fieldAt prog 34 2=some 2:=ae
def Sa:fieldAt prog 36 0=some 0:=ae
def R9:fieldAt prog 44 0=some 0:=ae
def R8:fieldAt prog 44 1=some 1:=ae
def R7:fieldAt prog 44 2=some 2:=ae
def R5:fieldAt prog 44 3=some 3:=ae
def Hv:se prog 135 1=some (false,1,1):=ae
def UR:se prog 137 0=some (true,0,2):=ae
def Hu:se prog 246 0=some (false,0,1):=ae
def Y4:(QX.underlying prog 28).isSome=true:=ae
def is3:(QX.underlying prog 3).isSome=true:=ae
def is5:(QX.underlying prog 5).isSome=true:=ae
def YL:rQ prog 100=some (1,8,[.pointer none]):=ae
def YK:rQ prog 118=some (1,24,[.slice none 0 0]):=ae
def VK:rQ prog 133=some (1,8,[.int .u64 (0)]):=ae
def VJ:rQ prog 139=some (4,64,[.bool false,.slice none 0 0,.bool false,.slice none 0 0]):=ae
def YJ:rQ prog 220=some (4,64,[.bool false,.slice none 0 0,.bool false,.slice none 0 0]):=ae
def YI:rQ prog 25=some (1,8,[.int .i64 (0)]):=ae
def mk38:rQ prog 38=some (1,24,[.slice none 0 0]):=ae
def mk42:rQ prog 42=some (8,64,[.int .u64 (0),.int .u64 (0),.int .u64 (0),.int .u64 (0),.int .u64 (0),.int .u64 (0),.int .u64 (0),.int .u64 (0)]):=ae
def mk61:rQ prog 61=some (16,128,[.int .u64 (0),.int .u64 (0),.int .u64 (0),.int .u64 (0),.int .u64 (0),.int .u64 (0),.int .u64 (0),.int .u64 (0),.int .u64 (0),.int .u64 (0),.int .u64 (0),.int .u64 (0),.int .u64 (0),.int .u64 (0),.int .u64 (0),.int .u64 (0)]):=ae
def M5:placeOf prog 105 0=some (0,1):=ae
def M3:placeOf prog 105 1=some (1,1):=ae
def Ue:placeOf prog 108 0=some (0,2):=ae
def yH:placeOf prog 135 0=some (0,1):=ae
def tv:placeOf prog 135 1=some (1,1):=ae
def BL:placeOf prog 137 0=some (0,2):=ae
def BK:placeOf prog 137 1=some (2,2):=ae
def MZ:placeOf prog 175 0=some (0,1):=ae
def BJ:placeOf prog 175 1=some (1,1):=ae
def BI:placeOf prog 177 0=some (0,2):=ae
def BH:placeOf prog 177 1=some (2,2):=ae
def Ud:placeOf prog 192 0=some (0,1):=ae
def Uc:placeOf prog 194 0=some (0,1):=ae
def Ub:placeOf prog 244 7=some (7,1):=ae
def MY:placeOf prog 246 0=some (0,1):=ae
def Ua:placeOf prog 246 1=some (1,8):=ae
def WO:placeOf prog 30 0=some (0,1):=ae
def Q7:placeOf prog 32 0=some (0,8):=ae
def Q6:placeOf prog 32 1=some (8,8):=ae
def WN:placeOf prog 36 0=some (0,1):=ae
def Q5:placeOf prog 44 0=some (0,1):=ae
def Q4:placeOf prog 44 1=some (1,1):=ae
def Q3:placeOf prog 44 2=some (2,1):=ae
def Q2:placeOf prog 44 3=some (3,1):=ae
def WM:placeOf prog 46 0=some (0,4):=ae
def WL:placeOf prog 46 1=some (4,4):=ae
def WK:placeOf prog 46 2=some (8,4):=ae
def WJ:placeOf prog 46 3=some (12,4):=ae
def WI:placeOf prog 46 4=some (16,4):=ae
def Iu:fm prog (some 100)=true:=ae
def Yw:fm prog (some 118)=true:=ae
def jm:fm prog (some 133)=true:=ae
def Vx:fm prog (some 139)=true:=ae
def Ei:fm prog (some 22)=true:=ae
def Vw:fm prog (some 220)=true:=ae
def dY:fm prog (some 25)=true:=ae
def WG:fm prog (some 38)=true:=ae
def rJ:fm prog (some 42)=true:=ae
def xz:fm prog (some 61)=true:=ae
def Yt:bK prog 100=some 1:=ae
def Vu:bK prog 105=some 2:=ae
def Vt:bK prog 135=some 2:=ae
def AF:bK prog 137=some 4:=ae
def Vs:bK prog 175=some 2:=ae
theorem CB:bK prog 177=some 4:=ae
def sz24:bK prog 24=some 2:=ae
def Vr:bK prog 244=some 8:=ae
def Vq:bK prog 246=some 9:=ae
def sz25:bK prog 25=some 1:=ae
def sz27:bK prog 27=some 7:=ae
theorem Ee:bK prog 28=some 1:=ae
def sz3:bK prog 3=some 1:=ae
def KD:bK prog 30=some 8:=ae
def Ow:bK prog 32=some 16:=ae
def sz34:bK prog 34=some 18:=ae
def Ys:bK prog 36=some 1:=ae
def sz44:bK prog 44=some 4:=ae
def sz47:bK prog 47=some 1:=ae
def sz5:bK prog 5=some 1:=ae
def sz61:bK prog 61=some 1:=ae
def TL:QX.underlying prog 133=some (.slice 28):=ae
def u22:QX.underlying prog 22=some (.slice 5):=ae
theorem Ww:QX.underlying prog 244=some (.array 8 28):=ae
def u25:QX.underlying prog 25=some (.slice 3):=ae
theorem u28:QX.underlying prog 28=some (.int .u64):=ae
def u3:QX.underlying prog 3=some (.int .i64):=ae
theorem u30:QX.underlying prog 30=some (.array 8 28):=ae
def u307:QX.underlying prog 307=some (.map 5 306):=ae
def u36:QX.underlying prog 36=some (.struct { toList:=[{ name := "State",type:=28,offset:=0,embedded:=false,tag := "",pkgPath := "",byteOffset:=0 }] }):=ae
def u4:QX.underlying prog 4=some .bool:=ae
def u5:QX.underlying prog 5=some (.int .u8):=ae
def u61:QX.underlying prog 61=some (.slice 32):=ae
def u64:QX.underlying prog 64=some (.int .u64):=ae
def u9:QX.underlying prog 9=some .string:=ae
def Vl:bC prog 100=some [.slice none 0 0]:=ae
def PZ:bC prog 105=some [.int .i64 (0),.slice none 0 0]:=ae
def Yl:bC prog 108=some [.int .i64 (0),.slice none 0 0,.int .i64 (0)]:=ae
def kH:bC prog 135=some [.bool false,.slice none 0 0]:=ae
def oF:bC prog 137=some [.bool false,.slice none 0 0,.bool false,.slice none 0 0]:=ae
def ff:bC prog 175=some [.bool false,.slice none 0 0]:=ae
def oE:bC prog 177=some [.bool false,.slice none 0 0,.bool false,.slice none 0 0]:=ae
def Yk:bC prog 192=some [.int .u64 (0)]:=ae
def Yj:bC prog 194=some [.int .u64 (0)]:=ae
def ED:bC prog 244=some [.int .u64 (0),.int .u64 (0),.int .u64 (0),.int .u64 (0),.int .u64 (0),.int .u64 (0),.int .u64 (0),.int .u64 (0)]:=ae
def wk:bC prog 246=some [.bool false,.int .u64 (0),.int .u64 (0),.int .u64 (0),.int .u64 (0),.int .u64 (0),.int .u64 (0),.int .u64 (0),.int .u64 (0)]:=ae
def zc25:bC prog 25=some [.slice none 0 0]:=ae
def zc28:bC prog 28=some [.int .u64 (0)]:=ae
def zc3:bC prog 3=some [.int .i64 (0)]:=ae
def fa:bC prog 30=some [.int .u64 (0),.int .u64 (0),.int .u64 (0),.int .u64 (0),.int .u64 (0),.int .u64 (0),.int .u64 (0),.int .u64 (0)]:=ae
def pj:bC prog 32=some [.int .u64 (0),.int .u64 (0),.int .u64 (0),.int .u64 (0),.int .u64 (0),.int .u64 (0),.int .u64 (0),.int .u64 (0),.int .u64 (0),.int .u64 (0),.int .u64 (0),.int .u64 (0),.int .u64 (0),.int .u64 (0),.int .u64 (0),.int .u64 (0)]:=ae
def lz:bC prog 36=some [.int .u64 (0)]:=ae
def Yi:bC prog 44=some [.slice none 0 0,.slice none 0 0,.slice none 0 0,.slice none 0 0]:=ae
def zc46:bC prog 46=some [.slice none 0 0,.slice none 0 0,.slice none 0 0,.slice none 0 0,.slice none 0 0,.slice none 0 0,.slice none 0 0,.slice none 0 0,.slice none 0 0,.slice none 0 0,.slice none 0 0,.slice none 0 0,.slice none 0 0,.slice none 0 0,.slice none 0 0,.slice none 0 0,.slice none 0 0,.slice none 0 0,.slice none 0 0,.slice none 0 0]:=ae
def zI:bC prog 47=some [.int .i64 (0)]:=ae
def PT (h:IH) (x y:QQ):builtin prog h .append #[100,100] [x,y]=append prog h 100 x y:=builtin_append prog h 100 100 x y Iu
def PS (h:IH) (x y:QQ):builtin prog h .append #[118,118] [x,y]=append prog h 118 x y:=builtin_append prog h 118 118 x y Yw
def PR (h:IH) (x y:QQ):builtin prog h .append #[133,133] [x,y]=append prog h 133 x y:=builtin_append prog h 133 133 x y jm
def PQ (h:IH) (x y:QQ):builtin prog h .append #[139,139] [x,y]=append prog h 139 x y:=builtin_append prog h 139 139 x y Vx
def Gc (h:IH) (x y:QQ):builtin prog h .append #[220,220] [x,y]=append prog h 220 x y:=builtin_append prog h 220 220 x y Vw
def ju (h:IH) (x y:QQ):builtin prog h .append #[25,25] [x,y]=append prog h 25 x y:=builtin_append prog h 25 25 x y dY
def vW (h:IH) (x y:QQ):builtin prog h .append #[38,38] [x,y]=append prog h 38 x y:=builtin_append prog h 38 38 x y WG
def pM (h:IH) (x y:QQ):builtin prog h .append #[42,42] [x,y]=append prog h 42 x y:=builtin_append prog h 42 42 x y rJ
def tN (h:IH) (x y:QQ):builtin prog h .append #[61,61] [x,y]=append prog h 61 x y:=builtin_append prog h 61 61 x y xz
def be4 (ox oy:Operand) (a b:Bool):binop prog .eql 4 ox oy (.bool a) (.bool b)=some (.bool (a == b)):=DX u4 ox oy a b
def bn4 (ox oy:Operand) (a b:Bool):binop prog .neq 4 ox oy (.bool a) (.bool b)=some (.bool (!(a == b))):=DW u4 ox oy a b
def Zab (h:IH) (len:Nat) (ps:List (Nat×QQ)) (hl:len*1≤16777216):buildSlice prog h 100 len ps=(eK (fun i=>some (i*1,1)) (de len [.pointer none]) ps).map fun cells=>(.slice (some ⟨2*h.n,0,none⟩) len (2*len+1),h.new (.cells cells 1 none)):=gD YL h len ps hl
def Zaa (h:IH) (len:Nat) (ps:List (Nat×QQ)) (hl:len*1≤16777216):buildSlice prog h 118 len ps=(eK (fun i=>some (i*1,1)) (de len [.slice none 0 0]) ps).map fun cells=>(.slice (some ⟨2*h.n,0,none⟩) len (2*len+1),h.new (.cells cells 1 none)):=gD YK h len ps hl
def SZ (h:IH) (len:Nat) (ps:List (Nat×QQ)) (hl:len*1≤16777216):buildSlice prog h 133 len ps=(eK (fun i=>some (i*1,1)) (de len [.int .u64 (0)]) ps).map fun cells=>(.slice (some ⟨2*h.n,0,none⟩) len (2*len+1),h.new (.cells cells 1 none)):=gD VK h len ps hl
def Z9 (h:IH) (len:Nat) (ps:List (Nat×QQ)) (hl:len*4≤16777216):buildSlice prog h 139 len ps=(eK (fun i=>some (i*4,4)) (de len [.bool false,.slice none 0 0,.bool false,.slice none 0 0]) ps).map fun cells=>(.slice (some ⟨2*h.n,0,none⟩) len (2*len+1),h.new (.cells cells 4 none)):=gD VJ h len ps hl
def Wc (h:IH) (len:Nat) (ps:List (Nat×QQ)) (hl:len*4≤16777216):buildSlice prog h 220 len ps=(eK (fun i=>some (i*4,4)) (de len [.bool false,.slice none 0 0,.bool false,.slice none 0 0]) ps).map fun cells=>(.slice (some ⟨2*h.n,0,none⟩) len (2*len+1),h.new (.cells cells 4 none)):=gD YJ h len ps hl
def kS (h:IH) (len:Nat) (ps:List (Nat×QQ)) (hl:len*1≤16777216):buildSlice prog h 25 len ps=(eK (fun i=>some (i*1,1)) (de len [.int .i64 (0)]) ps).map fun cells=>(.slice (some ⟨2*h.n,0,none⟩) len (2*len+1),h.new (.cells cells 1 none)):=gD YI h len ps hl
def JY (h:IH) (len:Nat) (ps:List (Nat×QQ)) (hl:len*1≤16777216):buildSlice prog h 38 len ps=(eK (fun i=>some (i*1,1)) (de len [.slice none 0 0]) ps).map fun cells=>(.slice (some ⟨2*h.n,0,none⟩) len (2*len+1),h.new (.cells cells 1 none)):=gD mk38 h len ps hl
def HG (h:IH) (len:Nat) (ps:List (Nat×QQ)) (hl:len*8≤16777216):buildSlice prog h 42 len ps=(eK (fun i=>some (i*8,8)) (de len [.int .u64 (0),.int .u64 (0),.int .u64 (0),.int .u64 (0),.int .u64 (0),.int .u64 (0),.int .u64 (0),.int .u64 (0)]) ps).map fun cells=>(.slice (some ⟨2*h.n,0,none⟩) len (2*len+1),h.new (.cells cells 8 none)):=gD mk42 h len ps hl
def Mm (h:IH) (len:Nat) (ps:List (Nat×QQ)) (hl:len*16≤16777216):buildSlice prog h 61 len ps=(eK (fun i=>some (i*16,16)) (de len [.int .u64 (0),.int .u64 (0),.int .u64 (0),.int .u64 (0),.int .u64 (0),.int .u64 (0),.int .u64 (0),.int .u64 (0),.int .u64 (0),.int .u64 (0),.int .u64 (0),.int .u64 (0),.int .u64 (0),.int .u64 (0),.int .u64 (0),.int .u64 (0)]) ps).map fun cells=>(.slice (some ⟨2*h.n,0,none⟩) len (2*len+1),h.new (.cells cells 16 none)):=gD mk61 h len ps hl
def Wb (ps:List (Nat×QQ)):iP prog 105 ps=(eK (placeOf prog 105) [.int .i64 (0),.slice none 0 0] ps).map fun cs=>.agg cs.toArray:=gu PZ Zap ps
def Z8 (ps:List (Nat×QQ)):iP prog 108 ps=(eK (placeOf prog 108) [.int .i64 (0),.slice none 0 0,.int .i64 (0)] ps).map fun cs=>.agg cs.toArray:=gu Yl Zao ps
def DT (ps:List (Nat×QQ)):iP prog 135 ps=(eK (placeOf prog 135) [.bool false,.slice none 0 0] ps).map fun cs=>.agg cs.toArray:=gu kH Zan ps
def N1 (ps:List (Nat×QQ)):iP prog 137 ps=(eK (placeOf prog 137) [.bool false,.slice none 0 0,.bool false,.slice none 0 0] ps).map fun cs=>.agg cs.toArray:=gu oF Zam ps
def nA (ps:List (Nat×QQ)):iP prog 175 ps=(eK (placeOf prog 175) [.bool false,.slice none 0 0] ps).map fun cs=>.agg cs.toArray:=gu ff Zal ps
def NZ (ps:List (Nat×QQ)):iP prog 177 ps=(eK (placeOf prog 177) [.bool false,.slice none 0 0,.bool false,.slice none 0 0] ps).map fun cs=>.agg cs.toArray:=gu oE Zak ps
def Z7 (ps:List (Nat×QQ)):iP prog 192 ps=(eK (placeOf prog 192) [.int .u64 (0)] ps).map fun cs=>.agg cs.toArray:=gu Yk Zaj ps
def Z6 (ps:List (Nat×QQ)):iP prog 194 ps=(eK (placeOf prog 194) [.int .u64 (0)] ps).map fun cs=>.agg cs.toArray:=gu Yj Zai ps
def JX (ps:List (Nat×QQ)):iP prog 244 ps=(eK (placeOf prog 244) [.int .u64 (0),.int .u64 (0),.int .u64 (0),.int .u64 (0),.int .u64 (0),.int .u64 (0),.int .u64 (0),.int .u64 (0)] ps).map fun cs=>.agg cs.toArray:=gu ED Zah ps
def Wa (ps:List (Nat×QQ)):iP prog 246 ps=(eK (placeOf prog 246) [.bool false,.int .u64 (0),.int .u64 (0),.int .u64 (0),.int .u64 (0),.int .u64 (0),.int .u64 (0),.int .u64 (0),.int .u64 (0)] ps).map fun cs=>.agg cs.toArray:=gu wk Zag ps
def kQ (ps:List (Nat×QQ)):iP prog 30 ps=(eK (placeOf prog 30) [.int .u64 (0),.int .u64 (0),.int .u64 (0),.int .u64 (0),.int .u64 (0),.int .u64 (0),.int .u64 (0),.int .u64 (0)] ps).map fun cs=>.agg cs.toArray:=gu fa as30 ps
def ve (ps:List (Nat×QQ)):iP prog 32 ps=(eK (placeOf prog 32) [.int .u64 (0),.int .u64 (0),.int .u64 (0),.int .u64 (0),.int .u64 (0),.int .u64 (0),.int .u64 (0),.int .u64 (0),.int .u64 (0),.int .u64 (0),.int .u64 (0),.int .u64 (0),.int .u64 (0),.int .u64 (0),.int .u64 (0),.int .u64 (0)] ps).map fun cs=>.agg cs.toArray:=gu pj as32 ps
def fw (ps:List (Nat×QQ)):iP prog 36 ps=(eK (placeOf prog 36) [.int .u64 (0)] ps).map fun cs=>.agg cs.toArray:=gu lz as36 ps
def Z5 (ps:List (Nat×QQ)):iP prog 44 ps=(eK (placeOf prog 44) [.slice none 0 0,.slice none 0 0,.slice none 0 0,.slice none 0 0] ps).map fun cs=>.agg cs.toArray:=gu Yi as44 ps
def bv46 (ps:List (Nat×QQ)):iP prog 46 ps=(eK (placeOf prog 46) [.slice none 0 0,.slice none 0 0,.slice none 0 0,.slice none 0 0,.slice none 0 0,.slice none 0 0,.slice none 0 0,.slice none 0 0,.slice none 0 0,.slice none 0 0,.slice none 0 0,.slice none 0 0,.slice none 0 0,.slice none 0 0,.slice none 0 0,.slice none 0 0,.slice none 0 0,.slice none 0 0,.slice none 0 0,.slice none 0 0] ps).map fun cs=>.agg cs.toArray:=gu zc46 as46 ps
def Ao (k:IntKind) (n:Int):zg prog 28 3 (.int k n)=some (.int .i64 (IntKind.i64.wrap n)):=sj Y4 u3
def XF (k:IntKind) (n:Int):zg prog 28 5 (.int k n)=some (.int .u8 (IntKind.u8.wrap n)):=sj Y4 u5
def An (k:IntKind) (n:Int):zg prog 3 28 (.int k n)=some (.int .u64 (IntKind.u64.wrap n)):=sj is3 u28
def XE (k:IntKind) (n:Int):zg prog 3 64 (.int k n)=some (.int .u64 (IntKind.u64.wrap n)):=sj is3 u64
def zf (k:IntKind) (n:Int):zg prog 5 3 (.int k n)=some (.int .i64 (IntKind.i64.wrap n)):=sj is5 u3
def Fv (h:IH) (b o:Nat):load prog h 100 (ptr b o)=ld h b o:=fl ZaI h b o
def YX (h:IH) (b o:Nat):load prog h 105 (ptr b o)=(h.rd b o 2).map fun cs=>.agg cs.toArray:=iG ZaH Vu h b o
def uQ (h:IH) (b o:Nat):load prog h 133 (ptr b o)=ld h b o:=fl ZaG h b o
def cM (h:IH) (b o:Nat):load prog h 135 (ptr b o)=(h.rd b o 2).map fun cs=>.agg cs.toArray:=iG ZaF Vt h b o
def mB (h:IH) (b o:Nat):load prog h 137 (ptr b o)=(h.rd b o 4).map fun cs=>.agg cs.toArray:=iG J4 AF h b o
def cj (h:IH) (b o:Nat):load prog h 175 (ptr b o)=(h.rd b o 2).map fun cs=>.agg cs.toArray:=iG ZaE Vs h b o
def ny (h:IH) (b o:Nat):load prog h 177 (ptr b o)=(h.rd b o 4).map fun cs=>.agg cs.toArray:=iG J3 CB h b o
def YW (h:IH) (b o:Nat):load prog h 187 (ptr b o)=ld h b o:=fl ZaD h b o
def Hg (h:IH) (b o:Nat):load prog h 22 (ptr b o)=ld h b o:=fl ag22 h b o
def YV (h:IH) (b o:Nat):load prog h 24 (ptr b o)=(h.rd b o 2).map fun cs=>.agg cs.toArray:=iG ag24 sz24 h b o
def lg (h:IH) (b o:Nat):load prog h 244 (ptr b o)=(h.rd b o 8).map fun cs=>.agg cs.toArray:=iG ZaC Vr h b o
def tZ (h:IH) (b o:Nat):load prog h 246 (ptr b o)=(h.rd b o 9).map fun cs=>.agg cs.toArray:=iG ZaB Vq h b o
def jF (h:IH) (b o:Nat):load prog h 25 (ptr b o)=ld h b o:=fl D3 h b o
def YU (h:IH) (b o:Nat):load prog h 264 (ptr b o)=ld h b o:=fl ZaA h b o
def ld27 (h:IH) (b o:Nat):load prog h 27 (ptr b o)=(h.rd b o 7).map fun cs=>.agg cs.toArray:=iG ag27 sz27 h b o
def oa (h:IH) (b o:Nat):load prog h 28 (ptr b o)=ld h b o:=fl uf h b o
def YT (h:IH) (b o:Nat):load prog h 298 (ptr b o)=ld h b o:=fl Zaz h b o
def ld3 (h:IH) (b o:Nat):load prog h 3 (ptr b o)=ld h b o:=fl ag3 h b o
def bY (h:IH) (b o:Nat):load prog h 30 (ptr b o)=(h.rd b o 8).map fun cs=>.agg cs.toArray:=iG PX KD h b o
def iY (h:IH) (b o:Nat):load prog h 32 (ptr b o)=(h.rd b o 16).map fun cs=>.agg cs.toArray:=iG ag32 Ow h b o
def YS (h:IH) (b o:Nat):load prog h 34 (ptr b o)=(h.rd b o 18).map fun cs=>.agg cs.toArray:=iG ag34 sz34 h b o
def cP (h:IH) (b o:Nat):load prog h 36 (ptr b o)=(h.rd b o 1).map fun cs=>.agg cs.toArray:=iG ag36 Ys h b o
def Rx (h:IH) (b o:Nat):load prog h 38 (ptr b o)=ld h b o:=fl ag38 h b o
def ld4 (h:IH) (b o:Nat):load prog h 4 (ptr b o)=ld h b o:=fl ag4 h b o
def ld42 (h:IH) (b o:Nat):load prog h 42 (ptr b o)=ld h b o:=fl ag42 h b o
def pG (h:IH) (b o:Nat):load prog h 47 (ptr b o)=ld h b o:=fl Tl h b o
def ld5 (h:IH) (b o:Nat):load prog h 5 (ptr b o)=ld h b o:=fl ag5 h b o
def ln25 (h:IH) (a:Option Addr) (n c:Nat):tE prog h 25 (.slice a n c)=some (.int .i64 n):=xM dY h a n c
variable {c l:Int}
def Ja (h:IH) (k j:IntKind) (h0:0≤l) (h1:l≤c) (h2:c*9≤1099511627776):makeSlice prog h 133 (.int k l) (.int j c)=some (.slice (some ⟨2*h.n,0,none⟩) l.toNat (2*c.toNat+1),h.new (.cells (de c.toNat [.int .u64 (0)]) 1 none)):=tD VK h k j h0 h1 h2
def YH (h:IH) (k j:IntKind) (h0:0≤l) (h1:l≤c) (h2:c*65≤1099511627776):makeSlice prog h 139 (.int k l) (.int j c)=some (.slice (some ⟨2*h.n,0,none⟩) l.toNat (2*c.toNat+1),h.new (.cells (de c.toNat [.bool false,.slice none 0 0,.bool false,.slice none 0 0]) 4 none)):=tD VJ h k j h0 h1 h2
def Ls (h:IH) (k j:IntKind) (h0:0≤l) (h1:l≤c) (h2:c*9≤1099511627776):makeSlice prog h 25 (.int k l) (.int j c)=some (.slice (some ⟨2*h.n,0,none⟩) l.toNat (2*c.toNat+1),h.new (.cells (de c.toNat [.int .i64 (0)]) 1 none)):=tD YI h k j h0 h1 h2
def Yv (h:IH) (k o:Nat) (v:QQ):store prog h 100 (ptr (2*k) o) v=stE 1 h k o v.cells.toList (h.ext.get k):=fR Yt h k o v
def Vv (h:IH) (k o:Nat) (v:QQ):store prog h 105 (ptr (2*k) o) v=stE 2 h k o v.cells.toList (h.ext.get k):=fR Vu h k o v
def gY (h:IH) (k o:Nat) (v:QQ):store prog h 135 (ptr (2*k) o) v=stE 2 h k o v.cells.toList (h.ext.get k):=fR Vt h k o v
def nv (h:IH) (k o:Nat) (v:QQ):store prog h 137 (ptr (2*k) o) v=stE 4 h k o v.cells.toList (h.ext.get k):=fR AF h k o v
def cZ (h:IH) (k o:Nat) (v:QQ):store prog h 175 (ptr (2*k) o) v=stE 2 h k o v.cells.toList (h.ext.get k):=fR Vs h k o v
def mr (h:IH) (k o:Nat) (v:QQ):store prog h 177 (ptr (2*k) o) v=stE 4 h k o v.cells.toList (h.ext.get k):=fR CB h k o v
def AI (h:IH) (k o:Nat) (v:QQ):store prog h 244 (ptr (2*k) o) v=stE 8 h k o v.cells.toList (h.ext.get k):=fR Vr h k o v
def tT (h:IH) (k o:Nat) (v:QQ):store prog h 246 (ptr (2*k) o) v=stE 9 h k o v.cells.toList (h.ext.get k):=fR Vq h k o v
def Eg (h:IH) (k o:Nat) (v:QQ):store prog h 25 (ptr (2*k) o) v=stE 1 h k o v.cells.toList (h.ext.get k):=fR sz25 h k o v
def rp (h:IH) (k o:Nat) (v:QQ):store prog h 28 (ptr (2*k) o) v=stE 1 h k o v.cells.toList (h.ext.get k):=fR Ee h k o v
def st3 (h:IH) (k o:Nat) (v:QQ):store prog h 3 (ptr (2*k) o) v=stE 1 h k o v.cells.toList (h.ext.get k):=fR sz3 h k o v
def dw (h:IH) (k o:Nat) (v:QQ):store prog h 30 (ptr (2*k) o) v=stE 8 h k o v.cells.toList (h.ext.get k):=fR KD h k o v
def jT (h:IH) (k o:Nat) (v:QQ):store prog h 32 (ptr (2*k) o) v=stE 16 h k o v.cells.toList (h.ext.get k):=fR Ow h k o v
def dX (h:IH) (k o:Nat) (v:QQ):store prog h 36 (ptr (2*k) o) v=stE 1 h k o v.cells.toList (h.ext.get k):=fR Ys h k o v
def st44 (h:IH) (k o:Nat) (v:QQ):store prog h 44 (ptr (2*k) o) v=stE 4 h k o v.cells.toList (h.ext.get k):=fR sz44 h k o v
def nS (h:IH) (k o:Nat) (v:QQ):store prog h 47 (ptr (2*k) o) v=stE 1 h k o v.cells.toList (h.ext.get k):=fR sz47 h k o v
end
end Go.Id
namespace Go.Id
section
def bm (ds:List Nat):Nat→Nat
 | 0=>0
 | k+1=>bm ds k+ds.getD k 0*4294967296 ^ k
def aM (ds:List Nat):Nat:=bm ds ds.length
def dh (ds:List Nat):Prop:=∀d∈ds,d<4294967296
def Norm (ds:List Nat):Prop:=ds = []∨ds.getD (ds.length - 1) 0≠0
variable {ds:List Nat}
def cK (h:dh ds) (k:Nat):ds.getD k 0<4294967296:=by
 rw[bH];cases hx:ds[k]? with
 | none=>simp
 | some x=>simpa using h x (bh hx)
theorem fO {k:Nat} (h:ds.length≤k):ds.getD k 0=0:=by rw[bH,cy h];rfl
def uI (k:Nat):0<4294967296 ^ k:=gM aa
theorem kX (h:dh ds) : ∀k,bm ds k<4294967296 ^ k
 | 0=>by simp[bm]
 | k+1=>by have ih:=kX h k;have hd:=cK h k;have h2:ds.getD k 0*4294967296 ^ k≤4294967295*4294967296 ^ k:=dU _ aa;rw[bm,eH];omega
theorem lX : ∀{k:Nat},ds.length≤k→bm ds k=aM ds
 | 0,h=>by have:ds = []:=jK.1 aa;subst this;rfl
 | k+1,h=>by
  by_cases hk:ds.length≤k;·rw[bm,lX hk,fO hk];simp
  ·have:ds.length=k+1:=aa
   rw[aM,this]
theorem jk {es:List Nat} : ∀{k:Nat},(∀j,j<k→ds.getD j 0=es.getD j 0)→bm ds k=bm es k
 | 0,_=>rfl
 | k+1,h=>by rw[bm,bm,jk fun j hj=>h j aa,h k aa]
def mS (h:dh ds):aM ds<4294967296 ^ ds.length:=kX h _
variable {x:Nat}
theorem AY (j:Nat):(ds ++ [x]).getD j 0=if j<ds.length then ds.getD j 0 else if j=ds.length then x else 0:=by
 simp only[bH];by_cases h:j<ds.length;·rw[aq h,ef h]
 ·rw[ah h,gI aa];by_cases h2:j=ds.length
  ·rw[aq h2];subst h2;simp
  ·rw[ah h2,cy aT];rfl
theorem mq (ds:List Nat) (x:Nat):aM (ds ++ [x])=aM ds+x*4294967296 ^ ds.length:=by have h1:(ds ++ [x]).length=ds.length+1:=ab;rw[aM,h1,bm,AY,ah aa,aq rfl];congr 1;refine jk fun j hj=>?_;rw[AY,aq hj]
def dh.append (h:dh ds) (hx:x<4294967296):dh (ds ++ [x]):=by
 intro d hd;rcases fC.1 hd with h1|h1;·exact h d h1
 ·simp at h1;omega
def dh.take (h:dh ds) (n:Nat):dh (ds.take n):=fun d hd=>h d (Cf hd)
theorem rZ (ds:List Nat) (n j:Nat):(ds.take n).getD j 0=if j<n then ds.getD j 0 else 0:=by simp only[bH,gR];split<;>rfl
theorem nP (ds:List Nat) (m:Nat) : ∀k,(∀j,m≤j→j<m+k→ds.getD j 0=0)→bm ds (m+k)=bm ds m
 | 0,_=>rfl
 | k+1,h=>by rw[show m+(k+1)=(m+k)+1 from rfl,bm,nP ds m k (fun j a b=>h j a aa),h (m+k) aa aa];simp
def zK {m:Nat} (hm:m≤ds.length) (h : ∀j,m≤j→ds.getD j 0=0):aM (ds.take m)=aM ds:=by
 have h1:(ds.take m).length=m:=by simp[hm]
 rw[aM,h1];have h2:bm (ds.take m) m=bm ds m:=jk fun j hj=>by rw[rZ,aq hj]
 rw[h2];have:=nP ds m (ds.length - m) (fun j a _=>h j a);rw[show m+(ds.length - m)=ds.length from by omega] at this;exact this.symm
def Norm.ge (h:Norm ds) (hne:ds ≠ []):4294967296 ^ (ds.length - 1)≤aM ds:=by
 rcases h with h|h;·exact absurd h hne
 ·have hl:0<ds.length:=Gt.2 hne
  obtain⟨n,hn⟩ : ∃n,ds.length=n+1:=⟨ds.length - 1,aa⟩;rw[aM,hn,bm];rw[hn] at h;simp only[Cc] at h ⊢;have:1*4294967296 ^ n≤ds.getD n 0*4294967296 ^ n:=dU _ aa;omega
variable {a b:List Nat}
def nY (ha:dh a) (hb:Norm b) (hl:a.length<b.length):aM a<aM b:=by have h1:=mS ha;have h2:=hb.ge (by intro h;subst h;simp at hl);have h3:4294967296 ^ a.length≤4294967296 ^ (b.length - 1):=fA aa aa;omega
variable {i:Nat}
def uw (ha:dh a) (hi:a.getD i 0<b.getD i 0) : ∀k,(∀j,i<j→j<i+1+k→a.getD j 0=b.getD j 0)→bm a (i+1+k)<bm b (i+1+k)
 | 0,_=>by have h1:=kX ha i;have h2:(a.getD i 0+1)*4294967296 ^ i≤b.getD i 0*4294967296 ^ i:=dU _ aa;rw[dA] at h2;rw[gN,bm,bm];omega
 | k+1,h=>by have:=uw ha hi k (fun j x y=>h j x aa);rw[show i+1+(k+1)=(i+1+k)+1 from rfl,bm,bm,h (i+1+k) aa aa];omega
def nW (ha:dh a) (hl:a.length=b.length) (hn:i<a.length) (hi:a.getD i 0<b.getD i 0) (h : ∀j,i<j→j<a.length→a.getD j 0=b.getD j 0):aM a<aM b:=by have:=uw ha hi (a.length - (i+1)) (fun j x y=>h j x aa);rw[show i+1+(a.length - (i+1))=a.length from by omega] at this;rw[aM,aM,←hl];exact this
def pV (hl:a.length=b.length) (h : ∀j,j<a.length→a.getD j 0=b.getD j 0):aM a=aM b:=by rw[aM,aM,←hl];exact jk h
def Norm.ow (h:Norm ds):aM ds=0↔ds = []:=by
 constructor;·intro h0;apply di;intro hne;have:=h.ge hne;have:=uI (ds.length - 1);omega
 ·rintro rfl;rfl
def Norm.qm (ha:Norm a) (hb:dh b) (h:aM a≤aM b):a.length≤b.length:=by apply di;intro hn;have:=nY hb ha aa;omega
theorem EM (d:Nat) (ds:List Nat) : ∀k,bm (d :: ds) (k+1)=d+4294967296*bm ds k
 | 0=>by simp[bm]
 | k+1=>by rw[bm,EM d ds k,bm];simp only[List.getD_cons_succ,eH];grind
theorem Ou (d:Nat) (ds:List Nat):aM (d :: ds)=d+4294967296*aM ds:=EM d ds _
end
open Go
open Go renaming Operand→QY,Program→QX,TypeId→QZ,Value→QQ
open Nat renaming reduceAdd→zA,reduceEqDiff→zE,reduceLeDiff→zL
open Nat (reduceMul)
set_option maxHeartbeats 16000000
open Go.Proofs.Tryz (prog)
section
abbrev KN (n:Nat):QQ:=.int .i64 (n:Int)
def kW (h:IH) (v:QQ) (ds:List Nat):Prop:=df h 1 v ds.length (ds.map KN)∧dh ds∧ds.length≤1100000
def Dig (h:IH) (v:QQ) (x:Nat):Prop:=∃ds,kW h v ds∧Norm ds∧aM ds=x
variable {h:IH}{v:QQ}{ds:List Nat}{h':IH}
def kW.ai (d:kW h v ds) (e:bj h h'):kW h' v ds:=⟨d.1.ai e,d.2⟩
def Dig.ai {x:Nat} (d:Dig h v x) (e:bj h h'):Dig h' v x:=let ⟨ds,a,b⟩:=d;⟨ds,a.ai e,b⟩
def get_some {i:Nat} (h:i<ds.length):ds[i]?=some (ds.getD i 0):=by rw[bH,aK h];rfl
theorem dF {α β:Type} (f:α→β) (l:List α) (i:Nat):(l.map f)[i]?=(l[i]?).map f:=dM
def Ap (hd:kW h v ds):WV prog (.func (.func 218) #[] #[]) [v] h fun r h'=>h'=h∧Dig h r (aM ds):=by
 refine enter (nt:=21) (rs:=[.tmp 2]) Proofs.Tryz.func218 rfl rfl rfl ab ?_;simp -dsimp (disch:=try exact dx) only[wpS,zE,hd.1.len dY];refine loop (fun m fr h1=>h1=h∧m≤ds.length∧ax fr 3=some (KN m)∧ax fr 0=some v ∧ ∀j,m≤j→ds.getD j 0=0) ds.length ⟨rfl,aA _,ab,ab,fun j hj=>fO hj⟩ ?_;rintro m fr h1 ⟨rfl,hm,f3,f0,hz⟩;have fin : ∀n:Nat,n≤ds.length→(∀j,n≤j→ds.getD j 0=0)→(n=0∨ds.getD (n - 1) 0≠0) → ∃r,dE prog h1 25 v none (some (KN n)) none=some r∧Dig h1 r (aM ds):=by
  intro n hn hz hne;obtain⟨r,hr,hs⟩:=hd.1.slice (bj.refl _) (P:=prog) (t:=25) u25 sz3 (l:=0) (m:=n) (dQ _) hn (lo:=none) (hi:=some (KN n)) rfl (fun c hc=>mz (k:=.i64) aa);refine⟨r,hr,ds.take n,⟨?_,hd.2.1.take n,by simp;have:=hd.2.2;omega⟩,?_,zK hn hz⟩
  ·have hl:(ds.take n).length=n:=by simp[hn]
   rw[hl];simpa [sN] using hs
  ·rcases hne with rfl|hne
   ·left;simp
   ·by_cases h0:n=0
    ·subst h0;left;simp
    ·right;have hl:(ds.take n).length=n:=by simp[hn]
     rw[hl,rZ,aq aa];exact hne
 have hb:=hd.2.2;rcases im m with rfl|hp
 ·obtain⟨r,hr,hD⟩:=fin 0 hm hz (.inl rfl);simp -dsimp (disch:=try exact dx) only[wpS,wpT,zE,f3,f0,hr];exact hD
 ·obtain⟨k,rfl⟩ : ∃k,m=k+1:=⟨m - 1,aa⟩;have h2:IntKind.i64.wrap (((k+1:Nat):Int) - 1)=(k:Int):=by rw[wrap_i64 aa];omega
  simp -dsimp (disch:=try exact dx) only[wpS,wpT,zE,f3,f0,h2,hd.1.idx gl (show k<ds.length by omega),hd.1.ld (bj.refl _) (P:=prog) (t:=3) (c:=k) bd ag3,dF,get_some (show k<ds.length by omega)];refine aG (fun hc=>?_) (fun hc=>?_)
  ·simp -dsimp (disch:=try exact dx) only[wpS,zE,f3,h2];refine⟨k,aa,rfl,aa,ab,by simp[f0],fun j hj=>?_⟩;by_cases hjk:j=k
   ·subst hjk;simpa using hc
   ·exact hz j aa
  ·obtain⟨r,hr,hD⟩:=fin (k+1) hm hz (.inr (by simpa using hc));simp -dsimp (disch:=try exact dx) only[wpS,wpT,zE,f3,f0,hr];exact hD
def Ps (hd:kW h v ds):WV prog (.func (.func 218) #[] #[]) [v] h fun r h'=>gW r=gW v:=by
 have hb:=hd.2.2;refine enter (nt:=21) (rs:=[.tmp 2]) Proofs.Tryz.func218 rfl rfl rfl ab ?_;simp -dsimp (disch:=try exact dx) only[wpS,zE,hd.1.len dY];refine loop (fun m fr h1=>h1=h∧m≤ds.length∧ax fr 3=some (KN m)∧ax fr 0=some v) ds.length ⟨rfl,aA _,ab,ab⟩ ?_;rintro m fr h1 ⟨rfl,hm,f3,f0⟩;have fin : ∀n:Nat,n≤ds.length → ∃r,dE prog h1 25 v none (some (KN n)) none=some r∧gW r=gW v:=by intro n hn;obtain⟨r,hr,hs⟩:=hd.1.slice (bj.refl _) (P:=prog) (t:=25) u25 sz3 (l:=0) (m:=n) (dQ _) hn (lo:=none) (hi:=some (KN n)) rfl (fun c hc=>mz (k:=.i64) aa);exact⟨r,hr,AK u25 hr⟩
 rcases im m with rfl|hp
 ·obtain⟨r,hr,hD⟩:=fin 0 hm;simp -dsimp (disch:=try exact dx) only[wpS,wpT,zE,f3,f0,hr];exact hD
 ·obtain⟨k,rfl⟩ : ∃k,m=k+1:=⟨m - 1,aa⟩;have h2:IntKind.i64.wrap (((k+1:Nat):Int) - 1)=(k:Int):=by rw[wrap_i64 aa];omega
  simp -dsimp (disch:=try exact dx) only[wpS,wpT,zE,f3,f0,h2,hd.1.idx gl (show k<ds.length by omega),hd.1.ld (bj.refl _) (P:=prog) (t:=3) (c:=k) bd ag3,dF,get_some (show k<ds.length by omega)];refine aG (fun hc=>?_) (fun hc=>?_)
  ·simp -dsimp (disch:=try exact dx) only[wpS,zE,f3,h2];exact⟨k,aa,rfl,aa,ab,by simp[f0]⟩
  ·obtain⟨r,hr,hD⟩:=fin (k+1) hm;simp -dsimp (disch:=try exact dx) only[wpS,zE,f3,f0,hr];exact hD
def bP (h:IH) (v:QQ) (z:Int):Prop:=∃s,v=.agg #[.bool (decide (z<0)),s]∧Dig h s z.natAbs
def bP.ai {z:Int} (d:bP h v z) (e:bj h h'):bP h' v z:=let ⟨s,a,b⟩:=d;⟨s,a,b.ai e⟩
def oz (hd:kW h v ds) (b:Bool):WV prog (.func (.func 202) #[] #[]) [.bool b,v] h fun r h'=>Ext h h'∧bP h' r (if b then -(aM ds:Int) else aM ds):=by
 refine enter (nt:=15) (rs:=[.cell 4 175]) Proofs.Tryz.func202 rfl rfl rfl ab ?_;simp -dsimp (disch:=try exact dx) only[wpS,zE,zA,ff];refine call (Ap (hd.ai ((bj.refl h).new _))) ?_;rintro r h1 ⟨rfl,ds',hD,hN,hv⟩;have hl:=hD.2.2;have hz:=hN.ow;have hk : ∀o,bj (h.new (.cells [.bool false,.slice none 0 0] 0 none)) ((h.new (.cells [.bool false,.slice none 0 0] 0 none)).put h.n o):=fun o=>(bj.refl _).put (ar _ _ rfl) o;cases b
 ·simp -dsimp (disch:=try exact dx) only[wpS,wpT,zE,zL,zA,nA,MZ,BJ,cZ,cj,hD.1.cells,hD.1.cok];refine⟨((Ext.refl h).new _).put (aA _) _,r,?_,ds',hD.ai (hk _),hN,?_⟩
  ·simp
  ·simp[hv]
 ·simp -dsimp (disch:=try exact dx) only[wpS,wpT,zE,zL,zA,nA,MZ,BJ,cZ,cj,hD.1.cells,hD.1.cok,hD.1.len dY];refine⟨((Ext.refl h).new _).put (aA _) _,r,?_,ds',hD.ai (hk _),hN,?_⟩
  ·rw[hv] at hz;have:0<ds'.length↔0<aM ds:=by
    cases ds' with
    | nil=>simp at hz;simp[hz]
    | cons x l=>simp at hz;simp;omega
   simp[this]
  ·simp[hv]
def C6 {w:QQ} {a b:List Nat} (ha:kW h v a) (hb:kW h w b) (na:Norm a) (nb:Norm b) :WV prog (.func (.func 200) #[] #[]) [v,w] h fun r h'=>h'=h ∧ ∃c:Int,r=KI c∧(c<0↔aM a<aM b)∧(c=0↔aM a=aM b) ∧ -9223372036854775808≤c∧c≤9223372036854775807:=by
 have la:=ha.2.2;have lb:=hb.2.2;refine enter (nt:=41) (rs:=[.tmp 4]) Proofs.Tryz.func200 rfl rfl rfl ab ?_;simp -dsimp (disch:=try exact dx) only[wpS,zE,zA,ha.1.len dY,hb.1.len dY];refine aG ?_ ?_<;>intro hc<;>simp only[mL,zr,ne_eq] at hc
 ·simp -dsimp (disch:=try exact dx) only[wpS,wpT,zE,ha.1.len dY,hb.1.len dY];refine⟨_,rfl,?_,?_,aa,aa⟩
  ·constructor
   ·intro h1;exact nY ha.2.1 nb aa
   ·intro h1;have:=na.qm hb.2.1 (kF h1);omega
  ·constructor
   ·intro h1;omega
   ·intro h1;have h2:=na.qm hb.2.1 (sI h1);have h3:=nb.qm ha.2.1 (sI h1.symm);omega
 ·have hl:a.length=b.length:=aa;simp -dsimp (disch:=try exact dx) only[wpS,wpT,zE,ha.1.len dY];refine loop (fun m fr h1=>h1=h∧m≤a.length∧ax fr 5=some (KI ((m:Int) - 1))∧ax fr 0=some v∧ax fr 1=some w ∧ ∀j,m≤j→j<a.length→a.getD j 0=b.getD j 0) a.length ⟨rfl,aA _,ab,ab,ab,fun j hj hj2=>aa⟩ ?_;rintro m fr h1 ⟨rfl,hm,f5,f0,f1,hz⟩;rcases im m with rfl|hp
  ·simp -dsimp (disch:=try exact dx) only[wpS,wpT,zE,f5];refine⟨_,rfl,?_,?_,aa,aa⟩
   ·have:=pV hl (fun j hj=>hz j (dQ _) hj);omega
   ·have:=pV hl (fun j hj=>hz j (dQ _) hj);omega
  ·obtain⟨k,rfl⟩ : ∃k,m=k+1:=⟨m - 1,aa⟩;have h2:(((k+1:Nat):Int) - 1)=(k:Int):=aa;rw[h2] at f5;have da:=cK ha.2.1 k;have db:=cK hb.2.1 k;simp -dsimp (disch:=try exact dx) only[wpS,wpT,zE,f5,f0,f1,ha.1.idx gl (show k<a.length by omega),ha.1.ld (bj.refl _) (P:=prog) (t:=3) (c:=k) bd ag3,hb.1.idx gl (show k<b.length by omega),hb.1.ld (bj.refl _) (P:=prog) (t:=3) (c:=k) bd ag3,dF,get_some (show k<a.length by omega),get_some (show k<b.length by omega)];refine aG ?_ ?_<;>intro hc<;>simp only[mL,zr,ne_eq] at hc
   ·simp -dsimp (disch:=try exact dx) only[wpS,wpT,zE,f5,f0,f1,ha.1.idx gl (show k<a.length by omega),ha.1.ld (bj.refl _) (P:=prog) (t:=3) (c:=k) bd ag3,hb.1.idx gl (show k<b.length by omega),hb.1.ld (bj.refl _) (P:=prog) (t:=3) (c:=k) bd ag3,dF,get_some (show k<a.length by omega),get_some (show k<b.length by omega)];have key:(a.getD k 0<b.getD k 0→aM a<aM b)∧(b.getD k 0<a.getD k 0→aM b<aM a) :=
     ⟨fun h=>nW ha.2.1 hl aa h (fun j x y=>hz j aa y),fun h=>nW hb.2.1 hl.symm aa h (fun j x y=>(hz j aa aa).symm)⟩
    refine⟨_,rfl,?_,?_,aa,aa⟩
    ·constructor
     ·intro h1;exact key.1 aa
     ·intro h1;apply di;intro h3;have:=key.2 aa;omega
    ·constructor
     ·intro h1;omega
     ·intro h1;rcases dr (a.getD k 0) (b.getD k 0) with h3|h3
      ·have:=key.1 h3;omega
      ·have:=key.2 aa;omega
   ·simp -dsimp (disch:=try exact dx) only[wpS,wpT,zE,f5];refine⟨k,aa,rfl,aa,ab,by simp[f0],by simp[f1],fun j h3 h4=>?_⟩;by_cases hjk:j=k
    ·subst hjk;exact Int.ofNat.inj hc
    ·exact hz j aa h4
end
section
theorem yO (os:List Nat) (d:Nat):os.map KN ++ [KN d]=(os ++ [d]).map KN:=ab
variable {h:IH}{v:QQ}
def Acc.block {n0 sz:Nat} {n:Nat} {cs:List QQ} (a:Acc h n0 sz v n cs) {k:Nat} (hk:k<n0):gW v≠some (2*k):=by
 obtain⟨hz,hl,⟨rfl,_⟩|⟨j,fam,rfl,hn,h1,h2,h3,h4⟩⟩:=a;·intro h;cases h
 ·intro h
  have:2*j=2*k:=Kb h;omega
variable {b:List Nat}{w:QQ}{a:List Nat}
def Ns (ha:kW h v a) (hb:kW h w b) (nb:Norm b) (hle:aM b≤aM a) :WV prog (.func (.func 201) #[] #[]) [v,w] h fun r h'=>(Ext h h'∧Dig h' r (aM a - aM b)) ∧ ∀k,k<h.n→gW r≠some (2*k):=by
 have la:=ha.2.2;have lb:=hb.2.2;refine enter (nt:=41) (rs:=[.tmp 4]) Proofs.Tryz.func201 rfl rfl rfl ab ?_;simp -dsimp (disch:=try exact dx) only[wpS,zA];refine loop (fun m fr h1 => ∃(i bor:Nat) (os:List Nat) (out:QQ),i+m=a.length∧ax fr 0=some v∧ax fr 1=some w∧ax fr 5=some out∧ax fr 6=some (KN bor)∧ax fr 7=some (KN i)∧bor≤1∧os.length=i∧dh os ∧bm a i+bor*4294967296 ^ i=bm b i+aM os∧Acc h1 h.n 1 out i (os.map KN)∧Ext h h1) a.length ⟨0,0,[],.slice none 0 0,ab,ab,ab,ab,ab,ab,aa,rfl,fun d hd=>(by cases hd),by simp[bm,aM],Acc.nil _ _ aa,Ext.refl _⟩ ?_;rintro m fr h1 ⟨i,bor,os,out,him,f0,f1,f5,f6,f7,Jv,hos,hd,hv,hA,hE⟩;simp -dsimp (disch:=try exact dx) only[wpS,zE,f0,f7,ha.1.len dY];refine aG ?_ ?_<;>intro hc<;>simp only[aS,aV] at hc
 ·have hi:i<a.length:=aa;have da:=cK ha.2.1 i;have db:=cK hb.2.1 i;simp -dsimp (disch:=try exact dx) only[wpS,wpT,zE,f0,f1,f6,f7,ha.1.idx gl hi,ha.1.ld hE.ai (P:=prog) (t:=3) (c:=i) (by simpa using hi) ag3,dF,get_some hi,hb.1.len dY];refine jQ (fun fr2 h2=>h2=h1∧ax fr2 0=some v∧ax fr2 1=some w∧ax fr2 5=some out∧ax fr2 7=some (KN i)∧ax fr2 8=some (KI ((a.getD i 0:Int) - bor - (b.getD i 0:Int)))) (fun hc=>?_) (fun hc=>?_) ?_
  ·simp only[aS] at hc;have hi2:i<b.length:=aa;simp -dsimp (disch:=try exact dx) only[wpS,wpT,zE,f1,f7,hb.1.idx gl hi2,hb.1.ld hE.ai (P:=prog) (t:=3) (c:=i) (by simpa using hi2) ag3,dF,get_some hi2];exact⟨rfl,by simp[f0],by simp[f1],by simp[f5],by simp[f7],ab⟩
  ·simp only[aV] at hc;simp -dsimp (disch:=try exact dx) only[wpS,wpT];exact⟨rfl,by simp[f0],by simp[f1],by simp[f5],by simp[f7],by rw[fO (show b.length≤i by omega)];simp⟩
  ·rintro fr2 h2 ⟨rfl,f0,f1,f5,f7,f8⟩;simp -dsimp (disch:=try exact dx) only[wpS,zE,f8];refine jQ (fun fr3 h3=>h3=h2∧ax fr3 0=some v∧ax fr3 1=some w∧ax fr3 5=some out∧ax fr3 7=some (KN i) ∧ ∃d S0:Nat,ax fr3 8=some (KN d)∧ax fr3 6=some (KN S0)∧d<4294967296∧S0≤1∧a.getD i 0+S0*4294967296=b.getD i 0+bor+d) (fun hc=>?_) (fun hc=>?_) ?_
   ·simp only[aS] at hc;simp -dsimp (disch:=try exact dx) only[wpS,wpT,zE,f8];refine⟨rfl,by simp[f0],by simp[f1],by simp[f5],by simp[f7],a.getD i 0+4294967296 - bor - b.getD i 0,1,?_,ab,aa,aa,aa⟩;simp only[sf,zE,cE,cq];congr 2;omega
   ·simp only[aV] at hc;simp -dsimp (disch:=try exact dx) only[wpS,wpT];refine⟨rfl,by simp[f0],by simp[f1],by simp[f5],by simp[f7],a.getD i 0 - bor - b.getD i 0,0,?_,ab,aa,aa,aa⟩;simp only[sf,zE,cE,f8];congr 2;omega
   ·rintro fr3 h3 ⟨rfl,f0,f1,f5,f7,d,S0,f8,f6,hd2,hb2,ml⟩;obtain⟨cV,h',hap,hA',hG,hE'⟩:=hA.xY (P:=prog) (t:=25) wg (x:=KN d) rfl aa hE.n hE (aA _);simp -dsimp (disch:=try exact dx) only[wpS,wpT,zE,zL,zA,kS,ju,f5,f7,f8,hap];refine⟨m - 1,aa,i+1,S0,os ++ [d],cV,aa,by simp[f0],by simp[f1],ab,by simp[f6],ab,hb2,by simp[hos],hd.append hd2,?_,by rw[←yO];exact hA',hE'⟩;rw[mq,bm,bm,hos];grind
 ·obtain rfl:i=a.length:=aa
  have hbl:=nb.qm ha.2.1 hle;rw[lX hbl,lX (aA _)] at hv;have hlt:=mS hd;rw[hos] at hlt;have hb0:bor=0:=by apply di;intro hne;have:bor=1:=aa;subst this;omega
  subst hb0;have hD:kW h1 out os:=⟨by rw[hos];exact hA.sl,hd,aa⟩;simp -dsimp (disch:=try exact dx) only[wpS,wpT,zE,f5];refine call ((Ap hD).and (Ps hD)) ?_;rintro r h2 ⟨⟨rfl,hr⟩,hbk⟩;simp -dsimp (disch:=try exact dx) only[wpS,zE];refine⟨⟨hE,?_⟩,fun k hk=>?_⟩;·rw[show aM a - aM b=aM os by omega];exact hr
  ·rw[hbk];exact hA.block hk
def BP (ha:kW h v a) (hb:kW h w b) (nb:Norm b) (hle:aM b≤aM a) :WV prog (.func (.func 201) #[] #[]) [v,w] h fun r h'=>Ext h h'∧Dig h' r (aM a - aM b):=(Ns ha hb nb hle).mono fun _ _ k=>k.1
def Uo (ha:kW h v a) (hb:kW h w b) (la:a.length≤1000001) (lb:b.length≤1000001) :WV prog (.func (.func 222) #[] #[]) [v,w] h fun r h'=>Ext h h' ∧ ∃os,kW h' r os∧aM os=aM a+aM b:=by
 refine enter (nt:=52) (rs:=[.tmp 4]) Proofs.Tryz.func222 rfl rfl rfl ab ?_;simp -dsimp (disch:=try exact dx) only[wpS,zA];refine loop (fun m fr h1 => ∃(i c:Nat) (os:List Nat) (out:QQ),i+m=1000003∧ax fr 0=some v∧ax fr 1=some w∧ax fr 5=some out∧ax fr 6=some (KN c)∧ax fr 7=some (KN i)∧c≤1∧os.length=i∧dh os∧i≤1000002∧(1000001<i→c=0) ∧aM os+c*4294967296 ^ i=bm a i+bm b i∧Acc h1 h.n 1 out i (os.map KN)∧Ext h h1) 1000003 ⟨0,0,[],.slice none 0 0,ab,ab,ab,ab,ab,ab,aa,rfl,fun d hd=>(by cases hd),aa,aa,by simp[bm,aM],Acc.nil _ _ aa,Ext.refl _⟩ ?_;rintro m fr h1 ⟨i,c,os,out,him,f0,f1,f5,f6,f7,hcc,hos,hd,hi2,hi3,hv,hA,hE⟩;rw[mE];by_cases hcont:i<a.length∨i<b.length∨0<c
 ·refine cut (fun fr2 h2=>h2=h1∧ax fr2 0=some v∧ax fr2 1=some w∧ax fr2 5=some out∧ax fr2 6=some (KN c)∧ax fr2 7=some (KN i)) ?_ ?_
  ·by_cases c1:i<a.length
   ·simp -dsimp (disch:=try exact dx) only[wpS,wpT,zE,f0,f7,ha.1.len dY];exact⟨rfl,by simp[f0],by simp[f1],by simp[f5],by simp[f6],by simp[f7]⟩
   ·by_cases c2:i<b.length
    ·simp -dsimp (disch:=try exact dx) only[wpS,wpT,zE,f0,f1,f7,ha.1.len dY,hb.1.len dY];exact⟨rfl,by simp[f0],by simp[f1],by simp[f5],by simp[f6],by simp[f7]⟩
    ·simp -dsimp (disch:=try exact dx) only[wpS,wpT,zE,f0,f1,f6,f7,ha.1.len dY,hb.1.len dY];exact⟨rfl,by simp[f0],by simp[f1],by simp[f5],by simp[f6],by simp[f7]⟩
  ·rintro fr2 h2 ⟨rfl,f0,f1,f5,f6,f7⟩;have da:=cK ha.2.1 i;have db:=cK hb.2.1 i;simp -dsimp (disch:=try exact dx) only[wpS,zE,f0,f7,ha.1.len dY];refine jQ (fun fr3 h3=>h3=h2∧ax fr3 0=some v∧ax fr3 1=some w∧ax fr3 5=some out∧ax fr3 7=some (KN i)∧ax fr3 6=some (KN (c+a.getD i 0))) (fun hc=>?_) (fun hc=>?_) ?_
   ·simp only[aS] at hc;have hi:i<a.length:=aa;simp -dsimp (disch:=try exact dx) only[wpS,wpT,zE,f0,f6,f7,ha.1.idx gl hi,ha.1.ld hE.ai (P:=prog) (t:=3) (c:=i) (by simpa using hi) ag3,dF,get_some hi];exact⟨rfl,by simp[f0],by simp[f1],by simp[f5],by simp[f7],ab⟩
   ·simp only[aV] at hc;simp -dsimp (disch:=try exact dx) only[wpS,wpT];exact⟨rfl,by simp[f0],by simp[f1],by simp[f5],by simp[f7],by rw[fO (show a.length≤i by omega)];simp[f6]⟩
   ·rintro fr3 h3 ⟨rfl,f0,f1,f5,f7,f6⟩;simp -dsimp (disch:=try exact dx) only[wpS,zE,f1,f7,hb.1.len dY];refine jQ (fun fr4 h4=>h4=h3∧ax fr4 0=some v∧ax fr4 1=some w∧ax fr4 5=some out∧ax fr4 7=some (KN i)∧ax fr4 6=some (KN (c+a.getD i 0+b.getD i 0))) (fun hc=>?_) (fun hc=>?_) ?_
    ·simp only[aS] at hc;have hi:i<b.length:=aa;simp -dsimp (disch:=try exact dx) only[wpS,wpT,zE,f1,f6,f7,hb.1.idx gl hi,hb.1.ld hE.ai (P:=prog) (t:=3) (c:=i) (by simpa using hi) ag3,dF,get_some hi];exact⟨rfl,by simp[f0],by simp[f1],by simp[f5],by simp[f7],ab⟩
    ·simp only[aV] at hc;simp -dsimp (disch:=try exact dx) only[wpS,wpT];exact⟨rfl,by simp[f0],by simp[f1],by simp[f5],by simp[f7],by rw[fO (show b.length≤i by omega)];simp[f6]⟩
    ·rintro fr4 h4 ⟨rfl,f0,f1,f5,f7,f6⟩
     have hi5:i≤1000001:=by apply di;intro hn;have:=hi3 aa;omega
     generalize hs:c+a.getD i 0+b.getD i 0=s at f6;have e1:((s:Int) % 4294967296)=((s % 4294967296:Nat):Int):=aa;have e2:((s:Int) / 4294967296)=((s / 4294967296:Nat):Int):=aa;obtain⟨cV,h',hap,hA',hG,hE'⟩:=hA.xY (P:=prog) (t:=25) wg (x:=KN (s % 4294967296)) rfl aa hE.n hE (aA _);simp -dsimp (disch:=try exact dx) only[wpS,wpT,zE,zL,zA,kS,ju,f5,f6,f7,e1,hap,e2];refine⟨m - 1,aa,i+1,s / 4294967296,os ++ [s % 4294967296],cV,aa,by simp[f0],by simp[f1],ab,ab,ab,aa,by simp[hos],hd.append aa,aa,fun hh=>?_,?_,by rw[←yO];exact hA',hE'⟩;·have h1:=fO (ds:=a) (k:=i) aa;have h2:=fO (ds:=b) (k:=i) aa;omega
     ·rw[mq,bm,bm,hos]
      have h5:s % 4294967296+s / 4294967296*4294967296=c+a.getD i 0+b.getD i 0:=aa;grind
 ·refine cut (fun fr2 h2=>False) ?_ (fun _ _ h=>h.elim);simp -dsimp (disch:=try exact dx) only[wpS,wpT,zE,f0,f1,f5,f6,f7,ha.1.len dY,hb.1.len dY];obtain rfl:c=0:=aa;rw[lX aa,lX aa] at hv;exact⟨hE,os,⟨by rw[hos];exact hA.sl,hd,aa⟩,aa⟩
end
end Go.Id
