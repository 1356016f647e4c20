/-
  Digits to the base 2^32, the lowest first: plain numbers.
-/
import Derived.Test.YtnnmjocmapilaaaGreatOutlierValidAp
set_option linter.unusedVariables false
set_option linter.unusedSimpArgs false
set_option linter.defProp false
set_option linter.deprecated false
namespace Go.Id
def aE (ds:List Nat):Nat→Nat
 | 0=>0
 | k+1=>aE ds k+ds.getD k 0*4294967296 ^ k
def ao (ds:List Nat):Nat:=aE ds ds.length
def bB (ds:List Nat):Prop:=∀d∈ds,d<4294967296
def Norm (ds:List Nat):Prop:=ds = []∨ds.getD (ds.length - 1) 0≠0
theorem bH {ds:List Nat} (h:bB ds) (k:Nat):ds.getD k 0<4294967296:=by
 rw[List.getD_eq_getElem?_getD]
 cases hx:ds[k]? with
 | none=>simp
 | some x=>simpa using h x (List.mem_of_getElem? hx)
theorem cM {ds:List Nat} {k:Nat} (h:ds.length≤k):ds.getD k 0=0:=by
 rw[List.getD_eq_getElem?_getD,List.getElem?_eq_none h];rfl
theorem qD (k:Nat):0<4294967296 ^ k:=Nat.pow_pos (by omega)
theorem gW {ds:List Nat} (h:bB ds) : ∀k,aE ds k<4294967296 ^ k
 | 0=>by simp[aE]
 | k+1=>by
  have ih:=gW h k
  have hd:=bH h k
  have h2:ds.getD k 0*4294967296 ^ k≤4294967295*4294967296 ^ k:=Nat.mul_le_mul_right _ (by omega)
  rw[aE,Nat.pow_succ]
  omega
theorem iE {ds:List Nat} : ∀{k:Nat},ds.length≤k→aE ds k=ao ds
 | 0,h=>by
  have:ds = []:=List.length_eq_zero_iff.1 (by omega)
  subst this;rfl
 | k+1,h=>by
  by_cases hk:ds.length≤k
  ·rw[aE,iE hk,cM hk];simp
  ·have:ds.length=k+1:=by omega
   rw[ao,this]
theorem ff {ds es:List Nat} : ∀{k:Nat},(∀j,j<k→ds.getD j 0=es.getD j 0)→aE ds k=aE es k
 | 0,_=>rfl
 | k+1,h=>by rw[aE,aE,ff fun j hj=>h j (by omega),h k (by omega)]
theorem jg {ds:List Nat} (h:bB ds):ao ds<4294967296 ^ ds.length:=gW h _
theorem xD {ds:List Nat} {x:Nat} (j:Nat):(ds ++ [x]).getD j 0=if j<ds.length then ds.getD j 0 else if j=ds.length then x else 0:=by
 simp only[List.getD_eq_getElem?_getD]
 by_cases h:j<ds.length
 ·rw[if_pos h,List.getElem?_append_left h]
 ·rw[if_neg h,List.getElem?_append_right (by omega)]
  by_cases h2:j=ds.length
  ·rw[if_pos h2];subst h2;simp
  ·rw[if_neg h2,List.getElem?_eq_none (by simp;omega)];rfl
theorem iV (ds:List Nat) (x:Nat):ao (ds ++ [x])=ao ds+x*4294967296 ^ ds.length:=by
 have h1:(ds ++ [x]).length=ds.length+1:=by simp
 rw[ao,h1,aE,xD,if_neg (by omega),if_pos rfl]
 congr 1
 refine ff fun j hj=>?_
 rw[xD,if_pos hj]
theorem bB.append {ds:List Nat} {x:Nat} (h:bB ds) (hx:x<4294967296):bB (ds ++ [x]):=by
 intro d hd
 rcases List.mem_append.1 hd with h1|h1
 ·exact h d h1
 ·simp at h1;omega
theorem bB.take {ds:List Nat} (h:bB ds) (n:Nat):bB (ds.take n):=fun d hd=>h d (List.mem_of_mem_take hd)
theorem oi (ds:List Nat) (n j:Nat):(ds.take n).getD j 0=if j<n then ds.getD j 0 else 0:=by
 simp only[List.getD_eq_getElem?_getD,List.getElem?_take]
 split<;>rfl
theorem jC (ds:List Nat) (m:Nat) : ∀k,(∀j,m≤j→j<m+k→ds.getD j 0=0)→aE ds (m+k)=aE ds m
 | 0,_=>rfl
 | k+1,h=>by
  rw[show m+(k+1)=(m+k)+1 from rfl,aE,jC ds m k (fun j a b=>h j a (by omega)),h (m+k) (by omega) (by omega)]
  simp
theorem vM {ds:List Nat} {m:Nat} (hm:m≤ds.length) (h : ∀j,m≤j→ds.getD j 0=0):ao (ds.take m)=ao ds:=by
 have h1:(ds.take m).length=m:=by simp[hm]
 rw[ao,h1]
 have h2:aE (ds.take m) m=aE ds m:=ff fun j hj=>by rw[oi,if_pos hj]
 rw[h2]
 have:=jC ds m (ds.length - m) (fun j a _=>h j a)
 rw[show m+(ds.length - m)=ds.length from by omega] at this
 exact this.symm
theorem Norm.ge {ds:List Nat} (h:Norm ds) (hne:ds ≠ []):4294967296 ^ (ds.length - 1)≤ao ds:=by
 rcases h with h|h
 ·exact absurd h hne
 ·have hl:0<ds.length:=List.length_pos_iff.2 hne
  obtain⟨n,hn⟩ : ∃n,ds.length=n+1:=⟨ds.length - 1,by omega⟩
  rw[ao,hn,aE]
  rw[hn] at h
  simp only[Nat.add_sub_cancel] at h ⊢
  have:1*4294967296 ^ n≤ds.getD n 0*4294967296 ^ n:=Nat.mul_le_mul_right _ (by omega)
  omega
theorem jI {a b:List Nat} (ha:bB a) (hb:Norm b) (hl:a.length<b.length):ao a<ao b:=by
 have h1:=jg ha
 have h2:=hb.ge (by intro h;subst h;simp at hl)
 have h3:4294967296 ^ a.length≤4294967296 ^ (b.length - 1):=Nat.pow_le_pow_right (by omega) (by omega)
 omega
theorem qe {a b:List Nat} (ha:bB a) {i:Nat} (hi:a.getD i 0<b.getD i 0) : ∀k,(∀j,i<j→j<i+1+k→a.getD j 0=b.getD j 0)→aE a (i+1+k)<aE b (i+1+k)
 | 0,_=>by
  have h1:=gW ha i
  have h2:(a.getD i 0+1)*4294967296 ^ i≤b.getD i 0*4294967296 ^ i:=Nat.mul_le_mul_right _ (by omega)
  rw[Nat.add_mul] at h2
  rw[Nat.add_zero,aE,aE]
  omega
 | k+1,h=>by
  have:=qe ha hi k (fun j x y=>h j x (by omega))
  rw[show i+1+(k+1)=(i+1+k)+1 from rfl,aE,aE,h (i+1+k) (by omega) (by omega)]
  omega
theorem jH {a b:List Nat} (ha:bB a) (hl:a.length=b.length) {i:Nat} (hn:i<a.length) (hi:a.getD i 0<b.getD i 0) (h : ∀j,i<j→j<a.length→a.getD j 0=b.getD j 0):ao a<ao b:=by
 have:=qe ha hi (a.length - (i+1)) (fun j x y=>h j x (by omega))
 rw[show i+1+(a.length - (i+1))=a.length from by omega] at this
 rw[ao,ao,←hl];exact this
theorem lJ {a b:List Nat} (hl:a.length=b.length) (h : ∀j,j<a.length→a.getD j 0=b.getD j 0):ao a=ao b:=by
 rw[ao,ao,←hl];exact ff h
theorem Norm.jZ {ds:List Nat} (h:Norm ds):ao ds=0↔ds = []:=by
 constructor
 ·intro h0
  apply Classical.byContradiction;intro hne
  have:=h.ge hne
  have:=qD (ds.length - 1)
  omega
 ·rintro rfl;rfl
theorem Norm.iO {a b:List Nat} (ha:Norm a) (hb:bB b) (h:ao a≤ao b):a.length≤b.length:=by
 apply Classical.byContradiction;intro hn
 have:=jI hb ha (by omega)
 omega
theorem nK (d:Nat) (ds:List Nat) : ∀k,aE (d :: ds) (k+1)=d+4294967296*aE ds k
 | 0=>by simp[aE]
 | k+1=>by
  rw[aE,nK d ds k,aE]
  simp only[List.getD_cons_succ,Nat.pow_succ]
  grind
theorem jE (d:Nat) (ds:List Nat):ao (d :: ds)=d+4294967296*ao ds:=nK d ds _
theorem xw : ∀{a b:List Nat},bB a→bB b→Norm a→Norm b→ao a=ao b→a=b:=by
 intro a b ha hb na nb h
 have l1:=na.iO hb (by omega)
 have l2:=nb.iO ha (by omega)
 have hl:a.length=b.length:=by omega
 clear l1 l2 na nb
 induction a generalizing b with
 | nil=>exact(List.length_eq_zero_iff.1 hl.symm).symm
 | cons x a ih =>
  cases b with
  | nil=>simp at hl
  | cons y b =>
   rw[jE,jE] at h
   have hx:x<4294967296:=ha x (by simp)
   have hy:y<4294967296:=hb y (by simp)
   have e1:x=y:=by omega
   have e2:ao a=ao b:=by omega
   rw[e1,ih (b:=b) (fun d hd=>ha d (by simp[hd])) (fun d hd=>hb d (by simp[hd])) e2 (by simpa using hl)]
open Go
open Go.Proofs.Tryz (prog)
open Nat renaming reduceAdd→zA,reduceEqDiff→zE,reduceLeDiff→zL
abbrev KN (n:Nat):Value:=.int .i64 (n:Int)
def gV (h:IH) (v:Value) (ds:List Nat):Prop:=bJ h 1 v ds.length (ds.map KN)∧bB ds∧ds.length≤1100000
def Dig (h:IH) (v:Value) (x:Nat):Prop:=∃ds,gV h v ds∧Norm ds∧ao ds=x
theorem gV.aa {h h':IH} {v:Value} {ds:List Nat} (d:gV h v ds) (e:aJ h h'):gV h' v ds:=⟨d.1.aa e,d.2⟩
theorem Dig.aa {h h':IH} {v:Value} {x:Nat} (d:Dig h v x) (e:aJ h h'):Dig h' v x:=let ⟨ds,a,b⟩:=d;⟨ds,a.aa e,b⟩
theorem get_some {ds:List Nat} {i:Nat} (h:i<ds.length):ds[i]?=some (ds.getD i 0):=by
 rw[List.getD_eq_getElem?_getD,List.getElem?_eq_getElem h];rfl
theorem cc {α β:Type} (f:α→β) (l:List α) (i:Nat):(l.map f)[i]?=(l[i]?).map f:=List.getElem?_map
theorem wK {h:IH} {v:Value} {ds:List Nat} (hd:gV h v ds):WV prog (.func (.func 218) #[] #[]) [v] h fun r h'=>h'=h∧Dig h r (ao ds):=by
 refine enter (nt:=21) (rs:=[.tmp 2]) Proofs.Tryz.func218 rfl rfl rfl (by simp) ?_
 simp -dsimp (disch:=omega) only[wpS,zE,hd.1.len fT]
 refine loop (fun m fr h1=>h1=h∧m≤ds.length∧ab fr 3=some (KN m)∧ab fr 0=some v ∧ ∀j,m≤j→ds.getD j 0=0) ds.length ⟨rfl,Nat.le_refl _,by simp,by simp,fun j hj=>cM hj⟩ ?_
 rintro m fr h1 ⟨rfl,hm,f3,f0,hz⟩
 have fin : ∀n:Nat,n≤ds.length→(∀j,n≤j→ds.getD j 0=0)→(n=0∨ds.getD (n - 1) 0≠0) → ∃r,cJ prog h1 25 v none (some (KN n)) none=some r∧Dig h1 r (ao ds):=by
  intro n hn hz hne
  obtain⟨r,hr,hs⟩:=hd.1.slice (aJ.refl _) (P:=prog) (t:=25) u25 sz3 (l:=0) (m:=n) (Nat.zero_le _) hn (lo:=none) (hi:=some (KN n)) rfl (fun c hc=>lI (k:=.i64) (by omega))
  refine⟨r,hr,ds.take n,⟨?_,hd.2.1.take n,by simp;have:=hd.2.2;omega⟩,?_,vM hn hz⟩
  ·have hl:(ds.take n).length=n:=by simp[hn]
   rw[hl]
   simpa [List.map_take] using hs
  ·rcases hne with rfl|hne
   ·left;simp
   ·by_cases h0:n=0
    ·subst h0;left;simp
    ·right
     have hl:(ds.take n).length=n:=by simp[hn]
     rw[hl,oi,if_pos (by omega)];exact hne
 have hb:=hd.2.2
 rcases Nat.eq_zero_or_pos m with rfl|hp
 ·obtain⟨r,hr,hD⟩:=fin 0 hm hz (.inl rfl)
  simp -dsimp (disch:=omega) only[wpS,wpT,zE,f3,f0,hr]
  exact hD
 ·obtain⟨k,rfl⟩ : ∃k,m=k+1:=⟨m - 1,by omega⟩
  have h2:IntKind.i64.wrap (((k+1:Nat):Int) - 1)=(k:Int):=by rw[wrap_i64 (by omega)];omega
  simp -dsimp (disch:=omega) only[wpS,wpT,zE,f3,f0,h2,hd.1.idx jN (show k<ds.length by omega),hd.1.ld (aJ.refl _) (P:=prog) (t:=3) (c:=k) (by simp<;>omega) ag3,cc,get_some (show k<ds.length by omega)]
  refine aq (fun hc=>?_) (fun hc=>?_)
  ·simp -dsimp (disch:=omega) only[wpS,zE,f3,h2]
   refine⟨k,by omega,rfl,by omega,by simp,by simp[f0],fun j hj=>?_⟩
   by_cases hjk:j=k
   ·subst hjk;simpa using hc
   ·exact hz j (by omega)
  ·obtain⟨r,hr,hD⟩:=fin (k+1) hm hz (.inr (by simpa using hc))
   simp -dsimp (disch:=omega) only[wpS,wpT,zE,f3,f0,hr]
   exact hD
theorem Oh {h:IH} {v:Value} {ds:List Nat} (hd:gV h v ds):WV prog (.func (.func 218) #[] #[]) [v] h fun r h'=>dF r=dF v:=by
 have hb:=hd.2.2
 refine enter (nt:=21) (rs:=[.tmp 2]) Proofs.Tryz.func218 rfl rfl rfl (by simp) ?_
 simp -dsimp (disch:=omega) only[wpS,zE,hd.1.len fT]
 refine loop (fun m fr h1=>h1=h∧m≤ds.length∧ab fr 3=some (KN m)∧ab fr 0=some v) ds.length ⟨rfl,Nat.le_refl _,by simp⟩ ?_
 rintro m fr h1 ⟨rfl,hm,f3,f0⟩
 have fin : ∀n:Nat,n≤ds.length → ∃r,cJ prog h1 25 v none (some (KN n)) none=some r∧dF r=dF v:=by
  intro n hn
  obtain⟨r,hr,hs⟩:=hd.1.slice (aJ.refl _) (P:=prog) (t:=25) u25 sz3 (l:=0) (m:=n) (Nat.zero_le _) hn (lo:=none) (hi:=some (KN n)) rfl (fun c hc=>lI (k:=.i64) (by omega))
  exact⟨r,hr,xh u25 hr⟩
 rcases Nat.eq_zero_or_pos m with rfl|hp
 ·obtain⟨r,hr,hD⟩:=fin 0 hm
  simp -dsimp (disch:=omega) only[wpS,wpT,zE,f3,f0,hr]
  exact hD
 ·obtain⟨k,rfl⟩ : ∃k,m=k+1:=⟨m - 1,by omega⟩
  have h2:IntKind.i64.wrap (((k+1:Nat):Int) - 1)=(k:Int):=by rw[wrap_i64 (by omega)];omega
  simp -dsimp (disch:=omega) only[wpS,wpT,zE,f3,f0,h2,hd.1.idx jN (show k<ds.length by omega),hd.1.ld (aJ.refl _) (P:=prog) (t:=3) (c:=k) (by simp<;>omega) ag3,cc,get_some (show k<ds.length by omega)]
  refine aq (fun hc=>?_) (fun hc=>?_)
  ·simp -dsimp (disch:=omega) only[wpS,zE,f3,h2]
   exact⟨k,by omega,rfl,by omega,by simp[f0]⟩
  ·obtain⟨r,hr,hD⟩:=fin (k+1) hm
   simp -dsimp (disch:=omega) only[wpS,zE,f3,f0,hr]
   exact hD
def ba (h:IH) (v:Value) (z:Int):Prop:=∃s,v=.agg #[.bool (decide (z<0)),s]∧Dig h s z.natAbs
theorem ba.aa {h h':IH} {v:Value} {z:Int} (d:ba h v z) (e:aJ h h'):ba h' v z:=let ⟨s,a,b⟩:=d;⟨s,a,b.aa e⟩
theorem j0 {h:IH} {v:Value} {ds:List Nat} (hd:gV h v ds) (b:Bool):WV prog (.func (.func 202) #[] #[]) [.bool b,v] h fun r h'=>Ext h h'∧ba h' r (if b then -(ao ds:Int) else ao ds):=by
 refine enter (nt:=15) (rs:=[.cell 4 175]) Proofs.Tryz.func202 rfl rfl rfl (by simp) ?_
 simp -dsimp (disch:=omega) only[wpS,zE,zA,kS]
 refine call (wK (hd.aa ((aJ.refl h).new _))) ?_
 rintro r h1 ⟨rfl,ds',hD,hN,hv⟩
 have hl:=hD.2.2
 have hz:=hN.jZ
 have hk : ∀o,aJ (h.new (.cells [.bool false,.slice none 0 0] 0 none)) ((h.new (.cells [.bool false,.slice none 0 0] 0 none)).put h.n o):=fun o=>(aJ.refl _).put (ah _ _ rfl) o
 cases b
 ·simp -dsimp (disch:=omega) only[wpS,wpT,zE,zL,zA,LY,KF,yn,gF,bW,hD.1.cells,hD.1.cok]
  refine⟨((Ext.refl h).new _).put (Nat.le_refl _) _,r,?_,ds',hD.aa (hk _),hN,?_⟩
  ·simp
  ·simp[hv]
 ·simp -dsimp (disch:=omega) only[wpS,wpT,zE,zL,zA,LY,KF,yn,gF,bW,hD.1.cells,hD.1.cok,hD.1.len fT]
  refine⟨((Ext.refl h).new _).put (Nat.le_refl _) _,r,?_,ds',hD.aa (hk _),hN,?_⟩
  ·rw[hv] at hz
   have:0<ds'.length↔0<ao ds:=by
    cases ds' with
    | nil=>simp at hz;simp[hz]
    | cons x l=>simp at hz;simp;omega
   simp[this]
  ·simp[hv]
theorem zG {h:IH} {v w:Value} {a b:List Nat} (ha:gV h v a) (hb:gV h w b) (na:Norm a) (nb:Norm b) :
  WV prog (.func (.func 200) #[] #[]) [v,w] h fun r h'=>h'=h ∧ ∃c:Int,r=KI c∧(c<0↔ao a<ao b)∧(c=0↔ao a=ao b) ∧ -9223372036854775808≤c∧c≤9223372036854775807:=by
 have la:=ha.2.2
 have lb:=hb.2.2
 refine enter (nt:=41) (rs:=[.tmp 4]) Proofs.Tryz.func200 rfl rfl rfl (by simp) ?_
 simp -dsimp (disch:=omega) only[wpS,zE,zA,ha.1.len fT,hb.1.len fT]
 refine aq ?_ ?_<;>intro hc<;>simp only[bne_iff_ne,bne_eq_false_iff_eq,ne_eq] at hc
 ·simp -dsimp (disch:=omega) only[wpS,wpT,zE,ha.1.len fT,hb.1.len fT]
  refine⟨_,rfl,?_,?_,by omega,by omega⟩
  ·constructor
   ·intro h1;exact jI ha.2.1 nb (by omega)
   ·intro h1
    have:=na.iO hb.2.1 (Nat.le_of_lt h1)
    omega
  ·constructor
   ·intro h1;omega
   ·intro h1
    have h2:=na.iO hb.2.1 (Nat.le_of_eq h1)
    have h3:=nb.iO ha.2.1 (Nat.le_of_eq h1.symm)
    omega
 ·have hl:a.length=b.length:=by omega
  simp -dsimp (disch:=omega) only[wpS,wpT,zE,ha.1.len fT]
  refine loop (fun m fr h1=>h1=h∧m≤a.length∧ab fr 5=some (KI ((m:Int) - 1))∧ab fr 0=some v∧ab fr 1=some w ∧ ∀j,m≤j→j<a.length→a.getD j 0=b.getD j 0) a.length ⟨rfl,Nat.le_refl _,by simp,by simp,by simp,fun j hj hj2=>by omega⟩ ?_
  rintro m fr h1 ⟨rfl,hm,f5,f0,f1,hz⟩
  rcases Nat.eq_zero_or_pos m with rfl|hp
  ·simp -dsimp (disch:=try exact dx) only[wpS,wpT,zE,f5]
   refine⟨_,rfl,?_,?_,by omega,by omega⟩
   ·have:=lJ hl (fun j hj=>hz j (Nat.zero_le _) hj);omega
   ·have:=lJ hl (fun j hj=>hz j (Nat.zero_le _) hj);omega
  ·obtain⟨k,rfl⟩ : ∃k,m=k+1:=⟨m - 1,by omega⟩
   have h2:(((k+1:Nat):Int) - 1)=(k:Int):=by omega
   rw[h2] at f5
   have da:=bH ha.2.1 k
   have db:=bH hb.2.1 k
   simp -dsimp (disch:=try exact dx) only[wpS,wpT,zE,f5,f0,f1,ha.1.idx jN (show k<a.length by omega),ha.1.ld (aJ.refl _) (P:=prog) (t:=3) (c:=k) (by simp<;>omega) ag3,hb.1.idx jN (show k<b.length by omega),hb.1.ld (aJ.refl _) (P:=prog) (t:=3) (c:=k) (by simp<;>omega) ag3,cc,get_some (show k<a.length by omega),get_some (show k<b.length by omega)]
   refine aq ?_ ?_<;>intro hc<;>simp only[bne_iff_ne,bne_eq_false_iff_eq,ne_eq] at hc
   ·simp -dsimp (disch:=try exact dx) only[wpS,wpT,zE,f5,f0,f1,ha.1.idx jN (show k<a.length by omega),ha.1.ld (aJ.refl _) (P:=prog) (t:=3) (c:=k) (by simp<;>omega) ag3,hb.1.idx jN (show k<b.length by omega),hb.1.ld (aJ.refl _) (P:=prog) (t:=3) (c:=k) (by simp<;>omega) ag3,cc,get_some (show k<a.length by omega),get_some (show k<b.length by omega)]
    have key:(a.getD k 0<b.getD k 0→ao a<ao b)∧(b.getD k 0<a.getD k 0→ao b<ao a) :=
     ⟨fun h=>jH ha.2.1 hl (by omega) h (fun j x y=>hz j (by omega) y),fun h=>jH hb.2.1 hl.symm (by omega) h (fun j x y=>(hz j (by omega) (by omega)).symm)⟩
    refine⟨_,rfl,?_,?_,by omega,by omega⟩
    ·constructor
     ·intro h1;exact key.1 (by omega)
     ·intro h1
      apply Classical.byContradiction;intro h3
      have:=key.2 (by omega)
      omega
    ·constructor
     ·intro h1;omega
     ·intro h1
      rcases Nat.lt_or_ge (a.getD k 0) (b.getD k 0) with h3|h3
      ·have:=key.1 h3;omega
      ·have:=key.2 (by omega);omega
   ·simp -dsimp (disch:=omega) only[wpS,wpT,zE,f5]
    refine⟨k,by omega,rfl,by omega,by simp,by simp[f0],by simp[f1],fun j h3 h4=>?_⟩
    by_cases hjk:j=k
    ·subst hjk;exact Int.ofNat.inj hc
    ·exact hz j (by omega) h4
theorem uT (os:List Nat) (d:Nat):os.map KN ++ [KN d]=(os ++ [d]).map KN:=by simp
theorem Acc.block {h:IH} {n0 sz:Nat} {v:Value} {n:Nat} {cs:List Value} (a:Acc h n0 sz v n cs) {k:Nat} (hk:k<n0):dF v≠some (2*k):=by
 obtain⟨hz,hl,⟨rfl,_⟩|⟨j,fam,rfl,hn,h1,h2,h3,h4⟩⟩:=a
 ·intro h;cases h
 ·intro h
  have:2*j=2*k:=Option.some.inj h
  omega
theorem K1 {h:IH} {v w:Value} {a b:List Nat} (ha:gV h v a) (hb:gV h w b) (nb:Norm b) (hle:ao b≤ao a) :
  WV prog (.func (.func 201) #[] #[]) [v,w] h fun r h'=>(Ext h h'∧Dig h' r (ao a - ao b)) ∧ ∀k,k<h.n→dF r≠some (2*k):=by
 have la:=ha.2.2
 have lb:=hb.2.2
 refine enter (nt:=41) (rs:=[.tmp 4]) Proofs.Tryz.func201 rfl rfl rfl (by simp) ?_
 simp -dsimp (disch:=omega) only[wpS,zA]
 refine loop (fun m fr h1 => ∃(i bor:Nat) (os:List Nat) (out:Value),i+m=a.length∧ab fr 0=some v∧ab fr 1=some w∧ab fr 5=some out∧ab fr 6=some (KN bor)∧ab fr 7=some (KN i)∧bor≤1∧os.length=i∧bB os ∧
  aE a i+bor*4294967296 ^ i=aE b i+ao os∧Acc h1 h.n 1 out i (os.map KN)∧Ext h h1) a.length ⟨0,0,[],.slice none 0 0,by simp,by simp,by simp,by simp,by simp,by simp,by omega,rfl,fun d hd=>(by cases hd),by simp[aE,ao],Acc.nil _ _ (by omega),Ext.refl _⟩ ?_
 rintro m fr h1 ⟨i,bor,os,out,him,f0,f1,f5,f6,f7,QX,hos,hd,hv,hA,hE⟩
 simp -dsimp (disch:=omega) only[wpS,zE,f0,f7,ha.1.len fT]
 refine aq ?_ ?_<;>intro hc<;>simp only[decide_eq_true_eq,decide_eq_false_iff_not] at hc
 ·have hi:i<a.length:=by omega
  have da:=bH ha.2.1 i
  have db:=bH hb.2.1 i
  simp -dsimp (disch:=omega) only[wpS,wpT,zE,f0,f1,f6,f7,ha.1.idx jN hi,ha.1.ld hE.aa (P:=prog) (t:=3) (c:=i) (by simpa using hi) ag3,cc,get_some hi,hb.1.len fT]
  refine fC (fun fr2 h2=>h2=h1∧ab fr2 0=some v∧ab fr2 1=some w∧ab fr2 5=some out∧ab fr2 7=some (KN i)∧ab fr2 8=some (KI ((a.getD i 0:Int) - bor - (b.getD i 0:Int)))) (fun hc=>?_) (fun hc=>?_) ?_
  ·simp only[decide_eq_true_eq] at hc
   have hi2:i<b.length:=by omega
   simp -dsimp (disch:=omega) only[wpS,wpT,zE,f1,f7,hb.1.idx jN hi2,hb.1.ld hE.aa (P:=prog) (t:=3) (c:=i) (by simpa using hi2) ag3,cc,get_some hi2]
   exact⟨rfl,by simp[f0,f1,f5,f7]⟩
  ·simp only[decide_eq_false_iff_not] at hc
   simp -dsimp (disch:=omega) only[wpS,wpT]
   exact⟨rfl,by simp[f0],by simp[f1],by simp[f5],by simp[f7],by rw[cM (show b.length≤i by omega)];simp⟩
  ·rintro fr2 h2 ⟨rfl,f0,f1,f5,f7,f8⟩
   simp -dsimp (disch:=omega) only[wpS,zE,f8]
   refine fC (fun fr3 h3=>h3=h2∧ab fr3 0=some v∧ab fr3 1=some w∧ab fr3 5=some out∧ab fr3 7=some (KN i) ∧ ∃d R0:Nat,ab fr3 8=some (KN d)∧ab fr3 6=some (KN R0)∧d<4294967296∧R0≤1∧a.getD i 0+R0*4294967296=b.getD i 0+bor+d) (fun hc=>?_) (fun hc=>?_) ?_
   ·simp only[decide_eq_true_eq] at hc
    simp -dsimp (disch:=omega) only[wpS,wpT,zE,f8]
    refine⟨rfl,by simp[f0],by simp[f1],by simp[f5],by simp[f7],a.getD i 0+4294967296 - bor - b.getD i 0,1,?_,by simp,by omega,by omega,by omega⟩
    simp only[oo,zE,if_false,if_true]
    congr 2;omega
   ·simp only[decide_eq_false_iff_not] at hc
    simp -dsimp (disch:=omega) only[wpS,wpT]
    refine⟨rfl,by simp[f0],by simp[f1],by simp[f5],by simp[f7],a.getD i 0 - bor - b.getD i 0,0,?_,by simp,by omega,by omega,by omega⟩
    simp only[oo,zE,if_false,f8]
    congr 2;omega
   ·rintro fr3 h3 ⟨rfl,f0,f1,f5,f7,d,R0,f8,f6,hd2,hb2,jJ⟩
    obtain⟨dU,h',hap,hA',hG,hE'⟩:=hA.Et (P:=prog) (t:=25) Eu (x:=KN d) rfl (by omega) hE.n hE (Nat.le_refl _)
    simp -dsimp (disch:=omega) only[wpS,wpT,zE,zL,zA,Bf,lC,f5,f7,f8,hap]
    refine⟨m - 1,by omega,i+1,R0,os ++ [d],dU,by omega,by simp[f0],by simp[f1],by simp,by simp[f6],by simp,hb2,by simp[hos],hd.append hd2,?_,by rw[←uT];exact hA',hE'⟩
    rw[iV,aE,aE,hos]
    grind
 ·obtain rfl:i=a.length:=by omega
  have hbl:=nb.iO ha.2.1 hle
  rw[iE hbl,iE (Nat.le_refl _)] at hv
  have hlt:=jg hd
  rw[hos] at hlt
  have hb0:bor=0:=by
   apply Classical.byContradiction;intro hne
   have:bor=1:=by omega
   subst this;omega
  subst hb0
  have hD:gV h1 out os:=⟨by rw[hos];exact hA.sl,hd,by omega⟩
  simp -dsimp (disch:=omega) only[wpS,wpT,zE,f5]
  refine call ((wK hD).and (Oh hD)) ?_
  rintro r h2 ⟨⟨rfl,hr⟩,hbk⟩
  simp -dsimp (disch:=omega) only[wpS,zE]
  refine⟨⟨hE,?_⟩,fun k hk=>?_⟩
  ·rw[show ao a - ao b=ao os by omega];exact hr
  ·rw[hbk];exact hA.block hk
theorem yw {h:IH} {v w:Value} {a b:List Nat} (ha:gV h v a) (hb:gV h w b) (nb:Norm b) (hle:ao b≤ao a) :
  WV prog (.func (.func 201) #[] #[]) [v,w] h fun r h'=>Ext h h'∧Dig h' r (ao a - ao b):=(K1 ha hb nb hle).mono fun _ _ k=>k.1
theorem TB {h:IH} {v w:Value} {a b:List Nat} (ha:gV h v a) (hb:gV h w b) (la:a.length≤1000001) (lb:b.length≤1000001) :
  WV prog (.func (.func 222) #[] #[]) [v,w] h fun r h'=>Ext h h' ∧ ∃os,gV h' r os∧ao os=ao a+ao b:=by
 refine enter (nt:=52) (rs:=[.tmp 4]) Proofs.Tryz.func222 rfl rfl rfl (by simp) ?_
 simp -dsimp (disch:=omega) only[wpS,zA]
 refine loop (fun m fr h1 => ∃(i c:Nat) (os:List Nat) (out:Value),i+m=1000003∧ab fr 0=some v∧ab fr 1=some w∧ab fr 5=some out∧ab fr 6=some (KN c)∧ab fr 7=some (KN i)∧c≤1∧os.length=i∧bB os∧i≤1000002∧(1000001<i→c=0) ∧
  ao os+c*4294967296 ^ i=aE a i+aE b i∧Acc h1 h.n 1 out i (os.map KN)∧Ext h h1) 1000003 ⟨0,0,[],.slice none 0 0,by simp,by simp,by simp,by simp,by simp,by simp,by omega,rfl,fun d hd=>(by cases hd),by omega,by omega,by simp[aE,ao],Acc.nil _ _ (by omega),Ext.refl _⟩ ?_
 rintro m fr h1 ⟨i,c,os,out,him,f0,f1,f5,f6,f7,hcc,hos,hd,hi2,hi3,hv,hA,hE⟩
 rw[mu]
 by_cases hcont:i<a.length∨i<b.length∨0<c
 ·refine cut (fun fr2 h2=>h2=h1∧ab fr2 0=some v∧ab fr2 1=some w∧ab fr2 5=some out∧ab fr2 6=some (KN c)∧ab fr2 7=some (KN i)) ?_ ?_
  ·by_cases c1:i<a.length
   ·simp -dsimp (disch:=omega) only[wpS,wpT,zE,f0,f7,ha.1.len fT]
    exact⟨rfl,by simp[f0,f1,f5,f6,f7]⟩
   ·by_cases c2:i<b.length
    ·simp -dsimp (disch:=omega) only[wpS,wpT,zE,f0,f1,f7,ha.1.len fT,hb.1.len fT]
     exact⟨rfl,by simp[f0,f1,f5,f6,f7]⟩
    ·simp -dsimp (disch:=omega) only[wpS,wpT,zE,f0,f1,f6,f7,ha.1.len fT,hb.1.len fT]
     exact⟨rfl,by simp[f0,f1,f5,f6,f7]⟩
  ·rintro fr2 h2 ⟨rfl,f0,f1,f5,f6,f7⟩
   have da:=bH ha.2.1 i
   have db:=bH hb.2.1 i
   simp -dsimp (disch:=omega) only[wpS,zE,f0,f7,ha.1.len fT]
   refine fC (fun fr3 h3=>h3=h2∧ab fr3 0=some v∧ab fr3 1=some w∧ab fr3 5=some out∧ab fr3 7=some (KN i)∧ab fr3 6=some (KN (c+a.getD i 0))) (fun hc=>?_) (fun hc=>?_) ?_
   ·simp only[decide_eq_true_eq] at hc
    have hi:i<a.length:=by omega
    simp -dsimp (disch:=omega) only[wpS,wpT,zE,f0,f6,f7,ha.1.idx jN hi,ha.1.ld hE.aa (P:=prog) (t:=3) (c:=i) (by simpa using hi) ag3,cc,get_some hi]
    exact⟨rfl,by simp[f0,f1,f5,f7]⟩
   ·simp only[decide_eq_false_iff_not] at hc
    simp -dsimp (disch:=omega) only[wpS,wpT]
    exact⟨rfl,by simp[f0],by simp[f1],by simp[f5],by simp[f7],by rw[cM (show a.length≤i by omega)];simp[f6]⟩
   ·rintro fr3 h3 ⟨rfl,f0,f1,f5,f7,f6⟩
    simp -dsimp (disch:=omega) only[wpS,zE,f1,f7,hb.1.len fT]
    refine fC (fun fr4 h4=>h4=h3∧ab fr4 0=some v∧ab fr4 1=some w∧ab fr4 5=some out∧ab fr4 7=some (KN i)∧ab fr4 6=some (KN (c+a.getD i 0+b.getD i 0))) (fun hc=>?_) (fun hc=>?_) ?_
    ·simp only[decide_eq_true_eq] at hc
     have hi:i<b.length:=by omega
     simp -dsimp (disch:=omega) only[wpS,wpT,zE,f1,f6,f7,hb.1.idx jN hi,hb.1.ld hE.aa (P:=prog) (t:=3) (c:=i) (by simpa using hi) ag3,cc,get_some hi]
     exact⟨rfl,by simp[f0,f1,f5,f7]⟩
    ·simp only[decide_eq_false_iff_not] at hc
     simp -dsimp (disch:=omega) only[wpS,wpT]
     exact⟨rfl,by simp[f0],by simp[f1],by simp[f5],by simp[f7],by rw[cM (show b.length≤i by omega)];simp[f6]⟩
    ·rintro fr4 h4 ⟨rfl,f0,f1,f5,f7,f6⟩
     have hi5:i≤1000001:=by
      apply Classical.byContradiction;intro hn
      have:=hi3 (by omega)
      omega
     generalize hs:c+a.getD i 0+b.getD i 0=s at f6
     have e1:((s:Int) % 4294967296)=((s % 4294967296:Nat):Int):=by omega
     have e2:((s:Int) / 4294967296)=((s / 4294967296:Nat):Int):=by omega
     obtain⟨dU,h',hap,hA',hG,hE'⟩:=hA.Et (P:=prog) (t:=25) Eu (x:=KN (s % 4294967296)) rfl (by omega) hE.n hE (Nat.le_refl _)
     simp -dsimp (disch:=omega) only[wpS,wpT,zE,zL,zA,Bf,lC,f5,f6,f7,e1,hap,e2]
     refine⟨m - 1,by omega,i+1,s / 4294967296,os ++ [s % 4294967296],dU,by omega,by simp[f0],by simp[f1],by simp,by simp,by simp,by omega,by simp[hos],hd.append (by omega),by omega,fun hh=>?_,?_,by rw[←uT];exact hA',hE'⟩
     ·have h1:=cM (ds:=a) (k:=i) (by omega)
      have h2:=cM (ds:=b) (k:=i) (by omega)
      omega
     ·rw[iV,aE,aE,hos]
      have h5:s % 4294967296+s / 4294967296*4294967296=c+a.getD i 0+b.getD i 0:=by omega
      grind
 ·refine cut (fun fr2 h2=>False) ?_ (fun _ _ h=>h.elim)
  simp -dsimp (disch:=omega) only[wpS,wpT,zE,f0,f1,f5,f6,f7,ha.1.len fT,hb.1.len fT]
  obtain rfl:c=0:=by omega
  rw[iE (by omega),iE (by omega)] at hv
  exact⟨hE,os,⟨by rw[hos];exact hA.sl,hd,by omega⟩,by omega⟩
end Go.Id
namespace Go.Id
open Go
open Nat renaming reduceAdd→zA,reduceEqDiff→zE,reduceLeDiff→zL
set_option maxHeartbeats 16000000
@[irreducible] def Small (x:Nat):Prop:=x<4294967296 ^ 1000000
theorem Small.lt {x:Nat} (h:Small x):x<4294967296 ^ 1000000:=by unfold Small at h;exact h
theorem Small.mk {x:Nat} (h:x<4294967296 ^ 1000000):Small x:=by unfold Small;exact h
theorem Small.le {x y:Nat} (h:Small x) (k:y≤x):Small y:=.mk (Nat.lt_of_le_of_lt k h.lt)
theorem Norm.small {ds:List Nat} (h:Norm ds) (hs:Small (ao ds)):ds.length≤1000000:=by
 by_cases hne:ds = []
 ·subst hne;simp
 ·have h1:=h.ge hne
  have h2:4294967296 ^ (ds.length - 1)<4294967296 ^ 1000000:=Nat.lt_of_le_of_lt h1 hs.lt
  have:=(Nat.pow_lt_pow_iff_right (a:=4294967296) (by omega)).1 h2
  omega
abbrev aU (z:Int):Prop:=Small z.natAbs
theorem C6 {h:IH} {v:Value} {z:Int} (hv:ba h v z):WV Proofs.Tryz.prog (.func (.func 233) #[] #[]) [v] h fun r h'=>Ext h h'∧ba h' r (-z):=by
 obtain⟨s,rfl,ds,hD,hN,hx⟩:=hv
 refine enter (nt:=9) (rs:=[.cell 2 175]) Proofs.Tryz.func233 rfl rfl rfl (by simp) ?_
 simp -dsimp (disch:=try exact dx) only[wpS,zE,kS,dL,ld4,fc,qM]
 refine call (j0 (hD.aa (((aJ.refl h).new _).new _)) _) ?_
 rintro r h1 ⟨hE,s1,rfl,h2⟩
 have hg:h1.ext.get (h.n+1)=some (.cells [.bool false,.slice none 0 0] 0 none):=by
  rw[hE.get _ (by simp)];exact ah _ _ rfl
 obtain⟨ds1,hD1,hr1⟩:=h2
 simp -dsimp (disch:=try exact dx) only[wpS,wpT,zE,zL,zA,gF,bW,hg,hD1.1.cok]
 refine⟨((((Ext.refl h).new _).new _).trans hE).put (by omega) _,?_⟩
 have hz:(if (!decide (z<0))=true then -(ao ds:Int) else ao ds) = -z:=by
  by_cases h0:z<0<;>simp[h0]<;>omega
 rw[hz] at hr1 ⊢
 exact⟨s1,rfl,ds1,hD1.aa ((aJ.refl _).put hg _),hr1⟩
theorem yk {h:IH} {v w:Value} {x y:Int} (hv:ba h v x) (hw:ba h w y) (sx:aU x) (sy:aU y) :
  WV Proofs.Tryz.prog (.func (.func 141) #[] #[]) [v,w] h fun r h'=>Ext h h'∧ba h' r (x+y):=by
 obtain⟨s,rfl,a,ha,na,hx⟩:=hv
 obtain⟨t,rfl,b,hb,nb,hy⟩:=hw
 have la:a.length≤1000000:=na.small (by rw[hx];exact sx)
 have lb:b.length≤1000000:=nb.small (by rw[hy];exact sy)
 refine enter (nt:=40) (rs:=[.cell 4 175]) Proofs.Tryz.func141 rfl rfl rfl (by simp) ?_
 simp -dsimp (disch:=try exact dx) only[wpS,zE,zA,kS,dL,ld4,be4]
 have kk : ∀o1 o2 o3,aJ h (((h.new o1).new o2).new o3):=fun o1 o2 o3=>(((aJ.refl h).new _).new _).new _
 have ee : ∀o1 o2 o3,Ext h (((h.new o1).new o2).new o3):=fun o1 o2 o3=>(((Ext.refl h).new _).new _).new _
 refine aq (fun hc=>?_) (fun hc=>?_)
 ·have hc:(x<0↔y<0):=by simpa using hc
  simp -dsimp (disch:=try exact dx) only[wpS]
  refine drawn [(1,[7])] (by kernel_rfl) (by kernel_rfl) rfl ?_
  simp -dsimp (disch:=try exact dx) only[wpS,zE,dL,ld4,fc,qM]
  refine call (TB (ha.aa (kk _ _ _)) (hb.aa (kk _ _ _)) (by omega) (by omega)) ?_
  rintro r h1 ⟨hE,os,hD,nV⟩
  simp -dsimp (disch:=try exact dx) only[wpS,zE]
  refine call (j0 hD _) ?_
  rintro r2 h2 ⟨hE2,s1,rfl,ds1,hD1,hr1⟩
  have hg:h2.ext.get (h.n+1+1)=some (.cells [.bool false,.slice none 0 0] 0 none):=by
   rw[hE2.get _ (by have:=hE.n;simp at this;omega),hE.get _ (by simp)];exact ah _ _ rfl
  have fl : ∀k',k'≤h.n→True:=fun _ _=>trivial
  have hr0:h1.row (2*h.n)=some [.bool (decide (x<0)),s]:=by
   rw[hE.row (by simp<;>omega)];simp -dsimp (disch:=try exact dx) only[wpS]
  simp -dsimp (disch:=try exact dx) only[wpS,wpT,zE,zL,zA,gF,hg,hD1.1.cok]
  refine⟨ad rfl rfl rfl rfl (ai (av:=ptr (2*h.n) 0) (v:=.bool (decide (x<0))) rfl ?_ ?_),?_⟩
  ·simp -dsimp (disch:=try exact dx) only[wpS,ld4]
  ·simp -dsimp (disch:=try exact dx) only[wpS,ld4,hr0]
  ·simp -dsimp (disch:=try exact dx) only[wpS,wpT,zE,zL,zA,bW]
   refine⟨(((ee _ _ _).trans hE).trans hE2).put (by omega) _,?_⟩
   have hz:(if decide (x<0)=true then -(ao os:Int) else ao os)=x+y:=by
    by_cases h0:x<0<;>simp[h0]<;>omega
   rw[hz] at hr1 ⊢
   exact⟨s1,rfl,ds1,hD1.aa ((aJ.refl _).put hg _),hr1⟩
 ·have hc : ¬(x<0↔y<0):=by simpa using hc
  simp -dsimp (disch:=try exact dx) only[wpS,zE,fc,qM]
  refine call (zG (ha.aa (kk _ _ _)) (hb.aa (kk _ _ _)) na nb) ?_
  rintro r h1 ⟨rfl,c,rfl,hc1,hc2,hc3,hc4⟩
  simp -dsimp (disch:=try exact dx) only[wpS,zE]
  refine aq ?_ ?_<;>intro hc5<;>simp only[decide_eq_true_eq,decide_eq_false_iff_not] at hc5
  ·simp -dsimp (disch:=try exact dx) only[wpS,wpT]
   refine drawn [(1,[7])] (by kernel_rfl) (by kernel_rfl) rfl ?_
   simp -dsimp (disch:=try exact dx) only[wpS,zE,dL,ld4,fc,qM]
   refine call (yw (ha.aa (kk _ _ _)) (hb.aa (kk _ _ _)) nb (by omega)) ?_
   rintro r h1 ⟨hE,os,hD,hN,nV⟩
   simp -dsimp (disch:=try exact dx) only[wpS,zE]
   refine call (j0 hD _) ?_
   rintro r2 h2 ⟨hE2,s1,rfl,ds1,hD1,hr1⟩
   have hg:h2.ext.get (h.n+1+1)=some (.cells [.bool false,.slice none 0 0] 0 none):=by
    rw[hE2.get _ (by have:=hE.n;simp at this;omega),hE.get _ (by simp)];exact ah _ _ rfl
   have hr0:h1.row (2*h.n)=some [.bool (decide (x<0)),s]:=by
    rw[hE.row (by simp<;>omega)];simp -dsimp (disch:=try exact dx) only[wpS]
   simp -dsimp (disch:=try exact dx) only[wpS,wpT,zE,zL,zA,gF,hg,hD1.1.cok]
   refine⟨ad rfl rfl rfl rfl (ai (av:=ptr (2*h.n) 0) (v:=.bool (decide (x<0))) rfl ?_ ?_),?_⟩
   ·simp -dsimp (disch:=try exact dx) only[wpS,ld4]
   ·simp -dsimp (disch:=try exact dx) only[wpS,ld4,hr0]
   ·simp -dsimp (disch:=try exact dx) only[wpS,wpT,zE,zL,zA,bW]
    refine⟨(((ee _ _ _).trans hE).trans hE2).put (by omega) _,?_⟩
    have hz:(if decide (x<0)=true then -(ao os:Int) else ao os).natAbs=(x+y).natAbs∧((if decide (x<0)=true then -(ao os:Int) else ao os)<0↔x+y<0):=by
     by_cases h0:x<0<;>simp[h0]<;>omega
    rw[hz.1] at hr1
    refine⟨s1,?_,ds1,hD1.aa ((aJ.refl _).put hg _),hr1⟩
    simp only[hz.2]<;>rfl
  ·simp -dsimp (disch:=try exact dx) only[wpS,wpT]
   refine drawn [(1,[7])] (by kernel_rfl) (by kernel_rfl) rfl ?_
   simp -dsimp (disch:=try exact dx) only[wpS,zE,dL,ld4,fc,qM]
   refine call (yw (hb.aa (kk _ _ _)) (ha.aa (kk _ _ _)) na (by omega)) ?_
   rintro r h1 ⟨hE,os,hD,hN,nV⟩
   simp -dsimp (disch:=try exact dx) only[wpS,zE]
   refine call (j0 hD _) ?_
   rintro r2 h2 ⟨hE2,s1,rfl,ds1,hD1,hr1⟩
   have hg:h2.ext.get (h.n+1+1)=some (.cells [.bool false,.slice none 0 0] 0 none):=by
    rw[hE2.get _ (by have:=hE.n;simp at this;omega),hE.get _ (by simp)];exact ah _ _ rfl
   have hr0:h1.row (2*(h.n+1))=some [.bool (decide (y<0)),t]:=by
    rw[hE.row (by simp<;>omega)];simp -dsimp (disch:=try exact dx) only[wpS]
   simp -dsimp (disch:=try exact dx) only[wpS,wpT,zE,zL,zA,gF,hg,hD1.1.cok]
   refine⟨ad rfl rfl rfl rfl (ai (av:=ptr (2*(h.n+1)) 0) (v:=.bool (decide (y<0))) rfl ?_ ?_),?_⟩
   ·simp -dsimp (disch:=try exact dx) only[wpS,ld4]
   ·simp -dsimp (disch:=omega) only[wpS,ld4,hr0]
   ·simp -dsimp (disch:=omega) only[wpS,wpT,zE,zL,zA,bW]
    refine⟨(((ee _ _ _).trans hE).trans hE2).put (by omega) _,?_⟩
    have hz:(if decide (y<0)=true then -(ao os:Int) else ao os).natAbs=(x+y).natAbs∧((if decide (y<0)=true then -(ao os:Int) else ao os)<0↔x+y<0):=by
     by_cases h0:y<0<;>simp[h0]<;>omega
    rw[hz.1] at hr1
    refine⟨s1,?_,ds1,hD1.aa ((aJ.refl _).put hg _),hr1⟩
    simp only[hz.2]<;>rfl
theorem ba.form {h:IH} {v:Value} {z:Int} (d:ba h v z) : ∃s n,v=.agg #[.bool (decide (z<0)),s]∧s.cells = #[s]∧aA s=true∧(∀{P:Program} {t:TypeId} (_:bZ P (some t)=true) (h':IH),nB P h' t s=some (.int .i64 ((n:Nat):Int)))∧(n=0↔z=0):=by
 obtain⟨s,rfl,ds,hD,hN,hx⟩:=d
 refine⟨s,ds.length,rfl,hD.1.cells,hD.1.cok,fun hT h'=>hD.1.len hT h',?_⟩
 have:=hN.jZ
 rw[hx] at this
 rw[List.length_eq_zero_iff,←this];omega
theorem Gw {h:IH} {v w:Value} {x y:Int} (hv:ba h v x) (hw:ba h w y) (sx:aU x) (sy:aU y) :
  WV Proofs.Tryz.prog (.func (.func 220) #[] #[]) [v,w] h fun r h'=>Ext h h'∧ba h' r (x - y):=by
 obtain⟨s,n1,rfl,c1,o1,l1,z1⟩:=hv.form
 obtain⟨t,n2,rfl,c2,o2,l2,z2⟩:=hw.form
 refine enter (nt:=9) (rs:=[.cell 4 175]) Proofs.Tryz.func220 rfl rfl rfl (by simp) ?_
 simp -dsimp (disch:=try exact dx) only[wpS,zE,zA,kS]
 have kk : ∀o1 o2 o3,aJ h (((h.new o1).new o2).new o3):=fun o1 o2 o3=>(((aJ.refl h).new _).new _).new _
 have ee : ∀o1 o2 o3,Ext h (((h.new o1).new o2).new o3):=fun o1 o2 o3=>(((Ext.refl h).new _).new _).new _
 refine drawn [(0,[3])] (by kernel_rfl) (by kernel_rfl) rfl ?_
 simp -dsimp (disch:=try exact dx) only[wpS,wpT,zE,zL,zA,bW]
 refine call (C6 (hw.aa (kk _ _ _))) ?_
 rintro r h1 ⟨hE,hT⟩
 simp -dsimp (disch:=try exact dx) only[wpS,zE]
 refine call (yk (hv.aa ((kk _ _ _).trans hE.aa)) hT sx (by rw[aU,Int.natAbs_neg];exact sy)) ?_
 rintro r2 h2 ⟨hE2,hr⟩
 obtain⟨s1,n3,rfl,c3,o3,l3,z3⟩:=hr.form
 have hg:h2.ext.get (h.n+1+1)=some (.cells [.bool false,.slice none 0 0] 0 none):=by
  rw[hE2.get _ (by have:=hE.n;simp at this;omega),hE.get _ (by simp)];exact ah _ _ rfl
 have hr0:h1.row (2*h.n)=some [.bool (decide (x<0)),s]:=by
  rw[hE.row (by simp<;>omega)];simp -dsimp (disch:=try exact dx) only[wpS]
 simp -dsimp (disch:=try exact dx) only[wpS,wpT,zE,zL,zA,gF,hg,o3]
 refine⟨ad rfl rfl rfl rfl (ai (av:=ptr (2*h.n) 0) (v:=.agg #[.bool (decide (x<0)),s]) rfl ?_ ?_),?_⟩
 ·simp -dsimp (disch:=try exact dx) only[wpS,wpT,zL,zA,bW]
  rfl
 ·simp -dsimp (disch:=omega) only[wpS,wpT,zL,zA,bW,hr0]
  rfl
 ·simp -dsimp (disch:=omega) only[wpS,wpT,zE,zL,zA,bW]
  refine⟨(((ee _ _ _).trans hE).trans hE2).put (by omega) _,?_⟩
  have:x + -y=x - y:=by omega
  rw[this] at hr ⊢
  exact hr.aa ((aJ.refl _).put hg _)
theorem B6 {h:IH} {v w:Value} {x y:Int} (hv:ba h v x) (hw:ba h w y) (sx:aU x) (sy:aU y) :
  WV Proofs.Tryz.prog (.func (.func 143) #[] #[]) [v,w] h fun r h'=>Ext h h'∧r=KI (if x<y then -1 else if y<x then 1 else 0):=by
 obtain⟨s,n1,rfl,c1,o1,l1,z1⟩:=hv.form
 obtain⟨t,n2,rfl,c2,o2,l2,z2⟩:=hw.form
 refine enter (nt:=15) (rs:=[.tmp 4]) Proofs.Tryz.func143 rfl rfl rfl (by simp) ?_
 simp -dsimp (disch:=try exact dx) only[wpS,wpT,zE,zL,zA,bW]
 refine call (Gw (hv.aa (((aJ.refl h).new _).new _)) (hw.aa (((aJ.refl h).new _).new _)) sx sy) ?_
 rintro r h1 ⟨hE,hr⟩
 obtain⟨s1,n3,rfl,c3,o3,l3,z3⟩:=hr.form
 have hE2:Ext h h1:=(((Ext.refl h).new _).new _).trans hE
 simp -dsimp (disch:=omega) only[wpS,wpT,zE,zL,zA,kS,gF,dL,ld4,o3]
 refine aq ?_ ?_<;>intro hc<;>simp only[decide_eq_true_eq,decide_eq_false_iff_not] at hc
 ·simp -dsimp (disch:=omega) only[wpS,wpT,zE]
  refine⟨(hE2.new _).put hE2.n _,?_⟩
  rw[if_pos (by omega)]
 ·simp -dsimp (disch:=omega) only[wpS,wpT,zE,fc,qM,l3 fT]
  refine aq ?_ ?_<;>intro hc2<;>simp only[decide_eq_true_eq,decide_eq_false_iff_not] at hc2
  ·simp -dsimp (disch:=omega) only[wpS,wpT,zE]
   refine⟨(hE2.new _).put hE2.n _,?_⟩
   rw[if_neg (by omega),if_pos (by omega)]
  ·simp -dsimp (disch:=omega) only[wpS,wpT]
   refine⟨(hE2.new _).put hE2.n _,?_⟩
   rw[if_neg (by omega),if_neg (by omega)]
end Go.Id
namespace Go.Id
def wrd (n i:Nat):Nat:=n / 18446744073709551616 ^ i % 18446744073709551616
theorem vK (n i:Nat):wrd n i<18446744073709551616:=Nat.mod_lt _ (by omega)
theorem DG (n i:Nat):n % 18446744073709551616 ^ (i+1)=n % 18446744073709551616 ^ i+18446744073709551616 ^ i*wrd n i:=Nat.mod_pow_succ
theorem pow_two (i:Nat):4294967296 ^ (2*i)=18446744073709551616 ^ i:=by
 rw[Nat.pow_mul]
theorem Dw (i:Nat):4294967296 ^ (2*i+1)=4294967296*18446744073709551616 ^ i:=by
 rw[Nat.pow_succ,pow_two,Nat.mul_comm]
theorem tZ {n i j:Nat} (h:n<18446744073709551616 ^ i) (hj:i≤j):wrd n j=0:=by
 have:n<18446744073709551616 ^ j:=Nat.lt_of_lt_of_le h (Nat.pow_le_pow_right (by omega) hj)
 rw[wrd,Nat.div_eq_of_lt this]
theorem pU {n x i j:Nat} (hj:j<i):wrd (n+x*18446744073709551616 ^ i) j=wrd n j:=by
 obtain⟨d,rfl⟩ : ∃d,i=j+1+d:=⟨i - j - 1,by omega⟩
 rw[wrd,wrd,show x*18446744073709551616 ^ (j+1+d)=18446744073709551616 ^ j*(18446744073709551616*(x*18446744073709551616 ^ d)) from by
  rw[Nat.pow_add,Nat.pow_add];grind]
 rw[Nat.add_mul_div_left _ _ (Nat.pow_pos (by omega)),Nat.add_mul_mod_self_left]
theorem yJ {n x i:Nat} (h:n<18446744073709551616 ^ (i+1)) (hx:wrd n i+x<18446744073709551616):wrd (n+x*18446744073709551616 ^ i) i=wrd n i+x:=by
 have h1:n / 18446744073709551616 ^ i<18446744073709551616:=by
  rw[Nat.div_lt_iff_lt_mul (Nat.pow_pos (by omega))]
  rw[Nat.pow_succ] at h;rw[Nat.mul_comm];exact h
 have h2:wrd n i=n / 18446744073709551616 ^ i:=Nat.mod_eq_of_lt h1
 rw[wrd,Nat.add_mul_div_right _ _ (Nat.pow_pos (by omega)),←h2,Nat.mod_eq_of_lt hx]
theorem OL {n x i:Nat} (h:n<18446744073709551616 ^ (i+1)) (hx:wrd n i+x<18446744073709551616):n+x*18446744073709551616 ^ i<18446744073709551616 ^ (i+1):=by
 have h1:n / 18446744073709551616 ^ i<18446744073709551616:=by
  rw[Nat.div_lt_iff_lt_mul (Nat.pow_pos (by omega))]
  rw[Nat.pow_succ] at h;rw[Nat.mul_comm];exact h
 have h2:wrd n i=n / 18446744073709551616 ^ i:=Nat.mod_eq_of_lt h1
 have hp:0<18446744073709551616 ^ i:=Nat.pow_pos (by omega)
 have h3:=Nat.div_add_mod n (18446744073709551616 ^ i)
 have h4:=Nat.mod_lt n hp
 rw[h2] at hx
 have h5:(n / 18446744073709551616 ^ i+x+1)*18446744073709551616 ^ i≤18446744073709551616*18446744073709551616 ^ i:=Nat.mul_le_mul_right _ (by omega)
 rw[Nat.pow_succ]
 generalize 18446744073709551616 ^ i=p at *
 have h6:(n / p+x+1)*p=p*(n / p)+x*p+p:=by grind
 rw[Nat.mul_comm 18446744073709551616 p] at h5
 omega
@[irreducible] def W8:Nat:=18446744073709551616 ^ 8
@[irreducible] def H8:Nat:=9223372036854775808*18446744073709551616 ^ 7
theorem vE:W8=18446744073709551616 ^ 8:=by unfold W8;rfl
theorem pF:W8=2*H8:=by unfold W8 H8;rfl
theorem AU:W8=4294967296 ^ 16:=by unfold W8;rfl
theorem XV:H8=2147483648*4294967296 ^ 15:=by unfold H8;rfl
theorem tY:9223372036854775808<H8:=by unfold H8;decide
def wdI (n:Nat):Int:=if n<H8 then (n:Int) else (n:Int) - W8
theorem VP {n:Nat} (h:n<W8):wrd n 7<9223372036854775808↔n<H8:=by
 rw[vE] at h
 unfold H8
 have h1:n / 18446744073709551616 ^ 7<18446744073709551616:=by
  rw[Nat.div_lt_iff_lt_mul (Nat.pow_pos (by decide))];exact h
 rw[wrd,Nat.mod_eq_of_lt h1,Nat.div_lt_iff_lt_mul (Nat.pow_pos (by decide))]
open Go
set_option maxHeartbeats 16000000
def wdC (n:Nat):List Value:=(List.range 8).map fun i=>K64 (wrd n i)
def wdV (n:Nat):Value:=.agg (wdC n).toArray
theorem ar (n:Nat):(wdC n).length=8:=by simp[wdC]
theorem du (n i:Nat) (hi:i<8):(wdC n)[i]?=some (K64 (wrd n i)):=by simp[wdC,hi]
theorem Bm (n:Nat):(wdV n).cells.toList=wdC n:=rfl
theorem cb (n:Nat):(wdC n).all aA=true:=by simp[wdC,aA]
theorem NT {h:IH} (n:Nat):WV Proofs.Tryz.prog (.func (.func 217) #[] #[]) [wdV n] h fun r h'=>Ext h h' ∧ ∃os,gV h' r os∧os.length=16∧ao os=n % W8:=by
 refine enter (nt:=23) (rs:=[.tmp 2]) Proofs.Tryz.func217 rfl rfl rfl (by simp) ?_
 simp -dsimp (disch:=omega) only[wpS,Bm]
 refine loop (fun m fr h1 => ∃(i:Nat) (os:List Nat) (out:Value),i+m=8∧ab fr 1=some (ptr (2*h.n) 0)∧ab fr 3=some out∧ab fr 4=some (KN i)∧os.length=2*i∧bB os∧ao os=n % 18446744073709551616 ^ i ∧
  Acc h1 (h.n+1) 1 out (2*i) (os.map KN)∧Ext (h.new (.cells (wdC n) 0 none)) h1) 8 ⟨0,[],.slice none 0 0,by simp,by simp,by simp,by simp,rfl,fun d hd=>(by cases hd),by simp[ao,aE,Nat.mod_one],Acc.nil _ _ (by omega),Ext.refl _⟩ ?_
 rintro m fr h1 ⟨i,os,out,him,f1,f3,f4,hos,hd,hv,hA,hE⟩
 have hr:h1.row (2*h.n)=some (wdC n):=by rw[hE.row (by simp)];exact jk _ _ _ _ rfl
 simp -dsimp (disch:=omega) only[wpS,Nat.reduceEqDiff,f4]
 refine aq ?_ ?_<;>intro hc<;>simp only[decide_eq_true_eq,decide_eq_false_iff_not] at hc
 ·have hi:i<8:=by omega
  have hw:=vK n i
  have e1:((wrd n i:Int) % 4294967296)=((wrd n i % 4294967296:Nat):Int):=by omega
  have e2:((wrd n i:Int) / 4294967296)=((wrd n i / 4294967296:Nat):Int):=by omega
  simp -dsimp (disch:=omega) only[wpS,wpT]
  refine drawn [(3,[12]),(8,[12])] (by kernel_rfl) (by kernel_rfl) rfl ?_
  obtain⟨dU,h',hap,hA',hG,hE'⟩:=hA.app2 (P:=Proofs.Tryz.prog) (t:=25) Eu (x:=KN (wrd n i % 4294967296)) (y:=KN (wrd n i / 4294967296)) rfl rfl (by omega) hE.n hE (by simp)
  simp -dsimp (disch:=omega) only[wpS,wpT,Nat.reduceEqDiff,Nat.reduceLeDiff,Nat.reduceAdd,Nat.reduceMul,tV,rY,Az,Bf,lC,f1,f3,f4,hr,tV,du n i hi,e1,e2,hap]
  refine⟨jS (ad rfl rfl rfl rfl (ai (av:=ptr (2*h.n) (0+i)) (v:=K64 (wrd n i)) (by simp) ?_ ?_)) (ad rfl rfl rfl rfl (ai (av:=ptr (2*h.n) (0+i)) (v:=K64 (wrd n i)) (by simp) ?_ ?_)),?_⟩
  ·simp -dsimp (disch:=omega) only[wpS,rY,hr,du n i hi]
  ·have:=hE.n
   simp at this
   simp -dsimp (disch:=omega) only[wpS,rY,hr,du n i hi]
  ·simp -dsimp (disch:=omega) only[wpS,rY,hr,du n i hi]
  ·have:=hE.n
   simp at this
   simp -dsimp (disch:=omega) only[wpS,rY,hr,du n i hi]
  ·simp -dsimp (disch:=omega) only[wpS,wpT,Nat.reduceEqDiff,Nat.reduceAdd,f4]
   refine⟨m - 1,by omega,i+1,os ++ [wrd n i % 4294967296] ++ [wrd n i / 4294967296],dU,by omega,by simp[f1],by simp,by simp,by simp[hos];omega,(hd.append (by omega)).append (by omega),?_,?_,hE'⟩
   ·rw[iV,iV,hv,DG]
    have h1:(os ++ [wrd n i % 4294967296]).length=2*i+1:=by simp[hos]
    rw[h1,hos,pow_two,Dw]
    have h2:wrd n i % 4294967296+4294967296*(wrd n i / 4294967296)=wrd n i:=Nat.mod_add_div _ _
    generalize hx:wrd n i % 4294967296=x at *
    generalize hy:wrd n i / 4294967296=y at *
    rw[←h2]
    grind
   ·have:List.map KN os ++ [KN (wrd n i % 4294967296),KN (wrd n i / 4294967296)]=(os ++ [wrd n i % 4294967296] ++ [wrd n i / 4294967296]).map KN:=by simp
    rw[←this];exact hA'
 ·obtain rfl:i=8:=by omega
  simp -dsimp (disch:=omega) only[wpS,wpT,Nat.reduceEqDiff,f3]
  exact⟨((Ext.refl h).new _).trans hE,os,⟨by rw[hos];exact hA.sl,hd,by omega⟩,hos,by rw[vE];exact hv⟩
end Go.Id
