/-
  Fractions: lowest terms, sizes; loads of what was there before. Lists of fractions: their cells, sums, sizes.
-/
import Derived.Test.YtnanhedgenokpaaGreatTemperDetailedAs
import Derived.Test.YtnanhedgenokpaaGreatTemperDetailedAr
import Init
set_option linter.unusedVariables false
set_option linter.unusedSimpArgs false
set_option linter.defProp false
set_option linter.deprecated false
namespace Go.Id
open Go
def QB (k:Nat) (q:Rat):Prop:=q.num.natAbs≤2 ^ k∧q.den≤2 ^ k
theorem QB.mono {a b:Nat} {x:Rat} (h:QB a x) (k:a≤b):QB b x :=
 ⟨Nat.le_trans h.1 (Nat.pow_le_pow_right (by omega) k),Nat.le_trans h.2 (Nat.pow_le_pow_right (by omega) k)⟩
theorem low_pos {n d:Int} (hd:0<d):n / (Int.gcd n d:Int)=(Rat.divInt n d).num∧d / (Int.gcd n d:Int)=(Rat.divInt n d).den:=by
 constructor
 ·rw[Rat.num_divInt,Int.sign_eq_one_of_pos hd,Int.one_mul,Int.gcd_comm d n]
 ·rw[Rat.den_divInt,if_neg (by omega),Int.gcd_comm d n]
  have:(d.natAbs:Int)=d:=by omega
  rw[Int.natCast_ediv,this]
theorem low_neg {n d:Int} (hd:d<0) : -(n / (Int.gcd n d:Int))=(Rat.divInt n d).num ∧ -(d / (Int.gcd n d:Int))=(Rat.divInt n d).den:=by
 constructor
 ·rw[Rat.num_divInt,Int.sign_eq_neg_one_of_neg hd,Int.gcd_comm d n,Int.neg_one_mul,Int.neg_ediv_of_dvd (Int.gcd_dvd_left ..)]
 ·rw[Rat.den_divInt,if_neg (by omega),Int.gcd_comm d n]
  have:(d.natAbs:Int) = -d:=by omega
  rw[Int.natCast_ediv,this,Int.neg_ediv_of_dvd (Int.gcd_dvd_right ..)]
theorem gcd_ne {n d:Int} (hd:d≠0):(Int.gcd n d:Int)≠0:=by
 intro h
 have:Int.gcd n d=0:=by omega
 rw[Int.gcd_eq_zero_iff] at this
 exact hd this.2
theorem low_sign {n d:Int} (hd:d≠0):d / (Int.gcd n d:Int)<0↔d<0:=by
 rcases Int.lt_or_gt_of_ne hd with h|h
 ·have:=(low_neg (n:=n) h).2
  have:=(Rat.divInt n d).den_pos
  omega
 ·have:=(low_pos (n:=n) h).2
  have:=(Rat.divInt n d).den_pos
  omega
theorem ediv_abs (n:Int) (g:Nat):(n / (g:Int)).natAbs≤n.natAbs:=by
 rcases Int.le_total 0 n with h|h
 ·have h1:n / (g:Int)≤n:=Int.ediv_le_self _ h
  have h2:0≤n / (g:Int):=Int.ediv_nonneg h (by omega)
  omega
 ·rcases Nat.eq_zero_or_pos g with rfl|hg
  ·simp
  ·have h2:n / (g:Int)≤0:=by
    have:=Int.ediv_le_ediv (c:=(g:Int)) (by omega) h
    simpa using this
   have h3:n≤n / (g:Int):=by
    rw[Int.le_ediv_iff_mul_le (by omega)]
    have:n*(g:Int)≤n*1:=Int.mul_le_mul_of_nonpos_left h (by omega)
    omega
   omega
theorem QB.divInt {k:Nat} {n d:Int} (hd:d≠0) (h1:n.natAbs≤2 ^ k) (h2:d.natAbs≤2 ^ k):QB k (Rat.divInt n d):=by
 have e1:=ediv_abs n (Int.gcd n d)
 have e2:=ediv_abs d (Int.gcd n d)
 rcases Int.lt_or_gt_of_ne hd with h|h
 ·obtain⟨a,b⟩:=low_neg (n:=n) h
  exact⟨by omega,by omega⟩
 ·obtain⟨a,b⟩:=low_pos (n:=n) h
  exact⟨by omega,by omega⟩
theorem rat_add (x y:Rat):x+y=Rat.divInt (x.num*y.den+y.num*x.den) ((x.den:Int)*y.den):=by
 rw[Rat.add_def',←Rat.divInt_ofNat];simp
theorem rat_mul (x y:Rat):x*y=Rat.divInt (x.num*y.num) ((x.den:Int)*y.den):=by
 rw[Rat.mul_def',←Rat.divInt_ofNat];simp
theorem rat_div (x y:Rat):x / y=Rat.divInt (x.num*y.den) ((x.den:Int)*y.num):=by
 rw[Rat.div_def,Rat.inv_def,←Rat.divInt_mul_divInt,Rat.num_divInt_den]
theorem den_ne (x:Rat):(x.den:Int)≠0:=by have:=x.den_pos;omega
theorem num_ne {x:Rat} (h:x≠0):x.num≠0:=fun e=>h (Rat.num_eq_zero.1 e)
theorem dd_ne (x y:Rat):(x.den:Int)*y.den≠0:=Int.mul_ne_zero (den_ne x) (den_ne y)
theorem mul_bits {a b:Nat} {x y:Int} (hx:x.natAbs≤2 ^ a) (hy:y.natAbs≤2 ^ b):(x*y).natAbs≤2 ^ (a+b):=by
 rw[Int.natAbs_mul,Nat.pow_add];exact Nat.mul_le_mul hx hy
theorem add_bits {a:Nat} {x y:Int} (hx:x.natAbs≤2 ^ a) (hy:y.natAbs≤2 ^ a):(x+y).natAbs≤2 ^ (a+1):=by
 have:(x+y).natAbs≤x.natAbs+y.natAbs:=Int.natAbs_add_le _ _
 rw[Nat.pow_succ];omega
theorem up_bits {a b:Nat} {x:Int} (hx:x.natAbs≤2 ^ a) (h:a≤b):x.natAbs≤2 ^ b:=Nat.le_trans hx (Nat.pow_le_pow_right (by omega) h)
theorem QB.den' {a:Nat} {x:Rat} (h:QB a x):(x.den:Int).natAbs≤2 ^ a:=by rw[Int.natAbs_natCast];exact h.2
theorem QB.addN {a b:Nat} {x y:Rat} (hx:QB a x) (hy:QB b y):(x.num*y.den+y.num*x.den).natAbs≤2 ^ (a+b+1) :=
 add_bits (mul_bits hx.1 hy.den') (by rw[Nat.add_comm];exact mul_bits hy.1 hx.den')
theorem QB.add {a b:Nat} {x y:Rat} (hx:QB a x) (hy:QB b y):QB (a+b+1) (x+y):=by
 rw[rat_add]
 exact QB.divInt (dd_ne x y) (hx.addN hy) (up_bits (mul_bits hx.den' hy.den') (by omega))
theorem QB.mul {a b:Nat} {x y:Rat} (hx:QB a x) (hy:QB b y):QB (a+b) (x*y):=by
 rw[rat_mul]
 exact QB.divInt (dd_ne x y) (mul_bits hx.1 hy.1) (mul_bits hx.den' hy.den')
theorem QB.div {a b:Nat} {x y:Rat} (hx:QB a x) (hy:QB b y) (y0:y≠0):QB (a+b) (x / y):=by
 rw[rat_div]
 exact QB.divInt (Int.mul_ne_zero (den_ne x) (num_ne y0)) (mul_bits hx.1 hy.den') (mul_bits hx.den' hy.1)
theorem QB.neg {a:Nat} {x:Rat} (hx:QB a x):QB a (-x):=⟨by rw[Rat.neg_num,Int.natAbs_neg];exact hx.1,hx.2⟩
theorem QB.sub {a b:Nat} {x y:Rat} (hx:QB a x) (hy:QB b y):QB (a+b+1) (x - y):=by
 rw[Rat.sub_eq_add_neg];exact hx.add hy.neg
theorem QB.int {k:Nat} {n:Int} (h:n.natAbs≤2 ^ k):QB k (n:Rat):=⟨h,Nat.pow_pos (by omega)⟩
theorem load_ext {P:Program} {H0 hi:IH} {t:TypeId} {b o:Nat} (hb:b % 2=1∨b / 2<H0.n) (e:Ext H0 hi):load P hi t (ptr b o)=load P H0 t (ptr b o):=by
 have hr:hi.row b=H0.row b:=e.row (by omega)
 have hr' : ∀n,hi.rd b o n=H0.rd b o n:=fun n=>by simp only[IH.rd,hr]
 simp only[load,asAddr,ptr]
 cases isAggT P t with
 | none=>rfl
 | some c=>cases c<;>cases sizeT P t<;>simp only[hr']
theorem steady_ext {P:Program} {fr:Fr} {t:TypeId} {a:Operand} {b o:Nat} {H0 hi hj:IH} {v:Value} (ha:opd fr a=some (ptr b o)) (hb:b % 2=1∨b / 2<H0.n) (ei:Ext H0 hi) (ej:Ext H0 hj) (hv:load P H0 t (ptr b o)=some v):steadyAt P fr (.load t a) hi hj=true :=
 steady_load ha ((load_ext hb ei).trans hv) ((load_ext hb ej).trans hv)
theorem wpSteady_c2 {P:Program} {ops:List Oper} {tr:List (Fr×IH)} {e e':Nat×List Nat} {l:List (Nat×List Nat)} (h1:wpSteady P ops tr [e]) (h2:wpSteady P ops tr (e' :: l)):wpSteady P ops tr (e :: e' :: l):=wpSteady_cons h1 h2
theorem wpSteady_t2 {P:Program} {ops:List Oper} {tr:List (Fr×IH)} {i p p':Nat} {l:List Nat} (h1:wpSteady P ops tr [(i,[p])]) (h2:wpSteady P ops tr [(i,p' :: l)]):wpSteady P ops tr [(i,p :: p' :: l)]:=wpSteady_two h1 h2
theorem boxes3 (h:IH) (a b c:List Value) : ∃H0,H0=((h.new (.cells a 0 none)).new (.cells b 0 none)).new (.cells c 0 none)∧H0.n=h.n+3∧Ext h H0∧H0.ext.get h.n=some (.cells a 0 none)∧H0.ext.get (h.n+1)=some (.cells b 0 none)∧H0.ext.get (h.n+1+1)=some (.cells c 0 none) :=
 ⟨_,rfl,rfl,(((Ext.refl h).new _).new _).new _,(get_new_old _ _ (by simp<;>omega)).trans ((get_new_old _ _ (by simp<;>omega)).trans (get_new_same _ _ rfl)),(get_new_old _ _ (by simp<;>omega)).trans (get_new_same _ _ rfl),get_new_same _ _ rfl⟩
theorem boxes2 (h:IH) (a b:List Value) : ∃H0,H0=(h.new (.cells a 0 none)).new (.cells b 0 none)∧H0.n=h.n+2∧Ext h H0∧H0.ext.get h.n=some (.cells a 0 none)∧H0.ext.get (h.n+1)=some (.cells b 0 none) :=
 ⟨_,rfl,rfl,((Ext.refl h).new _).new _,(get_new_old _ _ (by simp<;>omega)).trans (get_new_same _ _ rfl),get_new_same _ _ rfl⟩
theorem row_of {h:IH} {b:Nat} {cs:List Value} {e:Nat} {f:Option Nat} (hg:h.ext.get b=some (.cells cs e f)):h.row (2*b)=some cs:=by rw[row_even];simp only[IH.cells,hg]
theorem Ext.kept {a b:IH} (e:Ext a b) {k:Nat} {o:IObj} (hk:k<a.n) (g:a.ext.get k=some o):b.ext.get k=some o:=(e.get k hk).trans g
theorem tkA (a s b t:Value):List.take 2 (List.drop 0 [a,s,b,t]) = [a,s]:=rfl
theorem tkB (a s b t:Value):List.take 2 (List.drop 2 [a,s,b,t]) = [b,t]:=rfl
theorem tk2' (a s:Value):List.take 2 (List.drop 0 [a,s]) = [a,s]:=rfl
theorem tk4' (a s b t:Value):List.take 4 (List.drop 0 [a,s,b,t]) = [a,s,b,t]:=rfl
end Go.Id

namespace Go.Id
open Go
def ElCs (R:IH→Value→Rat→Prop) (h:IH):List Rat→List Value→Prop
 | [],cs=>cs = []
 | q :: l,cs => ∃a s b t cs',cs=a :: s :: b :: t :: cs'∧R h (.agg #[a,s,b,t]) q∧ElCs R h l cs'
def Kept (R:IH→Value→Rat→Prop):Prop:=∀h h' v q,R h v q→Keep h h'→R h' v q
theorem ElCs.keep {R:IH→Value→Rat→Prop} (k:Kept R) {h h':IH} (e:Keep h h') : ∀{l:List Rat} {cs:List Value},ElCs R h l cs→ElCs R h' l cs
 | [],_,H=>H
 | _ :: _,_,⟨a,s,b,t,cs',h1,h2,h3⟩=>⟨a,s,b,t,cs',h1,k _ _ _ _ h2 e,ElCs.keep k e h3⟩
theorem ElCs.len {R:IH→Value→Rat→Prop} {h:IH} : ∀{l:List Rat} {cs:List Value},ElCs R h l cs→cs.length=l.length*4
 | [],_,H=>by cases H;rfl
 | _ :: l,_,⟨a,s,b,t,cs',h1,h2,h3⟩=>by
  have:=ElCs.len h3
  subst h1
  simp only[List.length_cons,this];omega
theorem ElCs.at {R:IH→Value→Rat→Prop} {h:IH} : ∀{l:List Rat} {cs:List Value} {i:Nat} {q:Rat},ElCs R h l cs→l[i]?=some q → ∃a s b t,(cs.drop (i*4)).take 4 = [a,s,b,t]∧R h (.agg #[a,s,b,t]) q
 | [],_,_,_,_,H=>by simp at H
 | x :: l,_,0,q,⟨a,s,b,t,cs',h1,h2,h3⟩,H=>by
  subst h1
  simp at H;subst H
  exact⟨a,s,b,t,rfl,h2⟩
 | x :: l,_,i+1,q,⟨a,s,b,t,cs',h1,h2,h3⟩,H=>by
  subst h1
  simp at H
  obtain⟨a',s',b',t',e,r⟩:=ElCs.at h3 H
  refine⟨a',s',b',t',?_,r⟩
  rw[show(i+1)*4=i*4+4 by omega]
  simpa using e
theorem ElCs.snoc {R:IH→Value→Rat→Prop} {h:IH} {a s b t:Value} {q:Rat} (r:R h (.agg #[a,s,b,t]) q) : ∀{l:List Rat} {cs:List Value},ElCs R h l cs→ElCs R h (l ++ [q]) (cs ++ [a,s,b,t])
 | [],_,H=>by cases H;exact⟨a,s,b,t,[],rfl,r,rfl⟩
 | _ :: l,_,⟨a',s',b',t',cs',h1,h2,h3⟩=>by
  subst h1
  exact⟨a',s',b',t',cs' ++ [a,s,b,t],rfl,h2,ElCs.snoc r h3⟩
def ElSl (R:IH→Value→Rat→Prop) (h:IH) (v:Value) (l:List Rat):Prop:=∃cs,SlOf h 4 v l.length cs∧ElCs R h l cs∧l.length≤100000
theorem ElSl.keep {R:IH→Value→Rat→Prop} (k:Kept R) {h h':IH} {v:Value} {l:List Rat} (s:ElSl R h v l) (e:Keep h h'):ElSl R h' v l:=let ⟨cs,a,b,c⟩:=s;⟨cs,a.keep e,b.keep k e,c⟩
theorem ElSl.ld {R:IH→Value→Rat→Prop} (k:Kept R) {h h':IH} {v:Value} {l:List Rat} (s:ElSl R h v l) (e:Keep h h') {i:Nat} {q:Rat} (hi:l[i]?=some q) {P:Program} {t:TypeId} (hT:isAggT P t=some true) (hS:sizeT P t=some 4) :
  ∃a s b u,load P h' t (elemAddr v (i*4))=some (.agg #[a,s,b,u])∧R h' (.agg #[a,s,b,u]) q:=by
 obtain⟨cs,hs,hc,hl⟩:=s
 have hil:=(List.getElem?_eq_some_iff.1 hi).1
 have hcl:=hc.len
 obtain⟨a,s,b,u,e1,r⟩:=hc.at hi
 exact⟨a,s,b,u,by rw[hs.ldAgg e (by omega) (by omega) hT hS,e1],k _ _ _ _ r e⟩
def qsum (l:List Rat):Rat:=l.foldl (· + ·) 0
theorem qsum_snoc (l:List Rat) (q:Rat):qsum (l ++ [q])=qsum l+q:=by simp[qsum]
theorem take_snoc {α:Type} {l:List α} {i:Nat} {q:α} (h:l[i]?=some q):l.take (i+1)=l.take i ++ [q]:=by
 rw[List.take_add_one,h];rfl
theorem QB.zero:QB 0 (0:Rat):=⟨by simp,by simp⟩
theorem QB.qsum {k:Nat} {l:List Rat} (h : ∀q∈l,QB k q) : ∀i,i≤l.length→QB (i*(k+1)) (qsum (l.take i))
 | 0,_=>by rw[Nat.zero_mul];exact QB.zero
 | i+1,hi=>by
  obtain⟨q,hq⟩ : ∃q,l[i]?=some q:=⟨_,List.getElem?_eq_getElem (by omega)⟩
  rw[take_snoc hq,qsum_snoc]
  exact((QB.qsum h i (by omega)).add (h q (List.mem_of_getElem? hq))).mono (by rw[Nat.add_mul];omega)
end Go.Id

namespace Go.Id
theorem dx {p : Prop} (h : p := by first | omega | (simp only [new_n, put_n]; omega) | decide +kernel | ((repeat first | rw [new_n] | rw [put_n]); all_goals fail) | fail) : p := h
theorem exEq {α : Sort _} (a : α) : ∃ x, x = a := ⟨a, rfl⟩
theorem exAt {α : Type _} {l : List α} {i : Nat} (h : i < l.length) : ∃ a, l[i]? = some a := ⟨_, List.getElem?_eq_getElem h⟩
end Go.Id

namespace Go.Id.B
def valT (ds:List Nat):Nat→Nat
 | 0=>0
 | k+1=>valT ds k+ds.getD k 0*18446744073709551616 ^ k
def valD (ds:List Nat):Nat:=valT ds ds.length
def Digs (ds:List Nat):Prop:=∀d∈ds,d<18446744073709551616
def Norm (ds:List Nat):Prop:=ds = []∨ds.getD (ds.length - 1) 0≠0
theorem getD_lt {ds:List Nat} (h:Digs ds) (k:Nat):ds.getD k 0<18446744073709551616:=by
 rw[List.getD_eq_getElem?_getD]
 cases hx:ds[k]? with
 | none=>simp
 | some x=>simpa using h x (List.mem_of_getElem? hx)
theorem getD_of_ge {ds:List Nat} {k:Nat} (h:ds.length≤k):ds.getD k 0=0:=by
 rw[List.getD_eq_getElem?_getD,List.getElem?_eq_none h];rfl
theorem pow_pos' (k:Nat):0<18446744073709551616 ^ k:=Nat.pow_pos (by omega)
theorem valT_lt {ds:List Nat} (h:Digs ds) : ∀k,valT ds k<18446744073709551616 ^ k
 | 0=>by simp[valT]
 | k+1=>by
  have ih:=valT_lt h k
  have hd:=getD_lt h k
  have h2:ds.getD k 0*18446744073709551616 ^ k≤18446744073709551615*18446744073709551616 ^ k:=Nat.mul_le_mul_right _ (by omega)
  rw[valT,Nat.pow_succ]
  omega
theorem valT_ge {ds:List Nat} : ∀{k:Nat},ds.length≤k→valT ds k=valD ds
 | 0,h=>by
  have:ds = []:=List.length_eq_zero_iff.1 (by omega)
  subst this;rfl
 | k+1,h=>by
  by_cases hk:ds.length≤k
  ·rw[valT,valT_ge hk,getD_of_ge hk];simp
  ·have:ds.length=k+1:=by omega
   rw[valD,this]
theorem valT_congr {ds es:List Nat} : ∀{k:Nat},(∀j,j<k→ds.getD j 0=es.getD j 0)→valT ds k=valT es k
 | 0,_=>rfl
 | k+1,h=>by rw[valT,valT,valT_congr fun j hj=>h j (by omega),h k (by omega)]
theorem valD_lt {ds:List Nat} (h:Digs ds):valD ds<18446744073709551616 ^ ds.length:=valT_lt h _
theorem Digs.append {ds:List Nat} {x:Nat} (h:Digs ds) (hx:x<18446744073709551616):Digs (ds ++ [x]):=by
 intro d hd
 rcases List.mem_append.1 hd with h1|h1
 ·exact h d h1
 ·simp at h1;omega
theorem Digs.take {ds:List Nat} (h:Digs ds) (n:Nat):Digs (ds.take n):=fun d hd=>h d (List.mem_of_mem_take hd)
theorem getD_take (ds:List Nat) (n j:Nat):(ds.take n).getD j 0=if j<n then ds.getD j 0 else 0:=by
 simp only[List.getD_eq_getElem?_getD,List.getElem?_take]
 split<;>rfl
theorem valT_split (ds:List Nat) (m:Nat) : ∀k,(∀j,m≤j→j<m+k→ds.getD j 0=0)→valT ds (m+k)=valT ds m
 | 0,_=>rfl
 | k+1,h=>by
  rw[show m+(k+1)=(m+k)+1 from rfl,valT,valT_split ds m k (fun j a b=>h j a (by omega)),h (m+k) (by omega) (by omega)]
  simp
theorem valD_take {ds:List Nat} {m:Nat} (hm:m≤ds.length) (h : ∀j,m≤j→ds.getD j 0=0):valD (ds.take m)=valD ds:=by
 have h1:(ds.take m).length=m:=by simp[hm]
 rw[valD,h1]
 have h2:valT (ds.take m) m=valT ds m:=valT_congr fun j hj=>by rw[getD_take,if_pos hj]
 rw[h2]
 have:=valT_split ds m (ds.length - m) (fun j a _=>h j a)
 rw[show m+(ds.length - m)=ds.length from by omega] at this
 exact this.symm
theorem Norm.ge {ds:List Nat} (h:Norm ds) (hne:ds ≠ []):18446744073709551616 ^ (ds.length - 1)≤valD ds:=by
 rcases h with h|h
 ·exact absurd h hne
 ·have hl:0<ds.length:=List.length_pos_iff.2 hne
  obtain⟨n,hn⟩ : ∃n,ds.length=n+1:=⟨ds.length - 1,by omega⟩
  rw[valD,hn,valT]
  rw[hn] at h
  simp only[Nat.add_sub_cancel] at h ⊢
  have:1*18446744073709551616 ^ n≤ds.getD n 0*18446744073709551616 ^ n:=Nat.mul_le_mul_right _ (by omega)
  omega
theorem lt_of_len {a b:List Nat} (ha:Digs a) (hb:Norm b) (hl:a.length<b.length):valD a<valD b:=by
 have h1:=valD_lt ha
 have h2:=hb.ge (by intro h;subst h;simp at hl)
 have h3:18446744073709551616 ^ a.length≤18446744073709551616 ^ (b.length - 1):=Nat.pow_le_pow_right (by omega) (by omega)
 omega
theorem valT_top {a b:List Nat} (ha:Digs a) {i:Nat} (hi:a.getD i 0<b.getD i 0) : ∀k,(∀j,i<j→j<i+1+k→a.getD j 0=b.getD j 0)→valT a (i+1+k)<valT b (i+1+k)
 | 0,_=>by
  have h1:=valT_lt ha i
  have h2:(a.getD i 0+1)*18446744073709551616 ^ i≤b.getD i 0*18446744073709551616 ^ i:=Nat.mul_le_mul_right _ (by omega)
  rw[Nat.add_mul] at h2
  rw[Nat.add_zero,valT,valT]
  omega
 | k+1,h=>by
  have:=valT_top ha hi k (fun j x y=>h j x (by omega))
  rw[show i+1+(k+1)=(i+1+k)+1 from rfl,valT,valT,h (i+1+k) (by omega) (by omega)]
  omega
theorem lt_of_top {a b:List Nat} (ha:Digs a) (hl:a.length=b.length) {i:Nat} (hn:i<a.length) (hi:a.getD i 0<b.getD i 0) (h : ∀j,i<j→j<a.length→a.getD j 0=b.getD j 0):valD a<valD b:=by
 have:=valT_top ha hi (a.length - (i+1)) (fun j x y=>h j x (by omega))
 rw[show i+1+(a.length - (i+1))=a.length from by omega] at this
 rw[valD,valD,←hl];exact this
theorem eq_of_all {a b:List Nat} (hl:a.length=b.length) (h : ∀j,j<a.length→a.getD j 0=b.getD j 0):valD a=valD b:=by
 rw[valD,valD,←hl];exact valT_congr h
theorem Norm.nil_iff {ds:List Nat} (h:Norm ds):valD ds=0↔ds = []:=by
 constructor
 ·intro h0
  apply Classical.byContradiction;intro hne
  have:=h.ge hne
  have:=pow_pos' (ds.length - 1)
  omega
 ·rintro rfl;rfl
theorem Norm.len_le {a b:List Nat} (ha:Norm a) (hb:Digs b) (h:valD a≤valD b):a.length≤b.length:=by
 apply Classical.byContradiction;intro hn
 have:=lt_of_len hb ha (by omega)
 omega
theorem valT_cons (d:Nat) (ds:List Nat) : ∀k,valT (d :: ds) (k+1)=d+18446744073709551616*valT ds k
 | 0=>by simp[valT]
 | k+1=>by
  rw[valT,valT_cons d ds k,valT]
  simp only[List.getD_cons_succ,Nat.pow_succ]
  grind
theorem valD_cons (d:Nat) (ds:List Nat):valD (d :: ds)=d+18446744073709551616*valD ds:=valT_cons d ds _
theorem norm_unique : ∀{a b:List Nat},Digs a→Digs b→Norm a→Norm b→valD a=valD b→a=b:=by
 intro a b ha hb na nb h
 have l1:=na.len_le hb (by omega)
 have l2:=nb.len_le ha (by omega)
 have hl:a.length=b.length:=by omega
 clear l1 l2 na nb
 induction a generalizing b with
 | nil=>exact(List.length_eq_zero_iff.1 hl.symm).symm
 | cons x a ih =>
  cases b with
  | nil=>simp at hl
  | cons y b =>
   rw[valD_cons,valD_cons] at h
   have hx:x<18446744073709551616:=ha x (by simp)
   have hy:y<18446744073709551616:=hb y (by simp)
   have e1:x=y:=by omega
   have e2:valD a=valD b:=by omega
   rw[e1,ih (b:=b) (fun d hd=>ha d (by simp[hd])) (fun d hd=>hb d (by simp[hd])) e2 (by simpa using hl)]
end Go.Id.B

namespace Go.Id.B
theorem getD_set {ds:List Nat} {k w:Nat} (hk:k<ds.length) (j:Nat):(ds.set k w).getD j 0=if j=k then w else ds.getD j 0:=by
 simp only[List.getD_eq_getElem?_getD,List.getElem?_set]
 by_cases h:k=j
 ·subst h;simp[hk]
 ·rw[if_neg h,if_neg (fun x=>h x.symm)]
theorem valT_set {ds:List Nat} {k w:Nat} (hk:k<ds.length) : ∀n,valT (ds.set k w) n+(if k<n then ds.getD k 0*18446744073709551616 ^ k else 0)=valT ds n+(if k<n then w*18446744073709551616 ^ k else 0)
 | 0=>by simp[valT]
 | n+1=>by
  have ih:=valT_set (w:=w) hk n
  rw[valT,valT,getD_set hk]
  by_cases h1:k<n
  ·rw[if_pos h1,if_pos h1] at ih
   rw[if_pos (show k<n+1 by omega),if_pos (show k<n+1 by omega),if_neg (show ¬n=k by omega)]
   omega
  ·rw[if_neg h1,if_neg h1] at ih
   by_cases h2:n=k
   ·subst h2
    rw[if_pos (Nat.lt_succ_self n),if_pos (Nat.lt_succ_self n),if_pos rfl]
    omega
   ·rw[if_neg (show ¬k<n+1 by omega),if_neg (show ¬k<n+1 by omega),if_neg h2]
    omega
theorem valD_set {ds:List Nat} {k:Nat} (w:Nat) (hk:k<ds.length):valD (ds.set k w)+ds.getD k 0*18446744073709551616 ^ k=valD ds+w*18446744073709551616 ^ k:=by
 have h:=valT_set (w:=w) hk ds.length
 rw[if_pos hk,if_pos hk] at h
 rw[valD,valD,List.length_set];exact h
theorem valT_repl (m:Nat) : ∀n,valT (List.replicate m 0) n=0
 | 0=>rfl
 | n+1=>by
  rw[valT,valT_repl m n]
  have:(List.replicate m 0).getD n 0=0:=by
   rw[List.getD_eq_getElem?_getD,List.getElem?_replicate];split<;>rfl
  rw[this];simp
theorem valD_repl (m:Nat):valD (List.replicate m 0)=0:=valT_repl m _
theorem getD_repl (m j:Nat):(List.replicate m 0).getD j 0=0:=by
 rw[List.getD_eq_getElem?_getD,List.getElem?_replicate];split<;>rfl
theorem Digs.set {ds:List Nat} (h:Digs ds) (k:Nat) {w:Nat} (hw:w<18446744073709551616):Digs (ds.set k w):=by
 intro d hd
 rcases List.mem_or_eq_of_mem_set hd with h1|h1
 ·exact h d h1
 ·omega
theorem Digs.repl (m:Nat):Digs (List.replicate m 0):=by
 intro d hd
 rw[List.mem_replicate] at hd
 omega
theorem Norm.lenlt {ds:List Nat} (h:Norm ds) {m:Nat} (hs:valD ds<18446744073709551616 ^ m):ds.length≤m:=by
 apply Classical.byContradiction;intro hn
 have hne:ds ≠ []:=by intro h0;subst h0;simp at hn
 have h1:=h.ge hne
 have h2:18446744073709551616 ^ m≤18446744073709551616 ^ (ds.length - 1):=Nat.pow_le_pow_right (by omega) (by omega)
 omega
end Go.Id.B

namespace Go.Id
open Go
theorem mul_high {x1 x0 y1 y0:Nat} (h0:x0<4294967296) (h1:x1<4294967296) (g0:y0<4294967296) (g1:y1<4294967296) :
  x1*y0+x0*y0 / 4294967296<18446744073709551616∧(x1*y0+x0*y0 / 4294967296) % 4294967296+x0*y1<18446744073709551616 ∧
   x1*y1+(x1*y0+x0*y0 / 4294967296) / 4294967296+((x1*y0+x0*y0 / 4294967296) % 4294967296+x0*y1) / 4294967296=(x1*4294967296+x0)*(y1*4294967296+y0) / 18446744073709551616:=by
 have b00:x0*y0≤4294967295*4294967295:=Nat.mul_le_mul (by omega) (by omega)
 have b10:x1*y0≤4294967295*4294967295:=Nat.mul_le_mul (by omega) (by omega)
 have b01:x0*y1≤4294967295*4294967295:=Nat.mul_le_mul (by omega) (by omega)
 have e:(x1*4294967296+x0)*(y1*4294967296+y0)=x1*y1*18446744073709551616+x1*y0*4294967296+x0*y1*4294967296+x0*y0:=by grind
 rw[e]
 generalize x0*y0=a at *
 generalize x1*y0=b at *
 generalize x0*y1=c at *
 generalize x1*y1=d at *
 refine⟨by omega,by omega,by omega⟩
def DivJ (y1 y0 u d q r:Nat):Prop:=q*y1+r=u∧(u*4294967296+d) / (y1*4294967296+y0)≤q∧q≤4294967297
theorem divJ_start {y1 y0 u d:Nat} (h1:2147483648≤y1) (h0:y0<4294967296) (hu:u<y1*4294967296+y0) (hd:d<4294967296):DivJ y1 y0 u d (u / y1) (u % y1):=by
 have e:=Nat.div_add_mod u y1
 have hm:=Nat.mod_lt u (show 0<y1 by omega)
 have e1:u / y1*y1=y1*(u / y1):=Nat.mul_comm _ _
 refine⟨by omega,?_,?_⟩
 ·generalize hq:u / y1=q at *
  rw[Nat.div_le_iff_le_mul_add_pred (by omega)]
  have e2:(y1*4294967296+y0)*q=y1*q*4294967296+y0*q:=by grind
  rw[e2]
  have:0≤y0*q:=Nat.zero_le _
  omega
 ·rw[Nat.div_le_iff_le_mul_add_pred (by omega)]
  omega
theorem divJ_step {y1 y0 u d q r:Nat} (h1:2147483648≤y1) (h0:y0<4294967296) (hu:u<y1*4294967296+y0) (hd:d<4294967296) (J:DivJ y1 y0 u d q r) (hc:4294967296≤q∨4294967296*r+d<q*y0):0<q∧DivJ y1 y0 u d (q - 1) (r+y1):=by
 obtain⟨j1,j2,j3⟩:=J
 have hlt:(u*4294967296+d) / (y1*4294967296+y0)<q:=by
  rw[Nat.div_lt_iff_lt_mul (by omega)]
  have e2:q*(y1*4294967296+y0)=q*y1*4294967296+q*y0:=by grind
  rw[e2]
  rcases hc with hc|hc
  ·have e3:4294967296*y0≤q*y0:=Nat.mul_le_mul_right _ hc
   have e4:4294967296*y1≤q*y1:=Nat.mul_le_mul_right _ hc
   omega
  ·omega
 have hq:0<q:=Nat.lt_of_le_of_lt (Nat.zero_le _) hlt
 refine⟨hq,?_,Nat.le_sub_one_of_lt hlt,by omega⟩
 have e5:(q - 1)*y1+y1=q*y1:=by
  obtain⟨p,rfl⟩ : ∃p,q=p+1:=⟨q - 1,by omega⟩
  rw[Nat.add_sub_cancel,Nat.add_mul,Nat.one_mul]
 omega
theorem divJ_done {y1 y0 u d q r:Nat} (h1:2147483648≤y1) (h0:y0<4294967296) (J:DivJ y1 y0 u d q r) (hc:q*y0≤4294967296*r+d):(u*4294967296+d) / (y1*4294967296+y0)=q:=by
 obtain⟨j1,j2,j3⟩:=J
 refine Nat.le_antisymm j2 ?_
 rw[Nat.le_div_iff_mul_le (by omega)]
 have e2:q*(y1*4294967296+y0)=q*y1*4294967296+q*y0:=by grind
 rw[e2];omega
theorem divJ_break {y1 y0 u d q r:Nat} (h1:2147483648≤y1) (h0:y0<4294967296) (J:DivJ y1 y0 u d q r) (hr:4294967296≤r) (hq:q≤4294967296):(u*4294967296+d) / (y1*4294967296+y0)=q:=by
 refine divJ_done h1 h0 J ?_
 have:q*y0≤4294967296*4294967295:=Nat.mul_le_mul hq (by omega)
 omega
end Go.Id

namespace Go.Id.B
theorem or_add {x y n:Nat} (hx:2 ^ n∣x) (hy:y<2 ^ n):x ||| y=x+y:=by
 obtain⟨c,rfl⟩:=hx
 exact(Nat.two_pow_add_eq_or_of_lt hy c).symm
theorem or_add' {x y n:Nat} (hx:x<2 ^ n) (hy:2 ^ n∣y):x ||| y=x+y:=by
 rw[Nat.or_comm,or_add hy hx,Nat.add_comm]
theorem valT_eq {ds:List Nat} (h:Digs ds) : ∀{n k:Nat},n≤k→valT ds k % 18446744073709551616 ^ n=valT ds n
 | n,0,hk=>by
  obtain rfl:n=0:=by omega
  simp[valT]
 | n,k+1,hk=>by
  by_cases hn:n=k+1
  ·subst hn;exact Nat.mod_eq_of_lt (valT_lt h _)
  ·have ih:=valT_eq h (show n≤k by omega)
   rw[valT]
   have hd:18446744073709551616 ^ n∣ds.getD k 0*18446744073709551616 ^ k:=Nat.dvd_trans (Nat.pow_dvd_pow _ (by omega)) (Nat.dvd_mul_left _ _)
   obtain⟨c,hc⟩:=hd
   rw[hc,Nat.add_mul_mod_self_left,ih]
theorem digit_eq {ds:List Nat} (h:Digs ds) (j:Nat):ds.getD j 0=valD ds / 18446744073709551616 ^ j % 18446744073709551616:=by
 have hp:=pow_pos' j
 by_cases hj:j<ds.length
 ·have e1:valT ds (j+1)=valD ds % 18446744073709551616 ^ (j+1):=(valT_eq h (show j+1≤ds.length by omega)).symm
  have e2:valT ds (j+1) / 18446744073709551616 ^ j=ds.getD j 0:=by
   rw[valT,Nat.add_mul_div_right _ _ hp,Nat.div_eq_of_lt (valT_lt h j),Nat.zero_add]
  rw[←e2,e1,Nat.pow_succ,Nat.mod_mul_right_div_self]
 ·rw[getD_of_ge (by omega)]
  have h1:=valD_lt h
  have h2:18446744073709551616 ^ ds.length≤18446744073709551616 ^ j:=Nat.pow_le_pow_right (by omega) (by omega)
  rw[Nat.div_eq_of_lt (by omega)]
theorem pow64 (j:Nat):18446744073709551616 ^ j=2 ^ (64*j):=by rw[Nat.pow_mul]
theorem bit_set {ds:List Nat} (h:Digs ds) {k:Nat} (hk:2 ^ (k+1)∣valD ds):ds.getD (k / 64) 0 ||| 2 ^ (k % 64)=ds.getD (k / 64) 0+2 ^ (k % 64)∧ds.getD (k / 64) 0+2 ^ (k % 64)<18446744073709551616:=by
 have hs:k % 64<64:=Nat.mod_lt _ (by omega)
 have hd:2 ^ (k % 64+1)∣ds.getD (k / 64) 0:=by
  rw[digit_eq h,pow64]
  obtain⟨c,hc⟩:=hk
  have e:2 ^ (k+1)=2 ^ (64*(k / 64))*2 ^ (k % 64+1):=by rw[←Nat.pow_add];congr 1;omega
  rw[hc,e,Nat.mul_assoc,Nat.mul_div_cancel_left _ (Nat.pow_pos (by omega))]
  have e2:18446744073709551616=2 ^ (k % 64+1)*2 ^ (63 - k % 64):=by rw[←Nat.pow_add,show k % 64+1+(63 - k % 64)=64 by omega]
  rw[show(18446744073709551616:Nat)=2 ^ (k % 64+1)*2 ^ (63 - k % 64) from e2]
  exact(Nat.dvd_mod_iff (Nat.dvd_mul_right _ _)).2 (Nat.dvd_mul_right _ _)
 have hlt:2 ^ (k % 64)<2 ^ (k % 64+1):=Nat.pow_lt_pow_right (by omega) (by omega)
 have hw:=getD_lt h (k / 64)
 refine⟨or_add hd hlt,?_⟩
 obtain⟨c,hc⟩:=hd
 rw[hc] at hw ⊢
 have e2:18446744073709551616=2 ^ (k % 64+1)*2 ^ (63 - k % 64):=by rw[←Nat.pow_add,show k % 64+1+(63 - k % 64)=64 by omega]
 rw[e2] at hw ⊢
 have hc2:c<2 ^ (63 - k % 64):=Nat.lt_of_mul_lt_mul_left hw
 have:2 ^ (k % 64+1)*(c+1)≤2 ^ (k % 64+1)*2 ^ (63 - k % 64):=Nat.mul_le_mul_left _ hc2
 rw[Nat.mul_add,Nat.mul_one] at this
 omega
theorem shl_parts {x s:Nat} (hx:x<18446744073709551616) (hs:s<64):x*2 ^ s % 18446744073709551616+x / 2 ^ (64 - s)*18446744073709551616=x*2 ^ s:=by
 have e:18446744073709551616=2 ^ (64 - s)*2 ^ s:=by rw[←Nat.pow_add,show 64 - s+s=64 by omega]
 have h:=Nat.div_add_mod (x*2 ^ s) 18446744073709551616
 have e2:x*2 ^ s / 18446744073709551616=x / 2 ^ (64 - s):=by rw[e,Nat.mul_div_mul_right _ _ (Nat.pow_pos (by omega))]
 rw[e2] at h
 omega
theorem shl_dvd (x:Nat) {s:Nat} (hs:s<64):2 ^ s∣x*2 ^ s % 18446744073709551616:=by
 have e:18446744073709551616=2 ^ s*2 ^ (64 - s):=by rw[←Nat.pow_add,show s+(64 - s)=64 by omega]
 rw[e]
 exact(Nat.dvd_mod_iff (Nat.dvd_mul_right _ _)).2 (Nat.dvd_mul_left _ _)
theorem shr_small {x s:Nat} (hx:x<18446744073709551616) (hs:s≤64):x / 2 ^ (64 - s)<2 ^ s:=by
 rw[Nat.div_lt_iff_lt_mul (Nat.pow_pos (by omega)),←Nat.pow_add,show s+(64 - s)=64 by omega];exact hx
theorem bits_of {ds:List Nat} {n k:Nat} (h:Digs ds) (hl:ds.length=n+1) (h1:2 ^ k≤ds.getD n 0) (h2:ds.getD n 0<2 ^ (k+1)):2 ^ (64*n+k)≤valD ds∧valD ds<2 ^ (64*n+k+1):=by
 rw[valD,hl,valT,pow64]
 have hb:=valT_lt h n
 rw[pow64] at hb
 have e1:2 ^ (64*n+k)=2 ^ k*2 ^ (64*n):=by rw[Nat.pow_add,Nat.mul_comm]
 have e2:2 ^ (64*n+k+1)=2 ^ (k+1)*2 ^ (64*n):=by rw[Nat.add_assoc,Nat.pow_add,Nat.mul_comm]
 rw[e1,e2]
 have h3:2 ^ k*2 ^ (64*n)≤ds.getD n 0*2 ^ (64*n):=Nat.mul_le_mul_right _ h1
 have h4:(ds.getD n 0+1)*2 ^ (64*n)≤2 ^ (k+1)*2 ^ (64*n):=Nat.mul_le_mul_right _ h2
 rw[Nat.add_mul,Nat.one_mul] at h4
 omega
def DivB (a b k V r:Nat):Prop:=a=b*V+r∧2 ^ k∣V∧r<b*2 ^ k
theorem divB_start {a b la lb:Nat} (ha:a<2 ^ la) (hb:2 ^ lb≤b) (hl:lb≤la):DivB a b (la - lb) 0 a:=by
 refine⟨by omega,Nat.dvd_zero _,?_⟩
 have h1:2 ^ lb*2 ^ (la - lb)≤b*2 ^ (la - lb):=Nat.mul_le_mul_right _ hb
 rw[←Nat.pow_add,show lb+(la - lb)=la by omega] at h1
 omega
theorem divB_one {a b k V r:Nat} (h:DivB a b (k+1) V r) (hc:b*2 ^ k≤r):DivB a b k (V+2 ^ k) (r - b*2 ^ k):=by
 obtain⟨h1,h2,h3⟩:=h
 have e:b*2 ^ (k+1)=b*2 ^ k+b*2 ^ k:=by rw[Nat.pow_succ];grind
 refine⟨?_,?_,by omega⟩
 ·rw[Nat.mul_add];omega
 ·exact(Nat.dvd_add_right (Nat.dvd_trans (Nat.pow_dvd_pow _ (by omega)) h2)).2 (Nat.dvd_refl _)
theorem divB_zero {a b k V r:Nat} (h:DivB a b (k+1) V r) (hc:r<b*2 ^ k):DivB a b k V r :=
 ⟨h.1,Nat.dvd_trans (Nat.pow_dvd_pow _ (by omega)) h.2.1,hc⟩
theorem divB_end {a b V r:Nat} (h:DivB a b 0 V r):V=a / b∧r=a % b:=by
 obtain⟨h1,_,h3⟩:=h
 rw[Nat.pow_zero,Nat.mul_one] at h3
 have e1:=Nat.mul_add_mod b V r
 have e2:=Nat.mul_add_div (show 0<b by omega) V r
 rw[←h1,Nat.mod_eq_of_lt h3] at e1
 rw[←h1,Nat.div_eq_of_lt h3,Nat.add_zero] at e2
 exact⟨e2.symm,e1.symm⟩
end Go.Id.B
