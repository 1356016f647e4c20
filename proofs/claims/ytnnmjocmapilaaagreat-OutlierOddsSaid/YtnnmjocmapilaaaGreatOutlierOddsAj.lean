/-
  Weakest preconditions over the ideal machine: functions without a text of their own.
-/
import Derived.Test.YtnnmjocmapilaaaGreatOutlierOddsAi
import Derived.Test.YtnnmjocmapilaaaGreatProg
set_option linter.unusedVariables false
set_option linter.unusedSimpArgs false
set_option linter.defProp false
set_option linter.deprecated false
namespace Go.Id
open Go
open Go renaming Operand→QY,Program→QX,TypeId→QZ,Value→QQ
open Nat renaming reduceAdd→zA,reduceEqDiff→zE,reduceLeDiff→zL
open Nat (reduceMul)
set_option maxHeartbeats 16000000
variable {h:IH}{P:Program}{v:QQ}{K:QQ→IH→Prop}
def KR {f:FuncId} {fn:Func} {args:List QQ} (hf:P.funcs[f]?=some fn) (hb:fn.body=none) (hc:qL fn.name args=some v) (k:K v h):WV P (.func (.func f) #[] #[]) args h K:=by refine⟨(v,h),⟨1,fun n hn=>?_⟩,k⟩;obtain⟨n,rfl⟩ : ∃m,n=m+1:=⟨n - 1,byOmega⟩;simp only[dj,sj,show(E0 P).xh f=none from rfl,show(E0 P).P=P from rfl,hf,hb,x8,mz,hc,jt]
variable {n:String}{c:Nat}
def Ut (hn:n = "math/bits.Add64") (x y:Nat) (hc:c≤1):qL n [.int .u64 (x:Int),.int .u64 (y:Int),.int .u64 (c:Int)]=some (.tuple #[.int .u64 ((x+y+c) % 18446744073709551616:Nat),.int .u64 ((x+y+c) / 18446744073709551616:Nat)]):=by
 have h1:Nat.ble c 1=true:=by rw[bI];exact hc
 subst hn;show(bif Nat.ble c 1 then _ else none)=_;rw[h1];rfl
def Ur (hn:n = "math/bits.Sub64") (x y:Nat) (hc:c≤1):qL n [.int .u64 (x:Int),.int .u64 (y:Int),.int .u64 (c:Int)]=some (.tuple #[.int .u64 ((x+18446744073709551616 - y - c) % 18446744073709551616:Nat),.int .u64 ((bif Nat.blt x (y+c) then 1 else 0:Nat))]):=by
 have h1:Nat.ble c 1=true:=by rw[bI];exact hc
 subst hn;show(bif Nat.ble c 1 then _ else none)=_;rw[h1];rfl
def WV.and {fv:QQ} {vs:List QQ} {L:QQ→IH→Prop} (a:WV P fv vs h K) (b:WV P fv vs h L):WV P fv vs h fun v h'=>K v h'∧L v h':=by obtain⟨x,⟨N,hN⟩,kx⟩:=a;obtain⟨y,⟨M,hM⟩,ky⟩:=b;have h1:=hN (max N M) (CZ _ _);have h2:=hM (max N M) (CY _ _);rw[h1] at h2;cases h2;exact⟨x,⟨N,hN⟩,kx,ky⟩
def gj:QQ→Option Nat
 | .slice (some a) _ _=>some a.block
 | _=>none
variable {r:QQ}{mx lo:Option QQ}{x:QQ}{hi:Option QQ}
def DX {size:Nat} {b:Bool} (h:fT size b x lo hi mx=some r):gj r=gj x:=by
 unfold fT at h;split at h
 ·simp only[aK] at h;split at h
  ·split at h
   ·cases h;rfl
   ·cases h
  ·cases h
 ·split at h
  ·cases h
  ·rename_i b o n c _ _ _ _;simp only[aK] at h;repeat' split at h
   all_goals first|(cases h;rfl)|cases h
 ·cases h
variable {t:TypeId}
def BC {e:TypeId} (hu:P.underlying t=some (.slice e)) (hs:dY P h t x lo hi mx=some r):gj r=gj x:=by
 simp only[dY,hu] at hs;split at hs;·exact DX hs
 ·cases hs
def cA.putAt {sz:Nat} {n:Nat} {cs:List QQ} (s:cA h sz v n cs) {k:Nat} (hk:gj v≠some (2*k)) (o:cB):cA (h.put k o) sz v n cs:=by
 obtain⟨hz,hl,s|⟨b,o2,c,rfl,s⟩⟩:=s;·exact⟨hz,hl,.inl s⟩
 ·refine⟨hz,hl,.inr ⟨b,o2,c,rfl,?_⟩⟩;rcases s with s|⟨h1,h2,row,h3,h4,h5,h6⟩
  ·exact .inl s
  ·have hb:b≠2*k:=fun e=>hk (by rw[e];rfl);refine .inr ⟨h1,h2,row,?_,?_,h5,h6⟩
   ·rcases h3 with h3|⟨a1,a2,f,a3⟩
    ·exact .inl h3
    ·exact .inr ⟨a1,a2,f,by rw[ax _ _ byOmega];exact a3⟩
   ·rw[vB _ _ _ hb];exact h4
def Eo {fn:FuncId} {nt:Nat} {rd:Option Nat} {id:Nat} {b:Code} {fr:Fr} {K:Fr→IH→Prop} {Q:cL→Fr→IH→Prop} (R:Fr→IH→Prop)(w:Do (Cc P fn nt rd b fr h) (qN id (vy (fun fr h=>Pst (R fr h) nx) Q)) nx) (k : ∀fr h,R fr h→K fr h):Do (Cc P fn nt rd b fr h) (qN id (vy K Q)) nx :=
 cut (a:=.block id (.loop b)) R w k
def Zbr {ox oy:Operand} {j:IntKind} (a:Nat) {b:Int} (hb:0≤b∧b≤64):binop P .shl t ox oy (.int .u64 (a:Int)) (.int j b)=some (.int .u64 ((a*2 ^ b.toNat % 18446744073709551616:Nat):Int)):=by
 rw[tz P t ox oy hb.1];have e:min b.toNat IntKind.u64.bits=b.toNat:=by simp only[IntKind.bits];omega
 rw[e];have e2:IntKind.u64.wrap ((a:Int)*2 ^ b.toNat)=((a*2 ^ b.toNat % 18446744073709551616:Nat):Int):=by simp[IntKind.wrap,IntKind.bits,IntKind.signed]
 rw[e2]
def QB (k:Nat) (q:Rat):Prop:=q.num.natAbs≤2 ^ k∧q.den≤2 ^ k
variable {x:Rat}{a b:Nat}
def QB.mono (h:QB a x) (k:a≤b):QB b x :=
 ⟨bA h.1 (fQ byOmega k),bA h.2 (fQ byOmega k)⟩
variable {n d:Int}
def rq (hd:0<d):n / (Int.gcd n d:Int)=(Rat.divInt n d).num∧d / (Int.gcd n d:Int)=(Rat.divInt n d).den:=by
 constructor;·rw[Rat.num_divInt,Int.sign_eq_one_of_pos hd,Int.one_mul,Int.gcd_comm d n]
 ·rw[Rat.den_divInt,ad byOmega,Int.gcd_comm d n]
  have:(d.natAbs:Int)=d:=byOmega;rw[Dg,this]
def CB (hd:d<0) : -(n / (Int.gcd n d:Int))=(Rat.divInt n d).num ∧ -(d / (Int.gcd n d:Int))=(Rat.divInt n d).den:=by
 constructor;·rw[Rat.num_divInt,Int.sign_eq_neg_one_of_neg hd,Int.gcd_comm d n,Int.neg_one_mul,Int.neg_ediv_of_dvd (Int.gcd_dvd_left ..)]
 ·rw[Rat.den_divInt,ad byOmega,Int.gcd_comm d n]
  have:(d.natAbs:Int) = -d:=byOmega;rw[Dg,this,Int.neg_ediv_of_dvd (Int.gcd_dvd_right ..)]
def EM (hd:d≠0):(Int.gcd n d:Int)≠0:=by intro h;have:Int.gcd n d=0:=byOmega;rw[Int.gcd_eq_zero_iff] at this;exact hd this.2
def WE (hd:d≠0):d / (Int.gcd n d:Int)<0↔d<0:=by
 rcases Int.lt_or_gt_of_ne hd with h|h;·have:=(CB (n:=n) h).2;have:=(Rat.divInt n d).den_pos;omega
 ·have:=(rq (n:=n) h).2
  have:=(Rat.divInt n d).den_pos;omega
def z8 (n:Int) (g:Nat):(n / (g:Int)).natAbs≤n.natAbs:=by
 rcases Int.le_total 0 n with h|h;·have h1:n / (g:Int)≤n:=Int.ediv_le_self _ h;have h2:0≤n / (g:Int):=Int.ediv_nonneg h byOmega;omega
 ·rcases gW g with rfl|hg
  ·simp
  ·have h2:n / (g:Int)≤0:=by have:=Int.ediv_le_ediv (c:=(g:Int)) byOmega h;simpa using this
   have h3:n≤n / (g:Int):=by rw[Int.le_ediv_iff_mul_le byOmega];have:n*(g:Int)≤n*1:=Int.mul_le_mul_of_nonpos_left h byOmega;omega
   omega
variable {k:Nat}
def QB.divInt (hd:d≠0) (h1:n.natAbs≤2 ^ k) (h2:d.natAbs≤2 ^ k):QB k (Rat.divInt n d):=by
 have e1:=z8 n (Int.gcd n d);have e2:=z8 d (Int.gcd n d);rcases Int.lt_or_gt_of_ne hd with h|h;·obtain⟨a,b⟩:=CB (n:=n) h;exact⟨byOmega,byOmega⟩
 ·obtain⟨a,b⟩:=rq (n:=n) h
  exact⟨byOmega,byOmega⟩
theorem zw (x y:Rat):x+y=Rat.divInt (x.num*y.den+y.num*x.den) ((x.den:Int)*y.den):=by rw[Rat.add_def',←Is];simp
theorem Ct (x y:Rat):x*y=Rat.divInt (x.num*y.num) ((x.den:Int)*y.den):=by rw[Rat.mul_def',←Is];simp
theorem zu (x y:Rat):x / y=Rat.divInt (x.num*y.den) ((x.den:Int)*y.num):=by rw[Rat.div_def,Rat.inv_def,←Rat.divInt_mul_divInt,uS]
def Fh (x:Rat):(x.den:Int)≠0:=by have:=x.den_pos;omega
def O9 (h:x≠0):x.num≠0:=fun e=>h (Rat.num_eq_zero.1 e)
def HQ (x y:Rat):(x.den:Int)*y.den≠0:=Int.mul_ne_zero (Fh x) (Fh y)
def dc {x y:Int} (hx:x.natAbs≤2 ^ a) (hy:y.natAbs≤2 ^ b):(x*y).natAbs≤2 ^ (a+b):=by rw[Int.natAbs_mul,dC];exact fB hx hy
def YE {x y:Int} (hx:x.natAbs≤2 ^ a) (hy:y.natAbs≤2 ^ a):(x+y).natAbs≤2 ^ (a+1):=by have:(x+y).natAbs≤x.natAbs+y.natAbs:=Int.natAbs_add_le _ _;rw[dU];omega
def YZ {x:Int} (hx:x.natAbs≤2 ^ a) (h:a≤b):x.natAbs≤2 ^ b:=bA hx (fQ byOmega h)
def QB.gM (h:QB a x):(x.den:Int).natAbs≤2 ^ a:=by rw[jU];exact h.2
variable {y:Rat}
def QB.Zeo (hx:QB a x) (hy:QB b y):(x.num*y.den+y.num*x.den).natAbs≤2 ^ (a+b+1) :=
 YE (dc hx.1 hy.gM) (by rw[xW];exact dc hy.1 hx.gM)
def QB.add (hx:QB a x) (hy:QB b y):QB (a+b+1) (x+y):=by rw[zw];exact QB.divInt (HQ x y) (hx.Zeo hy) (YZ (dc hx.gM hy.gM) byOmega)
def QB.mul (hx:QB a x) (hy:QB b y):QB (a+b) (x*y):=by rw[Ct];exact QB.divInt (HQ x y) (dc hx.1 hy.1) (dc hx.gM hy.gM)
def QB.div (hx:QB a x) (hy:QB b y) (y0:y≠0):QB (a+b) (x / y):=by rw[zu];exact QB.divInt (Int.mul_ne_zero (Fh x) (O9 y0)) (dc hx.1 hy.gM) (dc hx.gM hy.1)
def QB.neg (hx:QB a x):QB a (-x):=⟨by rw[Rat.neg_num,Int.natAbs_neg];exact hx.1,hx.2⟩
def QB.int (h:n.natAbs≤2 ^ k):QB k (n:Rat):=⟨h,gD byOmega⟩
variable {H0 hi:IH}{P:Program}{o:Nat}{t:TypeId}
def Es (hb:b % 2=1∨b / 2<H0.n) (e:Ext H0 hi):load P hi t (ptr b o)=load P H0 t (ptr b o):=by
 have hr:hi.row b=H0.row b:=e.row byOmega;have hr' : ∀n,hi.rd b o n=H0.rd b o n:=fun n=>by simp only[IH.rd,hr]
 simp only[load,asAddr,ptr];cases bX P t with
 | none=>rfl
 | some c=>cases c<;>cases ba P t<;>simp only[hr']
def aO {fr:Fr} {a:Operand} {hj:IH} {v:QQ} (ha:opd fr a=some (ptr b o)) (hb:b % 2=1∨b / 2<H0.n) (ei:Ext H0 hi) (ej:Ext H0 hj) (hv:load P H0 t (ptr b o)=some v):jH P fr (.load t a) hi hj=true :=
 au ha ((Es hb ei).trans hv) ((Es hb ej).trans hv)
variable {tr:List (Fr×IH)}{ops:List Oper}
def aB {e e':Nat×List Nat} {l:List (Nat×List Nat)} (h1:fc P ops tr [e]) (h2:fc P ops tr (e' :: l)):fc P ops tr (e :: e' :: l):=nO h1 h2
def aA {i p p':Nat} {l:List Nat} (h1:fc P ops tr [(i,[p])]) (h2:fc P ops tr [(i,p' :: l)]):fc P ops tr [(i,p :: p' :: l)]:=yP h1 h2
def kK (h:IH) (a b c:List QQ) : ∃H0,H0=((h.new (.cells a 0 none)).new (.cells b 0 none)).new (.cells c 0 none)∧H0.n=h.n+3∧Ext h H0∧H0.ext.get h.n=some (.cells a 0 none)∧H0.ext.get (h.n+1)=some (.cells b 0 none)∧H0.ext.get (h.n+1+1)=some (.cells c 0 none) :=
 ⟨_,rfl,rfl,(((Ext.refl h).new _).new _).new _,(aE _ _ bz).trans ((aE _ _ bz).trans (aq _ _ rfl)),(aE _ _ bz).trans (aq _ _ rfl),aq _ _ rfl⟩
def gN (h:IH) (a b:List QQ) : ∃H0,H0=(h.new (.cells a 0 none)).new (.cells b 0 none)∧H0.n=h.n+2∧Ext h H0∧H0.ext.get h.n=some (.cells a 0 none)∧H0.ext.get (h.n+1)=some (.cells b 0 none) :=
 ⟨_,rfl,rfl,((Ext.refl h).new _).new _,(aE _ _ bz).trans (aq _ _ rfl),aq _ _ rfl⟩
theorem aw {h:IH} {cs:List QQ} {e:Nat} {f:Option Nat} (hg:h.ext.get b=some (.cells cs e f)):h.row (2*b)=some cs:=by rw[mJ];simp only[IH.cells,hg]
def Ext.kept {a b:IH} (e:Ext a b) {o:cB} (hk:k<a.n) (g:a.ext.get k=some o):b.ext.get k=some o:=(e.get k hk).trans g
def tkA (a s b t:QQ):List.take 2 (List.drop 0 [a,s,b,t]) = [a,s]:=rfl
def tkB (a s b t:QQ):List.take 2 (List.drop 2 [a,s,b,t]) = [b,t]:=rfl
def vk (a s:QQ):List.take 2 (List.drop 0 [a,s]) = [a,s]:=rfl
def fm (a s b t:QQ):List.take 4 (List.drop 0 [a,s,b,t]) = [a,s,b,t]:=rfl
def nN (R:IH→QQ→Rat→Prop) (h:IH):List Rat→List QQ→Prop
 | [],cs=>cs = []
 | q :: l,cs => ∃a s b t cs',cs=a :: s :: b :: t :: cs'∧R h (.agg #[a,s,b,t]) q∧nN R h l cs'
def Kept (R:IH→QQ→Rat→Prop):Prop:=∀h h' v q,R h v q→aX h h'→R h' v q
variable {h' h:IH}{R:IH→QQ→Rat→Prop}
def nN.ae (k:Kept R) (e:aX h h') : ∀{l:List Rat} {cs:List QQ},nN R h l cs→nN R h' l cs
 | [],_,H=>H
 | _ :: _,_,⟨a,s,b,t,cs',h1,h2,h3⟩=>⟨a,s,b,t,cs',h1,k _ _ _ _ h2 e,nN.ae k e h3⟩
theorem nN.len : ∀{l:List Rat} {cs:List QQ},nN R h l cs→cs.length=l.length*4
 | [],_,H=>by cases H;rfl
 | _ :: l,_,⟨a,s,b,t,cs',h1,h2,h3⟩=>by have:=nN.len h3;subst h1;simp only[gX,this];omega
theorem nN.at : ∀{l:List Rat} {cs:List QQ} {i:Nat} {q:Rat},nN R h l cs→l[i]?=some q → ∃a s b t,(cs.drop (i*4)).take 4 = [a,s,b,t]∧R h (.agg #[a,s,b,t]) q
 | [],_,_,_,_,H=>by simp at H
 | x :: l,_,0,q,⟨a,s,b,t,cs',h1,h2,h3⟩,H=>by subst h1;simp at H;subst H;exact⟨a,s,b,t,rfl,h2⟩
 | x :: l,_,i+1,q,⟨a,s,b,t,cs',h1,h2,h3⟩,H=>by subst h1;simp at H;obtain⟨a',s',b',t',e,r⟩:=nN.at h3 H;refine⟨a',s',b',t',?_,r⟩;rw[show(i+1)*4=i*4+4 by omega];simpa using e
variable {q:Rat}
def nN.snoc {a s b t:QQ} (r:R h (.agg #[a,s,b,t]) q) : ∀{l:List Rat} {cs:List QQ},nN R h l cs→nN R h (l ++ [q]) (cs ++ [a,s,b,t])
 | [],_,H=>by cases H;exact⟨a,s,b,t,[],rfl,r,rfl⟩
 | _ :: l,_,⟨a',s',b',t',cs',h1,h2,h3⟩=>by subst h1;exact⟨a',s',b',t',cs' ++ [a,s,b,t],rfl,h2,nN.snoc r h3⟩
def sm (R:IH→QQ→Rat→Prop) (h:IH) (v:QQ) (l:List Rat):Prop:=∃cs,cA h 4 v l.length cs∧nN R h l cs∧l.length≤100000
variable {l:List Rat}{v:QQ}
def sm.ae (k:Kept R) (s:sm R h v l) (e:aX h h'):sm R h' v l:=let ⟨cs,a,b,c⟩:=s;⟨cs,a.ae e,b.ae k e,c⟩
variable {i:Nat}
def sm.ld (k:Kept R) (s:sm R h v l) (e:aX h h') (hi:l[i]?=some q) {P:Program} {t:TypeId} (hT:bX P t=some true) (hS:ba P t=some 4) :∃a s b u,load P h' t (a9 v (i*4))=some (.agg #[a,s,b,u])∧R h' (.agg #[a,s,b,u]) q:=by obtain⟨cs,hs,hc,hl⟩:=s;have hil:=(bZ.1 hi).1;have hcl:=hc.len;obtain⟨a,s,b,u,e1,r⟩:=hc.at hi;exact⟨a,s,b,u,by rw[hs.Ev e byOmega byOmega hT hS,e1],k _ _ _ _ r e⟩
def jJ (l:List Rat):Rat:=l.foldl (· + ·) 0
theorem ny (l:List Rat) (q:Rat):jJ (l ++ [q])=jJ l+q:=by simp[jJ]
theorem fE {α:Type} {l:List α} {q:α} (h:l[i]?=some q):l.take (i+1)=l.take i ++ [q]:=by rw[List.take_add_one,h];rfl
def QB.zero:QB 0 (0:Rat):=⟨aa,aa⟩
theorem QB.jJ {k:Nat} (h : ∀q∈l,QB k q) : ∀i,i≤l.length→QB (i*(k+1)) (jJ (l.take i))
 | 0,_=>by rw[iC];exact QB.zero
 | i+1,hi=>by obtain⟨q,hq⟩:=fJ (l:=l) (i:=i) byOmega;rw[fE hq,ny];exact((QB.jJ h i byOmega).add (h q (bN hq))).mono (by rw[cW];omega)
end Go.Id
namespace Go.Id.B
def a8 (ds:List Nat):Nat→Nat
 | 0=>0
 | k+1=>a8 ds k+ds.getD k 0*18446744073709551616 ^ k
def ay (ds:List Nat):Nat:=a8 ds ds.length
def cG (ds:List Nat):Prop:=∀d∈ds,d<18446744073709551616
def Norm (ds:List Nat):Prop:=ds = []∨ds.getD (ds.length - 1) 0≠0
variable {ds:List Nat}
def cM (h:cG ds) (k:Nat):ds.getD k 0<18446744073709551616:=by
 rw[bC];cases hx:ds[k]? with
 | none=>simp
 | some x=>simpa using h x (bN hx)
theorem ff {k:Nat} (h:ds.length≤k):ds.getD k 0=0:=by rw[bC,cI h];rfl
def vH (k:Nat):0<18446744073709551616 ^ k:=gD byOmega
theorem kP (h:cG ds) : ∀k,a8 ds k<18446744073709551616 ^ k
 | 0=>by simp[a8]
 | k+1=>by have ih:=kP h k;have hd:=cM h k;have h2:ds.getD k 0*18446744073709551616 ^ k≤18446744073709551615*18446744073709551616 ^ k:=cT _ byOmega;rw[a8,dU];omega
theorem lI : ∀{k:Nat},ds.length≤k→a8 ds k=ay ds
 | 0,h=>by have:ds = []:=fC.1 byOmega;subst this;rfl
 | k+1,h=>by
  by_cases hk:ds.length≤k;·rw[a8,lI hk,ff hk];simp
  ·have:ds.length=k+1:=byOmega
   rw[ay,this]
theorem iV {es:List Nat} : ∀{k:Nat},(∀j,j<k→ds.getD j 0=es.getD j 0)→a8 ds k=a8 es k
 | 0,_=>rfl
 | k+1,h=>by rw[a8,a8,iV fun j hj=>h j byOmega,h k byOmega]
def lJ (h:cG ds):ay ds<18446744073709551616 ^ ds.length:=kP h _
theorem cG.append {x:Nat} (h:cG ds) (hx:x<18446744073709551616):cG (ds ++ [x]):=by
 intro d hd;rcases eE.1 hd with h1|h1;·exact h d h1
 ·simp at h1;omega
def cG.take (h:cG ds) (n:Nat):cG (ds.take n):=fun d hd=>h d (AB hd)
theorem tg (ds:List Nat) (n j:Nat):(ds.take n).getD j 0=if j<n then ds.getD j 0 else 0:=by simp only[bC,iU];split<;>rfl
theorem nk (ds:List Nat) (m:Nat) : ∀k,(∀j,m≤j→j<m+k→ds.getD j 0=0)→a8 ds (m+k)=a8 ds m
 | 0,_=>rfl
 | k+1,h=>by rw[show m+(k+1)=(m+k)+1 from rfl,a8,nk ds m k (fun j a b=>h j a byOmega),h (m+k) byOmega byOmega];simp
def AH {m:Nat} (hm:m≤ds.length) (h : ∀j,m≤j→ds.getD j 0=0):ay (ds.take m)=ay ds:=by
 have h1:(ds.take m).length=m:=by simp[hm]
 rw[ay,h1];have h2:a8 (ds.take m) m=a8 ds m:=iV fun j hj=>by rw[tg,ah hj]
 rw[h2];have:=nk ds m (ds.length - m) (fun j a _=>h j a);rw[show m+(ds.length - m)=ds.length from by omega] at this;exact this.symm
def Norm.ge (h:Norm ds) (hne:ds ≠ []):18446744073709551616 ^ (ds.length - 1)≤ay ds:=by
 rcases h with h|h;·exact absurd h hne
 ·have hl:0<ds.length:=NN.2 hne
  obtain⟨n,hn⟩ : ∃n,ds.length=n+1:=⟨ds.length - 1,byOmega⟩;rw[ay,hn,a8];rw[hn] at h;simp only[C6] at h ⊢;have:1*18446744073709551616 ^ n≤ds.getD n 0*18446744073709551616 ^ n:=cT _ byOmega;omega
variable {a b:List Nat}
def nC (ha:cG a) (hb:Norm b) (hl:a.length<b.length):ay a<ay b:=by have h1:=lJ ha;have h2:=hb.ge (by intro h;subst h;simp at hl);have h3:18446744073709551616 ^ a.length≤18446744073709551616 ^ (b.length - 1):=fQ byOmega byOmega;omega
variable {i:Nat}
def vi (ha:cG a) (hi:a.getD i 0<b.getD i 0) : ∀k,(∀j,i<j→j<i+1+k→a.getD j 0=b.getD j 0)→a8 a (i+1+k)<a8 b (i+1+k)
 | 0,_=>by have h1:=kP ha i;have h2:(a.getD i 0+1)*18446744073709551616 ^ i≤b.getD i 0*18446744073709551616 ^ i:=cT _ byOmega;rw[cW] at h2;rw[fR,a8,a8];omega
 | k+1,h=>by have:=vi ha hi k (fun j x y=>h j x byOmega);rw[show i+1+(k+1)=(i+1+k)+1 from rfl,a8,a8,h (i+1+k) byOmega byOmega];omega
def nB (ha:cG a) (hl:a.length=b.length) (hn:i<a.length) (hi:a.getD i 0<b.getD i 0) (h : ∀j,i<j→j<a.length→a.getD j 0=b.getD j 0):ay a<ay b:=by have:=vi ha hi (a.length - (i+1)) (fun j x y=>h j x byOmega);rw[show i+1+(a.length - (i+1))=a.length from by omega] at this;rw[ay,ay,←hl];exact this
def pK (hl:a.length=b.length) (h : ∀j,j<a.length→a.getD j 0=b.getD j 0):ay a=ay b:=by rw[ay,ay,←hl];exact iV h
def Norm.nW (h:Norm ds):ay ds=0↔ds = []:=by
 constructor;·intro h0;apply dW;intro hne;have:=h.ge hne;have:=vH (ds.length - 1);omega
 ·rintro rfl;rfl
def Norm.mc (ha:Norm a) (hb:cG b) (h:ay a≤ay b):a.length≤b.length:=by apply dW;intro hn;have:=nC hb ha byOmega;omega
theorem sE (d:Nat) (ds:List Nat) : ∀k,a8 (d :: ds) (k+1)=d+18446744073709551616*a8 ds k
 | 0=>by simp[a8]
 | k+1=>by rw[a8,sE d ds k,a8];simp only[NP,dU];grind
theorem ns (d:Nat) (ds:List Nat):ay (d :: ds)=d+18446744073709551616*ay ds:=sE d ds _
def BP : ∀{a b:List Nat},cG a→cG b→Norm a→Norm b→ay a=ay b→a=b:=by
 intro a b ha hb na nb h;have l1:=na.mc hb byOmega;have l2:=nb.mc ha byOmega;have hl:a.length=b.length:=byOmega;clear l1 l2 na nb
 induction a generalizing b with
 | nil=>exact(fC.1 hl.symm).symm
 | cons x a ih =>
  cases b with
  | nil=>simp at hl
  | cons y b =>
   rw[ns,ns] at h;have hx:x<18446744073709551616:=ha x aa;have hy:y<18446744073709551616:=hb y aa;have e1:x=y:=byOmega;have e2:ay a=ay b:=byOmega;rw[e1,ih (b:=b) (fun d hd=>ha d (by simp[hd])) (fun d hd=>hb d (by simp[hd])) e2 (by simpa using hl)]
variable {ds:List Nat}{w k:Nat}
theorem fW (hk:k<ds.length) (j:Nat):(ds.set k w).getD j 0=if j=k then w else ds.getD j 0:=by
 simp only[bC,uW];by_cases h:k=j;·subst h;simp[hk]
 ·rw[ad h,ad (fun x=>h x.symm)]
def vj {ds:List Nat} {k w:Nat} (hk:k<ds.length) : ∀n,a8 (ds.set k w) n+(if k<n then ds.getD k 0*18446744073709551616 ^ k else 0)=a8 ds n+(if k<n then w*18446744073709551616 ^ k else 0)
 | 0=>by simp[a8]
 | n+1=>by
  have ih:=vj (w:=w) hk n;rw[a8,a8,fW hk];by_cases h1:k<n;·rw[ah h1,ah h1] at ih;rw[ah (show k<n+1 by omega),ah (show k<n+1 by omega),ad (show ¬n=k by omega)];omega
  ·rw[ad h1,ad h1] at ih;by_cases h2:n=k
   ·subst h2;rw[ah (jR n),ah (jR n),ah rfl];omega
   ·rw[ad (show ¬k<n+1 by omega),ad (show ¬k<n+1 by omega),ad h2];omega
def lq (w:Nat) (hk:k<ds.length):ay (ds.set k w)+ds.getD k 0*18446744073709551616 ^ k=ay ds+w*18446744073709551616 ^ k:=by have h:=vj (w:=w) hk ds.length;rw[ah hk,ah hk] at h;rw[ay,ay,dV];exact h
theorem sD (m:Nat) : ∀n,a8 (List.replicate m 0) n=0
 | 0=>rfl
 | n+1=>by
  rw[a8,sD m n];have:(List.replicate m 0).getD n 0=0:=by rw[bC,ID];split<;>rfl
  rw[this];simp
theorem nm (m:Nat):ay (List.replicate m 0)=0:=sD m _
def nG (m j:Nat):(List.replicate m 0).getD j 0=0:=by rw[bC,ID];split<;>rfl
def cG.set (h:cG ds) (k:Nat) (hw:w<18446744073709551616):cG (ds.set k w):=by
 intro d hd;rcases xY hd with h1|h1;·exact h d h1
 ·omega
theorem cG.cj (m:Nat):cG (List.replicate m 0):=by intro d hd;rw[List.mem_replicate] at hd;omega
def Norm.Rt (h:Norm ds) {m:Nat} (hs:ay ds<18446744073709551616 ^ m):ds.length≤m:=by
 apply dW;intro hn;have hne:ds ≠ []:=by intro h0;subst h0;simp at hn
 have h1:=h.ge hne;have h2:18446744073709551616 ^ m≤18446744073709551616 ^ (ds.length - 1):=fQ byOmega byOmega;omega
end Go.Id.B
namespace Go.Id
open Go
open Go renaming Operand→QY,Program→QX,TypeId→QZ,Value→QQ
open Nat renaming reduceAdd→zA,reduceEqDiff→zE,reduceLeDiff→zL
open Nat (reduceMul)
set_option maxHeartbeats 16000000
variable {y0 y1:Nat}
def Wu {x1 x0:Nat} (h0:x0<4294967296) (h1:x1<4294967296) (g0:y0<4294967296) (g1:y1<4294967296) :x1*y0+x0*y0 / 4294967296<18446744073709551616∧(x1*y0+x0*y0 / 4294967296) % 4294967296+x0*y1<18446744073709551616 ∧ x1*y1+(x1*y0+x0*y0 / 4294967296) / 4294967296+((x1*y0+x0*y0 / 4294967296) % 4294967296+x0*y1) / 4294967296=(x1*4294967296+x0)*(y1*4294967296+y0) / 18446744073709551616:=by have b00:x0*y0≤4294967295*4294967295:=fB byOmega byOmega;have b10:x1*y0≤4294967295*4294967295:=fB byOmega byOmega;have b01:x0*y1≤4294967295*4294967295:=fB byOmega byOmega;have e:(x1*4294967296+x0)*(y1*4294967296+y0)=x1*y1*18446744073709551616+x1*y0*4294967296+x0*y1*4294967296+x0*y0:=fO;rw[e];generalize x0*y0=a at *;generalize x1*y0=b at *;generalize x0*y1=c at *;generalize x1*y1=d at *;refine⟨byOmega,byOmega,byOmega⟩
def KP (y1 y0 u d q r:Nat):Prop:=q*y1+r=u∧(u*4294967296+d) / (y1*4294967296+y0)≤q∧q≤4294967297
variable {d u:Nat}
def Ff (h1:2147483648≤y1) (h0:y0<4294967296) (hu:u<y1*4294967296+y0) (hd:d<4294967296):KP y1 y0 u d (u / y1) (u % y1):=by
 have e:=nf u y1;have hm:=gE u (show 0<y1 by omega);have e1:u / y1*y1=y1*(u / y1):=gu _ _;refine⟨byOmega,?_,?_⟩;·generalize hq:u / y1=q at *;rw[Nat.div_le_iff_le_mul_add_pred byOmega];have e2:(y1*4294967296+y0)*q=y1*q*4294967296+y0*q:=fO;rw[e2];have:0≤y0*q:=dT _;omega
 ·rw[Nat.div_le_iff_le_mul_add_pred byOmega]
  omega
variable {r q:Nat}
def HO (h1:2147483648≤y1) (h0:y0<4294967296) (hu:u<y1*4294967296+y0) (hd:d<4294967296) (J:KP y1 y0 u d q r) (hc:4294967296≤q∨4294967296*r+d<q*y0):0<q∧KP y1 y0 u d (q - 1) (r+y1):=by
 obtain⟨j1,j2,j3⟩:=J
 have hlt:(u*4294967296+d) / (y1*4294967296+y0)<q:=by
  rw[oL byOmega];have e2:q*(y1*4294967296+y0)=q*y1*4294967296+q*y0:=fO;rw[e2];rcases hc with hc|hc;·have e3:4294967296*y0≤q*y0:=cT _ hc;have e4:4294967296*y1≤q*y1:=cT _ hc;omega
  ·omega
 have hq:0<q:=kh (dT _) hlt;refine⟨hq,?_,Nat.le_sub_one_of_lt hlt,byOmega⟩;have e5:(q - 1)*y1+y1=q*y1:=by obtain⟨p,rfl⟩ : ∃p,q=p+1:=⟨q - 1,byOmega⟩;rw[C6,cW,CV]
 omega
theorem Bd (h1:2147483648≤y1) (h0:y0<4294967296) (J:KP y1 y0 u d q r) (hc:q*y0≤4294967296*r+d):(u*4294967296+d) / (y1*4294967296+y0)=q:=by obtain⟨j1,j2,j3⟩:=J;refine Nat.le_antisymm j2 ?_;rw[Nat.le_div_iff_mul_le byOmega];have e2:q*(y1*4294967296+y0)=q*y1*4294967296+q*y0:=fO;rw[e2];omega
theorem uw (h1:2147483648≤y1) (h0:y0<4294967296) (J:KP y1 y0 u d q r) (hr:4294967296≤r) (hq:q≤4294967296):(u*4294967296+d) / (y1*4294967296+y0)=q:=by refine Bd h1 h0 J ?_;have:q*y0≤4294967296*4294967295:=fB hq byOmega;omega
end Go.Id
namespace Go.Id.B
variable {n y x:Nat}
theorem OU (hx:2 ^ n∣x) (hy:y<2 ^ n):x ||| y=x+y:=by obtain⟨c,rfl⟩:=hx;exact(Nat.two_pow_add_eq_or_of_lt hy c).symm
def ZO (hx:x<2 ^ n) (hy:2 ^ n∣y):x ||| y=x+y:=by rw[Nat.or_comm,OU hy hx,xW]
variable {ds:List Nat}
def yU (h:cG ds) : ∀{n k:Nat},n≤k→a8 ds k % 18446744073709551616 ^ n=a8 ds n
 | n,0,hk=>by obtain rfl:n=0:=byOmega;simp[a8]
 | n,k+1,hk=>by
  by_cases hn:n=k+1;·subst hn;exact eP (kP h _)
  ·have ih:=yU h (show n≤k by omega)
   rw[a8];have hd:18446744073709551616 ^ n∣ds.getD k 0*18446744073709551616 ^ k:=pP (xS _ byOmega) (Az _ _);obtain⟨c,hc⟩:=hd;rw[hc,C7,ih]
theorem wy (h:cG ds) (j:Nat):ds.getD j 0=ay ds / 18446744073709551616 ^ j % 18446744073709551616:=by
 have hp:=vH j;by_cases hj:j<ds.length
 ·have e1:a8 ds (j+1)=ay ds % 18446744073709551616 ^ (j+1):=(yU h (show j+1≤ds.length by omega)).symm;have e2:a8 ds (j+1) / 18446744073709551616 ^ j=ds.getD j 0:=by rw[a8,Nat.add_mul_div_right _ _ hp,mw (kP h j),eu]
  rw[←e2,e1,dU,NM]
 ·rw[ff byOmega];have h1:=lJ h;have h2:18446744073709551616 ^ ds.length≤18446744073709551616 ^ j:=fQ byOmega byOmega;rw[mw byOmega]
theorem GV (j:Nat):18446744073709551616 ^ j=2 ^ (64*j):=by rw[CU]
variable {k:Nat}
def ZaQ (h:cG ds) (hk:2 ^ (k+1)∣ay ds):ds.getD (k / 64) 0 ||| 2 ^ (k % 64)=ds.getD (k / 64) 0+2 ^ (k % 64)∧ds.getD (k / 64) 0+2 ^ (k % 64)<18446744073709551616:=by
 have hs:k % 64<64:=gE _ byOmega;have hd:2 ^ (k % 64+1)∣ds.getD (k / 64) 0:=by
  rw[wy h,GV];obtain⟨c,hc⟩:=hk;have e:2 ^ (k+1)=2 ^ (64*(k / 64))*2 ^ (k % 64+1):=by rw[←dC];congr 1;omega
  rw[hc,e,uV,Nat.mul_div_cancel_left _ (gD byOmega)];have e2:18446744073709551616=2 ^ (k % 64+1)*2 ^ (63 - k % 64):=by rw[←dC,show k % 64+1+(63 - k % 64)=64 by omega]
  rw[show(18446744073709551616:Nat)=2 ^ (k % 64+1)*2 ^ (63 - k % 64) from e2];exact(Nat.dvd_mod_iff (xU _ _)).2 (xU _ _)
 have hlt:2 ^ (k % 64)<2 ^ (k % 64+1):=xR byOmega byOmega;have hw:=cM h (k / 64);refine⟨OU hd hlt,?_⟩;obtain⟨c,hc⟩:=hd;rw[hc] at hw ⊢;have e2:18446744073709551616=2 ^ (k % 64+1)*2 ^ (63 - k % 64):=by rw[←dC,show k % 64+1+(63 - k % 64)=64 by omega]
 rw[e2] at hw ⊢;have hc2:c<2 ^ (63 - k % 64):=Nat.lt_of_mul_lt_mul_left hw;have:2 ^ (k % 64+1)*(c+1)≤2 ^ (k % 64+1)*2 ^ (63 - k % 64):=Iw _ hc2;rw[tF,dG] at this;omega
variable {s:Nat}
def GL (hx:x<18446744073709551616) (hs:s<64):x*2 ^ s % 18446744073709551616+x / 2 ^ (64 - s)*18446744073709551616=x*2 ^ s:=by
 have e:18446744073709551616=2 ^ (64 - s)*2 ^ s:=by rw[←dC,show 64 - s+s=64 by omega]
 have h:=nf (x*2 ^ s) 18446744073709551616;have e2:x*2 ^ s / 18446744073709551616=x / 2 ^ (64 - s):=by rw[e,Nat.mul_div_mul_right _ _ (gD byOmega)]
 rw[e2] at h;omega
def Zq (x:Nat) (hs:s<64):2 ^ s∣x*2 ^ s % 18446744073709551616:=by
 have e:18446744073709551616=2 ^ s*2 ^ (64 - s):=by rw[←dC,show s+(64 - s)=64 by omega]
 rw[e];exact(Nat.dvd_mod_iff (xU _ _)).2 (Az _ _)
def GJ (hx:x<18446744073709551616) (hs:s≤64):x / 2 ^ (64 - s)<2 ^ s:=by rw[oL (gD byOmega),←dC,show s+(64 - s)=64 by omega];exact hx
def ZaP (h:cG ds) (hl:ds.length=n+1) (h1:2 ^ k≤ds.getD n 0) (h2:ds.getD n 0<2 ^ (k+1)):2 ^ (64*n+k)≤ay ds∧ay ds<2 ^ (64*n+k+1):=by
 rw[ay,hl,a8,GV];have hb:=kP h n;rw[GV] at hb;have e1:2 ^ (64*n+k)=2 ^ k*2 ^ (64*n):=by rw[dC,gu]
 have e2:2 ^ (64*n+k+1)=2 ^ (k+1)*2 ^ (64*n):=by rw[jS,dC,gu]
 rw[e1,e2];have h3:2 ^ k*2 ^ (64*n)≤ds.getD n 0*2 ^ (64*n):=cT _ h1;have h4:(ds.getD n 0+1)*2 ^ (64*n)≤2 ^ (k+1)*2 ^ (64*n):=cT _ h2;rw[cW,CV] at h4;omega
def NH (a b k V r:Nat):Prop:=a=b*V+r∧2 ^ k∣V∧r<b*2 ^ k
variable {a b:Nat}
def PS {la lb:Nat} (ha:a<2 ^ la) (hb:2 ^ lb≤b) (hl:lb≤la):NH a b (la - lb) 0 a:=by refine⟨byOmega,Nat.dvd_zero _,?_⟩;have h1:2 ^ lb*2 ^ (la - lb)≤b*2 ^ (la - lb):=cT _ hb;rw[←dC,show lb+(la - lb)=la by omega] at h1;omega
variable {r V:Nat}
def XB (h:NH a b (k+1) V r) (hc:b*2 ^ k≤r):NH a b k (V+2 ^ k) (r - b*2 ^ k):=by
 obtain⟨h1,h2,h3⟩:=h
 have e:b*2 ^ (k+1)=b*2 ^ k+b*2 ^ k:=by rw[dU];grind
 refine⟨?_,?_,byOmega⟩;·rw[tF];omega
 ·exact(Nat.dvd_add_right (pP (xS _ byOmega) h2)).2 (Nat.dvd_refl _)
def Um (h:NH a b (k+1) V r) (hc:r<b*2 ^ k):NH a b k V r :=
 ⟨h.1,pP (xS _ byOmega) h.2.1,hc⟩
def XC (h:NH a b 0 V r):V=a / b∧r=a % b:=by obtain⟨h1,_,h3⟩:=h;rw[pN,dG] at h3;have e1:=Nat.mul_add_mod b V r;have e2:=Nat.mul_add_div (show 0<b by omega) V r;rw[←h1,eP h3] at e1;rw[←h1,mw h3,fR] at e2;exact⟨e2.symm,e1.symm⟩
end Go.Id.B
namespace Go.Id
open Go
open Go renaming Operand→QY,Program→QX,TypeId→QZ,Value→QQ
open Nat renaming reduceAdd→zA,reduceEqDiff→zE,reduceLeDiff→zL
open Nat (reduceMul)
set_option maxHeartbeats 16000000
open Go.Proofs.Tryz (prog)
def ZgY:bX prog 133=some false:=ab
def ZgX:bX prog 135=some true:=ab
theorem FK:bX prog 137=some true:=ab
theorem Cb:bX prog 139=some false:=ab
def ZgW:bX prog 143=some false:=ab
def ZgV:bX prog 145=some true:=ab
def YC:bX prog 147=some false:=ab
def Sq:bX prog 150=some false:=ab
def ZgU:bX prog 175=some true:=ab
theorem FI:bX prog 177=some true:=ab
def ag22:bX prog 22=some false:=ab
def ZgT:bX prog 230=some false:=ab
def ag24:bX prog 24=some true:=ab
def ZgS:bX prog 244=some true:=ab
def ZgR:bX prog 246=some true:=ab
def ag25:bX prog 25=some false:=ab
def xj:bX prog 28=some false:=ab
theorem ag3:bX prog 3=some false:=ab
def ZaX:bX prog 30=some true:=ab
def ag32:bX prog 32=some true:=ab
def ag34:bX prog 34=some true:=ab
def ag38:bX prog 38=some false:=ab
def ag4:bX prog 4=some false:=ab
def ag42:bX prog 42=some false:=ab
theorem ag5:bX prog 5=some false:=ab
def ag54:bX prog 54=some false:=ab
def ag56:bX prog 56=some true:=ab
def Zem:bX prog 58=some true:=ab
theorem UN:bX prog 61=some false:=ab
def ZgO:mR prog 133=some (1,8):=ab
def Zce:mR prog 139=some (4,64):=ab
def ZgN:mR prog 143=some (1,1):=ab
def ZgM:mR prog 147=some (1,24):=ab
def Zcd:mR prog 220=some (4,64):=ab
def FH:mR prog 25=some (1,8):=ab
def Yy:mR prog 38=some (1,24):=ab
def ap42:mR prog 42=some (8,64):=ab
def Gr:mR prog 61=some (16,128):=ab
def So:Sn prog 244=some (8,1):=ab
def yJ:Sn prog 30=some (8,1):=ab
def ZgI:dK prog 135=true:=ab
def ZgH:dK prog 137=true:=ab
def ZgG:dK prog 142=true:=ab
def ZgF:dK prog 145=true:=ab
def ZgE:dK prog 175=true:=ab
def ZgD:dK prog 177=true:=ab
def ZgC:dK prog 244=true:=ab
def ZgB:dK prog 246=true:=ab
def as30:dK prog 30=true:=ab
def as32:dK prog 32=true:=ab
def as65:dK prog 65=true:=ab
def as67:dK prog 67=true:=ab
theorem eg30:prog.eqGuardType prog.depth 30=false:=ab
def jM:il prog 133=some 1:=ab
def EX:il prog 139=some 4:=ab
def Zgk:il prog 143=some 1:=ab
def RR:il prog 147=some 1:=ab
def es22:il prog 22=some 1:=ab
def HF:il prog 220=some 4:=ab
def mP:il prog 25=some 1:=ab
theorem ZaE:il prog 38=some 1:=ab
def Kk:il prog 42=some 8:=ab
def es52:il prog 52=some 6:=ab
def qU:il prog 61=some 16:=ab
def lM:fieldAt prog 135 0=some 0:=ab
def mN:fieldAt prog 135 1=some 1:=ab
def j4:fieldAt prog 137 0=some 0:=ab
def kS:fieldAt prog 137 1=some 2:=ab
def Ki:fieldAt prog 142 0=some 0:=ab
def Kh:fieldAt prog 145 0=some 0:=ab
def ZaB:fieldAt prog 145 1=some 1:=ab
def fM:fieldAt prog 175 0=some 0:=ab
def im:fieldAt prog 175 1=some 1:=ab
def j0:fieldAt prog 177 0=some 0:=ab
def og:fieldAt prog 177 1=some 2:=ab
def w5:fieldAt prog 246 0=some 0:=ab
def oe:fieldAt prog 246 1=some 1:=ab
def ZdS:fieldAt prog 24 0=some 0:=ab
def Kg:fieldAt prog 24 1=some 1:=ab
def PL:fieldAt prog 32 0=some 0:=ab
def PK:fieldAt prog 32 1=some 8:=ab
def ZdR:fieldAt prog 34 0=some 0:=ab
def Xm:fieldAt prog 34 1=some 1:=ab
def Xl:fieldAt prog 34 2=some 2:=ab
def ZdQ:fieldAt prog 56 0=some 0:=ab
def ZdP:fieldAt prog 56 2=some 2:=ab
def PJ:fieldAt prog 58 0=some 0:=ab
def Xk:fieldAt prog 58 1=some 3:=ab
def Kf:fieldAt prog 65 0=some 0:=ab
def Ke:fieldAt prog 65 1=some 1:=ab
def Kd:fieldAt prog 65 2=some 2:=ab
def Kc:fieldAt prog 65 3=some 3:=ab
def Kb:fieldAt prog 65 4=some 19:=ab
def J7:wZ prog 135 1=some (false,1,1):=ab
def ZaA:wZ prog 137 0=some (true,0,2):=ab
def is28:(QX.underlying prog 28).isSome=true:=ab
def is3:(QX.underlying prog 3).isSome=true:=ab
def is5:(QX.underlying prog 5).isSome=true:=ab
def is54:(QX.underlying prog 54).isSome=true:=ab
def is64:(QX.underlying prog 64).isSome=true:=ab
def ZbG:sW prog 133=some (1,8,[.int .u64 (0)]):=ab
def ZbF:sW prog 139=some (4,64,[.bool false,.slice none 0 0,.bool false,.slice none 0 0]):=ab
def Zfc:sW prog 143=some (1,1,[.bool false]):=ab
def ZbE:sW prog 147=some (1,24,[.slice none 0 0]):=ab
def Zfb:sW prog 220=some (4,64,[.bool false,.slice none 0 0,.bool false,.slice none 0 0]):=ab
def mk25:sW prog 25=some (1,8,[.int .i64 (0)]):=ab
def mk38:sW prog 38=some (1,24,[.slice none 0 0]):=ab
def mk42:sW prog 42=some (8,64,[.int .u64 (0),.int .u64 (0),.int .u64 (0),.int .u64 (0),.int .u64 (0),.int .u64 (0),.int .u64 (0),.int .u64 (0)]):=ab
def mk61:sW prog 61=some (16,128,[.int .u64 (0),.int .u64 (0),.int .u64 (0),.int .u64 (0),.int .u64 (0),.int .u64 (0),.int .u64 (0),.int .u64 (0),.int .u64 (0),.int .u64 (0),.int .u64 (0),.int .u64 (0),.int .u64 (0),.int .u64 (0),.int .u64 (0),.int .u64 (0)]):=ab
def zF:placeOf prog 135 0=some (0,1):=ab
def uk:placeOf prog 135 1=some (1,1):=ab
def Cy:placeOf prog 137 0=some (0,2):=ab
def Cx:placeOf prog 137 1=some (2,2):=ab
def ZK:placeOf prog 142 0=some (0,1):=ab
def ZJ:placeOf prog 145 0=some (0,1):=ab
def ZI:placeOf prog 145 1=some (1,1):=ab
def Q7:placeOf prog 175 0=some (0,1):=ab
def Cw:placeOf prog 175 1=some (1,1):=ab
def Cv:placeOf prog 177 0=some (0,2):=ab
def Cu:placeOf prog 177 1=some (2,2):=ab
def ZH:placeOf prog 244 7=some (7,1):=ab
def Q6:placeOf prog 246 0=some (0,1):=ab
def ZG:placeOf prog 246 1=some (1,8):=ab
def Zc5:placeOf prog 30 0=some (0,1):=ab
def We:placeOf prog 32 0=some (0,8):=ab
def Wd:placeOf prog 32 1=some (8,8):=ab
def Jy:placeOf prog 65 0=some (0,1):=ab
def Jx:placeOf prog 65 1=some (1,1):=ab
def Jw:placeOf prog 65 2=some (2,1):=ab
def Jv:placeOf prog 65 3=some (3,16):=ab
def Ju:placeOf prog 65 4=some (19,1):=ab
def Zc4:placeOf prog 67 0=some (0,20):=ab
def Zc3:placeOf prog 67 1=some (20,20):=ab
def Zc2:placeOf prog 67 2=some (40,20):=ab
def Zc1:placeOf prog 67 3=some (60,20):=ab
def jd:dE prog (some 133)=true:=ab
def GG:dE prog (some 139)=true:=ab
def ZeQ:dE prog (some 143)=true:=ab
def Vx:dE prog (some 147)=true:=ab
def Zo:dE prog (some 22)=true:=ab
def Zbn:dE prog (some 220)=true:=ab
def jk:dE prog (some 25)=true:=ab
def ZcS:dE prog (some 38)=true:=ab
def AM:dE prog (some 42)=true:=ab
def ZcR:dE prog (some 52)=true:=ab
def tX:dE prog (some 61)=true:=ab
def Zbk:ba prog 135=some 2:=ab
theorem xp:ba prog 137=some 4:=ab
def Zbj:ba prog 139=some 1:=ab
def Zbi:ba prog 145=some 2:=ab
def ZeM:ba prog 147=some 1:=ab
def Zbh:ba prog 175=some 2:=ab
theorem yZ:ba prog 177=some 4:=ab
def ZeL:ba prog 230=some 1:=ab
def sz24:ba prog 24=some 2:=ab
def Zbg:ba prog 244=some 8:=ab
def Zbf:ba prog 246=some 9:=ab
theorem I9:ba prog 28=some 1:=ab
def sz3:ba prog 3=some 1:=ab
def SM:ba prog 30=some 8:=ab
def SL:ba prog 32=some 16:=ab
def sz34:ba prog 34=some 18:=ab
def sz5:ba prog 5=some 1:=ab
def sz56:ba prog 56=some 3:=ab
def Vp:ba prog 58=some 6:=ab
def sz61:ba prog 61=some 1:=ab
def sz65:ba prog 65=some 20:=ab
def Zb:QX.underlying prog 133=some (.slice 28):=ab
def u22:QX.underlying prog 22=some (.slice 5):=ab
def u244:QX.underlying prog 244=some (.array 8 28):=ab
def u25:QX.underlying prog 25=some (.slice 3):=ab
theorem u28:QX.underlying prog 28=some (.int .u64):=ab
def u3:QX.underlying prog 3=some (.int .i64):=ab
theorem u30:QX.underlying prog 30=some (.array 8 28):=ab
def u32:QX.underlying prog 32=some (.struct { toList:=[{ name := "N",type:=30,offset:=0,embedded:=false,tag := "",pkgPath := "",byteOffset:=0 },{ name := "D",type:=30,offset:=8,embedded:=false,tag := "",pkgPath := "",byteOffset:=64 }] }):=ab
def u4:QX.underlying prog 4=some .bool:=ab
def u42:QX.underlying prog 42=some (.slice 30):=ab
def u5:QX.underlying prog 5=some (.int .u8):=ab
def u52:QX.underlying prog 52=some (.slice 58):=ab
def u61:QX.underlying prog 61=some (.slice 32):=ab
def u64:QX.underlying prog 64=some (.int .u64):=ab
def u9:QX.underlying prog 9=some .string:=ab
def mT:aT prog 135=some [.bool false,.slice none 0 0]:=ab
def gY:aT prog 137=some [.bool false,.slice none 0 0,.bool false,.slice none 0 0]:=ab
def Zez:aT prog 139=some [.slice none 0 0]:=ab
def Zey:aT prog 142=some [.slice none 0 0]:=ab
def Za8:aT prog 145=some [.slice none 0 0,.slice none 0 0]:=ab
def Zex:aT prog 147=some [.slice none 0 0]:=ab
def ou:aT prog 175=some [.bool false,.slice none 0 0]:=ab
def jF:aT prog 177=some [.bool false,.slice none 0 0,.bool false,.slice none 0 0]:=ab
def Zew:aT prog 230=some [.nilFunc]:=ab
def UU:aT prog 244=some [.int .u64 (0),.int .u64 (0),.int .u64 (0),.int .u64 (0),.int .u64 (0),.int .u64 (0),.int .u64 (0),.int .u64 (0)]:=ab
def Qe:aT prog 246=some [.bool false,.int .u64 (0),.int .u64 (0),.int .u64 (0),.int .u64 (0),.int .u64 (0),.int .u64 (0),.int .u64 (0),.int .u64 (0)]:=ab
def zc3:aT prog 3=some [.int .i64 (0)]:=ab
def rR:aT prog 30=some [.int .u64 (0),.int .u64 (0),.int .u64 (0),.int .u64 (0),.int .u64 (0),.int .u64 (0),.int .u64 (0),.int .u64 (0)]:=ab
def lX:aT prog 32=some [.int .u64 (0),.int .u64 (0),.int .u64 (0),.int .u64 (0),.int .u64 (0),.int .u64 (0),.int .u64 (0),.int .u64 (0),.int .u64 (0),.int .u64 (0),.int .u64 (0),.int .u64 (0),.int .u64 (0),.int .u64 (0),.int .u64 (0),.int .u64 (0)]:=ab
def zc58:aT prog 58=some [.bool false,.slice none 0 0,.int .u32 (0),.bool false,.slice none 0 0,.int .u32 (0)]:=ab
def zc65:aT prog 65=some [.slice none 0 0,.slice none 0 0,.slice none 0 0,.int .u64 (0),.int .u64 (0),.int .u64 (0),.int .u64 (0),.int .u64 (0),.int .u64 (0),.int .u64 (0),.int .u64 (0),.int .u64 (0),.int .u64 (0),.int .u64 (0),.int .u64 (0),.int .u64 (0),.int .u64 (0),.int .u64 (0),.int .u64 (0),.int .i64 (0)]:=ab
def zc67:aT prog 67=some [.slice none 0 0,.slice none 0 0,.slice none 0 0,.int .u64 (0),.int .u64 (0),.int .u64 (0),.int .u64 (0),.int .u64 (0),.int .u64 (0),.int .u64 (0),.int .u64 (0),.int .u64 (0),.int .u64 (0),.int .u64 (0),.int .u64 (0),.int .u64 (0),.int .u64 (0),.int .u64 (0),.int .u64 (0),.int .i64 (0),.slice none 0 0,.slice none 0 0,.slice none 0 0,.int .u64 (0),.int .u64 (0),.int .u64 (0),.int .u64 (0),.int .u64 (0),.int .u64 (0),.int .u64 (0),.int .u64 (0),.int .u64 (0),.int .u64 (0),.int .u64 (0),.int .u64 (0),.int .u64 (0),.int .u64 (0),.int .u64 (0),.int .u64 (0),.int .i64 (0),.slice none 0 0,.slice none 0 0,.slice none 0 0,.int .u64 (0),.int .u64 (0),.int .u64 (0),.int .u64 (0),.int .u64 (0),.int .u64 (0),.int .u64 (0),.int .u64 (0),.int .u64 (0),.int .u64 (0),.int .u64 (0),.int .u64 (0),.int .u64 (0),.int .u64 (0),.int .u64 (0),.int .u64 (0),.int .i64 (0),.slice none 0 0,.slice none 0 0,.slice none 0 0,.int .u64 (0),.int .u64 (0),.int .u64 (0),.int .u64 (0),.int .u64 (0),.int .u64 (0),.int .u64 (0),.int .u64 (0),.int .u64 (0),.int .u64 (0),.int .u64 (0),.int .u64 (0),.int .u64 (0),.int .u64 (0),.int .u64 (0),.int .u64 (0),.int .i64 (0)]:=ab
def UI (h:IH) (x y:QQ):builtin prog h .append #[133,133] [x,y]=append prog h 133 x y:=builtin_append prog h 133 133 x y jd
def Ij (h:IH) (x y:QQ):builtin prog h .append #[139,139] [x,y]=append prog h 139 x y:=builtin_append prog h 139 139 x y GG
def UH (h:IH) (x y:QQ):builtin prog h .append #[143,143] [x,y]=append prog h 143 x y:=builtin_append prog h 143 143 x y ZeQ
def UG (h:IH) (x y:QQ):builtin prog h .append #[147,147] [x,y]=append prog h 147 x y:=builtin_append prog h 147 147 x y Vx
def Ii (h:IH) (x y:QQ):builtin prog h .append #[220,220] [x,y]=append prog h 220 x y:=builtin_append prog h 220 220 x y Zbn
def oj (h:IH) (x y:QQ):builtin prog h .append #[25,25] [x,y]=append prog h 25 x y:=builtin_append prog h 25 25 x y jk
def Al (h:IH) (x y:QQ):builtin prog h .append #[38,38] [x,y]=append prog h 38 x y:=builtin_append prog h 38 38 x y ZcS
def Sl (h:IH) (x y:QQ):builtin prog h .append #[42,42] [x,y]=append prog h 42 x y:=builtin_append prog h 42 42 x y AM
def oi (h:IH) (x y:QQ):builtin prog h .append #[61,61] [x,y]=append prog h 61 x y:=builtin_append prog h 61 61 x y tX
def be4 (ox oy:Operand) (a b:Bool):binop prog .eql 4 ox oy (.bool a) (.bool b)=some (.bool (a == b)):=FD u4 ox oy a b
def bn4 (ox oy:Operand) (a b:Bool):binop prog .neq 4 ox oy (.bool a) (.bool b)=some (.bool (!(a == b))):=FC u4 ox oy a b
def Yl (h:IH) (len:Nat) (ps:List (Nat×QQ)) (hl:len*1≤16777216):buildSlice prog h 133 len ps=(dF (fun i=>some (i*1,1)) (cj len [.int .u64 (0)]) ps).map fun cells=>(.slice (some ⟨2*h.n,0,none⟩) len (2*len+1),h.new (.cells cells 1 none)):=fP ZbG h len ps hl
def Yk (h:IH) (len:Nat) (ps:List (Nat×QQ)) (hl:len*4≤16777216):buildSlice prog h 139 len ps=(dF (fun i=>some (i*4,4)) (cj len [.bool false,.slice none 0 0,.bool false,.slice none 0 0]) ps).map fun cells=>(.slice (some ⟨2*h.n,0,none⟩) len (2*len+1),h.new (.cells cells 4 none)):=fP ZbF h len ps hl
def Zgv (h:IH) (len:Nat) (ps:List (Nat×QQ)) (hl:len*1≤16777216):buildSlice prog h 143 len ps=(dF (fun i=>some (i*1,1)) (cj len [.bool false]) ps).map fun cells=>(.slice (some ⟨2*h.n,0,none⟩) len (2*len+1),h.new (.cells cells 1 none)):=fP Zfc h len ps hl
def Zb6 (h:IH) (len:Nat) (ps:List (Nat×QQ)) (hl:len*1≤16777216):buildSlice prog h 147 len ps=(dF (fun i=>some (i*1,1)) (cj len [.slice none 0 0]) ps).map fun cells=>(.slice (some ⟨2*h.n,0,none⟩) len (2*len+1),h.new (.cells cells 1 none)):=fP ZbE h len ps hl
def Zb5 (h:IH) (len:Nat) (ps:List (Nat×QQ)) (hl:len*4≤16777216):buildSlice prog h 220 len ps=(dF (fun i=>some (i*4,4)) (cj len [.bool false,.slice none 0 0,.bool false,.slice none 0 0]) ps).map fun cells=>(.slice (some ⟨2*h.n,0,none⟩) len (2*len+1),h.new (.cells cells 4 none)):=fP Zfb h len ps hl
def Ah (h:IH) (len:Nat) (ps:List (Nat×QQ)) (hl:len*1≤16777216):buildSlice prog h 25 len ps=(dF (fun i=>some (i*1,1)) (cj len [.int .i64 (0)]) ps).map fun cells=>(.slice (some ⟨2*h.n,0,none⟩) len (2*len+1),h.new (.cells cells 1 none)):=fP mk25 h len ps hl
def Yj (h:IH) (len:Nat) (ps:List (Nat×QQ)) (hl:len*1≤16777216):buildSlice prog h 38 len ps=(dF (fun i=>some (i*1,1)) (cj len [.slice none 0 0]) ps).map fun cells=>(.slice (some ⟨2*h.n,0,none⟩) len (2*len+1),h.new (.cells cells 1 none)):=fP mk38 h len ps hl
def bs42 (h:IH) (len:Nat) (ps:List (Nat×QQ)) (hl:len*8≤16777216):buildSlice prog h 42 len ps=(dF (fun i=>some (i*8,8)) (cj len [.int .u64 (0),.int .u64 (0),.int .u64 (0),.int .u64 (0),.int .u64 (0),.int .u64 (0),.int .u64 (0),.int .u64 (0)]) ps).map fun cells=>(.slice (some ⟨2*h.n,0,none⟩) len (2*len+1),h.new (.cells cells 8 none)):=fP mk42 h len ps hl
theorem Cl (h:IH) (len:Nat) (ps:List (Nat×QQ)) (hl:len*16≤16777216):buildSlice prog h 61 len ps=(dF (fun i=>some (i*16,16)) (cj len [.int .u64 (0),.int .u64 (0),.int .u64 (0),.int .u64 (0),.int .u64 (0),.int .u64 (0),.int .u64 (0),.int .u64 (0),.int .u64 (0),.int .u64 (0),.int .u64 (0),.int .u64 (0),.int .u64 (0),.int .u64 (0),.int .u64 (0),.int .u64 (0)]) ps).map fun cells=>(.slice (some ⟨2*h.n,0,none⟩) len (2*len+1),h.new (.cells cells 16 none)):=fP mk61 h len ps hl
def Fw (ps:List (Nat×QQ)):kJ prog 135 ps=(dF (placeOf prog 135) [.bool false,.slice none 0 0] ps).map fun cs=>.agg cs.toArray:=iH mT ZgI ps
def Se (ps:List (Nat×QQ)):kJ prog 137 ps=(dF (placeOf prog 137) [.bool false,.slice none 0 0,.bool false,.slice none 0 0] ps).map fun cs=>.agg cs.toArray:=iH gY ZgH ps
def Zgt (ps:List (Nat×QQ)):kJ prog 142 ps=(dF (placeOf prog 142) [.slice none 0 0] ps).map fun cs=>.agg cs.toArray:=iH Zey ZgG ps
def Zgs (ps:List (Nat×QQ)):kJ prog 145 ps=(dF (placeOf prog 145) [.slice none 0 0,.slice none 0 0] ps).map fun cs=>.agg cs.toArray:=iH Za8 ZgF ps
def Sd (ps:List (Nat×QQ)):kJ prog 175 ps=(dF (placeOf prog 175) [.bool false,.slice none 0 0] ps).map fun cs=>.agg cs.toArray:=iH ou ZgE ps
def Sc (ps:List (Nat×QQ)):kJ prog 177 ps=(dF (placeOf prog 177) [.bool false,.slice none 0 0,.bool false,.slice none 0 0] ps).map fun cs=>.agg cs.toArray:=iH jF ZgD ps
def Sa (ps:List (Nat×QQ)):kJ prog 244 ps=(dF (placeOf prog 244) [.int .u64 (0),.int .u64 (0),.int .u64 (0),.int .u64 (0),.int .u64 (0),.int .u64 (0),.int .u64 (0),.int .u64 (0)] ps).map fun cs=>.agg cs.toArray:=iH UU ZgC ps
def Zb4 (ps:List (Nat×QQ)):kJ prog 246 ps=(dF (placeOf prog 246) [.bool false,.int .u64 (0),.int .u64 (0),.int .u64 (0),.int .u64 (0),.int .u64 (0),.int .u64 (0),.int .u64 (0),.int .u64 (0)] ps).map fun cs=>.agg cs.toArray:=iH Qe ZgB ps
def Gj (ps:List (Nat×QQ)):kJ prog 30 ps=(dF (placeOf prog 30) [.int .u64 (0),.int .u64 (0),.int .u64 (0),.int .u64 (0),.int .u64 (0),.int .u64 (0),.int .u64 (0),.int .u64 (0)] ps).map fun cs=>.agg cs.toArray:=iH rR as30 ps
def Ky (ps:List (Nat×QQ)):kJ prog 32 ps=(dF (placeOf prog 32) [.int .u64 (0),.int .u64 (0),.int .u64 (0),.int .u64 (0),.int .u64 (0),.int .u64 (0),.int .u64 (0),.int .u64 (0),.int .u64 (0),.int .u64 (0),.int .u64 (0),.int .u64 (0),.int .u64 (0),.int .u64 (0),.int .u64 (0),.int .u64 (0)] ps).map fun cs=>.agg cs.toArray:=iH lX as32 ps
def ZaO (ps:List (Nat×QQ)):kJ prog 65 ps=(dF (placeOf prog 65) [.slice none 0 0,.slice none 0 0,.slice none 0 0,.int .u64 (0),.int .u64 (0),.int .u64 (0),.int .u64 (0),.int .u64 (0),.int .u64 (0),.int .u64 (0),.int .u64 (0),.int .u64 (0),.int .u64 (0),.int .u64 (0),.int .u64 (0),.int .u64 (0),.int .u64 (0),.int .u64 (0),.int .u64 (0),.int .i64 (0)] ps).map fun cs=>.agg cs.toArray:=iH zc65 as65 ps
def bv67 (ps:List (Nat×QQ)):kJ prog 67 ps=(dF (placeOf prog 67) [.slice none 0 0,.slice none 0 0,.slice none 0 0,.int .u64 (0),.int .u64 (0),.int .u64 (0),.int .u64 (0),.int .u64 (0),.int .u64 (0),.int .u64 (0),.int .u64 (0),.int .u64 (0),.int .u64 (0),.int .u64 (0),.int .u64 (0),.int .u64 (0),.int .u64 (0),.int .u64 (0),.int .u64 (0),.int .i64 (0),.slice none 0 0,.slice none 0 0,.slice none 0 0,.int .u64 (0),.int .u64 (0),.int .u64 (0),.int .u64 (0),.int .u64 (0),.int .u64 (0),.int .u64 (0),.int .u64 (0),.int .u64 (0),.int .u64 (0),.int .u64 (0),.int .u64 (0),.int .u64 (0),.int .u64 (0),.int .u64 (0),.int .u64 (0),.int .i64 (0),.slice none 0 0,.slice none 0 0,.slice none 0 0,.int .u64 (0),.int .u64 (0),.int .u64 (0),.int .u64 (0),.int .u64 (0),.int .u64 (0),.int .u64 (0),.int .u64 (0),.int .u64 (0),.int .u64 (0),.int .u64 (0),.int .u64 (0),.int .u64 (0),.int .u64 (0),.int .u64 (0),.int .u64 (0),.int .i64 (0),.slice none 0 0,.slice none 0 0,.slice none 0 0,.int .u64 (0),.int .u64 (0),.int .u64 (0),.int .u64 (0),.int .u64 (0),.int .u64 (0),.int .u64 (0),.int .u64 (0),.int .u64 (0),.int .u64 (0),.int .u64 (0),.int .u64 (0),.int .u64 (0),.int .u64 (0),.int .u64 (0),.int .u64 (0),.int .i64 (0)] ps).map fun cs=>.agg cs.toArray:=iH zc67 as67 ps
def Fl (k:IntKind) (n:Int):qK prog 28 3 (.int k n)=some (.int .i64 (IntKind.i64.wrap n)):=mq is28 u3
def Zd1 (k:IntKind) (n:Int):qK prog 28 5 (.int k n)=some (.int .u8 (IntKind.u8.wrap n)):=mq is28 u5
def Ks (k:IntKind) (n:Int):qK prog 3 28 (.int k n)=some (.int .u64 (IntKind.u64.wrap n)):=mq is3 u28
def Kr (k:IntKind) (n:Int):qK prog 3 64 (.int k n)=some (.int .u64 (IntKind.u64.wrap n)):=mq is3 u64
def Zd0 (k:IntKind) (n:Int):qK prog 54 3 (.int k n)=some (.int .i64 (IntKind.i64.wrap n)):=mq is54 u3
def HV (k:IntKind) (n:Int):qK prog 5 3 (.int k n)=some (.int .i64 (IntKind.i64.wrap n)):=mq is5 u3
def PT (k:IntKind) (n:Int):qK prog 64 3 (.int k n)=some (.int .i64 (IntKind.i64.wrap n)):=mq is64 u3
def vV (h:IH) (b o:Nat):load prog h 133 (ptr b o)=ld h b o:=dR ZgY h b o
def cK (h:IH) (b o:Nat):load prog h 135 (ptr b o)=(h.rd b o 2).map fun cs=>.agg cs.toArray:=hZ ZgX Zbk h b o
def jZ (h:IH) (b o:Nat):load prog h 137 (ptr b o)=(h.rd b o 4).map fun cs=>.agg cs.toArray:=hZ FK xp h b o
def Zfo (h:IH) (b o:Nat):load prog h 139 (ptr b o)=ld h b o:=dR Cb h b o
def Zfn (h:IH) (b o:Nat):load prog h 143 (ptr b o)=ld h b o:=dR ZgW h b o
def Rw (h:IH) (b o:Nat):load prog h 145 (ptr b o)=(h.rd b o 2).map fun cs=>.agg cs.toArray:=hZ ZgV Zbi h b o
def Rv (h:IH) (b o:Nat):load prog h 147 (ptr b o)=ld h b o:=dR YC h b o
def Zfm (h:IH) (b o:Nat):load prog h 150 (ptr b o)=ld h b o:=dR Sq h b o
def de (h:IH) (b o:Nat):load prog h 175 (ptr b o)=(h.rd b o 2).map fun cs=>.agg cs.toArray:=hZ ZgU Zbh h b o
def fU (h:IH) (b o:Nat):load prog h 177 (ptr b o)=(h.rd b o 4).map fun cs=>.agg cs.toArray:=hZ FI yZ h b o
def Zab (h:IH) (b o:Nat):load prog h 22 (ptr b o)=ld h b o:=dR ag22 h b o
def ZbN (h:IH) (b o:Nat):load prog h 230 (ptr b o)=ld h b o:=dR ZgT h b o
def WO (h:IH) (b o:Nat):load prog h 24 (ptr b o)=(h.rd b o 2).map fun cs=>.agg cs.toArray:=hZ ag24 sz24 h b o
def BR (h:IH) (b o:Nat):load prog h 244 (ptr b o)=(h.rd b o 8).map fun cs=>.agg cs.toArray:=hZ ZgS Zbg h b o
def WN (h:IH) (b o:Nat):load prog h 246 (ptr b o)=(h.rd b o 9).map fun cs=>.agg cs.toArray:=hZ ZgR Zbf h b o
def uQ (h:IH) (b o:Nat):load prog h 25 (ptr b o)=ld h b o:=dR ag25 h b o
def xg (h:IH) (b o:Nat):load prog h 28 (ptr b o)=ld h b o:=dR xj h b o
def ld3 (h:IH) (b o:Nat):load prog h 3 (ptr b o)=ld h b o:=dR ag3 h b o
def iO (h:IH) (b o:Nat):load prog h 30 (ptr b o)=(h.rd b o 8).map fun cs=>.agg cs.toArray:=hZ ZaX SM h b o
def dX (h:IH) (b o:Nat):load prog h 32 (ptr b o)=(h.rd b o 16).map fun cs=>.agg cs.toArray:=hZ ag32 SL h b o
def Zdh (h:IH) (b o:Nat):load prog h 34 (ptr b o)=(h.rd b o 18).map fun cs=>.agg cs.toArray:=hZ ag34 sz34 h b o
def MO (h:IH) (b o:Nat):load prog h 38 (ptr b o)=ld h b o:=dR ag38 h b o
def ld4 (h:IH) (b o:Nat):load prog h 4 (ptr b o)=ld h b o:=dR ag4 h b o
def TQ (h:IH) (b o:Nat):load prog h 42 (ptr b o)=ld h b o:=dR ag42 h b o
def ld5 (h:IH) (b o:Nat):load prog h 5 (ptr b o)=ld h b o:=dR ag5 h b o
def ld54 (h:IH) (b o:Nat):load prog h 54 (ptr b o)=ld h b o:=dR ag54 h b o
def TP (h:IH) (b o:Nat):load prog h 56 (ptr b o)=(h.rd b o 3).map fun cs=>.agg cs.toArray:=hZ ag56 sz56 h b o
def ld58 (h:IH) (b o:Nat):load prog h 58 (ptr b o)=(h.rd b o 6).map fun cs=>.agg cs.toArray:=hZ Zem Vp h b o
def TO (h:IH) (b o:Nat):load prog h 61 (ptr b o)=ld h b o:=dR UN h b o
def Zff (h:IH) (a:Option Addr) (n c:Nat):qB prog h 147 (.slice a n c)=some (.int .i64 n):=yw Vx h a n c
def ln25 (h:IH) (a:Option Addr) (n c:Nat):qB prog h 25 (.slice a n c)=some (.int .i64 n):=yw jk h a n c
variable {l c:Int}
def MB (h:IH) (k j:IntKind) (h0:0≤l) (h1:l≤c) (h2:c*9≤1099511627776):makeSlice prog h 133 (.int k l) (.int j c)=some (.slice (some ⟨2*h.n,0,none⟩) l.toNat (2*c.toNat+1),h.new (.cells (cj c.toNat [.int .u64 (0)]) 1 none)):=pD ZbG h k j h0 h1 h2
def Ze9 (h:IH) (k j:IntKind) (h0:0≤l) (h1:l≤c) (h2:c*65≤1099511627776):makeSlice prog h 139 (.int k l) (.int j c)=some (.slice (some ⟨2*h.n,0,none⟩) l.toNat (2*c.toNat+1),h.new (.cells (cj c.toNat [.bool false,.slice none 0 0,.bool false,.slice none 0 0]) 4 none)):=pD ZbF h k j h0 h1 h2
def Ze8 (h:IH) (k j:IntKind) (h0:0≤l) (h1:l≤c) (h2:c*25≤1099511627776):makeSlice prog h 147 (.int k l) (.int j c)=some (.slice (some ⟨2*h.n,0,none⟩) l.toNat (2*c.toNat+1),h.new (.cells (cj c.toNat [.slice none 0 0]) 1 none)):=pD ZbE h k j h0 h1 h2
def Pe (h:IH) (k j:IntKind) (h0:0≤l) (h1:l≤c) (h2:c*9≤1099511627776):makeSlice prog h 25 (.int k l) (.int j c)=some (.slice (some ⟨2*h.n,0,none⟩) l.toNat (2*c.toNat+1),h.new (.cells (cj c.toNat [.int .i64 (0)]) 1 none)):=pD mk25 h k j h0 h1 h2
def jX (h:IH) (k o:Nat) (v:QQ):store prog h 135 (ptr (2*k) o) v=stE 2 h k o v.cells.toList (h.ext.get k):=fh Zbk h k o v
def fK (h:IH) (k o:Nat) (v:QQ):store prog h 137 (ptr (2*k) o) v=stE 4 h k o v.cells.toList (h.ext.get k):=fh xp h k o v
def ZeP (h:IH) (k o:Nat) (v:QQ):store prog h 139 (ptr (2*k) o) v=stE 1 h k o v.cells.toList (h.ext.get k):=fh Zbj h k o v
def ZeO (h:IH) (k o:Nat) (v:QQ):store prog h 145 (ptr (2*k) o) v=stE 2 h k o v.cells.toList (h.ext.get k):=fh Zbi h k o v
def Zbm (h:IH) (k o:Nat) (v:QQ):store prog h 147 (ptr (2*k) o) v=stE 1 h k o v.cells.toList (h.ext.get k):=fh ZeM h k o v
def jI (h:IH) (k o:Nat) (v:QQ):store prog h 175 (ptr (2*k) o) v=stE 2 h k o v.cells.toList (h.ext.get k):=fh Zbh h k o v
def fS (h:IH) (k o:Nat) (v:QQ):store prog h 177 (ptr (2*k) o) v=stE 4 h k o v.cells.toList (h.ext.get k):=fh yZ h k o v
def ZeN (h:IH) (k o:Nat) (v:QQ):store prog h 230 (ptr (2*k) o) v=stE 1 h k o v.cells.toList (h.ext.get k):=fh ZeL h k o v
def LD (h:IH) (k o:Nat) (v:QQ):store prog h 244 (ptr (2*k) o) v=stE 8 h k o v.cells.toList (h.ext.get k):=fh Zbg h k o v
def LC (h:IH) (k o:Nat) (v:QQ):store prog h 246 (ptr (2*k) o) v=stE 9 h k o v.cells.toList (h.ext.get k):=fh Zbf h k o v
def AL (h:IH) (k o:Nat) (v:QQ):store prog h 28 (ptr (2*k) o) v=stE 1 h k o v.cells.toList (h.ext.get k):=fh I9 h k o v
def st3 (h:IH) (k o:Nat) (v:QQ):store prog h 3 (ptr (2*k) o) v=stE 1 h k o v.cells.toList (h.ext.get k):=fh sz3 h k o v
def oV (h:IH) (k o:Nat) (v:QQ):store prog h 30 (ptr (2*k) o) v=stE 8 h k o v.cells.toList (h.ext.get k):=fh SM h k o v
def iJ (h:IH) (k o:Nat) (v:QQ):store prog h 32 (ptr (2*k) o) v=stE 16 h k o v.cells.toList (h.ext.get k):=fh SL h k o v
def st58 (h:IH) (k o:Nat) (v:QQ):store prog h 58 (ptr (2*k) o) v=stE 6 h k o v.cells.toList (h.ext.get k):=fh Vp h k o v
def st65 (h:IH) (k o:Nat) (v:QQ):store prog h 65 (ptr (2*k) o) v=stE 20 h k o v.cells.toList (h.ext.get k):=fh sz65 h k o v
end Go.Id
namespace Go.Id
def a8 (ds:List Nat):Nat→Nat
 | 0=>0
 | k+1=>a8 ds k+ds.getD k 0*4294967296 ^ k
def ay (ds:List Nat):Nat:=a8 ds ds.length
def cG (ds:List Nat):Prop:=∀d∈ds,d<4294967296
def Norm (ds:List Nat):Prop:=ds = []∨ds.getD (ds.length - 1) 0≠0
variable {ds:List Nat}
def cM (h:cG ds) (k:Nat):ds.getD k 0<4294967296:=by
 rw[bC];cases hx:ds[k]? with
 | none=>simp
 | some x=>simpa using h x (bN hx)
theorem ff {k:Nat} (h:ds.length≤k):ds.getD k 0=0:=by rw[bC,cI h];rfl
def vH (k:Nat):0<4294967296 ^ k:=gD byOmega
theorem kP (h:cG ds) : ∀k,a8 ds k<4294967296 ^ k
 | 0=>by simp[a8]
 | k+1=>by have ih:=kP h k;have hd:=cM h k;have h2:ds.getD k 0*4294967296 ^ k≤4294967295*4294967296 ^ k:=cT _ byOmega;rw[a8,dU];omega
theorem lI : ∀{k:Nat},ds.length≤k→a8 ds k=ay ds
 | 0,h=>by have:ds = []:=fC.1 byOmega;subst this;rfl
 | k+1,h=>by
  by_cases hk:ds.length≤k;·rw[a8,lI hk,ff hk];simp
  ·have:ds.length=k+1:=byOmega
   rw[ay,this]
theorem iV {es:List Nat} : ∀{k:Nat},(∀j,j<k→ds.getD j 0=es.getD j 0)→a8 ds k=a8 es k
 | 0,_=>rfl
 | k+1,h=>by rw[a8,a8,iV fun j hj=>h j byOmega,h k byOmega]
def lJ (h:cG ds):ay ds<4294967296 ^ ds.length:=kP h _
variable {x:Nat}
theorem BU (j:Nat):(ds ++ [x]).getD j 0=if j<ds.length then ds.getD j 0 else if j=ds.length then x else 0:=by
 simp only[bC];by_cases h:j<ds.length;·rw[ah h,gF h]
 ·rw[ad h,jv byOmega];by_cases h2:j=ds.length
  ·rw[ah h2];subst h2;simp
  ·rw[ad h2,cI bq];rfl
theorem mh (ds:List Nat) (x:Nat):ay (ds ++ [x])=ay ds+x*4294967296 ^ ds.length:=by have h1:(ds ++ [x]).length=ds.length+1:=aa;rw[ay,h1,a8,BU,ad byOmega,ah rfl];congr 1;refine iV fun j hj=>?_;rw[BU,ah hj]
theorem cG.append (h:cG ds) (hx:x<4294967296):cG (ds ++ [x]):=by
 intro d hd;rcases eE.1 hd with h1|h1;·exact h d h1
 ·simp at h1;omega
def cG.take (h:cG ds) (n:Nat):cG (ds.take n):=fun d hd=>h d (AB hd)
theorem tg (ds:List Nat) (n j:Nat):(ds.take n).getD j 0=if j<n then ds.getD j 0 else 0:=by simp only[bC,iU];split<;>rfl
theorem nk (ds:List Nat) (m:Nat) : ∀k,(∀j,m≤j→j<m+k→ds.getD j 0=0)→a8 ds (m+k)=a8 ds m
 | 0,_=>rfl
 | k+1,h=>by rw[show m+(k+1)=(m+k)+1 from rfl,a8,nk ds m k (fun j a b=>h j a byOmega),h (m+k) byOmega byOmega];simp
def AH {m:Nat} (hm:m≤ds.length) (h : ∀j,m≤j→ds.getD j 0=0):ay (ds.take m)=ay ds:=by
 have h1:(ds.take m).length=m:=by simp[hm]
 rw[ay,h1];have h2:a8 (ds.take m) m=a8 ds m:=iV fun j hj=>by rw[tg,ah hj]
 rw[h2];have:=nk ds m (ds.length - m) (fun j a _=>h j a);rw[show m+(ds.length - m)=ds.length from by omega] at this;exact this.symm
def Norm.ge (h:Norm ds) (hne:ds ≠ []):4294967296 ^ (ds.length - 1)≤ay ds:=by
 rcases h with h|h;·exact absurd h hne
 ·have hl:0<ds.length:=NN.2 hne
  obtain⟨n,hn⟩ : ∃n,ds.length=n+1:=⟨ds.length - 1,byOmega⟩;rw[ay,hn,a8];rw[hn] at h;simp only[C6] at h ⊢;have:1*4294967296 ^ n≤ds.getD n 0*4294967296 ^ n:=cT _ byOmega;omega
variable {a b:List Nat}
def nC (ha:cG a) (hb:Norm b) (hl:a.length<b.length):ay a<ay b:=by have h1:=lJ ha;have h2:=hb.ge (by intro h;subst h;simp at hl);have h3:4294967296 ^ a.length≤4294967296 ^ (b.length - 1):=fQ byOmega byOmega;omega
variable {i:Nat}
def vi (ha:cG a) (hi:a.getD i 0<b.getD i 0) : ∀k,(∀j,i<j→j<i+1+k→a.getD j 0=b.getD j 0)→a8 a (i+1+k)<a8 b (i+1+k)
 | 0,_=>by have h1:=kP ha i;have h2:(a.getD i 0+1)*4294967296 ^ i≤b.getD i 0*4294967296 ^ i:=cT _ byOmega;rw[cW] at h2;rw[fR,a8,a8];omega
 | k+1,h=>by have:=vi ha hi k (fun j x y=>h j x byOmega);rw[show i+1+(k+1)=(i+1+k)+1 from rfl,a8,a8,h (i+1+k) byOmega byOmega];omega
def nB (ha:cG a) (hl:a.length=b.length) (hn:i<a.length) (hi:a.getD i 0<b.getD i 0) (h : ∀j,i<j→j<a.length→a.getD j 0=b.getD j 0):ay a<ay b:=by have:=vi ha hi (a.length - (i+1)) (fun j x y=>h j x byOmega);rw[show i+1+(a.length - (i+1))=a.length from by omega] at this;rw[ay,ay,←hl];exact this
def pK (hl:a.length=b.length) (h : ∀j,j<a.length→a.getD j 0=b.getD j 0):ay a=ay b:=by rw[ay,ay,←hl];exact iV h
def Norm.nW (h:Norm ds):ay ds=0↔ds = []:=by
 constructor;·intro h0;apply dW;intro hne;have:=h.ge hne;have:=vH (ds.length - 1);omega
 ·rintro rfl;rfl
def Norm.mc (ha:Norm a) (hb:cG b) (h:ay a≤ay b):a.length≤b.length:=by apply dW;intro hn;have:=nC hb ha byOmega;omega
theorem sE (d:Nat) (ds:List Nat) : ∀k,a8 (d :: ds) (k+1)=d+4294967296*a8 ds k
 | 0=>by simp[a8]
 | k+1=>by rw[a8,sE d ds k,a8];simp only[NP,dU];grind
theorem ns (d:Nat) (ds:List Nat):ay (d :: ds)=d+4294967296*ay ds:=sE d ds _
def BP : ∀{a b:List Nat},cG a→cG b→Norm a→Norm b→ay a=ay b→a=b:=by
 intro a b ha hb na nb h;have l1:=na.mc hb byOmega;have l2:=nb.mc ha byOmega;have hl:a.length=b.length:=byOmega;clear l1 l2 na nb
 induction a generalizing b with
 | nil=>exact(fC.1 hl.symm).symm
 | cons x a ih =>
  cases b with
  | nil=>simp at hl
  | cons y b =>
   rw[ns,ns] at h;have hx:x<4294967296:=ha x aa;have hy:y<4294967296:=hb y aa;have e1:x=y:=byOmega;have e2:ay a=ay b:=byOmega;rw[e1,ih (b:=b) (fun d hd=>ha d (by simp[hd])) (fun d hd=>hb d (by simp[hd])) e2 (by simpa using hl)]
end Go.Id
