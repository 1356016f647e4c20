/-
  The kernels of law 38's drafts, and the values of their states.
-/
import Derived.Test.YtnnmjocmapilaaaGreatOutlierValidBm
set_option linter.unusedVariables false
set_option linter.unusedSimpArgs false
set_option linter.defProp false
set_option linter.deprecated false
namespace Go.Id
open Go
open Go.Proofs.Tryz (prog)
open Nat renaming reduceAdd→zA,reduceEqDiff→zE,reduceLeDiff→zL
set_option maxHeartbeats 16000000
theorem Jl {ll:List (List (Nat×Nat))} {t:List Nat} (k:Y9 ll) (ht:t.length=ll.length) (hw : ∀p∈t,1≤wdI p∧wdI p≤9):mX ll t=0∧df (ij ll t)∧(ij ll t).length=ll.length∧Dq (ij ll t) t:=by
 obtain⟨ok,l4,D,D0,D1,hD⟩:=k
 have hp : ∀p∈t,1≤wdI p:=fun p h=>(hw p h).1
 have tm : ∀i,i<ll.length→t.getD i 0∈t:=fun i hi=>by rw[List.getD_eq_getElem?_getD,List.getElem?_eq_getElem (by omega)];exact List.getElem_mem (by omega)
 have hT : ∀i,i<ll.length→0<(wdI (t.getD i 0)).toNat∧cA (t.getD i 0)=((wdI (t.getD i 0)).toNat:Rat):=fun i hi=>by
  have:=hw _ (tm i hi)
  refine⟨by omega,?_⟩
  unfold cA
  have e:wdI (t.getD i 0)=(((wdI (t.getD i 0)).toNat:Nat):Int):=by omega
  rw[e]
  rfl
 have hB : ∀i,i<ll.length→0<D*(wdI (t.getD i 0)).toNat∧60*(D*(wdI (t.getD i 0)).toNat)<H8:=fun i hi=>by
  have:=hw _ (tm i hi)
  have hX:1≤2 ^ 240:=Nat.one_le_two_pow
  exact⟨Nat.mul_pos D0 (hT i hi).1,Za4 D1 (Nat.le_trans (show(wdI (t.getD i 0)).toNat≤9 by omega) (Nat.le_mul_of_pos_right 9 hX))⟩
 have fo:tO ll t:=fun i hi q hq=>by
  obtain⟨f1,f2,_⟩:=Jk ok ht hp hi
  have f3:=Ky _ f1 q hq
  rw[f2] at f3
  have:=hB i hi
  exact(SF this.1 (by omega) (f1 q hq) f3 (Ji hD hT hi q hq)).1
 have hl:(ij ll t).length=ll.length:=iQ ll t
 refine⟨?_,Jj ok ht hp fo,hl,fun i j hi hj=>MV ht hp fo i j (by omega) hj⟩
 unfold mX
 rw[if_neg (fun x=>x ok),if_neg,if_pos fo]
 rintro(c|⟨p,h1,h2⟩)
 ·exact c ht
 ·have:=hp p h1
  omega
theorem DA {h:IH} {s1 s2:Nat} {v1 v2:Value} {l1 l2:List Nat} (hv1:w7 h v1 l1) (hs1:s1<256) (hv2:w7 h v2 l2) (hs2:s2<256) :
  WV prog (.func (.func 16) #[] #[]) [.agg #[B8 s1,v1],.agg #[B8 s2,v2]] h fun r h'=>Ext h h' ∧ ∃m w ll t,r=.tuple #[m,w]∧jt h' m ll∧pE h' w t∧df ll∧1≤ll.length∧ll.length≤4∧t.length=ll.length∧(∀p∈t,1≤wdI p)∧Dq ll t:=by
 obtain⟨H0,hH0,n0,E0,g2,g3⟩:=dY h [B8 s1,v1] [B8 s2,v2]
 have o1:=hv1.1.cells
 have o2:=hv1.1.cok
 have o3:=hv2.1.cells
 have o4:=hv2.1.cok
 have ta:List.take 2 (List.drop 0 [B8 s1,v1]) = [B8 s1,v1]:=rfl
 have tb:List.take 2 (List.drop 0 [B8 s2,v2]) = [B8 s2,v2]:=rfl
 refine enter (nt:=24) (rs:=[.tmp 4,.tmp 5]) Proofs.Tryz.func16 rfl rfl rfl (by simp) ?_
 simp -dsimp (disch:=try exact dx) only[wpS,wpT,zE,zL,zA,WD,ta]
 rw[←hH0]
 clear hH0
 refine call (Ju (hv1.aa E0.aa) hs1) ?_
 rintro m h1 ⟨X1,ll,hm,hl,hr⟩
 obtain⟨c1,c2,hlen⟩:=hm.co
 have l1:1≤ll.length:=by omega
 have l4:ll.length≤4:=by omega
 have kd:=Jt l1 l4 fun x hx=>by rw[hl];exact hr x hx
 have g31:=X1.kept (by omega) g3
 simp -dsimp (disch:=omega) only[wpS,wpT,zE,zL,zA,WD,aj g31,tb,hlen]
 refine call (Ea (hv2.aa (E0.trans X1).aa) ll.length (by omega)) ?_
 rintro w h2 ⟨X2,t,hw,lt,ht⟩
 simp -dsimp (disch:=omega) only[wpS,zE]
 refine call (FH (hm.aa X2.aa) hw) ?_
 rintro _ h3 ⟨X3,out,rfl,q1,_⟩
 obtain⟨f1,f2,f3,f4⟩:=Jl kd lt ht
 rw[f1]
 have so:=q1 f1
 simp -dsimp (disch:=omega) only[wpS,zE]
 exact⟨((E0.trans X1).trans X2).trans X3,out,w,_,t,rfl,so,hw.aa X3.aa,f2,by omega,by omega,by omega,fun p hp=>(ht p hp).1,f4⟩
theorem SX (a b c d:Nat):IH.aG (shC a b) 0 (shC c d)=shC c d:=by
 simp[IH.aG,au]
theorem Iy {h:IH} {v:Value} {n m:Nat} (hv:ON h v m) (hn:n≤1000) :
  WV prog (.func (.func 17) #[] #[]) [v,KN n] h fun r h'=>Ext h h' ∧ ∃l,iT h' r l∧l.length=n∧(∀p∈l,pd p):=by
 obtain⟨cs,hsl,hdr⟩:=hv
 have hcl:=hsl.2.1
 have lenv:=hsl.len sl52 (P:=prog)
 refine enter (nt:=32) (rs:=[.tmp 4]) Proofs.Tryz.func17 rfl rfl rfl (by simp) ?_
 simp -dsimp (disch:=omega) only[wpS,zE,zA]
 refine loop (fun k fr hh => ∃(i:Nat) (out:Value) (l:List (Nat×Nat)),i+k=n∧l.length=i∧(∀p∈l,pd p)∧Ext h hh∧Acc hh h.n 16 out l.length (shL l)∧ab fr 0=some v∧ab fr 5=some out∧ab fr 9=some (KN n)∧ab fr 10=some (KN i)) n
  ⟨0,.slice none 0 0,[],by omega,rfl,(fun p hp=>by cases hp),Ext.refl _,Acc.nil _ _ (by omega),by simp⟩ ?_
 rintro k fr hh ⟨i,out,l,hik,hil,hlt,hE,hA,f0,f5,f9,f10⟩
 have hnn:=hE.n
 simp -dsimp (disch:=omega) only[wpS,f9,f10]
 refine aq ?_ ?_<;>intro hc<;>simp only[decide_eq_true_eq,decide_eq_false_iff_not] at hc
 ·have hi:i<n:=by omega
  simp -dsimp (disch:=omega) only[wpS,wpT,zE,f10]
  refine call (oU 0 1 ⟨by omega,by omega⟩ ⟨by omega,by omega⟩ (by omega)) ?_
  rintro _ h1 ⟨X1,rfl⟩
  rw[fh]
  have s0:pd (shq (Rat.divInt 0 1)):=⟨0,1,⟨by omega,by omega⟩,⟨by omega,by omega⟩,rfl⟩
  generalize shq (Rat.divInt 0 1)=p0 at s0 ⊢
  simp -dsimp (disch:=omega) only[wpS,wpT,zE,zL,zA,gC,ed,aB,au,aY,bC]
  obtain⟨H2,hH2⟩:=aP ((h1.new (.cells Z16 0 none)).put h1.n (.cells (shC p0.1 p0.2) 0 none))
  have F2:Ext h1 H2:=by rw[hH2];exact((Ext.refl h1).new _).put (Nat.le_refl _) _
  have n2:H2.n=h1.n+1:=by rw[hH2];rfl
  have g7:H2.ext.get h1.n=some (.cells (shC p0.1 p0.2) 0 none):=by rw[hH2];simp (disch:=omega) only[ae]
  rw[←hH2]
  clear hH2
  have E2:=X1.trans F2
  have m2:=E2.n
  simp -dsimp (disch:=omega) only[wpS,zE,f0,lenv]
  refine fC (fun fr H => ∃p,pd p∧Ext hh H∧h1.n<H.n∧H.ext.get h1.n=some (.cells (shC p.1 p.2) 0 none)∧ab fr 0=some v∧ab fr 5=some out∧ab fr 7=some (ptr (2*h1.n) 0)∧ab fr 9=some (KN n)∧ab fr 10=some (KN i)) (fun hb=>?_) (fun hb=>?_) ?_
  ·have him:i<m:=by have:=of_decide_eq_true hb;omega
   have hld:=hsl.Cb (hE.trans E2).aa (c:=i*6) (m:=6) (by omega) (by omega) (P:=prog) (t:=58) ag58 Ym
   obtain⟨b,x,a1,b2,x2,a2,hcs,hx,hx2,q1,q2,q3,q4⟩:=hdr i him
   rw[hcs] at hld
   simp -dsimp (disch:=omega) only[wpS,wpT,zE,f0,hsl.idx es52 him,hld]
   refine call (Js (by simpa using hx) (by simpa using hx2) q1 q2 q3 q4) ?_
   rintro _ h3 ⟨X3,a,c,ha,hc2,rfl⟩
   have sp:pd (shq (Rat.divInt a c)):=⟨a,c,ha,hc2,rfl⟩
   rw[fh]
   generalize shq (Rat.divInt a c)=p at sp ⊢
   have m3:=X3.n
   have g73:=X3.kept (by omega) g7
   simp -dsimp (disch:=omega) only[wpS,wpT,zE,zL,ed,g73,aB,au,aY,SX]
   exact⟨p,sp,(E2.trans X3).put (by have:=X1.n;omega) _,by simp only[aH];omega,ae _ _ rfl,by simp[f0,f5,f9,f10]⟩
  ·simp -dsimp (disch:=omega) only[wpS]
   exact⟨p0,s0,E2,by omega,g7,by simp[f0,f5,f9,f10]⟩
  clear f0 f5 f9 f10 g7 s0
  rintro fr H ⟨p,sp,E,nH,g7,f0,f5,f7,f9,f10⟩
  obtain⟨dU,h8,hap,hA8,hG8,hE8⟩:=(hA.ext E).se (P:=prog) (t:=61) OG (m:=1) (new:=shC p.1 p.2) (by omega) (by rw[au]) (aY _ _) (by omega) (by have:=E.n;omega) (hE.trans E) (Nat.le_refl _)
  simp -dsimp (disch:=omega) only[wpS,wpT,zE,zL,zA,bY,Hm,rT,f5,f7,f10,aj g7,au,aO,bC,hap]
  refine⟨k - 1,by omega,i+1,dU,l ++ [p],by omega,by simp[hil],?_,hE8,?_,by simp[f0,f9]⟩
  ·intro q hq
   rcases List.mem_append.1 hq with hq|hq
   ·exact hlt q hq
   ·obtain rfl:=List.mem_singleton.1 hq
    exact sp
  ·rw[PA,List.length_append]
   exact hA8
 ·obtain rfl:i=n:=by omega
  simp -dsimp (disch:=omega) only[wpS,wpT,zE,f5]
  exact⟨hE,l,⟨hA.sl,by omega,fun p hp=>(hlt p hp).lt⟩,hil,hlt⟩
end Go.Id
namespace Go.Id
open Go
theorem wH {a b c:Rat} (hb:0<b) (h:a≤c*b):a / b≤c:=by
 have e:a / b*b=a:=Rat.div_mul_cancel (by grind)
 generalize a / b=q at *
 refine Rat.not_lt.1 fun hn=>?_
 have:=Rat.mul_pos (a:=q - c) (b:=b) (by grind) hb
 grind
theorem Jv {a b:Rat} (ha:0≤a) (hb:0<b):0≤a / b:=by
 have e:a / b*b=a:=Rat.div_mul_cancel (by grind)
 generalize a / b=q at *
 refine Rat.not_lt.1 fun hn=>?_
 have:=Rat.mul_pos (a:=-q) (b:=b) (by grind) hb
 grind
theorem PH (n:Nat) (c:Rat) (f:Nat→Rat):rs n (fun i=>f i / c)=rs n f / c:=by
 rw[aX (g:=fun i=>c⁻¹*f i) (fun i _=>by rw[Rat.div_def,Rat.mul_comm]),qu,Rat.div_def,Rat.mul_comm]
theorem Gv (t:List Nat) (g:Nat→Rat) (i:Nat):pS t g i=rs i (fun s=>wQ t s*g s) / rs t.length (wQ t):=by
 unfold pS
 rw[←PH]
 exact aX fun s _=>by grind
structure vF (ll:List (List (Nat×Nat))) (t:List Nat):Prop where
 ko:df ll
 len:t.length=ll.length
 pos : ∀p∈t,1≤wdI p
 rev:Dq ll t
section
variable {ll:List (List (Nat×Nat))} {t:List Nat}
theorem vF.w0 (k:vF ll t) (i:Nat):0≤wQ t i:=by
 unfold wQ cA
 rw[List.getD_eq_getElem?_getD]
 cases e:t[i]? with
 | none =>
  have:wdI 0=0:=by
   have h2:=dZ
   have h3:=gU
   unfold wdI
   split<;>omega
  simp[this]
 | some p =>
  have:=k.pos p (List.mem_of_getElem? e)
  simp only[Option.getD_some]
  exact Rat.intCast_nonneg.2 (by omega)
theorem vF.wp (k:vF ll t) {i:Nat} (hi:i<ll.length):0<wQ t i:=by
 have hl:=k.len
 have:=k.pos _ (List.getElem_mem (show i<t.length by omega))
 unfold wQ cA
 rw[List.getD_eq_getElem?_getD,List.getElem?_eq_getElem (by omega),Option.getD_some]
 exact Rat.intCast_pos.2 (by omega)
theorem vF.W (k:vF ll t):0<rs ll.length (wQ t):=by
 have h1:=k.ko.1
 have a:=PG (n:=ll.length) k.w0 (j:=0) (by omega)
 have b:=k.wp (i:=0) (by omega)
 grind
theorem vF.hr (k:vF ll t) (i j:Nat) (hi:i<ll.length) (hj:j<ll.length):wQ t i*kAt ll i j=wQ t j*kAt ll j i:=by
 rcases Nat.lt_trichotomy i j with h|h|h
 ·exact(k.rev j i hj h).symm
 ·rw[h]
 ·exact k.rev i j hi h
theorem vF.h1 (k:vF ll t) (i:Nat) (hi:i<ll.length):rs ll.length (kAt ll i)=1:=Le k.ko hi
theorem RJ {e:Nat×Nat} {S:Nat} (h0:0≤rOf e):((mD e S:Nat):Rat)≤rOf e*((S+1:Nat):Rat):=by
 unfold mD
 rw[Int.toNat_natCast]
 have hn:(0:Rat)≤(((S+1:Nat):Int):Rat):=Rat.intCast_nonneg.2 (by omega)
 have a:=Cl (rOf e*(((S+1:Nat):Int):Rat))
 have b:=sM (Rat.mul_nonneg h0 hn)
 generalize hz:ig (rOf e*(((S+1:Nat):Int):Rat))=z at a b ⊢
 have c:((z.toNat:Nat):Int)=z:=by omega
 have d:((z.toNat:Nat):Rat)=((z:Int):Rat):=by
  have:((z.toNat:Nat):Rat)=(((z.toNat:Nat):Int):Rat):=rfl
  rw[this,c]
 rw[d]
 exact a
theorem JN {N:Nat} {p:Nat→Nat→Rat} {f:Nat→Rat} {S s:Nat}:ch N p f 0 S s=0:=by
 unfold ch
 have:=iv (N:=N) (p:=p) S s 0 (fun _=>0)
 simp only[Rat.zero_mul] at this
 rw[fK (G:=fun _=>0) fun l _=>by rw[if_neg (by omega)]]
 exact this
theorem Gx (ko:df ll) (f:Nat→Rat) (R S n s:Nat):0≤qK ll.length (kAt ll) f R S n s:=by
 unfold qK
 have z : ∀k s,bN ll.length (kAt ll) k s (fun _=>(0:Rat))=0:=fun k s=>by
  have:=iv (N:=ll.length) (p:=kAt ll) k s 0 (fun _=>0)
  simp only[Rat.zero_mul] at this
  exact this
 have a:=mK (N:=ll.length) (tH ko) (k:=n) (s:=s) (F:=fun _=>0) (G:=fun b=>bN ll.length (kAt ll) (S - n) s fun o=>if b.countP (leF f s)+o.countP (leF f s)+1≤R then 1 else 0) (fun b _=>by
  have c:=mK (N:=ll.length) (tH ko) (k:=S - n) (s:=s) (F:=fun _=>0) (G:=fun o=>if b.countP (leF f s)+o.countP (leF f s)+1≤R then 1 else 0) (fun o _=>by split<;>grind)
  rw[z] at c
  exact c)
 rw[z] at a
 exact a
def Q6 (ll:List (List (Nat×Nat))) (t:List Nat) (f:Nat→Rat) (R S:Nat):Rat:=pS t (ch ll.length (kAt ll) f R S) ll.length
def TC (ll:List (List (Nat×Nat))) (t:List Nat) (f:Nat→Rat) (R S:Nat):Rat:=pS t (fun s=>rs (S+1) (fun k=>qK ll.length (kAt ll) f R S k s) / (((S+1:Nat):Int):Rat)) ll.length
theorem N1 (k:vF ll t) (f:Nat→Rat) {e:Nat×Nat} (h0:0≤rOf e) (S:Nat):0≤Q6 ll t f (mD e S) S∧Q6 ll t f (mD e S) S*Q6 ll t f (mD e S) S≤rOf e*2:=by
 have W:=k.W
 have c:=RJ (S:=S) h0
 have hl:=k.len
 generalize mD e S=R at c ⊢
 unfold Q6
 rw[Gv,hl]
 have an:0≤rs ll.length (fun s=>wQ t s*ch ll.length (kAt ll) f R S s):=lE fun i _=>Rat.mul_nonneg (k.w0 i) (pC (tH k.ko) f R S i)
 generalize hA:rs ll.length (fun s=>wQ t s*ch ll.length (kAt ll) f R S s)=A at an ⊢
 generalize hW:rs ll.length (wQ t)=w at W ⊢
 refine⟨Jv an W,?_⟩
 have s1:(0:Rat)<((S+1:Nat):Rat):=Rat.natCast_pos.2 (by omega)
 by_cases hR:1≤R
 ·have sq:=Q7 k.hr (tH k.ko) k.h1 k.w0 f S hR
  rw[hA,hW] at sq
  have r2:((2*R - 1:Nat):Rat)≤2*((R:Nat):Rat):=by
   have:((2*R - 1:Nat):Rat)≤((2*R:Nat):Rat):=Rat.natCast_le_natCast.2 (by omega)
   rw[Rat.natCast_mul] at this
   exact this
  have ww:0<w*w:=Rat.mul_pos W W
  have c1:=Rat.mul_le_mul_of_nonneg_right r2 (Rat.le_of_lt ww)
  have c2:=Rat.mul_le_mul_of_nonneg_right c (Rat.le_of_lt ww)
  have e1:A / w*w=A:=Rat.div_mul_cancel (by grind)
  generalize A / w=q at e1 ⊢
  subst e1
  generalize ((2*R - 1:Nat):Rat)=r at *
  generalize ((R:Nat):Rat)=x at *
  generalize ((S+1:Nat):Rat)=z at *
  refine Rat.not_lt.1 fun hn=>?_
  have p1:=Rat.mul_pos (a:=q*q - rOf e*2) (b:=z*(w*w)) (by grind) (Rat.mul_pos s1 ww)
  grind
 ·have:R=0:=by omega
  subst this
  have:A=0:=by
   rw[←hA,aX (g:=fun _=>0) (fun i _=>by rw[JN,Rat.mul_zero]),oQ]
  rw[this]
  have:(0:Rat) / w=0:=by grind
  rw[this]
  grind
theorem Nz (k:vF ll t) (f:Nat→Rat) {e:Nat×Nat} (h0:0≤rOf e) (S:Nat):0≤TC ll t f (mD e S) S∧TC ll t f (mD e S) S≤rOf e:=by
 have W:=k.W
 have c:=RJ (S:=S) h0
 have hl:=k.len
 generalize mD e S=R at c ⊢
 unfold TC
 rw[Gv,hl]
 have s1:(0:Rat)<((S+1:Nat):Rat):=Rat.natCast_pos.2 (by omega)
 have sI:(((S+1:Nat):Int):Rat)=((S+1:Nat):Rat):=rfl
 rw[sI]
 have an:0≤rs ll.length (fun s=>wQ t s*(rs (S+1) (fun k=>qK ll.length (kAt ll) f R S k s) / ((S+1:Nat):Rat))):=lE fun i _=>Rat.mul_nonneg (k.w0 i) (Jv (lE fun j _=>Gx k.ko f R S j i) s1)
 refine⟨Jv an W,?_⟩
 have m:=Qs k.hr (tH k.ko) k.h1 k.w0 f S R
 have e1:rs ll.length (fun s=>wQ t s*(rs (S+1) (fun k=>qK ll.length (kAt ll) f R S k s) / ((S+1:Nat):Rat)))=rs (S+1) (fun j=>rs ll.length fun s=>wQ t s*qK ll.length (kAt ll) f R S j s) / ((S+1:Nat):Rat):=by
  rw[Dp,←PH]
  refine aX fun s _=>?_
  rw[qu]
  grind
 rw[e1]
 have m2:rs (S+1) (fun j=>rs ll.length fun s=>wQ t s*qK ll.length (kAt ll) f R S j s)≤(R:Rat)*rs ll.length (wQ t):=m
 generalize rs (S+1) (fun j=>rs ll.length fun s=>wQ t s*qK ll.length (kAt ll) f R S j s)=A at m2 ⊢
 generalize rs ll.length (wQ t)=w at W m2 ⊢
 generalize ((S+1:Nat):Rat)=z at s1 c ⊢
 generalize ((R:Nat):Rat)=x at c m2
 have c1:=Rat.mul_le_mul_of_nonneg_right c (Rat.le_of_lt W)
 refine wH W (wH s1 ?_)
 grind
end
open Nat renaming reduceAdd→zA,reduceEqDiff→zE,reduceLeDiff→zL
set_option maxHeartbeats 16000000
theorem ue {h:IH} (a c:Int) (ha:0≤a∧a<1000) (hc:0<c∧c<25):WV Proofs.Tryz.prog (.func (.func 73) #[] #[]) [pH a,pH c] h fun r h'=>Ext h h'∧r=hZ (Rat.divInt a c):=vV a c ⟨by omega,by omega⟩ hc
theorem Oc {h:IH} {b b2:Bool} {x x2:Value} {n n2:Int} (hx:([x]:List Value).all aA=true) (hx2:([x2]:List Value).all aA=true) (h0:0≤n) (hn:n<4294967296) (g0:0≤n2) (gn:n2<4294967296) :
  WV Proofs.Tryz.prog (.func (.func 18) #[] #[]) [.agg #[.bool b,x,.int .u32 n,.bool b2,x2,.int .u32 n2]] h fun r h'=>Ext h h' ∧ ∃a c:Int,0≤a∧a≤c∧0<c∧c<25∧r=hZ (Rat.divInt a c):=by
 have hx':aA x=true:=by simpa using hx
 have hx2':aA x2=true:=by simpa using hx2
 obtain⟨H0,hH0,n0,E0,k0,k1⟩:=dY h [.bool b,x,.int .u32 n,.bool b2,x2,.int .u32 n2] Z16
 refine enter (nt:=30) (rs:=[.cell 2 32]) Proofs.Tryz.func18 rfl rfl rfl (by simp) ?_
 simp -dsimp (disch:=omega) only[wpS,gC]
 rw[←hH0]
 clear hH0
 have X0:=Ext.refl H0
 have L1:load Proofs.Tryz.prog H0 56 (ptr (2*h.n) 3)=some (.agg #[.bool b2,x2,.int .u32 n2]):=by
  have r:=aj k0
  simp -dsimp (disch:=omega) only[wpS,wpT,zL,zA,ND,r]
  rfl
 refine drawn [(4,[2])] (by kernel_rfl) (by kernel_rfl) rfl ?_
 simp -dsimp (disch:=omega) only[wpS,wpT,zE,zL,zA,Jo,ND,aj k0]
 refine call (mq hx h0 hn) ?_
 rintro _ h1 ⟨X1,y,rfl,y0,y1⟩
 have m1:=X1.n
 have kx:=X1.kept (by omega) k0
 simp -dsimp (disch:=omega) only[wpS,wpT,zE,zL,zA,ND,Ra,aj kx]
 refine call (mq hx2 g0 gn) ?_
 rintro _ h2 ⟨X2,z,rfl,z0,z1⟩
 have m2:=X2.n
 have X12:=X1.trans X2
 simp -dsimp (disch:=omega) only[wpS,zE]
 refine⟨by repeat' first|refine ay ?_ ?_|refine az ?_ ?_|exact ad rfl rfl rfl rfl (aT (H0:=H0) rfl (by omega) (by assumption) (by assumption) (by with_reducible assumption)),?_⟩
 have cy:y<0∨0≤y:=by omega
 have cz:z<0∨0≤z:=by omega
 rcases cy with hy|hy
 ·rcases cz with hz|hz
  ·obtain⟨w,hw⟩:=aP (-y)
   obtain⟨u,hu⟩:=aP (-z)
   have c1:decide (y<0)=true:=decide_eq_true hy
   have c2:decide (z<0)=true:=decide_eq_true hz
   have m0:0≤u % 24∧u % 24<24:=by omega
   have r0:0≤w % (2+u % 24):=Int.emod_nonneg _ (by omega)
   have r1:w % (2+u % 24)<2+u % 24:=Int.emod_lt_of_pos _ (by omega)
   simp -dsimp (disch:=omega) only[wpS,wpT,zE,zA,c1,c2,←hw,←hu]
   refine call (dT (w % (2+u % 24)) ⟨by omega,by omega⟩) ?_
   rintro _ h3 ⟨X3,rfl⟩
   have m3:=X3.n
   simp -dsimp (disch:=omega) only[wpS,zE]
   refine call (dT (1+u % 24) ⟨by omega,by omega⟩) ?_
   rintro _ h4 ⟨X4,rfl⟩
   have m4:=X4.n
   simp -dsimp (disch:=omega) only[wpS,zE]
   refine call (ue (w % (2+u % 24)) (1+u % 24) ⟨r0,by omega⟩ ⟨by omega,by omega⟩) ?_
   rintro _ h5 ⟨X5,rfl⟩
   have m5:=X5.n
   have XX:=(((X1.trans X2).trans X3).trans X4).trans X5
   have k2:=XX.kept (by omega) k1
   simp -dsimp (disch:=omega) only[wpS,wpT,zE,zL,zA,ed,bY,k2,aB,au,aY,bC,aO]
   exact⟨(E0.trans XX).put (by omega) _,_,_,r0,by omega,by omega,by omega,rfl⟩
  ·obtain⟨w,hw⟩:=aP (-y)
   obtain⟨u,hu⟩:=aP (z)
   have c1:decide (y<0)=true:=decide_eq_true hy
   have c2:decide (z<0)=false:=decide_eq_false (by omega)
   have m0:0≤u % 24∧u % 24<24:=by omega
   have r0:0≤w % (2+u % 24):=Int.emod_nonneg _ (by omega)
   have r1:w % (2+u % 24)<2+u % 24:=Int.emod_lt_of_pos _ (by omega)
   simp -dsimp (disch:=omega) only[wpS,wpT,zE,zA,c1,←hw,←hu]
   refine call (dT (w % (2+u % 24)) ⟨by omega,by omega⟩) ?_
   rintro _ h3 ⟨X3,rfl⟩
   have m3:=X3.n
   simp -dsimp (disch:=omega) only[wpS,zE]
   refine call (dT (1+u % 24) ⟨by omega,by omega⟩) ?_
   rintro _ h4 ⟨X4,rfl⟩
   have m4:=X4.n
   simp -dsimp (disch:=omega) only[wpS,zE]
   refine call (ue (w % (2+u % 24)) (1+u % 24) ⟨r0,by omega⟩ ⟨by omega,by omega⟩) ?_
   rintro _ h5 ⟨X5,rfl⟩
   have m5:=X5.n
   have XX:=(((X1.trans X2).trans X3).trans X4).trans X5
   have k2:=XX.kept (by omega) k1
   simp -dsimp (disch:=omega) only[wpS,wpT,zE,zL,zA,ed,bY,k2,aB,au,aY,bC,aO]
   exact⟨(E0.trans XX).put (by omega) _,_,_,r0,by omega,by omega,by omega,rfl⟩
 ·rcases cz with hz|hz
  ·obtain⟨w,hw⟩:=aP (y)
   obtain⟨u,hu⟩:=aP (-z)
   have c1:decide (y<0)=false:=decide_eq_false (by omega)
   have c2:decide (z<0)=true:=decide_eq_true hz
   have m0:0≤u % 24∧u % 24<24:=by omega
   have r0:0≤w % (2+u % 24):=Int.emod_nonneg _ (by omega)
   have r1:w % (2+u % 24)<2+u % 24:=Int.emod_lt_of_pos _ (by omega)
   simp -dsimp (disch:=omega) only[wpS,wpT,zE,zA,c2,←hw,←hu]
   refine call (dT (w % (2+u % 24)) ⟨by omega,by omega⟩) ?_
   rintro _ h3 ⟨X3,rfl⟩
   have m3:=X3.n
   simp -dsimp (disch:=omega) only[wpS,zE]
   refine call (dT (1+u % 24) ⟨by omega,by omega⟩) ?_
   rintro _ h4 ⟨X4,rfl⟩
   have m4:=X4.n
   simp -dsimp (disch:=omega) only[wpS,zE]
   refine call (ue (w % (2+u % 24)) (1+u % 24) ⟨r0,by omega⟩ ⟨by omega,by omega⟩) ?_
   rintro _ h5 ⟨X5,rfl⟩
   have m5:=X5.n
   have XX:=(((X1.trans X2).trans X3).trans X4).trans X5
   have k2:=XX.kept (by omega) k1
   simp -dsimp (disch:=omega) only[wpS,wpT,zE,zL,zA,ed,bY,k2,aB,au,aY,bC,aO]
   exact⟨(E0.trans XX).put (by omega) _,_,_,r0,by omega,by omega,by omega,rfl⟩
  ·obtain⟨w,hw⟩:=aP (y)
   obtain⟨u,hu⟩:=aP (z)
   have c1:decide (y<0)=false:=decide_eq_false (by omega)
   have c2:decide (z<0)=false:=decide_eq_false (by omega)
   have m0:0≤u % 24∧u % 24<24:=by omega
   have r0:0≤w % (2+u % 24):=Int.emod_nonneg _ (by omega)
   have r1:w % (2+u % 24)<2+u % 24:=Int.emod_lt_of_pos _ (by omega)
   simp -dsimp (disch:=omega) only[wpS,wpT,zE,zA,←hw,←hu]
   refine call (dT (w % (2+u % 24)) ⟨by omega,by omega⟩) ?_
   rintro _ h3 ⟨X3,rfl⟩
   have m3:=X3.n
   simp -dsimp (disch:=omega) only[wpS,zE]
   refine call (dT (1+u % 24) ⟨by omega,by omega⟩) ?_
   rintro _ h4 ⟨X4,rfl⟩
   have m4:=X4.n
   simp -dsimp (disch:=omega) only[wpS,zE]
   refine call (ue (w % (2+u % 24)) (1+u % 24) ⟨r0,by omega⟩ ⟨by omega,by omega⟩) ?_
   rintro _ h5 ⟨X5,rfl⟩
   have m5:=X5.n
   have XX:=(((X1.trans X2).trans X3).trans X4).trans X5
   have k2:=XX.kept (by omega) k1
   simp -dsimp (disch:=omega) only[wpS,wpT,zE,zL,zA,ed,bY,k2,aB,au,aY,bC,aO]
   exact⟨(E0.trans XX).put (by omega) _,_,_,r0,by omega,by omega,by omega,rfl⟩
end Go.Id
namespace Go.Id
open Go







end Go.Id
namespace Go.Id

open Go



noncomputable def MC:FuncId→Option (List Value→Option Value):=Dc [(15,okT)]
structure LX (h hh:IH) (fr:Fr) (a b:Nat) (mid:Bool) (at_ long:Int):Prop where
 e:Ext h hh
 f4:ab fr 4=some (.bool mid)
 f5:ab fr 5=some (KI at_)
 f6:ab fr 6=some (.int .u16 long)
 f9:ab fr 9=some (ptr (2*a) 0)
 f10:ab fr 10=some (ptr (2*b) 0)
section
variable {h hh:IH} {fr:Fr} {Q:bf→Fr→IH→Prop} {v w:Value} {nd a b:Nat} {mid:Bool} {at_ long:Int} {l0:List (Nat×Nat)}
theorem tk6 (a b c d e f:Value):List.take 6 (List.drop 0 [a,b,c,d,e,f]) = [a,b,c,d,e,f]:=rfl
end
open Go.Proofs.Tryz (prog)
open Nat renaming reduceAdd→zA,reduceEqDiff→zE,reduceLeDiff→zL
set_option maxHeartbeats 16000000
theorem VX {a c:Int} (a0:0≤a) (a1:a≤c) (a2:0<c) (a3:c<25):QW (Rat.divInt a c)∧0≤Rat.divInt a c∧Rat.divInt a c≤1:=by
 refine⟨kL ⟨by omega,by omega⟩ ⟨by omega,by omega⟩ (by omega),Rat.divInt_nonneg a0 (by omega),?_⟩
 rw[Rat.divInt_eq_div]
 refine wH (Rat.intCast_pos.2 a2) ?_
 rw[Rat.one_mul]
 exact Rat.intCast_le_intCast.2 a1
theorem H9 {h:IH} {e:Int} (he:e≠0):WV prog (.func (.func 85) #[] #[]) [.agg #[.bool false,.slice none 0 0,.bool false,.slice none 0 0],KI e] h fun r h'=>Ext h h'∧r=Ul e:=by
 have d:(e != 0)=true:=by simpa using he
 refine enter (nt:=14) (rs:=[.cell 4 32,.tmp 5]) Proofs.Tryz.func85 rfl rfl rfl (by simp) ?_
 simp -dsimp (disch:=try exact dx) only[wpS,wpT,zE,zL,zA,gC,Ej,ed,bY,d]
 exact⟨(((Ext.refl h).new _).new _).put (by omega) _,rfl⟩
theorem MM {h:IH} {p1 p2:Nat×Nat} (h1:p1.1<W8∧p1.2<W8) (h2:p2.1<W8∧p2.2<W8) (bad : ¬(okS p1.1 p1.2∧okS p2.1 p2.2)):WV prog (.func (.func 24) #[] #[]) [shV p1.1 p1.2,shV p2.1 p2.2] h fun r h'=>Ext h h'∧r=Ul 20:=by
 have key : ∀(h:IH) (fv:Value),WV prog (.func (.func 86) #[] #[]) [shV p1.1 p1.2,shV p2.1 p2.2,fv] h fun r h'=>Ext h h'∧r=.tuple #[.agg #[.bool false,.slice none 0 0,.bool false,.slice none 0 0],KI 20]:=by
  intro h fv
  refine enter (nt:=21) (rs:=[.cell 6 137,.tmp 7]) Proofs.Tryz.func86 rfl rfl rfl (by simp) ?_
  simp -dsimp (disch:=try exact dx) only[wpS,zE,zA,dr,bY,aB]
  obtain⟨H0,hH0,n0,E0,g0,g1,g2⟩:=fP h (shC p1.1 p1.2) (shC p2.1 p2.2) ZR
  rw[←hH0]
  clear hH0
  have X0:=Ext.refl H0
  have bb : ∀hx:IH,buildSlice prog hx 61 2 [(0,.agg (shC p1.1 p1.2).toArray),(1,.agg (shC p2.1 p2.2).toArray)]=some (.slice (some ⟨2*hx.n,0,none⟩) 2 5,hx.new (.cells (shL [(p1.1,p1.2),(p2.1,p2.2)]) 16 none)):=fun hx=>JF p1.1 p1.2 p2.1 p2.2
  simp -dsimp (disch:=try exact dx) only[wpS,zE,zL,bY,aj g1,au,aO,bb]
  refine call (tk (HN h1.1 h1.2 h2.1 h2.2)) ?_
  rintro _ k1 ⟨Y1,rfl⟩
  have X1:Ext H0 k1:=(X0.new _).trans Y1
  have dt:decide (∀p ∈ [(p1.1,p1.2),(p2.1,p2.2)],okS p.1 p.2)=false:=decide_eq_false (fun k=>bad ⟨k _ (by simp),k _ (by simp)⟩)
  rw[dt]
  have m1:=X1.n
  have g22 : ∀o,(k1.new o).ext.get (h.n+1+1)=some (.cells ZR 0 none):=fun o=>((Ext.refl k1).new o).kept (by omega) (X1.kept (by omega) g2)
  simp -dsimp (disch:=try exact dx) only[wpS,wpT,zE,zL,zA,dr,fA,cQ,g22,fg]
  exact((E0.trans X1).new _).put (by omega) _
 refine enter (nt:=14) (rs:=[.cell 4 32,.tmp 5]) Proofs.Tryz.func24 rfl rfl rfl (by simp) ?_
 simp -dsimp (disch:=try exact dx) only[wpS,zE,zA,gC,bY,aB]
 obtain⟨H0,hH0,n0,E0,g0,g1,g2⟩:=fP h (shC p1.1 p1.2) (shC p2.1 p2.2) Z16
 rw[←hH0]
 clear hH0
 simp -dsimp (disch:=try exact dx) only[wpS,zE,zL,bY,aj g1,au,aO]
 refine call (key _ _) ?_
 rintro _ k1 ⟨X1,rfl⟩
 simp -dsimp (disch:=omega) only[wpS,zE]
 refine call (H9 (by omega)) ?_
 rintro _ k2 ⟨X2,rfl⟩
 have X12:=X1.trans X2
 have m1:=X12.n
 have kg:=X12.kept (by omega) g2
 simp -dsimp (disch:=omega) only[wpS,wpT,zE,zL,zA,bY,ed,kg,aB,au,aY,bC,aO]
 exact⟨(E0.trans X12).put (by omega) _,rfl⟩
theorem Wv {ll:List (List (Nat×Nat))} {t:List Nat} {f:List (Nat×Nat)} {e:Nat×Nat} {n:Int} (k:vF ll t) (hf : ∀p∈f,okS p.1 p.2) (lf:f.length=ll.length) (oe:okS e.1 e.2) (e0:0≤rOf e) (e1:rOf e≤1) (n0:0≤n) (n20:n≤20):tA ll t f e n=0:=by
 have hl:=k.len
 have h1:=k.ko.1
 have re:oS ll t=0:=by
  unfold oS
  rw[if_neg (fun x=>x k.ko),if_neg]
  rintro(c|⟨p,hp,hn⟩)
  ·exact c hl
  ·have:=k.pos p hp
   omega
 have nz : ∃p∈t,p≠0:=by
  have hm:=List.getElem_mem (show 0<t.length by omega)
  refine⟨_,hm,fun h=>?_⟩
  have a:=k.pos _ hm
  rw[h] at a
  have h2:=dZ
  have h3:=gU
  unfold wdI at a
  split at a<;>omega
 unfold tA
 rw[if_neg (fun x=>x re),if_neg (fun x=>x nz),if_neg (fun x=>x k.rev),if_neg,if_neg]
 ·rintro(c|c|c|c|c)
  ·exact c lf
  ·exact absurd c (Rat.not_lt.2 e0)
  ·exact absurd c (Rat.not_lt.2 e1)
  ·omega
  ·omega
 ·rintro⟨p,hp,hn⟩
  rcases List.mem_append.1 hp with h|h
  ·exact hn (hf p h)
  ·rw[List.mem_singleton.1 h] at hn
   exact hn oe
theorem tg (q:Rat) : ∃p er,gY q=.tuple #[shV p.1 p.2,KI er]∧(p.1<W8∧p.2<W8)∧((er=0∧QW q∧p=shq q)∨(er=6∧p=(0,0))):=by
 unfold gY
 by_cases c:QW q
 ·exact⟨shq q,0,by rw[if_pos c,fh],nk c,.inl ⟨rfl,c,rfl⟩⟩
 ·have w0:0<W8:=by have:=dZ;have:=gU;omega
  exact⟨(0,0),6,by rw[if_neg c],⟨w0,w0⟩,.inr ⟨rfl,rfl⟩⟩
theorem Sa : ¬okS 0 0:=fun h=>by
 have a:=h.1
 have h2:=dZ
 have h3:=gU
 unfold wdI at a
 split at a<;>omega
noncomputable abbrev Eo:Code:=Proofs.Tryz.f5.body.getD .skip
theorem ov0 (base:Nat→Option (List Value)) (s1 s2:Nat) (y1 y2 v x1 x2:Value) (a1 a2:Bool) (m1 m2:Int) (st:Int) :
  evC (E1 prog MC) (bU (E1 prog MC) 1) 5 157 none 1 (partAt Eo 0) (dD 0 [.agg #[B8 s1,y1],.agg #[B8 s2,y2],v,.agg #[.bool a1,x1,.int .u32 m1,.bool a2,x2,.int .u32 m2],.int .u8 st]) (IH.start base)=some (.normal,(10,.bool false) :: (8,ptr 4 0) :: (6,ptr 2 0) :: (5,ptr 0 0) :: dD 0 [.agg #[B8 s1,y1],.agg #[B8 s2,y2],v,.agg #[.bool a1,x1,.int .u32 m1,.bool a2,x2,.int .u32 m2],.int .u8 st],(((IH.start base).new (.cells [B8 s1,y1] 0 none)).new (.cells [B8 s2,y2] 0 none)).new (.cells [.bool a1,x1,.int .u32 m1,.bool a2,x2,.int .u32 m2] 0 none)):=rfl
theorem ov1 (fr:Fr) (h:IH) :
  evC (E1 prog MC) (bU (E1 prog MC) 1) 5 157 none 1 (partAt Eo 1) fr h=some (.normal,(33,.bool false) :: (32,.bool true) :: fr,h):=rfl
noncomputable abbrev QV:bf→Fr→IH→Prop:=MW prog [.tmp 10] fun r _=>r=.bool true
theorem Tn {fr:Fr} {h:IH} {a b c g:Int} (ha:a≤0) (hb:b≤0) (hc:0≤c) (hg:0≤g) (f17:ab fr 17=some (KI 0)) (f19:ab fr 19=some (KI 0)) (f21:ab fr 21=some (KI 0)) (f23:ab fr 23=some (KI 0)) (f25:ab fr 25=some (KI 0)) (f27:ab fr 27=some (KI 0)) (f29:ab fr 29=some (KI 0)) (f31:ab fr 31=some (KI 0)) (f24:ab fr 24=some (KI a)) (f26:ab fr 26=some (KI b)) (f28:ab fr 28=some (KI c)) (f30:ab fr 30=some (KI g)) :
  Do (wpC prog 5 157 none (Il Eo 13) fr h) QV nx:=by
 have d1:decide (a≤0)=true:=decide_eq_true ha
 have d2:decide (b≤0)=true:=decide_eq_true hb
 have d3:decide (0≤c)=true:=decide_eq_true hc
 have d4:decide (0≤g)=true:=decide_eq_true hg
 show Do (wpC _ _ _ _ (.seq _ _) fr h) _ _
 simp -dsimp (maxSteps:=1000000) (disch:=first|omega|(simp only[aI,aH];omega)|decide +kernel|(repeat first|rw[aI]|rw[aH])) only[wpS,wpT,zE,f17,f19,f21,f23,f25,f27,f29,f31,f24,f26,f28,f30,d1,d2,d3,d4]
theorem FZ {fr:Fr} {h:IH} {s1 s2 m b5 b6 b8:Nat} {y1 y2 v x1 x2:Value} {l1 l2:List Nat} {a1 a2:Bool} {m1 m2 st:Int} (hv1:w7 h y1 l1) (hs1:s1<256) (hv2:w7 h y2 l2) (hs2:s2<256) (hd:ON h v m)
  (qd:aA x1=true∧aA x2=true∧(0≤m1∧m1<4294967296)∧(0≤m2∧m2<4294967296)) (q5:0≤st∧st<256)
  (g5:h.ext.get b5=some (.cells [B8 s1,y1] 0 none)) (g6:h.ext.get b6=some (.cells [B8 s2,y2] 0 none)) (g8:h.ext.get b8=some (.cells [.bool a1,x1,.int .u32 m1,.bool a2,x2,.int .u32 m2] 0 none)) (l5:b5<h.n) (l6:b6<h.n) (l8:b8<h.n)
  (f2:ab fr 2=some v) (f4:ab fr 4=some (.int .u8 st)) (f5:ab fr 5=some (ptr (2*b5) 0)) (f6:ab fr 6=some (ptr (2*b6) 0)) (f8:ab fr 8=some (ptr (2*b8) 0)) :
  Do (wpC prog 5 157 none (Il Eo 2) fr h) QV nx:=by
 obtain⟨q1,q2,q3,q4⟩:=qd
 have ta:List.take 2 (List.drop 0 [B8 s1,y1]) = [B8 s1,y1]:=rfl
 have tb:List.take 2 (List.drop 0 [B8 s2,y2]) = [B8 s2,y2]:=rfl
 have tk6:List.take 6 (List.drop 0 [.bool a1,x1,.int .u32 m1,.bool a2,x2,.int .u32 m2]) = [.bool a1,x1,.int .u32 m1,.bool a2,x2,.int .u32 m2]:=rfl
 show Do (wpC _ _ _ _ (.seq _ _) fr h) _ _
 simp -dsimp (disch:=omega) only[wpS,wpT,zE,zL,zA,WD,f5,f6,aj g5,aj g6,ta,tb]
 refine call (DA hv1 hs1 hv2 hs2) ?_
 rintro _ h1 ⟨X1,kv,wv,ll,t,rfl,sk,sw,ko,n1,n4,lt,pt,rv⟩
 obtain⟨c1,c2,hlen⟩:=sk.co
 have g81:=X1.kept l8 g8
 simp -dsimp (disch:=omega) only[wpS,zE]
 refine drawn [(4,[3])] (by kernel_rfl) (by kernel_rfl) rfl ?_
 simp -dsimp (disch:=omega) only[wpS,zE,f2,hlen]
 refine call (Iy (hd.aa X1.aa) (by omega)) ?_
 rintro fv h2 ⟨X2,f,sf,lf,sh⟩
 have g82:=X2.kept (by have:=X1.n;omega) g81
 have Ld : ∀H:IH,H.ext.get b8=some (.cells [.bool a1,x1,.int .u32 m1,.bool a2,x2,.int .u32 m2] 0 none)→load prog H 58 (ptr (2*b8) 0)=some (.agg #[.bool a1,x1,.int .u32 m1,.bool a2,x2,.int .u32 m2]):=fun H g=>by
  have r:=aj g
  simp -dsimp (disch:=omega) only[wpS,wpT,zL,zA,YZ,r,tk6]
 simp -dsimp (disch:=omega) only[wpS,wpT,zE,zL,zA,YZ,f8,aj g82,tk6]
 refine call (Oc (by simpa using q1) (by simpa using q2) q3.1 q3.2 q4.1 q4.2) ?_
 rintro _ h3 ⟨X3,a,c,a10,a11,a12,a13,rfl⟩
 obtain⟨u1,u2,u3⟩:=VX a10 a11 a12 a13
 have u4:QW (Rat.divInt a c*Rat.divInt 2 1):=by
  rw[Rat.divInt_mul_divInt]
  exact kL ⟨by omega,by omega⟩ ⟨by omega,by omega⟩ (by omega)
 rw[fh]
 generalize Rat.divInt a c=u at u1 u2 u3 u4 ⊢
 obtain⟨e,he⟩:=aP (shq u)
 have hb:=nk u1
 rw[←he] at hb ⊢
 simp -dsimp (disch:=omega) only[wpS,wpT,zE,zL,zA,G8,gC,ed,f4,aB,au,aY,bC]
 refine⟨ad rfl rfl rfl rfl (ai f8 (Ld h2 g82) (Ld h1 g81)),?_⟩
 obtain⟨S,hS,hS9⟩ : ∃S:Nat,st % 10=(S:Int)∧S≤9:=⟨(st % 10).toNat,by omega,by omega⟩
 rw[hS]
 obtain⟨H4,hH4⟩:=aP ((h3.new (.cells Z16 0 none)).put h3.n (.cells (shC e.1 e.2) 0 none))
 have F4:Ext h3 H4:=by rw[hH4];exact((Ext.refl h3).new _).put (Nat.le_refl _) _
 have o4:H4.n=h3.n+1:=by rw[hH4];rfl
 have g14:H4.ext.get h3.n=some (.cells (shC e.1 e.2) 0 none):=by rw[hH4];simp (disch:=omega) only[ae]
 rw[←hH4]
 clear hH4
 have X24:=X3.trans F4
 have X14:=X2.trans X24
 have eu:rOf e=u:=by rw[he];exact(cK u1).1
 have oe:okS e.1 e.2:=by rw[he];exact(cK u1).2
 have rk:vF ll t:=⟨ko,lt,pt,rv⟩
 have okf : ∀p∈f,okS p.1 p.2:=fun p hp=>by
  obtain⟨a,c,ha,hc,rfl⟩:=sh p hp
  exact(cK (kL ⟨by omega,by omega⟩ ⟨by omega,by omega⟩ (by omega))).2
 have ock:tA ll t f e (S:Int)=0:=Wv rk okf lf oe (by rw[eu];exact u2) (by rw[eu];exact u3) (by omega) (by omega)
 obtain⟨F,hF⟩:=aP (Q6 ll t (ni f) (mD e S) S)
 obtain⟨M,hM⟩:=aP (TC ll t (ni f) (mD e S) S)
 obtain⟨F0,F1⟩:=N1 rk (ni f) (e:=e) (by rw[eu];exact u2) S
 obtain⟨M0,M1⟩:=Nz rk (ni f) (e:=e) (by rw[eu];exact u2) S
 rw[←hF] at F0 F1
 rw[←hM] at M0 M1
 have rF:ve ll t f e (S:Int)=gY F:=by
  unfold ve
  rw[if_pos ock,hF]
  rfl
 have rM:DH ll t f e (S:Int)=gY M:=by
  unfold DH
  rw[if_pos ock,hM]
  rfl
 have ZH:fv=.slice none 0 0∨0<f.length:=.inr (by omega)
 have kd:=X14.aa
 simp -dsimp (disch:=omega) only[wpS,wpT,zE,zL,zA,bY,aj g14,au,aO]
 refine call (Nf (n:=(S:Int)) (sk.aa kd) (sw.aa kd) (sf.aa X24.aa) ZH (by omega) hb ⟨by omega,by omega⟩ (by omega)) ?_
 rintro _ h5 ⟨X5,rfl⟩
 obtain⟨p,er,hp1,hpb,hpc⟩:=tg F
 rw[rF,hp1]
 have g145:=X5.kept (by omega) g14
 simp -dsimp (disch:=omega) only[wpS,wpT,zE,zL,zA,gC,ed,bY,aB,au,aY,bC]
 obtain⟨H6,hH6⟩:=aP ((h5.new (.cells Z16 0 none)).put h5.n (.cells (shC p.1 p.2) 0 none))
 have F6:Ext h5 H6:=by rw[hH6];exact((Ext.refl h5).new _).put (Nat.le_refl _) _
 have o6:H6.n=h5.n+1:=by rw[hH6];rfl
 have g16:H6.ext.get h5.n=some (.cells (shC p.1 p.2) 0 none):=by rw[hH6];simp (disch:=omega) only[ae]
 have o5:=X5.n
 rw[←hH6]
 clear hH6
 have X46:=X5.trans F6
 have NY:=F6.kept (by omega) g145
 simp -dsimp (disch:=omega) only[wpS,zE,zL,aj NY,au,aO]
 refine call (IC (n:=(S:Int)) (sk.aa (X14.trans X46).aa) (sw.aa (X14.trans X46).aa) (sf.aa (X24.trans X46).aa) ZH (by omega) hb ⟨by omega,by omega⟩ (by omega)) ?_
 rintro _ h7 ⟨X7,rfl⟩
 obtain⟨p2,er2,hq1,hqb,hqc⟩:=tg M
 rw[rM,hq1]
 have o7:=X7.n
 have g147:=X7.kept (by omega) NY
 have ZY:=X7.kept (by omega) g16
 simp -dsimp (disch:=omega) only[wpS,wpT,zE,zL,zA,gC,ed,bY,aB,au,aY,bC,aO,aj ZY]
 obtain⟨H8,hH8⟩:=aP ((h7.new (.cells Z16 0 none)).put h7.n (.cells (shC p2.1 p2.2) 0 none))
 have F8:Ext h7 H8:=by rw[hH8];exact((Ext.refl h7).new _).put (Nat.le_refl _) _
 have o8:H8.n=h7.n+1:=by rw[hH8];rfl
 have g18:H8.ext.get h7.n=some (.cells (shC p2.1 p2.2) 0 none):=by rw[hH8];simp (disch:=omega) only[ae]
 rw[←hH8]
 clear hH8
 have Uh:=F8.kept (by omega) g147
 have g168:=F8.kept (by omega) ZY
 have mulR:WV prog (.func (.func 24) #[] #[]) [shV p.1 p.2,shV p.1 p.2] H8 fun r h'=>Ext H8 h' ∧ ∃p3 er3,r=.tuple #[shV p3.1 p3.2,KI er3]∧(p3.1<W8∧p3.2<W8)∧(er=0→(er3=0∧QW (F*F)∧p3=shq (F*F))∨er3=6):=by
  rcases hpc with⟨rfl,w,rfl⟩|⟨rfl,rfl⟩
  ·refine(Fz hpb hpb (cK w).2 (cK w).2).mono ?_
   rintro _ h' ⟨X,rfl⟩
   rw[(cK w).1]
   obtain⟨p3,er3,k1,k2,k3⟩:=tg (F*F)
   exact⟨X,p3,er3,k1,k2,fun _=>k3.imp id fun k=>k.1⟩
  ·refine(MM hpb hpb fun k=>Sa k.1).mono ?_
   rintro _ h' ⟨X,rfl⟩
   exact⟨X,(0,0),20,rfl,hpb,fun k=>absurd k (by omega)⟩
 refine call mulR ?_
 rintro _ h9 ⟨X9,p3,er3,rfl,h3b,h3c⟩
 have o9:=X9.n
 have g149:=X9.kept (by omega) Uh
 have g169:=X9.kept (by omega) g168
 have g189:=X9.kept (by omega) g18
 simp -dsimp (disch:=omega) only[wpS,wpT,zE,zL,zA,gC,ed,aB,au,aY,bC]
 obtain⟨HA,hHA⟩:=aP ((h9.new (.cells Z16 0 none)).put h9.n (.cells (shC p3.1 p3.2) 0 none))
 have FA:Ext h9 HA:=by rw[hHA];exact((Ext.refl h9).new _).put (Nat.le_refl _) _
 have oA:HA.n=h9.n+1:=by rw[hHA];rfl
 have g20:HA.ext.get h9.n=some (.cells (shC p3.1 p3.2) 0 none):=by rw[hHA];simp (disch:=omega) only[ae]
 rw[←hHA]
 clear hHA
 have Xd:=FA.kept (by omega) g149
 obtain⟨_,_,LA⟩:=psh Xd
 refine drawn [(0,[2])] (by kernel_rfl) (by kernel_rfl) rfl ?_
 simp -dsimp (disch:=omega) only[wpS,zE,LA]
 refine call (Wu 2 1 ⟨by omega,by omega⟩ ⟨by omega,by omega⟩ (by omega)) ?_
 rintro _ hB ⟨XB,rfl⟩
 have q21:QW (Rat.divInt 2 1):=kL ⟨by omega,by omega⟩ ⟨by omega,by omega⟩ (by omega)
 have g14B:=XB.kept (by omega) Xd
 obtain⟨_,_,LB⟩:=psh g14B
 rw[fh]
 simp -dsimp (disch:=omega) only[wpS,zE]
 refine call (Fz hb (nk q21) oe (cK q21).2) ?_
 rintro _ hC ⟨XC,rfl⟩
 rw[eu,(cK q21).1]
 have tw:gY (u*Rat.divInt 2 1)=.tuple #[shV (shq (u*Rat.divInt 2 1)).1 (shq (u*Rat.divInt 2 1)).2,KI 0]:=by
  unfold gY
  rw[if_pos u4,fh]
 rw[tw]
 obtain⟨e2,he2⟩:=aP (shq (u*Rat.divInt 2 1))
 have h2b:=nk u4
 have o2:=(cK u4).2
 have r2:=(cK u4).1
 rw[←he2] at h2b o2 r2 ⊢
 simp -dsimp (disch:=omega) only[wpS,wpT,zE,zL,zA,gC,ed,aB,au,aY,bC]
 refine⟨ad rfl rfl rfl rfl (ai rfl LA LB),?_⟩
 obtain⟨HD,hHD⟩:=aP ((hC.new (.cells Z16 0 none)).put hC.n (.cells (shC e2.1 e2.2) 0 none))
 have FD:Ext hC HD:=by rw[hHD];exact((Ext.refl hC).new _).put (Nat.le_refl _) _
 have oC:=XC.n
 have oB:=XB.n
 have g22:HD.ext.get hC.n=some (.cells (shC e2.1 e2.2) 0 none):=by rw[hHD];simp (disch:=omega) only[ae]
 rw[←hHD]
 clear hHD
 have XAD:=(XB.trans XC).trans FD
 have g14D:=XAD.kept (by omega) Xd
 have g20D:=XAD.kept (by omega) g20
 have g16D:=(FA.trans XAD).kept (by omega) g169
 have g18D:=(FA.trans XAD).kept (by omega) g189
 by_cases ce:er=6
 ·subst ce
  simp -dsimp (maxSteps:=1000000) (disch:=first|omega|(simp only[aI,aH];omega)|decide +kernel|(repeat first|rw[aI]|rw[aH])) only[wpS,wpT,zE,zA]
 have d1:(er == 6)=false:=by simpa using ce
 by_cases ce2:er2=6
 ·subst ce2
  simp -dsimp (maxSteps:=1000000) (disch:=first|omega|(simp only[aI,aH];omega)|decide +kernel|(repeat first|rw[aI]|rw[aH])) only[wpS,wpT,zE,zA,d1]
 have d2:(er2 == 6)=false:=by simpa using ce2
 by_cases ce3:er3=6
 ·subst ce3
  simp -dsimp (maxSteps:=1000000) (disch:=first|omega|(simp only[aI,aH];omega)|decide +kernel|(repeat first|rw[aI]|rw[aH])) only[wpS,wpT,zE,zA,d1,d2]
 have d3:(er3 == 6)=false:=by simpa using ce3
 obtain⟨rfl,wF,rfl⟩:er=0∧QW F∧p=shq F:=hpc.resolve_right fun k=>ce k.1
 obtain⟨rfl,wM,rfl⟩:er2=0∧QW M∧p2=shq M:=hqc.resolve_right fun k=>ce2 k.1
 obtain⟨rfl,wS,rfl⟩:er3=0∧QW (F*F)∧p3=shq (F*F):=(h3c rfl).resolve_right fun k=>ce3 k
 simp -dsimp (maxSteps:=1000000) (disch:=first|omega|(simp only[aI,aH];omega)|decide +kernel|(repeat first|rw[aI]|rw[aH])) only[wpS,wpT,zE,zL,zA,bY,d1,aj g20D,aj g22,au,aO]
 refine call (zi h3b h2b (cK wS).2 o2) ?_
 rintro _ hE ⟨XE,rfl⟩
 rw[(cK wS).1,r2]
 have oD:=XAD.n
 have F1':F*F≤u*Rat.divInt 2 1:=by
  have e2:Rat.divInt 2 1=2:=by decide +kernel
  rw[e2,←eu]
  exact F1
 rw[eu] at M1
 obtain⟨z1,hz1,hy1⟩:=JA (F*F) (u*Rat.divInt 2 1)
 rw[hz1]
 have k1:=hy1.2 F1'
 clear hz1 hy1
 have g14E:=XE.kept (by omega) g14D
 have ZX:=XE.kept (by omega) g18D
 have g16E:=XE.kept (by omega) g16D
 simp -dsimp (maxSteps:=1000000) (disch:=first|omega|(simp only[aI,aH];omega)|decide +kernel|(repeat first|rw[aI]|rw[aH])) only[wpS,zE,zL,bY,aj ZX,aj g14E,au,aO]
 refine call (zi hqb hb (cK wM).2 oe) ?_
 rintro _ hG ⟨XG,rfl⟩
 rw[(cK wM).1,eu]
 obtain⟨z2,hz2,hy2⟩:=JA M u
 rw[hz2]
 have k2:=hy2.2 M1
 clear hz2 hy2
 have oE:=XE.n
 have g16G:=XG.kept (by omega) g16E
 have g18G:=XG.kept (by omega) ZX
 simp -dsimp (maxSteps:=1000000) (disch:=first|omega|(simp only[aI,aH];omega)|decide +kernel|(repeat first|rw[aI]|rw[aH])) only[wpS,zE,zL,bY,aj g16G,au,aO]
 refine call (BC hpb (cK wF).2) ?_
 rintro _ hI ⟨XI,rfl⟩
 rw[(cK wF).1]
 obtain⟨z3,hz3,k3⟩ : ∃z:Int,(if F<0 then (-1:Int) else if F=0 then 0 else 1)=z∧0≤z:=⟨_,rfl,by rw[if_neg (Rat.not_lt.2 F0)];split<;>omega⟩
 rw[hz3]
 clear hz3
 have oG:=XG.n
 have g18I:=XI.kept (by omega) g18G
 simp -dsimp (maxSteps:=1000000) (disch:=first|omega|(simp only[aI,aH];omega)|decide +kernel|(repeat first|rw[aI]|rw[aH])) only[wpS,zE,zL,bY,aj g18I,au,aO]
 refine call (BC hqb (cK wM).2) ?_
 rintro _ hJ ⟨XJ,rfl⟩
 rw[(cK wM).1]
 obtain⟨z4,hz4,k4⟩ : ∃z:Int,(if M<0 then (-1:Int) else if M=0 then 0 else 1)=z∧0≤z:=⟨_,rfl,by rw[if_neg (Rat.not_lt.2 M0)];split<;>omega⟩
 rw[hz4]
 clear hz4
 simp -dsimp (maxSteps:=1000000) (disch:=first|omega|(simp only[aI,aH];omega)|decide +kernel|(repeat first|rw[aI]|rw[aH])) only[wpR,zE]
 refine Tn k1 k2 k3 k4 ?_ ?_ ?_ ?_ ?_ ?_ ?_ ?_ ?_ ?_ ?_ ?_
 all_goals first|rfl|simp
end Go.Id
