/-
  The kernels of law 38's drafts, and the values of their states.
-/
import Derived.Test.YtnnmjocmapilaaaGreatOutlierRisesAz
set_option linter.unusedVariables false
set_option linter.unusedSimpArgs false
set_option linter.defProp false
set_option linter.deprecated false
namespace Go.Id
open Go
open Go.Proofs.Tryz (prog)
open Nat renaming reduceAdd→zA,reduceEqDiff→zE,reduceLeDiff→zL
set_option maxHeartbeats 16000000
theorem Ku {ll:List (List (Nat×Nat))} {t:List Nat} (k:kerD ll) (ht:t.length=ll.length) (hw : ∀p∈t,1≤wdI p∧wdI p≤9):nN ll t=0∧dK (iH ll t)∧(iH ll t).length=ll.length∧Eu (iH ll t) t:=by
 obtain⟨ok,l4,D,D0,D1,hD⟩:=k
 have hp : ∀p∈t,1≤wdI p:=fun p h=>(hw p h).1
 have tm : ∀i,i<ll.length→t.getD i 0∈t:=fun i hi=>by rw[List.getD_eq_getElem?_getD,List.getElem?_eq_getElem (by omega)];exact List.getElem_mem (by omega)
 have hT : ∀i,i<ll.length→0<(wdI (t.getD i 0)).toNat∧cK (t.getD i 0)=((wdI (t.getD i 0)).toNat:Rat):=fun i hi=>by
  have:=hw _ (tm i hi)
  refine⟨by omega,?_⟩
  unfold cK
  have e:wdI (t.getD i 0)=(((wdI (t.getD i 0)).toNat:Nat):Int):=by omega
  rw[e]
  rfl
 have hB : ∀i,i<ll.length→0<D*(wdI (t.getD i 0)).toNat∧60*(D*(wdI (t.getD i 0)).toNat)<H8:=fun i hi=>by
  have:=hw _ (tm i hi)
  have hX:1≤2 ^ 240:=Nat.one_le_two_pow
  exact⟨Nat.mul_pos D0 (hT i hi).1,Zdf D1 (Nat.le_trans (show(wdI (t.getD i 0)).toNat≤9 by omega) (Nat.le_mul_of_pos_right 9 hX))⟩
 have fo:uA ll t:=fun i hi q hq=>by
  obtain⟨f1,f2,_⟩:=Kt ok ht hp hi
  have f3:=Md _ f1 q hq
  rw[f2] at f3
  have:=hB i hi
  exact(Ue this.1 (by omega) (f1 q hq) f3 (Kr hD hT hi q hq)).1
 have hl:(iH ll t).length=ll.length:=jf ll t
 refine⟨?_,Ks ok ht hp fo,hl,fun i j hi hj=>Om ht hp fo i j (by omega) hj⟩
 unfold nN
 rw[if_neg (fun x=>x ok),if_neg,if_pos fo]
 rintro(c|⟨p,h1,h2⟩)
 ·exact c ht
 ·have:=hp p h1
  omega
variable {h:IH}
theorem EL {s1 s2:Nat} {v1 v2:Value} {l1 l2:List Nat} (hv1:xK h v1 l1) (hs1:s1<256) (hv2:xK h v2 l2) (hs2:s2<256) :
  WV prog (.func (.func 16) #[] #[]) [.agg #[B8 s1,v1],.agg #[B8 s2,v2]] h fun r h'=>Ext h h' ∧ ∃m w ll t,r=.tuple #[m,w]∧ji h' m ll∧ni h' w t∧dK ll∧1≤ll.length∧ll.length≤4∧t.length=ll.length∧(∀p∈t,1≤wdI p)∧Eu ll t:=by
 obtain⟨H0,hH0,n0,E0,g2,g3⟩:=ev h [B8 s1,v1] [B8 s2,v2]
 have o1:=hv1.1.cells
 have o2:=hv1.1.cok
 have o3:=hv2.1.cells
 have o4:=hv2.1.cok
 have ta:List.take 2 (List.drop 0 [B8 s1,v1]) = [B8 s1,v1]:=rfl
 have tb:List.take 2 (List.drop 0 [B8 s2,v2]) = [B8 s2,v2]:=rfl
 refine enter (nt:=24) (rs:=[.tmp 4,.tmp 5]) Proofs.Tryz.func16 rfl rfl rfl (by simp) ?_
 simp -dsimp (disch:=try exact dx) only[wpS,wpT,zE,zL,zA,Yt,ta]
 rw[←hH0]
 clear hH0
 refine call (KD (hv1.aa E0.aa) hs1) ?_
 rintro m h1 ⟨X1,ll,hm,hl,hr⟩
 obtain⟨c1,c2,hlen⟩:=hm.co
 have l1:1≤ll.length:=by omega
 have l4:ll.length≤4:=by omega
 have kd:=KC l1 l4 fun x hx=>by rw[hl];exact hr x hx
 have g31:=X1.kept (by omega) g3
 simp -dsimp (disch:=omega) only[wpS,wpT,zE,zL,zA,Yt,aj g31,tb,hlen]
 refine call (FB (hv2.aa (E0.trans X1).aa) ll.length (by omega)) ?_
 rintro w h2 ⟨X2,t,hw,lt,ht⟩
 simp -dsimp (disch:=omega) only[wpS,zE]
 refine call (Ha (hm.aa X2.aa) hw) ?_
 rintro _ h3 ⟨X3,out,rfl,q1,_⟩
 obtain⟨f1,f2,f3,f4⟩:=Ku kd lt ht
 rw[f1]
 have so:=q1 f1
 simp -dsimp (disch:=omega) only[wpS,zE]
 exact⟨((E0.trans X1).trans X2).trans X3,out,w,_,t,rfl,so,hw.aa X3.aa,f2,by omega,by omega,by omega,fun p hp=>(ht p hp).1,f4⟩
theorem LN (a b c d:Nat):IH.aJ (shC a b) 0 (shC c d)=shC c d:=by
 simp[IH.aJ,ax]
theorem JJ {v:Value} {n m:Nat} (hv:P1 h v m) (hn:n≤1000) :
  WV prog (.func (.func 17) #[] #[]) [v,KN n] h fun r h'=>Ext h h' ∧ ∃l,gw h' r l∧l.length=n∧(∀p∈l,fW p):=by
 obtain⟨cs,hsl,hdr⟩:=hv
 have hcl:=hsl.2.1
 have lenv:=hsl.len sl52 (P:=prog)
 refine enter (nt:=32) (rs:=[.tmp 4]) Proofs.Tryz.func17 rfl rfl rfl (by simp) ?_
 simp -dsimp (disch:=omega) only[wpS,zE,zA]
 refine loop (fun k fr hh => ∃(i:Nat) (out:Value) (l:List (Nat×Nat)),i+k=n∧l.length=i∧(∀p∈l,fW p)∧Ext h hh∧Acc hh h.n 16 out l.length (shL l)∧ab fr 0=some v∧ab fr 5=some out∧ab fr 9=some (KN n)∧ab fr 10=some (KN i)) n
  ⟨0,.slice none 0 0,[],by omega,rfl,(fun p hp=>by cases hp),Ext.refl _,Acc.nil _ _ (by omega),by simp⟩ ?_
 rintro k fr hh ⟨i,out,l,hik,hil,hlt,hE,hA,f0,f5,f9,f10⟩
 have hnn:=hE.n
 simp -dsimp (disch:=omega) only[wpS,f9,f10]
 refine au ?_ ?_<;>intro hc<;>simp only[decide_eq_true_eq,decide_eq_false_iff_not] at hc
 ·have hi:i<n:=by omega
  simp -dsimp (disch:=omega) only[wpS,wpT,zE,f10]
  refine call (pJ 0 1 ⟨by omega,by omega⟩ ⟨by omega,by omega⟩ (by omega)) ?_
  rintro _ h1 ⟨X1,rfl⟩
  rw[bK]
  have s0:fW (shq (Rat.divInt 0 1)):=⟨0,1,⟨by omega,by omega⟩,⟨by omega,by omega⟩,rfl⟩
  generalize shq (Rat.divInt 0 1)=p0 at s0 ⊢
  simp -dsimp (disch:=omega) only[wpS,wpT,zE,zL,zA,fR,dF,aD,ax,aV,bg]
  obtain⟨H2,hH2⟩:=aT ((h1.new (.cells Z16 0 none)).put h1.n (.cells (shC p0.1 p0.2) 0 none))
  have F2:Ext h1 H2:=by rw[hH2];exact((Ext.refl h1).new _).put (Nat.le_refl _) _
  have n2:H2.n=h1.n+1:=by rw[hH2];rfl
  have g7:H2.ext.get h1.n=some (.cells (shC p0.1 p0.2) 0 none):=by rw[hH2];simp (disch:=omega) only[ae]
  rw[←hH2]
  clear hH2
  have E2:=X1.trans F2
  have m2:=E2.n
  simp -dsimp (disch:=omega) only[wpS,zE,f0,lenv]
  refine fB (fun fr H => ∃p,fW p∧Ext hh H∧h1.n<H.n∧H.ext.get h1.n=some (.cells (shC p.1 p.2) 0 none)∧ab fr 0=some v∧ab fr 5=some out∧ab fr 7=some (ptr (2*h1.n) 0)∧ab fr 9=some (KN n)∧ab fr 10=some (KN i)) (fun hb=>?_) (fun hb=>?_) ?_
  ·have him:i<m:=by have:=of_decide_eq_true hb;omega
   have hld:=hsl.C6 (hE.trans E2).aa (c:=i*6) (m:=6) (by omega) (by omega) (P:=prog) (t:=58) ag58 sz58
   obtain⟨b,x,a1,b2,x2,a2,hcs,hx,hx2,q1,q2,q3,q4⟩:=hdr i him
   rw[hcs] at hld
   simp -dsimp (disch:=omega) only[wpS,wpT,zE,f0,hsl.idx es52 him,hld]
   refine call (KB (by simpa using hx) (by simpa using hx2) q1 q2 q3 q4) ?_
   rintro _ h3 ⟨X3,a,c,ha,hc2,rfl⟩
   have sp:fW (shq (Rat.divInt a c)):=⟨a,c,ha,hc2,rfl⟩
   rw[bK]
   generalize shq (Rat.divInt a c)=p at sp ⊢
   have m3:=X3.n
   have g73:=X3.kept (by omega) g7
   simp -dsimp (disch:=omega) only[wpS,wpT,zE,zL,dF,g73,aD,ax,aV,LN]
   exact⟨p,sp,(E2.trans X3).put (by have:=X1.n;omega) _,by simp only[aM];omega,ae _ _ rfl,by simp[f0,f5,f9,f10]⟩
  ·simp -dsimp (disch:=omega) only[wpS]
   exact⟨p0,s0,E2,by omega,g7,by simp[f0,f5,f9,f10]⟩
  clear f0 f5 f9 f10 g7 s0
  rintro fr H ⟨p,sp,E,nH,g7,f0,f5,f7,f9,f10⟩
  obtain⟨ef,h8,hap,hA8,hG8,hE8⟩:=(hA.ext E).tq (P:=prog) (t:=61) KX (m:=1) (new:=shC p.1 p.2) (by omega) (by rw[ax]) (aV _ _) (by omega) (by have:=E.n;omega) (hE.trans E) (Nat.le_refl _)
  simp -dsimp (disch:=omega) only[wpS,wpT,zE,zL,zA,cq,B9,nR,f5,f7,f10,aj g7,ax,aS,bg,hap]
  refine⟨k - 1,by omega,i+1,ef,l ++ [p],by omega,by simp[hil],?_,hE8,?_,by simp[f0,f9]⟩
  ·intro q hq
   rcases List.mem_append.1 hq with hq|hq
   ·exact hlt q hq
   ·obtain rfl:=List.mem_singleton.1 hq
    exact sp
  ·rw[Ac,List.length_append]
   exact hA8
 ·obtain rfl:i=n:=by omega
  simp -dsimp (disch:=omega) only[wpS,wpT,zE,f5]
  exact⟨hE,l,⟨hA.sl,by omega,fun p hp=>(hlt p hp).lt⟩,hil,hlt⟩
end Go.Id
namespace Go.Id
open Go
variable {a b:Rat}
theorem Du {c:Rat} (hb:0<b) (h:a≤c*b):a / b≤c:=by
 have e:a / b*b=a:=Rat.div_mul_cancel (by grind)
 generalize a / b=q at *
 refine Rat.not_lt.1 fun hn=>?_
 have:=Rat.mul_pos (a:=q - c) (b:=b) (by grind) hb
 grind
theorem Zi (ha:0≤a) (hb:0<b):0≤a / b:=by
 have e:a / b*b=a:=Rat.div_mul_cancel (by grind)
 generalize a / b=q at *
 refine Rat.not_lt.1 fun hn=>?_
 have:=Rat.mul_pos (a:=-q) (b:=b) (by grind) hb
 grind
theorem XV (n:Nat) (c:Rat) (f:Nat→Rat):rs n (fun i=>f i / c)=rs n f / c:=by
 rw[bm (g:=fun i=>c⁻¹*f i) (fun i _=>by rw[Rat.div_def,Rat.mul_comm]),Ag,Rat.div_def,Rat.mul_comm]
theorem RK (t:List Nat) (g:Nat→Rat) (i:Nat):lW t g i=rs i (fun s=>wQ t s*g s) / rs t.length (wQ t):=by
 unfold lW
 rw[←XV]
 exact bm fun s _=>by grind
structure rV (ll:List (List (Nat×Nat))) (t:List Nat):Prop where
 ko:dK ll
 len:t.length=ll.length
 pos : ∀p∈t,1≤wdI p
 rev:Eu ll t
section
variable {ll:List (List (Nat×Nat))} {t:List Nat}
theorem rV.w0 (k:rV ll t) (i:Nat):0≤wQ t i:=by
 unfold wQ cK
 rw[List.getD_eq_getElem?_getD]
 cases e:t[i]? with
 | none =>
  have:wdI 0=0:=by
   have h2:=eP
   have h3:=iJ
   unfold wdI
   split<;>omega
  simp[this]
 | some p =>
  have:=k.pos p (List.mem_of_getElem? e)
  simp only[Option.getD_some]
  exact Rat.intCast_nonneg.2 (by omega)
theorem rV.wp (k:rV ll t) {i:Nat} (hi:i<ll.length):0<wQ t i:=by
 have hl:=k.len
 have:=k.pos _ (List.getElem_mem (show i<t.length by omega))
 unfold wQ cK
 rw[List.getD_eq_getElem?_getD,List.getElem?_eq_getElem (by omega),Option.getD_some]
 exact Rat.intCast_pos.2 (by omega)
theorem rV.W (k:rV ll t):0<rs ll.length (wQ t):=by
 have h1:=k.ko.1
 have a:=QY (n:=ll.length) k.w0 (j:=0) (by omega)
 have b:=k.wp (i:=0) (by omega)
 grind
theorem rV.h1 (k:rV ll t) (i:Nat) (hi:i<ll.length):rs ll.length (kAt ll i)=1:=MN k.ko hi
theorem Zn {e:Nat×Nat} {S:Nat} (h0:0≤rOf e):((hZ e S:Nat):Rat)≤rOf e*((S+1:Nat):Rat):=by
 unfold hZ
 rw[Int.toNat_natCast]
 have hn:(0:Rat)≤(((S+1:Nat):Int):Rat):=Rat.intCast_nonneg.2 (by omega)
 have a:=Dg (rOf e*(((S+1:Nat):Int):Rat))
 have b:=tL (Rat.mul_nonneg h0 hn)
 generalize hz:iG (rOf e*(((S+1:Nat):Int):Rat))=z at a b ⊢
 have c:((z.toNat:Nat):Int)=z:=by omega
 have d:((z.toNat:Nat):Rat)=((z:Int):Rat):=by
  have:((z.toNat:Nat):Rat)=(((z.toNat:Nat):Int):Rat):=rfl
  rw[this,c]
 rw[d]
 exact a
def fstQ (ll:List (List (Nat×Nat))) (t:List Nat) (f:Nat→Rat) (R S:Nat):Rat:=lW t (fC ll.length (kAt ll) f R S) ll.length
def Yq (ll:List (List (Nat×Nat))) (t:List Nat) (f:Nat→Rat) (R S:Nat):Rat:=lW t (fun s=>rs (S+1) (fun k=>mI ll.length (kAt ll) f R S k s) / (((S+1:Nat):Int):Rat)) ll.length
end
open Nat renaming reduceAdd→zA,reduceEqDiff→zE,reduceLeDiff→zL
set_option maxHeartbeats 16000000
variable {h:IH}
theorem uO (a c:Int) (ha:0≤a∧a<1000) (hc:0<c∧c<25):WV Proofs.Tryz.prog (.func (.func 73) #[] #[]) [qe a,qe c] h fun r h'=>Ext h h'∧r=gU (Rat.divInt a c):=oH a c ⟨by omega,by omega⟩ hc
theorem Dp {b b2:Bool} {x x2:Value} {n n2:Int} (hx:([x]:List Value).all aB=true) (hx2:([x2]:List Value).all aB=true) (h0:0≤n) (hn:n<4294967296) (g0:0≤n2) (gn:n2<4294967296) :
  WV Proofs.Tryz.prog (.func (.func 18) #[] #[]) [.agg #[.bool b,x,.int .u32 n,.bool b2,x2,.int .u32 n2]] h fun r h'=>Ext h h' ∧ ∃a c:Int,0≤a∧a≤c∧0<c∧c<25∧r=gU (Rat.divInt a c):=by
 have hx':aB x=true:=by simpa using hx
 have hx2':aB x2=true:=by simpa using hx2
 obtain⟨H0,hH0,n0,E0,k0,k1⟩:=ev h [.bool b,x,.int .u32 n,.bool b2,x2,.int .u32 n2] Z16
 refine enter (nt:=30) (rs:=[.cell 2 32]) Proofs.Tryz.func18 rfl rfl rfl (by simp) ?_
 simp -dsimp (disch:=omega) only[wpS,fR]
 rw[←hH0]
 clear hH0
 have X0:=Ext.refl H0
 have L1:load Proofs.Tryz.prog H0 56 (ptr (2*h.n) 3)=some (.agg #[.bool b2,x2,.int .u32 n2]):=by
  have r:=aj k0
  simp -dsimp (disch:=omega) only[wpS,wpT,zL,zA,EY,r]
  rfl
 refine drawn [(4,[2])] (by kernel_rfl) (by kernel_rfl) rfl ?_
 simp -dsimp (disch:=omega) only[wpS,wpT,zE,zL,zA,Be,EY,aj k0]
 refine call (mT hx h0 hn) ?_
 rintro _ h1 ⟨X1,y,rfl,y0,y1⟩
 have m1:=X1.n
 have kx:=X1.kept (by omega) k0
 simp -dsimp (disch:=omega) only[wpS,wpT,zE,zL,zA,EY,Kx,aj kx]
 refine call (mT hx2 g0 gn) ?_
 rintro _ h2 ⟨X2,z,rfl,z0,z1⟩
 have m2:=X2.n
 have X12:=X1.trans X2
 simp -dsimp (disch:=omega) only[wpS,zE]
 refine⟨by repeat' first|refine aw ?_ ?_|refine aC ?_ ?_|exact ad rfl rfl rfl rfl (aW (H0:=H0) rfl (by omega) (by assumption) (by assumption) (by with_reducible assumption)),?_⟩
 have cy:y<0∨0≤y:=by omega
 have cz:z<0∨0≤z:=by omega
 rcases cy with hy|hy
 ·rcases cz with hz|hz
  ·obtain⟨w,hw⟩:=aT (-y)
   obtain⟨u,hu⟩:=aT (-z)
   have c1:decide (y<0)=true:=decide_eq_true hy
   have c2:decide (z<0)=true:=decide_eq_true hz
   have m0:0≤u % 24∧u % 24<24:=by omega
   have r0:0≤w % (2+u % 24):=Int.emod_nonneg _ (by omega)
   have r1:w % (2+u % 24)<2+u % 24:=Int.emod_lt_of_pos _ (by omega)
   simp -dsimp (disch:=omega) only[wpS,wpT,zE,zA,c1,c2,←hw,←hu]
   refine call (cU (w % (2+u % 24)) ⟨by omega,by omega⟩) ?_
   rintro _ h3 ⟨X3,rfl⟩
   have m3:=X3.n
   simp -dsimp (disch:=omega) only[wpS,zE]
   refine call (cU (1+u % 24) ⟨by omega,by omega⟩) ?_
   rintro _ h4 ⟨X4,rfl⟩
   have m4:=X4.n
   simp -dsimp (disch:=omega) only[wpS,zE]
   refine call (uO (w % (2+u % 24)) (1+u % 24) ⟨r0,by omega⟩ ⟨by omega,by omega⟩) ?_
   rintro _ h5 ⟨X5,rfl⟩
   have m5:=X5.n
   have XX:=(((X1.trans X2).trans X3).trans X4).trans X5
   have k2:=XX.kept (by omega) k1
   simp -dsimp (disch:=omega) only[wpS,wpT,zE,zL,zA,dF,cq,k2,aD,ax,aV,bg,aS]
   exact⟨(E0.trans XX).put (by omega) _,_,_,r0,by omega,by omega,by omega,rfl⟩
  ·obtain⟨w,hw⟩:=aT (-y)
   obtain⟨u,hu⟩:=aT (z)
   have c1:decide (y<0)=true:=decide_eq_true hy
   have c2:decide (z<0)=false:=decide_eq_false (by omega)
   have m0:0≤u % 24∧u % 24<24:=by omega
   have r0:0≤w % (2+u % 24):=Int.emod_nonneg _ (by omega)
   have r1:w % (2+u % 24)<2+u % 24:=Int.emod_lt_of_pos _ (by omega)
   simp -dsimp (disch:=omega) only[wpS,wpT,zE,zA,c1,←hw,←hu]
   refine call (cU (w % (2+u % 24)) ⟨by omega,by omega⟩) ?_
   rintro _ h3 ⟨X3,rfl⟩
   have m3:=X3.n
   simp -dsimp (disch:=omega) only[wpS,zE]
   refine call (cU (1+u % 24) ⟨by omega,by omega⟩) ?_
   rintro _ h4 ⟨X4,rfl⟩
   have m4:=X4.n
   simp -dsimp (disch:=omega) only[wpS,zE]
   refine call (uO (w % (2+u % 24)) (1+u % 24) ⟨r0,by omega⟩ ⟨by omega,by omega⟩) ?_
   rintro _ h5 ⟨X5,rfl⟩
   have m5:=X5.n
   have XX:=(((X1.trans X2).trans X3).trans X4).trans X5
   have k2:=XX.kept (by omega) k1
   simp -dsimp (disch:=omega) only[wpS,wpT,zE,zL,zA,dF,cq,k2,aD,ax,aV,bg,aS]
   exact⟨(E0.trans XX).put (by omega) _,_,_,r0,by omega,by omega,by omega,rfl⟩
 ·rcases cz with hz|hz
  ·obtain⟨w,hw⟩:=aT (y)
   obtain⟨u,hu⟩:=aT (-z)
   have c1:decide (y<0)=false:=decide_eq_false (by omega)
   have c2:decide (z<0)=true:=decide_eq_true hz
   have m0:0≤u % 24∧u % 24<24:=by omega
   have r0:0≤w % (2+u % 24):=Int.emod_nonneg _ (by omega)
   have r1:w % (2+u % 24)<2+u % 24:=Int.emod_lt_of_pos _ (by omega)
   simp -dsimp (disch:=omega) only[wpS,wpT,zE,zA,c2,←hw,←hu]
   refine call (cU (w % (2+u % 24)) ⟨by omega,by omega⟩) ?_
   rintro _ h3 ⟨X3,rfl⟩
   have m3:=X3.n
   simp -dsimp (disch:=omega) only[wpS,zE]
   refine call (cU (1+u % 24) ⟨by omega,by omega⟩) ?_
   rintro _ h4 ⟨X4,rfl⟩
   have m4:=X4.n
   simp -dsimp (disch:=omega) only[wpS,zE]
   refine call (uO (w % (2+u % 24)) (1+u % 24) ⟨r0,by omega⟩ ⟨by omega,by omega⟩) ?_
   rintro _ h5 ⟨X5,rfl⟩
   have m5:=X5.n
   have XX:=(((X1.trans X2).trans X3).trans X4).trans X5
   have k2:=XX.kept (by omega) k1
   simp -dsimp (disch:=omega) only[wpS,wpT,zE,zL,zA,dF,cq,k2,aD,ax,aV,bg,aS]
   exact⟨(E0.trans XX).put (by omega) _,_,_,r0,by omega,by omega,by omega,rfl⟩
  ·obtain⟨w,hw⟩:=aT (y)
   obtain⟨u,hu⟩:=aT (z)
   have c1:decide (y<0)=false:=decide_eq_false (by omega)
   have c2:decide (z<0)=false:=decide_eq_false (by omega)
   have m0:0≤u % 24∧u % 24<24:=by omega
   have r0:0≤w % (2+u % 24):=Int.emod_nonneg _ (by omega)
   have r1:w % (2+u % 24)<2+u % 24:=Int.emod_lt_of_pos _ (by omega)
   simp -dsimp (disch:=omega) only[wpS,wpT,zE,zA,←hw,←hu]
   refine call (cU (w % (2+u % 24)) ⟨by omega,by omega⟩) ?_
   rintro _ h3 ⟨X3,rfl⟩
   have m3:=X3.n
   simp -dsimp (disch:=omega) only[wpS,zE]
   refine call (cU (1+u % 24) ⟨by omega,by omega⟩) ?_
   rintro _ h4 ⟨X4,rfl⟩
   have m4:=X4.n
   simp -dsimp (disch:=omega) only[wpS,zE]
   refine call (uO (w % (2+u % 24)) (1+u % 24) ⟨r0,by omega⟩ ⟨by omega,by omega⟩) ?_
   rintro _ h5 ⟨X5,rfl⟩
   have m5:=X5.n
   have XX:=(((X1.trans X2).trans X3).trans X4).trans X5
   have k2:=XX.kept (by omega) k1
   simp -dsimp (disch:=omega) only[wpS,wpT,zE,zL,zA,dF,cq,k2,aD,ax,aV,bg,aS]
   exact⟨(E0.trans XX).put (by omega) _,_,_,r0,by omega,by omega,by omega,rfl⟩
end Go.Id
namespace Go.Id
open Go




theorem Zp (x y:Rat) : ∃z:Int,(if x<y then (-1:Int) else if x=y then 0 else 1)=z∧(0<z↔y<x):=by
 obtain⟨z,h1,h2⟩:=KJ x y
 exact⟨z,h1,by rw[←Rat.not_le,←h2];omega⟩


end Go.Id
namespace Go.Id

open Go



noncomputable def N3:FuncId→Option (List Value→Option Value):=Eg [(15,okT)]
structure LX (h hh:IH) (fr:Fr) (a b:Nat) (mid:Bool) (at_ long:Int):Prop where
 e:Ext h hh
 f4:ab fr 4=some (.bool mid)
 f5:ab fr 5=some (KI at_)
 f6:ab fr 6=some (.int .u16 long)
 f9:ab fr 9=some (ptr (2*a) 0)
 f10:ab fr 10=some (ptr (2*b) 0)
section
variable {h hh:IH} {fr:Fr} {Q:bN→Fr→IH→Prop} {v w:Value} {nd a b:Nat} {mid:Bool} {at_ long:Int} {l0:List (Nat×Nat)}
theorem tk6 (a b c d e f:Value):List.take 6 (List.drop 0 [a,b,c,d,e,f]) = [a,b,c,d,e,f]:=rfl
end
theorem Qp {a c:Int} (a0:0≤a) (a1:a≤c) (a2:0<c) (a3:c<25):QW (Rat.divInt a c)∧0≤Rat.divInt a c∧Rat.divInt a c≤1:=by
 refine⟨gX ⟨by omega,by omega⟩ ⟨by omega,by omega⟩ (by omega),Rat.divInt_nonneg a0 (by omega),?_⟩
 rw[Rat.divInt_eq_div]
 refine Du (Rat.intCast_pos.2 a2) ?_
 rw[Rat.one_mul]
 exact Rat.intCast_le_intCast.2 a1
theorem Yl {ll:List (List (Nat×Nat))} {t:List Nat} {f:List (Nat×Nat)} {e:Nat×Nat} {n:Int} (k:rV ll t) (hf : ∀p∈f,okS p.1 p.2) (lf:f.length=ll.length) (oe:okS e.1 e.2) (e0:0≤rOf e) (e1:rOf e≤1) (n0:0≤n) (n20:n≤20):uj ll t f e n=0:=by
 have hl:=k.len
 have h1:=k.ko.1
 have re:pG ll t=0:=by
  unfold pG
  rw[if_neg (fun x=>x k.ko),if_neg]
  rintro(c|⟨p,hp,hn⟩)
  ·exact c hl
  ·have:=k.pos p hp
   omega
 have nz : ∃p∈t,p≠0:=by
  have hm:=List.getElem_mem (show 0<t.length by omega)
  refine⟨_,hm,fun h=>?_⟩
  have a:=k.pos _ hm
  rw[h] at a
  have h2:=eP
  have h3:=iJ
  unfold wdI at a
  split at a<;>omega
 unfold uj
 rw[if_neg (fun x=>x re),if_neg (fun x=>x nz),if_neg (fun x=>x k.rev),if_neg,if_neg]
 ·rintro(c|c|c|c|c)
  ·exact c lf
  ·exact absurd c (Rat.not_lt.2 e0)
  ·exact absurd c (Rat.not_lt.2 e1)
  ·omega
  ·omega
 ·rintro⟨p,hp,hn⟩
  rcases List.mem_append.1 hp with h|h
  ·exact hn (hf p h)
  ·rw[List.mem_singleton.1 h] at hn
   exact hn oe
theorem zN (q:Rat) : ∃p er,gN q=.tuple #[shV p.1 p.2,KI er]∧(p.1<W8∧p.2<W8)∧((er=0∧QW q∧p=shq q)∨(er=6∧p=(0,0))):=by
 unfold gN
 by_cases c:QW q
 ·exact⟨shq q,0,by rw[if_pos c,bK],gT c,.inl ⟨rfl,c,rfl⟩⟩
 ·have w0:0<W8:=by have:=eP;have:=iJ;omega
  exact⟨(0,0),6,by rw[if_neg c],⟨w0,w0⟩,.inr ⟨rfl,rfl⟩⟩
section
variable {N:Nat} {p:Nat→Nat→Rat}
variable {f:Nat→Rat}{l:List Nat}{g:Nat→Rat}{s:Nat}
theorem mV (hs:s<N) (h : ∀i j,i<N→j<N→leF f i j=leF g i j) (hl : ∀x∈l,x<N):l.countP (leF f s)=l.countP (leF g s) :=
 List.countP_congr fun x hx=>by rw[h s x hs (hl x hx)]
variable {R:Nat}
theorem IN {k:Nat} (hs:s<N) (h : ∀i j,i<N→j<N→leF f i j=leF g i j):fC N p f R k s=fC N p g R k s:=by
 unfold fC
 exact ny fun l _ hl=>by rw[mV hs h hl]
variable {n S:Nat}
theorem OW (hs:s<N) (h : ∀i j,i<N→j<N→leF f i j=leF g i j):mI N p f R S n s=mI N p g R S n s:=by
 unfold mI
 exact ny fun b _ hb=>ny fun o _ ho=>by rw[mV hs h hb,mV hs h ho]
variable {R':Nat}
theorem K1 (hp : ∀i j,0≤p i j) (f:Nat→Rat) (h:R≤R') (k s:Nat):fC N p f R k s≤fC N p f R' k s:=by
 unfold fC
 refine EC hp fun l _=>?_
 by_cases c:l.countP (leF f s)+1≤R
 ·rw[if_pos c,if_pos (by omega)];exact Rat.le_refl
 ·rw[if_neg c];split<;>grind
theorem RM (hp : ∀i j,0≤p i j) (f:Nat→Rat) (h:R≤R') (S n s:Nat):mI N p f R S n s≤mI N p f R' S n s:=by
 unfold mI
 refine EC hp fun b _=>EC hp fun o _=>?_
 by_cases c:b.countP (leF f s)+o.countP (leF f s)+1≤R
 ·rw[if_pos c,if_pos (by omega)];exact Rat.le_refl
 ·rw[if_neg c];split<;>grind
theorem PV (h1 : ∀i,i<N→rs N (p i)=1) (f:Nat→Rat) (hs:s<N):fC N p f (S+1) S s=1:=by
 unfold fC
 rw[fU (G:=fun _=>1) fun l hl=>by rw[if_pos (by have:=List.countP_le_length (p:=leF f s) (l:=l);omega)]]
 exact oJ h1 S hs 1
theorem U5 (h1 : ∀i,i<N→rs N (p i)=1) (f:Nat→Rat) (hs:s<N) (hn:n<S+1):mI N p f (S+1) S n s=1:=by
 unfold mI
 rw[fU (G:=fun _=>1) fun b hb=>by
  rw[fU (G:=fun _=>1) fun o ho=>by
   have a:=List.countP_le_length (p:=leF f s) (l:=b)
   have c:=List.countP_le_length (p:=leF f s) (l:=o)
   rw[if_pos (by omega)]]
  exact oJ h1 _ hs 1]
 exact oJ h1 n hs 1
theorem xp (hs:s<N) (h : ∀i j,i<N→j<N→leF f i j=true) (hl : ∀x∈l,x<N):l.countP (leF f s)=l.length :=
 List.countP_eq_length.2 fun x hx=>h s x hs (hl x hx)
theorem KZ (h1 : ∀i,i<N→rs N (p i)=1) (hs:s<N) (h : ∀i j,i<N→j<N→leF f i j=true):fC N p f R S s=if S+1≤R then 1 else 0:=by
 unfold fC
 rw[ny (G:=fun _=>if S+1≤R then 1 else 0) fun l hl hx=>by rw[xp hs h hx,hl]]
 exact oJ h1 S hs _
theorem RL (h1 : ∀i,i<N→rs N (p i)=1) (hs:s<N) (hn:n<S+1) (h : ∀i j,i<N→j<N→leF f i j=true):mI N p f R S n s=if S+1≤R then 1 else 0:=by
 unfold mI
 rw[ny (G:=fun _=>if S+1≤R then 1 else 0) fun b hb hx=>by
  rw[ny (G:=fun _=>if S+1≤R then 1 else 0) fun o ho hy=>by
   rw[xp hs h hx,xp hs h hy,hb,ho,show n+(S - n)+1=S+1 by omega]]
  exact oJ h1 _ hs _]
 exact oJ h1 n hs _
end
section
variable {ll:List (List (Nat×Nat))} {t:List Nat}
variable {g g':Nat→Rat}
theorem CV {i:Nat} (h : ∀s,s<i→g s=g' s):lW t g i=lW t g' i:=bm fun s hs=>by rw[h s hs]
theorem HM (k:rV ll t) (h : ∀s,s<ll.length→g s≤g' s):lW t g ll.length≤lW t g' ll.length:=by
 have W:=k.W
 rw[←k.len] at W
 unfold lW
 exact LW fun s hs=>Rat.mul_le_mul_of_nonneg_left (h s hs) (Zi (k.w0 s) W)
variable {c:Rat}
theorem sK (k:rV ll t) (h : ∀s,s<ll.length→g s=c):lW t g ll.length=c:=by
 have W:=k.W
 have hl:=k.len
 rw[RK,bm (g:=fun s=>c*wQ t s) fun s hs=>by rw[h s hs,Rat.mul_comm],Ag,hl]
 generalize rs ll.length (wQ t)=w at W ⊢
 grind
structure ZK (ll:List (List (Nat×Nat))) (t:List Nat) (S:Nat) (Q:(Nat→Rat)→Nat→Rat):Prop where
 congr : ∀f g R,(∀i j,i<ll.length→j<ll.length→leF f i j=leF g i j)→Q f R=Q g R
 mono : ∀f R R',R≤R'→Q f R≤Q f R'
 all : ∀f,Q f (S+1)=1
 same : ∀f R,(∀i j,i<ll.length→j<ll.length→leF f i j=true)→Q f R=if S+1≤R then 1 else 0
theorem Rv (k:rV ll t) (S:Nat):ZK ll t S fun f R=>fstQ ll t f R S :=
 ⟨fun _ _ _ h=>CV fun _ hs=>IN hs h,fun f _ _ h=>HM k fun s _=>K1 (Fa k.ko) f h S s,fun f=>sK k fun _ hs=>PV k.h1 f hs,fun _ _ h=>sK k fun _ hs=>KZ k.h1 hs h⟩
theorem AE {S:Nat} (h : ∀n,n<S+1→g n=c):rs (S+1) g / (((S+1:Nat):Int):Rat)=c:=by
 rw[bm h,QZ]
 have s1:(0:Rat)<((S+1:Nat):Rat):=Rat.natCast_pos.2 (by omega)
 have sI:(((S+1:Nat):Int):Rat)=((S+1:Nat):Rat):=rfl
 rw[sI]
 generalize ((S+1:Nat):Rat)=z at s1 ⊢
 grind
theorem Ru (k:rV ll t) (S:Nat):ZK ll t S fun f R=>Yq ll t f R S:=by
 refine⟨fun _ _ _ h=>CV fun _ hs=>?_,fun f R R' h=>HM k fun s _=>?_,fun f=>sK k fun _ hs=>?_,fun _ _ h=>sK k fun _ hs=>?_⟩
 ·rw[bm fun n _=>OW hs h]
 ·have s1:(0:Rat)<(((S+1:Nat):Int):Rat):=Rat.intCast_pos.2 (by omega)
  have a:rs (S+1) (fun n=>mI ll.length (kAt ll) f R S n s)≤rs (S+1) (fun n=>mI ll.length (kAt ll) f R' S n s):=LW fun n _=>RM (Fa k.ko) f h S n s
  refine Du s1 ?_
  have e:=Rat.div_mul_cancel (a:=rs (S+1) fun n=>mI ll.length (kAt ll) f R' S n s) (b:=(((S+1:Nat):Int):Rat)) (by grind)
  rw[e]
  exact a
 ·exact AE fun n hn=>U5 k.h1 f hs hn
 ·exact AE fun n hn=>RL k.h1 hs hn h
end
variable {S:Nat}
theorem Tb {a b:Nat×Nat} (h:rOf a≤rOf b):hZ a S≤hZ b S:=by
 unfold hZ
 have hn:(0:Rat)≤((((S:Int).toNat+1:Nat):Int):Rat):=Rat.intCast_nonneg.2 (by omega)
 have:=yi (Rat.mul_le_mul_of_nonneg_right h hn)
 omega
variable {e:Nat×Nat}
theorem No (h:rOf e=1):hZ e S=S+1:=by
 unfold hZ
 rw[h,Rat.one_mul,A6,Int.toNat_natCast]
 omega
theorem Tc (h0:0≤rOf e) (h:rOf e<1):hZ e S≤S:=by
 have a:=Zn (S:=S) h0
 refine Classical.byContradiction fun hn=>?_
 have b:((S+1:Nat):Rat)≤((hZ e S:Nat):Rat):=Rat.natCast_le_natCast.2 (by omega)
 have s1:(0:Rat)<((S+1:Nat):Rat):=Rat.natCast_pos.2 (by omega)
 generalize ((S+1:Nat):Rat)=z at *
 have c:=Rat.mul_pos (a:=1 - rOf e) (b:=z) (by grind) s1
 grind
open Go.Proofs.Tryz (prog)
open Nat renaming reduceAdd→zA,reduceEqDiff→zE,reduceLeDiff→zL
set_option maxHeartbeats 16000000
variable {h:IH}{fr:Fr}
theorem genF {P:Program} {fn:FuncId} {nt:Nat} {rd:Option Nat} {c:Code} {K:bN→Fr→IH→Prop} (R:Fr→Prop) (hr:R fr) (w : ∀fr,R fr→Do (wpC P fn nt rd c fr h) K nx):Do (wpC P fn nt rd c fr h) K nx:=w fr hr
noncomputable abbrev BG:Code:=Proofs.Tryz.f6.body.getD .skip
noncomputable abbrev QRi:bN→Fr→IH→Prop:=On prog [.tmp 14] fun r _=>r=.bool true
def Yk (i:Nat):Value:=if i=0 then (.func (.func 20) #[] #[]) else (.func (.func 22) #[] #[])
def qt (ll:List (List (Nat×Nat))) (t:List Nat) (S i:Nat) (f:Nat→Rat) (R:Nat):Rat:=if i=0 then fstQ ll t f R S else Yq ll t f R S
variable {t:List Nat}{ll:List (List (Nat×Nat))}
theorem UW (k:rV ll t) (S i:Nat):ZK ll t S (qt ll t S i):=by
 by_cases c:i=0
 ·subst c;exact Rv k S
 ·have:qt ll t S i=fun f R=>Yq ll t f R S:=by
   funext f R
   unfold qt
   rw[if_neg c]
  rw[this]
  exact Ru k S
variable {f:List (Nat×Nat)}{fv kv:Value}{S:Nat}{wv:Value}
theorem vD {e:Nat×Nat} {i:Nat} (rk:rV ll t) (hk:ji h kv ll) (hw:ni h wv t) (hf:gw h fv f) (hfo : ∀p∈f,okS p.1 p.2) (lf:f.length=ll.length) (he:e.1<W8∧e.2<W8) (oe:okS e.1 e.2) (e0:0≤rOf e) (e1:rOf e≤1) (hS:S≤20) (h8:ll.length≤8) :
  WV prog (Yk i) [kv,wv,fv,KI (S:Int),shV e.1 e.2] h fun r h'=>Ext h h'∧r=gN (qt ll t S i (ft f) (hZ e S)):=by
 have ock:uj ll t f e (S:Int)=0:=Yl rk hfo lf oe e0 e1 (by omega) (by omega)
 have h1:=rk.ko.1
 have hne:fv=.slice none 0 0∨0<f.length:=.inr (by omega)
 by_cases c:i=0
 ·subst c
  refine(OC (n:=(S:Int)) hk hw hf hne (by omega) he ⟨by omega,by omega⟩ h8).mono ?_
  rintro _ h' ⟨X,rfl⟩
  refine⟨X,?_⟩
  unfold A7
  rw[if_pos ock];first|done|rfl
 ·unfold Yk qt
  rw[if_neg c,if_neg c]
  refine(JP (n:=(S:Int)) hk hw hf hne (by omega) he ⟨by omega,by omega⟩ h8).mono ?_
  rintro _ h' ⟨X,rfl⟩
  refine⟨X,?_⟩
  unfold J5
  rw[if_pos ock];first|done|rfl
theorem TN:QW 1∧QW 0:=by
 constructor
 ·have:=gX (n:=1) (d:=1) ⟨by omega,by omega⟩ ⟨by omega,by omega⟩ (by omega)
  rwa [show Rat.divInt 1 1=1 by decide +kernel] at this
 ·have:=gX (n:=0) (d:=1) ⟨by omega,by omega⟩ ⟨by omega,by omega⟩ (by omega)
  rwa [show Rat.divInt 0 1=0 by decide +kernel] at this
theorem qK {q:Rat} (h:QW q):gN q=.tuple #[shV (shq q).1 (shq q).2,KI 0]:=by
 unfold gN
 rw[if_pos h,bK]
variable {p:Nat×Nat}
theorem yS (b:p.1<W8∧p.2<W8) (ox oy:Operand):binop prog .eql 32 ox oy (shV p.1 p.2) (shV p.1 p.2)=some (.bool true)∧binop prog .neq 32 ox oy (shV p.1 p.2) (shV p.1 p.2)=some (.bool false):=by
 constructor
 ·exact(QS b.1 b.2 b.1 b.2 ox oy).trans (by rw[decide_eq_true ⟨rfl,rfl⟩])
 ·exact(QR b.1 b.2 b.1 b.2 ox oy).trans (by rw[decide_eq_true ⟨rfl,rfl⟩];rfl)
theorem LO {q:Nat×Nat} (b:p.1<W8∧p.2<W8) (c:q.1<W8∧q.2<W8) (h:rOf p≠rOf q) (ox oy:Operand):binop prog .eql 32 ox oy (shV p.1 p.2) (shV q.1 q.2)=some (.bool false)∧binop prog .neq 32 ox oy (shV p.1 p.2) (shV q.1 q.2)=some (.bool true):=by
 have n : ¬(p.1=q.1∧p.2=q.2):=fun k=>h (by rw[Prod.ext k.1 k.2])
 constructor
 ·exact(QS b.1 b.2 c.1 c.2 ox oy).trans (by rw[decide_eq_false n])
 ·exact(QR b.1 b.2 c.1 c.2 ox oy).trans (by rw[decide_eq_false n];rfl)
theorem xR (h:IH) (p:Nat×Nat) : ∃G,G=(h.new (.cells Z16 0 none)).put h.n (.cells (shC p.1 p.2) 0 none)∧G.n=h.n+1∧Ext h G∧G.ext.get h.n=some (.cells (shC p.1 p.2) 0 none) :=
 ⟨_,rfl,rfl,((Ext.refl h).new _).put (Nat.le_refl _) _,ae _ _ rfl⟩
set_option maxRecDepth 100000 in
theorem EJ {H:IH} {mv sv:Value} {M L:List (Nat×Nat)} {lo hi:Nat×Nat} {c19 c20:Nat} (rk:rV ll t) (h8:ll.length≤8) (sk:ji H kv ll) (sw:ni H wv t) (sf:gw H fv f) (sm:gw H mv M) (ss:gw H sv L) (okf : ∀p∈f,okS p.1 p.2) (okm : ∀p∈M,okS p.1 p.2) (oks : ∀p∈L,okS p.1 p.2) (lf:f.length=ll.length) (lm:M.length=ll.length) (ls:L.length=ll.length)
  (hM : ∀i j,i<ll.length→j<ll.length→leF (ft M) i j=leF (ft f) i j) (hL : ∀i j,i<ll.length→j<ll.length→leF (ft L) i j=true)
  (hS:S≤20) (blo:lo.1<W8∧lo.2<W8) (bhi:hi.1<W8∧hi.2<W8) (olo:okS lo.1 lo.2) (ohi:okS hi.1 hi.2) (lo0:0≤rOf lo) (lo1:rOf lo≤1) (hi1:rOf hi≤1) (le:rOf lo≤rOf hi)
  (g19:H.ext.get c19=some (.cells (shC lo.1 lo.2) 0 none)) (g20:H.ext.get c20=some (.cells (shC hi.1 hi.2) 0 none)) (l19:c19<H.n) (l20:c20<H.n)
  (f15:ab fr 15=some kv) (f16:ab fr 16=some wv) (f17:ab fr 17=some fv) (f18:ab fr 18=some (KN S)) (f19:ab fr 19=some (ptr (2*c19) 0)) (f20:ab fr 20=some (ptr (2*c20) 0)) (f23:ab fr 23=some mv) (f24:ab fr 24=some sv) :
  Do (wpC prog 6 231 none (Ey BG 8) fr H) QRi nx:=by
 show Do (wpC _ _ _ _ (.seq _ _) fr H) _ _
 simp -dsimp (disch:=omega) only[wpS,wpT,zL,zA,KQ,ug,uf]
 obtain⟨arr,harr⟩:=aT (Value.agg #[(.func (.func 20) #[] #[]),(.func (.func 22) #[] #[])])
 rw[←harr]
 have one:=TN.1
 have zer:=TN.2
 refine loop (fun m fr hh => ∃i:Nat,i+m=2∧Ext H hh∧ab fr 15=some kv∧ab fr 16=some wv∧ab fr 17=some fv∧ab fr 18=some (KN S)∧ab fr 19=some (ptr (2*c19) 0)∧ab fr 20=some (ptr (2*c20) 0)∧ab fr 23=some mv∧ab fr 24=some sv∧ab fr 109=some arr∧ab fr 110=some (KN i)) 2
  ⟨0,by omega,Ext.refl _,by simp[f15,f16,f17,f18,f19,f20,f23,f24]⟩ ?_
 clear f15 f16 f17 f18 f19 f20 f23 f24
 rintro m fr h0 ⟨i,him,E0,f15,f16,f17,f18,f19,f20,f23,f24,f109,f110⟩
 simp -dsimp (disch:=omega) only[wpS,f110]
 refine au ?_ ?_<;>intro hc<;>simp only[decide_eq_true_eq,decide_eq_false_iff_not] at hc
 ·have hi2:i<2:=by omega
  have od:=UW rk S i
  have g190:=E0.kept l19 g19
  have g200:=E0.kept l20 g20
  have en:=E0.n
  have K:=E0.aa
  have hlo:qt ll t S i (ft f) (hZ lo S)≤qt ll t S i (ft f) (hZ hi S):=od.mono _ _ _ (Tb le)
  have hmo:qt ll t S i (ft M) (hZ lo S)=qt ll t S i (ft f) (hZ lo S):=od.congr _ _ _ hM
  have Sf:rF prog 77 arr (KN i)=some (Yk i):=by
   rw[harr]
   rcases(show i=0∨i=1 by omega) with rfl|rfl<;>rfl
  simp -dsimp (disch:=omega) only[wpS,wpT,zE,zL,cq,f15,f16,f17,f18,f19,f109,f110,Sf,aj g190,ax,aS]
  have hi0:0≤rOf hi:=Rat.le_trans lo0 le
  have ln19:c19<h0.n:=by omega
  have ln20:c20<h0.n:=by omega
  refine call (vD (i:=i) (S:=S) rk (sk.aa E0.aa) (sw.aa E0.aa) (sf.aa E0.aa) okf lf blo olo lo0 lo1 hS h8) ?_
  rintro _ ha ⟨Xa,rfl⟩
  have na:=Xa.n
  obtain⟨pa,ra,ta,ba,ca⟩:=zN (qt ll t S i (ft f) (hZ lo S))
  rw[ta]
  have ZaE:=Xa.kept (by omega) g190
  have Ws:=Xa.kept (by omega) g200
  obtain⟨Ga,hGa,ma,Za,ga⟩:=xR ha pa
  simp -dsimp (disch:=omega) only[wpS,wpT,zE,zL,zA,fR,dF,cq,f15,f16,f17,f18,f20,aj Ws,aD,ax,aV,bg,aS]
  try rw[←hGa]
  clear hGa
  have Ea:=(E0.trans Xa).trans Za
  have Zau:=Za.kept (by omega) ZaE
  have Zao:=Za.kept (by omega) Ws
  refine call (vD (i:=i) (S:=S) rk (sk.aa Ea.aa) (sw.aa Ea.aa) (sf.aa Ea.aa) okf lf bhi ohi hi0 hi1 hS h8) ?_
  rintro _ hb ⟨Xb,rfl⟩
  have nb:=Xb.n
  obtain⟨pb,rb,tb,bb,cb⟩:=zN (qt ll t S i (ft f) (hZ hi S))
  rw[tb]
  have Wu:=Xb.kept (by omega) Zau
  have ZaA:=Xb.kept (by omega) Zao
  have ra_b:=Xb.kept (by omega) ga
  obtain⟨Gb,hGb,mb,Zb,gb⟩:=xR hb pb
  simp -dsimp (disch:=omega) only[wpS,wpT,zE,zL,zA,fR,dF,cq,f15,f16,f18,f19,f23,aj Wu,aD,ax,aV,bg,aS]
  try rw[←hGb]
  clear hGb
  have Eb:=(Ea.trans Xb).trans Zb
  have Zat:=Zb.kept (by omega) Wu
  have Zan:=Zb.kept (by omega) ZaA
  have sa_b:=Zb.kept (by omega) ra_b
  refine call (vD (i:=i) (S:=S) rk (sk.aa Eb.aa) (sw.aa Eb.aa) (sm.aa Eb.aa) okm lm blo olo lo0 lo1 hS h8) ?_
  rintro _ hc ⟨Xc,rfl⟩
  have nc:=Xc.n
  rw[hmo,ta]
  have ZaD:=Xc.kept (by omega) Zat
  have Zaz:=Xc.kept (by omega) Zan
  have ra_c:=Xc.kept (by omega) sa_b
  have rb_c:=Xc.kept (by omega) gb
  obtain⟨Gc,hGc,mc,Zc,gc⟩:=xR hc pa
  simp -dsimp (disch:=omega) only[wpS,wpT,zE,zL,zA,fR,dF,f15,f16,f17,f18,aD,ax,aV,bg]
  try rw[←hGc]
  clear hGc
  have Ec:=(Eb.trans Xc).trans Zc
  have Zas:=Zc.kept (by omega) ZaD
  have Zam:=Zc.kept (by omega) Zaz
  have sa_c:=Zc.kept (by omega) ra_c
  have sb_c:=Zc.kept (by omega) rb_c
  refine call (pR 1 1 ⟨by omega,by omega⟩ ⟨by omega,by omega⟩ (by omega)) ?_
  rintro _ hq ⟨Xq,rfl⟩
  rw[show Rat.divInt 1 1=1 by decide +kernel,bK]
  have JN:rOf (shq 1)=1:=(bX one).1
  obtain⟨o1,ho1⟩:=aT (shq 1)
  have II:=gT one
  have Yh:=(bX one).2
  rw[←ho1] at II Yh JN ⊢
  have one0:0≤rOf o1:=by rw[JN];decide +kernel
  have one1:rOf o1≤1:=by rw[JN];exact Rat.le_refl
  have Eq:=Ec.trans Xq
  have nq:=Xq.n
  have ZaB:=Xq.kept (by omega) Zas
  have Zaw:=Xq.kept (by omega) Zam
  have ra_q:=Xq.kept (by omega) sa_c
  have rb_q:=Xq.kept (by omega) sb_c
  have rc_q:=Xq.kept (by omega) gc
  simp -dsimp (disch:=omega) only[wpS,zE]
  refine call (vD (i:=i) (S:=S) rk (sk.aa Eq.aa) (sw.aa Eq.aa) (sf.aa Eq.aa) okf lf II Yh one0 one1 hS h8) ?_
  rintro _ hd ⟨Xd,rfl⟩
  have nd:=Xd.n
  rw[No JN,od.all,qK one,←ho1]
  have Wt:=Xd.kept (by omega) ZaB
  have Zay:=Xd.kept (by omega) Zaw
  have ra_d:=Xd.kept (by omega) ra_q
  have rb_d:=Xd.kept (by omega) rb_q
  have rc_d:=Xd.kept (by omega) rc_q
  obtain⟨Gd,hGd,md,Zd,gd⟩:=xR hd o1
  simp -dsimp (maxSteps:=1000000) (disch:=first|omega|(simp only[aH,aM];omega)|decide +kernel|(repeat first|rw[aH]|rw[aM])) only[wpS,wpT,zE,zL,zA,fR,dF,cq,f15,f16,f18,f19,f24,aj Wt,aD,ax,aV,bg,aS]
  try rw[←hGd]
  clear hGd
  have Ed:=(Eq.trans Xd).trans Zd
  have Zar:=Zd.kept (by omega) Wt
  have Zal:=Zd.kept (by omega) Zay
  have sa_d:=Zd.kept (by omega) ra_d
  have sb_d:=Zd.kept (by omega) rb_d
  have sc_d:=Zd.kept (by omega) rc_d
  refine call (vD (i:=i) (S:=S) rk (sk.aa Ed.aa) (sw.aa Ed.aa) (ss.aa Ed.aa) oks ls blo olo lo0 lo1 hS h8) ?_
  rintro _ he ⟨Xe,rfl⟩
  have ne:=Xe.n
  rw[od.same _ _ hL]
  obtain⟨pn,hpn,bn,hpe⟩ : ∃pn,gN (if S+1≤hZ lo S then (1:Rat) else 0)=.tuple #[shV pn.1 pn.2,KI 0]∧(pn.1<W8∧pn.2<W8)∧((rOf lo=1∧pn=o1)∨(rOf lo≠1∧pn=shq 0)):=by
   by_cases c1:rOf lo=1
   ·rw[No c1,if_pos (Nat.le_refl _)]
    exact⟨o1,by rw[qK one,←ho1],II,.inl ⟨c1,rfl⟩⟩
   ·have:=Tc (S:=S) lo0 (Classical.byContradiction fun hn=>c1 (Rat.le_antisymm lo1 (Rat.not_lt.1 hn)))
    rw[if_neg (by omega)]
    exact⟨shq 0,qK zer,gT zer,.inr ⟨c1,rfl⟩⟩
  rw[hpn]
  have ZaC:=Xe.kept (by omega) Zar
  have Zax:=Xe.kept (by omega) Zal
  have ra_e:=Xe.kept (by omega) sa_d
  have rb_e:=Xe.kept (by omega) sb_d
  have rc_e:=Xe.kept (by omega) sc_d
  have rd_e:=Xe.kept (by omega) gd
  obtain⟨Ge,hGe,me,Ze,ge⟩:=xR he pn
  simp -dsimp (disch:=omega) only[wpR,wpT,zE,zL,zA,fR,dF,aD,ax,aV,bg]
  try rw[←hGe]
  clear hGe
  have Ee:=(Ed.trans Xe).trans Ze
  have Zaq:=Ze.kept (by omega) ZaC
  have s20_e:=Ze.kept (by omega) Zax
  have sa_e:=Ze.kept (by omega) ra_e
  have sb_e:=Ze.kept (by omega) rb_e
  have sc_e:=Ze.kept (by omega) rc_e
  have sd_e:=Ze.kept (by omega) rd_e
  refine genF (fun fr=>ab fr 15=some kv∧ab fr 16=some wv∧ab fr 17=some fv∧ab fr 18=some (KN S)∧ab fr 19=some (ptr (2*c19) 0)∧ab fr 20=some (ptr (2*c20) 0)∧ab fr 23=some mv∧ab fr 24=some sv∧ab fr 109=some arr∧ab fr 110=some (KN i)∧ab fr 33=some (ptr (2*ha.n) 0)∧ab fr 34=some (KI ra)∧ab fr 35=some (ptr (2*hb.n) 0)∧ab fr 36=some (KI rb)∧ab fr 37=some (ptr (2*hc.n) 0)∧ab fr 38=some (KI ra)∧ab fr 39=some (ptr (2*hd.n) 0)∧ab fr 40=some (KI 0)∧ab fr 41=some (ptr (2*he.n) 0)∧ab fr 42=some (KI 0)) ⟨by simp[f15],by simp[f16],by simp[f17],by simp[f18],by simp[f19],by simp[f20],by simp[f23],by simp[f24],by simp[f109],by simp[f110],by simp,by simp,by simp,by simp,by simp,by simp,by simp,by simp,by simp,by simp⟩ ?_
  clear f15 f16 f17 f18 f19 f20 f23 f24 f109 f110
  rintro fr ⟨f15,f16,f17,f18,f19,f20,f23,f24,f109,f110,f33,f34,f35,f36,f37,f38,f39,f40,f41,f42⟩
  by_cases ca6:ra=6
  ·subst ca6
   simp -dsimp (disch:=omega) only[wpS,wpT,zE,f34,f110]
   exact⟨m - 1,by omega,i+1,by omega,Ee,by simp[f15,f16,f17,f18,f19,f20,f23,f24,f109]⟩
  have da:(ra == 6)=false:=by simpa using ca6
  by_cases cb6:rb=6
  ·subst cb6
   simp -dsimp (disch:=omega) only[wpS,wpT,zE,f34,f36,f110,da]
   exact⟨m - 1,by omega,i+1,by omega,Ee,by simp[f15,f16,f17,f18,f19,f20,f23,f24,f109]⟩
  have db:(rb == 6)=false:=by simpa using cb6
  obtain⟨rfl,wA,rfl⟩:ra=0∧QW (qt ll t S i (ft f) (hZ lo S))∧pa=shq (qt ll t S i (ft f) (hZ lo S)):=ca.resolve_right fun k=>ca6 k.1
  obtain⟨rfl,wB,rfl⟩:rb=0∧QW (qt ll t S i (ft f) (hZ hi S))∧pb=shq (qt ll t S i (ft f) (hZ hi S)):=cb.resolve_right fun k=>cb6 k.1
  simp -dsimp (disch:=omega) only[wpS,wpT,zE,zL,cq,f34,f36,f33,f35,da,aj sa_e,aj sb_e,ax,aS]
  refine call (Aa ba bb (bX wA).2 (bX wB).2) ?_
  rintro _ hf ⟨Xf,rfl⟩
  rw[(bX wA).1,(bX wB).1]
  obtain⟨z,hz,hzl⟩:=KJ (qt ll t S i (ft f) (hZ lo S)) (qt ll t S i (ft f) (hZ hi S))
  rw[hz]
  have z0:=hzl.2 hlo
  clear hz hzl
  have nf:=Xf.n
  have sa_f:=Xf.kept (by omega) sa_e
  have sc_f:=Xf.kept (by omega) sc_e
  have sd_f:=Xf.kept (by omega) sd_e
  have se_f:=Xf.kept (by omega) ge
  have Zap:=Xf.kept (by omega) Zaq
  have Ef:=Ee.trans Xf
  generalize shq (qt ll t S i (ft f) (hZ lo S))=pA at *
  simp -dsimp (disch:=omega) only[wpR,zE]
  have dz:decide (0<z)=false:=decide_eq_false (by omega)
  have na:=fun ox oy=>(yS ba ox oy).2
  have n1:=fun ox oy=>(yS II ox oy).2
  obtain⟨_,_,L37⟩:=psh sc_f
  obtain⟨_,_,L33⟩:=psh sa_f
  obtain⟨_,_,L39⟩:=psh sd_f
  have q11:Rat.divInt 1 1=1:=by decide +kernel
  have q01:Rat.divInt 0 1=0:=by decide +kernel
  rw[kX]
  refine drawn [(32,[38]),(37,[41,47]),(40,[38,47]),(46,[51]),(50,[55])] (by kernel_rfl) (by kernel_rfl) rfl ?_
  simp -dsimp (maxSteps:=1000000) (disch:=first|omega|(simp only[aH,aM];omega)|decide +kernel|(repeat first|rw[aH]|rw[aM])) only[wpS,wpT,zE,f34,f36,f38,f40,f42,dz,f37,f33,L37,L33,na,f39,L39]
  refine call (pR 1 1 ⟨by omega,by omega⟩ ⟨by omega,by omega⟩ (by omega)) ?_
  rintro _ k1 ⟨Y1,rfl⟩
  rw[q11,bK,←ho1]
  have j1:=Y1.n
  have e41:=Y1.kept (by omega) se_f
  have e19:=Y1.kept (by omega) Zap
  have e39:=Y1.kept (by omega) sd_f
  have TP:=(psh e41).2.2
  have ZN:=(psh e19).2.2
  have L391:=(psh e39).2.2
  simp -dsimp (disch:=omega) only[wpS,wpT,zE,n1,f41,TP]
  refine call (pR 1 1 ⟨by omega,by omega⟩ ⟨by omega,by omega⟩ (by omega)) ?_
  rintro _ k2 ⟨Y2,rfl⟩
  rw[q11,bK,←ho1]
  have j2:=Y2.n
  have Zh:=Y2.kept (by omega) e41
  have VH:=Y2.kept (by omega) e19
  have L412:=(psh Zh).2.2
  have La:=(psh VH).2.2
  rcases hpe with⟨l1,hpo⟩|⟨l1,hpo⟩
  ·obtain rfl:o1=pn:=hpo.symm
   have el:=fun ox oy=>(yS II ox oy).1
   have lo1':lo=o1:=UE blo II olo Yh (by rw[l1,JN])
   rw[lo1'] at La ZN VH
   simp -dsimp (disch:=omega) only[wpS,wpT,zE,el,f19,La]
   refine call (pR 1 1 ⟨by omega,by omega⟩ ⟨by omega,by omega⟩ (by omega)) ?_
   rintro _ k3 ⟨Y3,rfl⟩
   rw[q11,bK,←ho1]
   have j3:=Y3.n
   have SG:=Y3.kept (by omega) Zh
   have K8:=(psh SG).2.2
   have ZM:=(psh (Y3.kept (by omega) VH)).2.2
   have nn : ∀ox oy,binop prog .neq 4 ox oy (.bool true) (.bool true)=some (.bool false):=fun _ _=>rfl
   simp -dsimp (maxSteps:=1000000) (disch:=first|omega|(simp only[aH,aM];omega)|decide +kernel|(repeat first|rw[aH]|rw[aM])) only[wpS,wpT,zE,el,nn,f41,K8]
   refine call (pR 1 1 ⟨by omega,by omega⟩ ⟨by omega,by omega⟩ (by omega)) ?_
   rintro _ k4 ⟨Y4,rfl⟩
   rw[q11,bK,←ho1]
   have TO:=(psh (Y4.kept (by omega) SG)).2.2
   simp -dsimp (maxSteps:=1000000) (disch:=first|omega|(simp only[aH,aM];omega)|decide +kernel|(repeat first|rw[aH]|rw[aM])) only[wpS,wpT,zE,n1]
   refine⟨aw (ad rfl rfl rfl rfl (ai f39 L39 L391)) (aw (aC (ad rfl rfl rfl rfl (ai f41 TP L412)) (ad rfl rfl rfl rfl (ai f41 TP K8))) (aw (aC (ad rfl rfl rfl rfl (ai f19 La ZN)) (ad rfl rfl rfl rfl (ai f19 La ZM))) (aw (ad rfl rfl rfl rfl (ai f41 K8 TO)) (lK rfl rfl rfl)))),?_⟩
   simp -dsimp (disch:=omega) only[wpS,wpT,zE,zA,f110]
   exact⟨m - 1,by omega,i+1,by omega,((((Ef.trans Y1).trans Y2).trans Y3).trans Y4),by simp[f15,f16,f17,f18,f19,f20,f23,f24,f109]⟩
  ·subst hpo
   have rz:rOf (shq 0)=0:=(bX zer).1
   have bz:=gT zer
   have dz1:=LO bz II (by rw[rz,JN];decide +kernel)
   have dl1:=LO blo II (by rw[JN];exact l1)
   have e1:=fun ox oy=>(dz1 ox oy).1
   have e2:=fun ox oy=>(dz1 ox oy).2
   have e3:=fun ox oy=>(dl1 ox oy).1
   have e4:=fun ox oy=>(yS bz ox oy).2
   simp -dsimp (disch:=omega) only[wpS,wpT,zE,e1,f19,La]
   refine call (pR 1 1 ⟨by omega,by omega⟩ ⟨by omega,by omega⟩ (by omega)) ?_
   rintro _ k3 ⟨Y3,rfl⟩
   rw[q11,bK,←ho1]
   have j3:=Y3.n
   have SG:=Y3.kept (by omega) Zh
   have K8:=(psh SG).2.2
   have ZM:=(psh (Y3.kept (by omega) VH)).2.2
   have nn : ∀ox oy,binop prog .neq 4 ox oy (.bool false) (.bool false)=some (.bool false):=fun _ _=>rfl
   simp -dsimp (maxSteps:=1000000) (disch:=first|omega|(simp only[aH,aM];omega)|decide +kernel|(repeat first|rw[aH]|rw[aM])) only[wpS,wpT,zE,e3,nn,f41,K8]
   refine call (pR 1 1 ⟨by omega,by omega⟩ ⟨by omega,by omega⟩ (by omega)) ?_
   rintro _ k4 ⟨Y4,rfl⟩
   rw[q11,bK,←ho1]
   have j4:=Y4.n
   have e414:=Y4.kept (by omega) SG
   have TO:=(psh e414).2.2
   simp -dsimp (disch:=omega) only[wpS,wpT,zE,e2,f41,TO]
   refine call (pR 0 1 ⟨by omega,by omega⟩ ⟨by omega,by omega⟩ (by omega)) ?_
   rintro _ k5 ⟨Y5,rfl⟩
   rw[q01,bK]
   have L415:=(psh (Y5.kept (by omega) e414)).2.2
   simp -dsimp (disch:=omega) only[wpS,wpT,zE,e4]
   refine⟨aw (ad rfl rfl rfl rfl (ai f39 L39 L391)) (aw (aC (ad rfl rfl rfl rfl (ai f41 TP L412)) (ad rfl rfl rfl rfl (ai f41 TP K8))) (aw (aC (ad rfl rfl rfl rfl (ai f19 La ZN)) (ad rfl rfl rfl rfl (ai f19 La ZM))) (aw (ad rfl rfl rfl rfl (ai f41 K8 TO)) (ad rfl rfl rfl rfl (ai f41 TO L415))))),?_⟩
   simp -dsimp (disch:=omega) only[wpS,wpT,zE,zA,f110]
   exact⟨m - 1,by omega,i+1,by omega,(((((Ef.trans Y1).trans Y2).trans Y3).trans Y4).trans Y5),by simp[f15,f16,f17,f18,f19,f20,f23,f24,f109]⟩
 ·obtain rfl:i=2:=by omega
  simp -dsimp (disch:=omega) only[wpS,wpT]
def iY (b:Bool) (n:Int):Int:=if b then -(n % 1000001) else n % 1000001
variable {n:Int}
theorem zY (b:Bool) (h0:0≤n) : -1000000≤iY b n∧iY b n≤1000000:=by
 unfold iY
 split<;>omega
def ua (b:Bool) (n:Int) (b2:Bool) (n2:Int):Rat:=Rat.divInt ((iY b n).tmod 1000) (1+(if iY b2 n2<0 then -iY b2 n2 else iY b2 n2) % 24)
theorem Eo (b:Bool) (n:Int) (b2:Bool) (n2:Int) : ∃a c:Int,(-1000<a∧a<1000)∧(0<c∧c<25)∧ua b n b2 n2=Rat.divInt a c :=
 ⟨_,_,mw _,by split<;>omega,rfl⟩
variable {h:IH}{x:Value}{b:Bool}
theorem rO (hx:([x]:List Value).all aB=true) (h0:0≤n) (hn:n<4294967296) :
  WV prog (.func (.func 72) #[] #[]) [.agg #[.bool b,x,.int .u32 n]] h fun r h'=>Ext h h'∧r=KI (iY b n):=by
 have E1:Ext h (h.new (.cells [.bool b,x,.int .u32 n] 0 none)):=(Ext.refl h).new _
 have hm:0≤n % 1000001:=by omega
 have hm2:n % 1000001≤1000000:=by omega
 have hx':aB x=true:=by simpa using hx
 refine enter (nt:=13) (rs:=[.tmp 2]) Proofs.Tryz.func72 rfl rfl rfl (by simp) ?_
 simp -dsimp (disch:=omega) only[wpS,zE,Sv,ld54,Ta,Sw,ld4]
 cases b
 ·simp -dsimp (disch:=omega) only[wpS,zE]
  exact⟨E1,rfl⟩
 ·simp -dsimp (disch:=omega) only[wpS,zE]
  exact⟨E1,rfl⟩
theorem yk {b2:Bool} {x2:Value} {n2:Int} (hx:([x]:List Value).all aB=true) (hx2:([x2]:List Value).all aB=true) (h0:0≤n) (hn:n<4294967296) (g0:0≤n2) (gn:n2<4294967296) :
  WV prog (.func (.func 29) #[] #[]) [.agg #[.bool b,x,.int .u32 n,.bool b2,x2,.int .u32 n2]] h fun r h'=>Ext h h'∧r=gU (ua b n b2 n2):=by
 have hx':aB x=true:=by simpa using hx
 have hx2':aB x2=true:=by simpa using hx2
 obtain⟨H0,hH0,n0,E0,k0,k1⟩:=ev h [.bool b,x,.int .u32 n,.bool b2,x2,.int .u32 n2] Z16
 refine enter (nt:=21) (rs:=[.cell 2 32]) Proofs.Tryz.func29 rfl rfl rfl (by simp) ?_
 simp -dsimp (disch:=try exact dx) only[wpS,wpT,zE,zL,zA,fR,Kx,EY]
 rw[←hH0]
 clear hH0
 refine call (rO hx2 g0 gn) ?_
 rintro _ h1 ⟨X1,rfl⟩
 obtain⟨z0,z1⟩:=zY b2 g0
 have eS : ∀y,y=iY b n → ∀w:Int,(w=if iY b2 n2<0 then -iY b2 n2 else iY b2 n2)→ua b n b2 n2=Rat.divInt (y.tmod 1000) (1+w % 24):=fun y hy w hw=>by unfold ua;rw[hy,hw]
 obtain⟨z,hzz⟩:=aT (iY b2 n2)
 rw[←hzz] at z0 z1 eS ⊢
 have m1:=X1.n
 have kx:=X1.kept (by omega) k0
 have KM:z<0∨0≤z:=by omega
 rcases KM with hz|hz
 ·obtain⟨w,hw⟩:=aT (-z)
  have c1:decide (z<0)=true:=decide_eq_true hz
  simp -dsimp (disch:=omega) only[wpS,wpT,zE,zL,zA,EY,Be,c1,aj kx]
  rw[←hw]
  refine call (rO hx h0 hn) ?_
  rintro _ h2 ⟨X2,rfl⟩
  obtain⟨y0,y1⟩:=zY b h0
  obtain⟨y,hyy⟩:=aT (iY b n)
  rw[←hyy] at y0 y1 ⊢
  rw[eS y hyy w (by rw[if_pos hz];exact hw)]
  have m2:=X2.n
  have hr : ∀ox oy,binop prog .rem 3 ox oy (KI y) (KI 1000)=some (KI (y.tmod 1000)):=fun _ _=>kh _ _ _ _ (by decide)
  have hy:=mw y
  simp -dsimp (disch:=omega) only[wpS,zE,hr]
  refine call (cU (y.tmod 1000) ⟨by omega,by omega⟩) ?_
  rintro _ h3 ⟨X3,rfl⟩
  have m3:=X3.n
  simp -dsimp (disch:=omega) only[wpS,zE]
  refine call (cU (1+w % 24) ⟨by omega,by omega⟩) ?_
  rintro _ h4 ⟨X4,rfl⟩
  have m4:=X4.n
  simp -dsimp (disch:=omega) only[wpS,zE]
  refine call (oH (y.tmod 1000) (1+w % 24) hy ⟨by omega,by omega⟩) ?_
  rintro _ h5 ⟨X5,rfl⟩
  have m5:=X5.n
  have XX:=(((X1.trans X2).trans X3).trans X4).trans X5
  have k2:=XX.kept (by omega) k1
  simp -dsimp (disch:=omega) only[wpS,wpT,zE,zL,zA,dF,cq,k2,aD,ax,aV,bg,aS]
  exact⟨(E0.trans XX).put (by omega) _,rfl⟩
 ·obtain⟨w,hw⟩:=aT (z)
  have c1:decide (z<0)=false:=decide_eq_false (by omega)
  simp -dsimp (disch:=omega) only[wpS,wpT,zE,zL,zA,EY,Be,c1,aj kx]
  rw[←hw]
  refine call (rO hx h0 hn) ?_
  rintro _ h2 ⟨X2,rfl⟩
  obtain⟨y0,y1⟩:=zY b h0
  obtain⟨y,hyy⟩:=aT (iY b n)
  rw[←hyy] at y0 y1 ⊢
  rw[eS y hyy w (by rw[if_neg (by omega)];exact hw)]
  have m2:=X2.n
  have hr : ∀ox oy,binop prog .rem 3 ox oy (KI y) (KI 1000)=some (KI (y.tmod 1000)):=fun _ _=>kh _ _ _ _ (by decide)
  have hy:=mw y
  simp -dsimp (disch:=omega) only[wpS,zE,hr]
  refine call (cU (y.tmod 1000) ⟨by omega,by omega⟩) ?_
  rintro _ h3 ⟨X3,rfl⟩
  have m3:=X3.n
  simp -dsimp (disch:=omega) only[wpS,zE]
  refine call (cU (1+w % 24) ⟨by omega,by omega⟩) ?_
  rintro _ h4 ⟨X4,rfl⟩
  have m4:=X4.n
  simp -dsimp (disch:=omega) only[wpS,zE]
  refine call (oH (y.tmod 1000) (1+w % 24) hy ⟨by omega,by omega⟩) ?_
  rintro _ h5 ⟨X5,rfl⟩
  have m5:=X5.n
  have XX:=(((X1.trans X2).trans X3).trans X4).trans X5
  have k2:=XX.kept (by omega) k1
  simp -dsimp (disch:=omega) only[wpS,wpT,zE,zL,zA,dF,cq,k2,aD,ax,aV,bg,aS]
  exact⟨(E0.trans XX).put (by omega) _,rfl⟩
end Go.Id
namespace Go.Id
open Go
theorem Gf.XY {h:IH} {n0 sz:Nat} {v w:Value} {n:Nat} {cs ds:List Value} (a:Gf h n0 sz v w n cs ds) {P:Program} {t:TypeId} {bytes:Nat} (hT:jh P t=some (sz,bytes)) (hz:0<sz) {new1 new2:List Value} (l1:new1.length=sz) (l2:new2.length=sz)
  (c1:new1.all aB=true) (c2:new2.all aB=true) (hsz:(n+1)*(bytes+1)≤1099511627776) (h0:n0≤h.n) {h0':IH} (e0:Ext h0' h) (hn0:h0'.n≤n0) :
  ∃v' h1,append P (h.new (.cells new1 sz none)) t v (.slice (some ⟨2*h.n,0,none⟩) 1 3)=some (v',h1)∧Grow h h1∧Ext h0' h1 ∧ ∀H1,Ext h1 H1 → ∃w' h2,append P (H1.new (.cells new2 sz none)) t w (.slice (some ⟨2*H1.n,0,none⟩) 1 3)=some (w',h2) ∧
   Gf h2 n0 sz v' w' (n+1) (cs ++ new1) (ds ++ new2)∧Grow H1 h2∧Ext h0' h2:=by
 have x1:lF (h.new (.cells new1 sz none)) sz (.slice (some ⟨2*h.n,0,none⟩) 1 3) 1 new1:=(cI (k:=h.n) (f:=none) (ah _ _ rfl) (by simp) hz (by omega) (by omega) (by omega):bH _ _ _ _ _).now
 have x2 : ∀h1:IH,lF (h1.new (.cells new2 sz none)) sz (.slice (some ⟨2*h1.n,0,none⟩) 1 3) 1 new2:=fun h1=>(cI (k:=h1.n) (f:=none) (ah _ _ rfl) (by simp) hz (by omega) (by omega) (by omega):bH _ _ _ _ _).now
 have E1:Ext h (h.new (.cells new1 sz none)):=(Ext.refl h).new _
 rcases a with⟨rfl,rfl,rfl,rfl,rfl⟩|⟨k,fam,j,gam,ay,az,hkj,hfg⟩
 ·have e01:Ext h0' ((h.new (.cells new1 sz none)).new (.cells new1 sz none)):=(e0.trans E1).new _
  refine⟨_,_,yB hT _ x1 (by omega) c1 (by omega),(E1.new _).grow,e01,fun H1 X=>⟨_,_,yB hT _ (x2 _) (by omega) c2 (by omega),.inr ⟨(h.new (.cells new1 sz none)).n,none,_,none,?_,IT hz (by omega) (by omega) ?_,?_,fun f hf=>by cases hf⟩,(((Ext.refl _).new _).new _).grow,((e01.trans X).new _).new _⟩⟩
  ·have A:=IT (h:=h.new (.cells new1 sz none)) (n0:=n0) (cs:=new1) hz (m:=1) (by omega) (by omega) (by simp only[aH];omega)
   have Xn:=X.n
   simp only[aH] at Xn
   refine A.other (by simp only[aH];omega) ?_ (fun f hf=>by cases hf)
   rw[aq _ _ (by simp only[aH];omega),aq _ _ (by simp only[aH];omega),X.get _ (by simp only[aH];omega)]
  ·have Xn:=X.n
   simp only[aH] at Xn ⊢
   omega
  ·have Xn:=X.n
   simp only[aH] at Xn ⊢
   omega
 ·have ay1:pc (h.new (.cells new1 sz none)) n0 sz v n cs k fam:=ay.other E1.n (E1.get _ ay.2.2.2.2.2.1) fun f _=>rfl
  have az1:pc (h.new (.cells new1 sz none)) n0 sz w n ds j gam:=az.other E1.n (E1.get _ az.2.2.2.2.2.1) fun f _=>rfl
  have jn:j<h.n:=az.2.2.2.2.2.1
  have gn : ∀g,gam=some g→g<h.n:=fun g hg=>by
   obtain⟨_,_,_,_,_,_,_,tz⟩:=az
   subst hg
   exact tz.2.1
  obtain⟨h1,f1,ap1,a1,hf1,n1,b1,o1,k1,s1⟩:=ay1.app hT x1 (by omega) c1 hsz
  simp only[aH] at n1 o1 s1 hf1
  have hfn:gam≠some f1:=by
   rcases hf1 with hf|⟨_,hf⟩
   ·exact hfg _ hf
   ·intro e;have:=gn _ e;omega
  have az2:pc h1 n0 sz w n ds j gam:=az1.other (by simp only[aH];omega) (o1 j (by omega) (Ne.symm hkj)) fun g hg=>s1 g (by have:=gn g hg;omega) (fun e=>hfg _ e hg)
  have G1:Grow h h1:=by
   refine⟨by omega,by rw[b1];rfl,fun i hi=>?_⟩
   by_cases hik:i=k
   ·subst hik
    exact .inr ⟨cs,sz,fam,some f1,by omega,ay.2.2.2.2.2.2.1,k1⟩
   ·left
    rw[o1 i (by omega) hik,aq _ _ (by omega)]
  have kn0:n0≤k:=ay.2.2.2.2.1
  have jn0:n0≤j:=az.2.2.2.2.1
  have e0n:=e0.n
  have e01:Ext h0' h1:=by
   refine⟨by omega,by rw[b1];exact e0.base,fun i hi=>?_,fun g hg=>?_⟩
   ·rw[o1 i (by omega) (by omega),aq _ _ (by omega)]
    exact e0.get i hi
   ·have tf : ∀g,fam=some g→n0≤g:=fun g hg=>by
     obtain⟨_,_,_,_,_,_,_,ty⟩:=ay
     subst hg
     exact ty.1
    rw[s1 g (by omega) (fun e=>by have:=tf g e;omega)]
    exact e0.bP g hg
  refine⟨_,h1,ap1,G1,e01,fun H1 X=>?_⟩
  have Xn:=X.n
  have ZA:pc H1 n0 sz w n ds j gam:=az2.other Xn (X.get _ az2.2.2.2.2.2.1) fun g hg=>X.bP g (by have:=gn g hg;omega)
  have E2:Ext H1 (H1.new (.cells new2 sz none)):=(Ext.refl H1).new _
  have az3:pc (H1.new (.cells new2 sz none)) n0 sz w n ds j gam:=ZA.other E2.n (E2.get _ ZA.2.2.2.2.2.1) fun f _=>rfl
  obtain⟨h2,g2,ap2,a2,hg2,n2,b2,o2,k2,s2⟩:=az3.app hT (x2 H1) (by omega) c2 hsz
  simp only[aH] at n2 o2 s2 hg2
  have a1':pc (H1.new (.cells new2 sz none)) n0 sz (.slice (some ⟨2*(h.new (.cells new1 sz none)).n,0,none⟩) (n+1) (2*(n+1))) (n+1) (cs ++ new1) (h.new (.cells new1 sz none)).n (some f1):=(a1.other Xn (X.get _ a1.2.2.2.2.2.1) fun f hf=>X.bP f (by cases hf;exact a1.2.2.2.2.2.2.2.2.1)).other E2.n (E2.get _ (by have:=a1.2.2.2.2.2.1;omega)) fun f _=>rfl
  have f1n:f1<h1.n:=a1.2.2.2.2.2.2.2.2.1
  have a1'':=a1'.other (h':=h2) (by simp only[aH];omega) (o2 _ (by simp only[aH];omega) (by simp only[aH];omega)) fun f hf=>by
   cases hf
   exact s2 _ (by omega) hfn
  have G2:Grow H1 h2:=by
   refine⟨by omega,by rw[b2];rfl,fun i hi=>?_⟩
   by_cases hij:i=j
   ·subst hij
    exact .inr ⟨ds,sz,gam,some g2,by omega,ZA.2.2.2.2.2.2.1,k2⟩
   ·left
    rw[o2 i (by omega) hij,aq _ _ (by omega)]
  refine⟨_,h2,ap2,.inr ⟨_,_,_,_,a1'',a2,by simp only[aH];omega,fun f hf e=>?_⟩,G2,?_⟩
  ·cases hf
   rcases hg2 with hg|⟨_,hg⟩
   ·exact hfn (hg.trans e)
   ·cases e;omega
  ·have e1:=e01.trans X
   refine⟨by omega,by rw[b2];exact e1.base,fun i hi=>?_,fun g hg=>?_⟩
   ·rw[o2 i (by omega) (by omega),aq _ _ (by omega)]
    exact e1.get i hi
   ·have tg : ∀g,gam=some g→n0≤g:=fun g hg=>by
     obtain⟨_,_,_,_,_,_,_,tz⟩:=az
     subst hg
     exact tz.1
    rw[s2 g (by omega) (fun e=>by have:=tg g e;omega)]
    exact e1.bP g hg
end Go.Id
