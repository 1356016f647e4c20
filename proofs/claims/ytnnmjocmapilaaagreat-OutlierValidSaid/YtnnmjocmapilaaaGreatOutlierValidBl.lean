/-
  Contracts: package outlier: First, Middle.
-/
import Derived.Test.YtnnmjocmapilaaaGreatOutlierValidBk
set_option linter.unusedVariables false
set_option linter.unusedSimpArgs false
set_option linter.defProp false
set_option linter.deprecated false
namespace Go.Id
open Go
open Nat renaming reduceAdd→zA,reduceEqDiff→zE,reduceLeDiff→zL
set_option maxHeartbeats 16000000
def qc (t:List Nat):Nat→Nat
 | 0=>0
 | i+1=>qc t i+(wdI (t.getD i 0)).toNat
theorem O9 {t:List Nat} (hn : ∀p∈t,0≤wdI p) {i:Nat} (hi:i<t.length):wQ t i=(((wdI (t.getD i 0)).toNat:Nat):Int):=by
 unfold wQ cA
 have hm:t.getD i 0∈t:=by rw[List.getD_eq_getElem?_getD,List.getElem?_eq_getElem hi];exact List.getElem_mem hi
 have:=hn _ hm
 congr 1
 omega
theorem ye {t:List Nat} (hn : ∀p∈t,0≤wdI p) : ∀i,i≤t.length→rs i (wQ t)=((qc t i:Nat):Int)
 | 0,_=>rfl
 | i+1,h=>by
  rw[rs,ye hn i (by omega),O9 hn (by omega),qc,Int.natCast_add,Rat.intCast_add]
theorem yf {t:List Nat} {k:Nat} (hw : ∀p∈t,(wdI p).natAbs≤2 ^ k) : ∀i,i≤t.length→qc t i≤2 ^ (k+i)
 | 0,_=>Nat.zero_le _
 | i+1,h=>by
  have a:=yf hw i (by omega)
  have hm:t.getD i 0∈t:=by rw[List.getD_eq_getElem?_getD,List.getElem?_eq_getElem (by omega)];exact List.getElem_mem (by omega)
  have b:=hw _ hm
  have c:2 ^ k≤2 ^ (k+i):=Nat.pow_le_pow_right (by omega) (by omega)
  have e:2 ^ (k+(i+1))=2 ^ (k+i)+2 ^ (k+i):=by rw[←Nat.add_assoc,Nat.pow_succ];omega
  rw[qc,e]
  omega
theorem yQ {t:List Nat} (hw : ∀p∈t,p<W8) : ∀p∈t,(wdI p).natAbs≤2 ^ 512:=fun p hp=>(kV (hw p hp)).abs
theorem Bn (t:List Nat) : ∀i j,i≤j→qc t i≤qc t j:=by
 intro i j h
 induction j with
 | zero =>
  obtain rfl:i=0:=by omega
  exact Nat.le_refl _
 | succ j ih =>
  by_cases e:i=j+1
  ·rw[e];exact Nat.le_refl _
  ·rw[qc];have:=ih (by omega);omega
theorem EU {t:List Nat} (hw : ∀p∈t,p<W8) (hn : ∀p∈t,0≤wdI p) (hz : ∃p∈t,p≠0):0<qc t t.length:=by
 obtain⟨p,hp,p0⟩:=hz
 obtain⟨i,hi⟩:=List.getElem?_of_mem hp
 have hil:=(List.getElem?_eq_some_iff.1 hi).1
 have g:t.getD i 0=p:=by rw[List.getD_eq_getElem?_getD,hi];rfl
 have h1:=Bn t (i+1) t.length (by omega)
 rw[qc,g] at h1
 have h2:=hn p hp
 have h3:wdI p≠0:=fun h=>p0 ((kX (hw p hp)).1 h)
 omega
theorem EO {t:List Nat} (hw : ∀p∈t,p<W8) (hn : ∀p∈t,0≤wdI p) (hz:0<qc t t.length) {i:Nat} (hi:i<t.length):OvL (qc t t.length) (512+t.length) (wQ t i / rs t.length (wQ t)):=by
 have a:=yf (yQ hw) t.length (Nat.le_refl _)
 refine⟨hz,a,((wdI (t.getD i 0)).toNat:Nat),by rw[ye hn _ (Nat.le_refl _),O9 hn hi],?_⟩
 have b:=Bn t (i+1) t.length (by omega)
 rw[qc] at b
 rw[Int.natAbs_natCast]
 omega
theorem KV {t:List Nat} {g:Nat→Rat} {L x:Nat} (hw : ∀p∈t,p<W8) (hn : ∀p∈t,0≤wdI p) (hz:0<qc t t.length) (h0:0<t.length) (hg : ∀s,s<t.length→OvL L x (g s)) {i:Nat} (hi:i≤t.length):OvL (qc t t.length*L) (512+t.length+x+i) (pS t g i):=by
 have z:=(EO hw hn hz h0).mul (hg 0 h0)
 exact OvL.rs z.1 z.2.1 fun s hs=>(EO hw hn hz (by omega)).mul (hg s (by omega))
theorem OI {N D d:Nat} {p:Nat→Nat→Rat} {f:Nat→Rat} {s:Nat} (hp : ∀i j,i<N→j<N→OvL D d (p i j)) {S R:Nat} (hs:s<N):OvL (D ^ S) (S*(d+N)+2*N+2*S+2) (ch N p f R S s):=by
 have a:=fun m (hm:m<S+1)=>kY (S:=S) (hit:=leF f s) (s:=s) (by omega) hp S hm
 rw[←Cm (l:=[1]) hs rfl,J2 _ rfl]
 have z:=a 0 (by omega)
 exact(OvL.rs z.1 z.2.1 fun i hi=>(a i hi).ite).mono (by omega)
theorem Kq (l:List Rat) : ∀i,i≤l.length→rs i (fun j=>l.getD j 0)=fU (l.take i)
 | 0,_=>rfl
 | i+1,h=>by
  have e:l[i]?=some (l.getD i 0):=by rw[List.getD_eq_getElem?_getD,List.getElem?_eq_getElem (by omega)];rfl
  rw[rs,Kq l i (by omega),fy e,jF]
theorem Le {ll:List (List (Nat×Nat))} (ko:df ll) {i:Nat} (hi:i<ll.length):rs ll.length (kAt ll i)=1:=by
 obtain⟨h1,h2⟩:=ko.2.2 _ (List.getElem_mem hi)
 have a:=Kq (ll[i].map rOf) ll.length (by rw[List.length_map];omega)
 rw[List.take_of_length_le (by rw[List.length_map];omega),h2.2] at a
 rw[←a]
 refine aX fun j hj=>?_
 unfold kAt
 have g:ll.getD i []=ll[i]:=by rw[List.getD_eq_getElem?_getD,List.getElem?_eq_getElem hi];rfl
 rw[g,List.getD_eq_getElem?_getD,List.getD_eq_getElem?_getD,List.getElem?_map,List.getElem?_eq_getElem (by omega)]
 rfl
theorem FO:rOf (0,0)=0:=by
 have:wdI 0=0:=by
  have h2:=dZ
  have h3:=gU
  unfold wdI
  split<;>omega
 unfold rOf
 rw[this,Rat.divInt_zero]
theorem tH {ll:List (List (Nat×Nat))} (ko:df ll) (i j:Nat):0≤kAt ll i j:=by
 by_cases hi:i<ll.length
 ·by_cases hj:j<ll.length
  ·obtain⟨_,p,_,_,_,ok,nn,e⟩:=eX ko hi hj
   rw[e];exact Iq ok nn
  ·unfold kAt
   obtain⟨h1,_⟩:=ko.2.2 _ (List.getElem_mem hi)
   have g:ll.getD i []=ll[i]:=by rw[List.getD_eq_getElem?_getD,List.getElem?_eq_getElem hi];rfl
   have g2:ll[i].getD j (0,0)=(0,0):=by rw[List.getD_eq_getElem?_getD,List.getElem?_eq_none (by omega)];rfl
   rw[g,g2,FO]
   exact Rat.le_refl
 ·unfold kAt
  have g:ll.getD i [] = []:=by rw[List.getD_eq_getElem?_getD,List.getElem?_eq_none (by omega)];rfl
  rw[g]
  show 0≤rOf (0,0)
  rw[FO]
  exact Rat.le_refl
theorem PG {n:Nat} {f:Nat→Rat} (h : ∀i,0≤f i) : ∀{j:Nat},j<n→f j≤rs n f:=by
 induction n with
 | zero=>intro j hj;omega
 | succ n ih =>
  intro j hj
  rw[rs]
  have a:0≤rs n f:=lE fun i _=>h i
  by_cases e:j=n
  ·subst e;grind
  ·have:=ih (j:=j) (by omega)
   have:=h n
   grind
theorem Lf {ll:List (List (Nat×Nat))} (ko:df ll) (hw : ∀i j,i<ll.length→j<ll.length→(kAt ll i j).den≤2 ^ 512) : ∃D,∀i j,i<ll.length→j<ll.length→OvL D (512*ll.length*ll.length) (kAt ll i j) :=
 TD fun i j hi hj=>⟨tH ko i j,by rw[←Le ko hi];exact PG (tH ko i) hj,hw i j hi hj⟩
theorem jt.dens {h:IH} {v:Value} {ll:List (List (Nat×Nat))} (hk:jt h v ll) (ko:df ll) {i j:Nat} (hi:i<ll.length) (hj:j<ll.length):(kAt ll i j).den≤2 ^ 512:=by
 obtain⟨r,p,e1,_,e2,ok,_,e⟩:=eX ko hi hj
 obtain⟨_,_,s,_⟩:=hk.nc e1
 obtain⟨w1,w2⟩:=s.2.2 p (List.mem_of_getElem? e2)
 rw[e]
 exact(jm w1 w2 ok).2
def mD (e:Nat×Nat) (n:Int):Nat:=(ig (rOf e*(((n.toNat+1:Nat):Int):Rat))).toNat
noncomputable def ve (ll:List (List (Nat×Nat))) (t:List Nat) (f:List (Nat×Nat)) (e:Nat×Nat) (n:Int):Value :=
 if tA ll t f e n=0 then gY (pS t (ch ll.length (kAt ll) (ni f) (mD e n) n.toNat) ll.length) else Ul (tA ll t f e n)
noncomputable def DH (ll:List (List (Nat×Nat))) (t:List Nat) (f:List (Nat×Nat)) (e:Nat×Nat) (n:Int):Value :=
 if tA ll t f e n=0 then gY (pS t (fun s=>rs (n.toNat+1) (fun k=>qK ll.length (kAt ll) (ni f) (mD e n) n.toNat k s) / (((n.toNat+1:Nat):Int):Rat)) ll.length) else Ul (tA ll t f e n)
theorem Gf {ll:List (List (Nat×Nat))} {t:List Nat} {f:List (Nat×Nat)} {e:Nat×Nat} {n:Int} (h:tA ll t f e n=0):df ll∧t.length=ll.length∧(∀p∈t,0≤wdI p)∧(∃p∈t,p≠0)∧Dq ll t∧Sh f∧okS e.1 e.2∧f.length=ll.length∧0≤rOf e∧rOf e≤1∧0≤n∧n≤20:=by
 unfold tA at h
 by_cases c1:oS ll t=0
 case neg=>rw[if_pos c1] at h;exact absurd h c1
 rw[if_neg (fun k=>k c1)] at h
 unfold oS at c1
 by_cases k1:df ll
 case neg=>rw[if_pos k1] at c1;omega
 rw[if_neg (fun k=>k k1)] at c1
 by_cases k2:t.length≠ll.length ∨ ∃p∈t,wdI p<0
 ·rw[if_pos k2] at c1;omega
 have k3:t.length=ll.length:=Classical.byContradiction fun h=>k2 (.inl h)
 have k4 : ∀p∈t,0≤wdI p:=fun p hp=>Classical.byContradiction fun h=>k2 (.inr ⟨p,hp,by omega⟩)
 by_cases c2 : ∃p∈t,p≠0
 case neg=>rw[if_pos c2] at h;omega
 rw[if_neg (fun k=>k c2)] at h
 by_cases c3:Dq ll t
 case neg=>rw[if_pos c3] at h;omega
 rw[if_neg (fun k=>k c3)] at h
 by_cases c4 : ∃p∈f ++ [e],¬okS p.1 p.2
 ·rw[if_pos c4] at h;omega
 rw[if_neg c4] at h
 by_cases c5:f.length≠ll.length∨rOf e<0∨1<rOf e∨n<0∨20<n
 ·rw[if_pos c5] at h;omega
 have ok : ∀p∈f ++ [e],okS p.1 p.2:=fun p hp=>Classical.byContradiction fun h=>c4 ⟨p,hp,h⟩
 exact⟨k1,k3,k4,c2,c3,fun p hp=>ok p (List.mem_append_left _ hp),ok e (by simp),Classical.byContradiction fun h=>c5 (.inl h),Rat.not_lt.1 fun h=>c5 (.inr (.inl h)),Rat.not_lt.1 fun h=>c5 (.inr (.inr (.inl h))),by omega,by omega⟩
theorem CD {e:Nat×Nat} {n:Nat} (h0:0≤rOf e) (h1:rOf e≤1):qL (rOf e) n=(mD e n:Int) - 1∧mD e n≤n+1:=by
 obtain⟨a,b⟩:=mR (n:=n) h0 h1
 unfold qL mD
 rw[Int.toNat_natCast]
 omega
theorem Nf {h:IH} {kv wv fv:Value} {ll:List (List (Nat×Nat))} {t:List Nat} {f:List (Nat×Nat)} {e:Nat×Nat} {n:Int} (hk:jt h kv ll) (hw:pE h wv t) (hf:iT h fv f) (hne:fv=.slice none 0 0∨0<f.length) (hfl:f.length≤1000) (he:e.1<W8∧e.2<W8) (hn:fR n) (h8:ll.length≤8) :
  WV Proofs.Tryz.prog (.func (.func 20) #[] #[]) [kv,wv,fv,KI n,shV e.1 e.2] h fun r h'=>Ext h h'∧r=ve ll t f e n:=by
 obtain⟨H0,hH0,n0,E0,g8,g9,g10⟩:=fP h [KI n] (shC e.1 e.2) Z16
 refine enter (nt:=33) (rs:=[.cell 10 32,.tmp 11]) Proofs.Tryz.func20 rfl rfl rfl (by simp) ?_
 simp -dsimp (disch:=try exact dx) only[wpS,zE,zL,zA,gC,ld3,bY,aB,au,aO]
 rw[←hH0]
 clear hH0
 refine call (BT (hk.aa E0.aa) (hw.aa E0.aa) (hf.aa E0.aa) hne hfl he hn) ?_
 rintro _ h1 ⟨X1,rfl⟩
 have m1:=X1.n
 unfold ve
 by_cases c:tA ll t f e n=0
 case neg =>
  rw[if_neg c]
  have d:(tA ll t f e n != 0)=true:=by simpa using c
  have Xf:=X1.kept (by omega) g10
  simp -dsimp (disch:=try exact dx) only[wpS,wpT,zE,zL,zA,bY,Ej,ed,d,Xf]
  exact⟨(E0.trans X1).put (by omega) _,rfl⟩
 rw[if_pos c,c]
 obtain⟨ko,lt,hn0,hz,hr,ok,oke,lf,e0,e1,z0,z20⟩:=Gf c
 obtain⟨S,rfl⟩:=Int.eq_ofNat_of_zero_le z0
 rw[Int.toNat_natCast]
 simp -dsimp (disch:=try exact dx) only[wpS,wpT,zE]
 refine call (eH 1 ⟨by omega,by omega⟩) ?_
 rintro ro h2 ⟨X2,po⟩
 have m2:=X2.n
 obtain⟨a1,a2,a3,a4,rfl,_,_,d1,q1,d2,q2,q3,q4⟩:=po.parts
 simp -dsimp (disch:=try exact dx) only[wpS,wpT,zE,zL,zA,RY,Yd,Yr]
 obtain⟨H3,hH3⟩ : ∃H,H=((h2.new (.cells [a1,a2,a3,a4] 4 none)).new (.cells [.slice none 0 0] 0 none)).put (h2.n+1) (.cells [.slice (some ⟨2*h2.n,0,none⟩) 1 3] 0 none):=⟨_,rfl⟩
 have F3:Ext h2 H3:=by rw[hH3];exact(((Ext.refl h2).new _).new _).put (by omega) _
 have n3:H3.n=h2.n+2:=by rw[hH3];rfl
 have g13:H3.ext.get (h2.n+1)=some (.cells [.slice (some ⟨2*h2.n,0,none⟩) 1 3] 0 none):=by rw[hH3];simp (disch:=try exact dx) only[ae]
 have gl:H3.ext.get h2.n=some (.cells [a1,a2,a3,a4] 4 none):=by rw[hH3,ak _ _ (by omega)];simp (disch:=try exact dx) only[ah,ax]
 rw[←hH3]
 clear hH3
 have sn:nF bg H3 (.slice (some ⟨2*h2.n,0,none⟩) 1 3) [1]:=⟨[a1,a2,a3,a4],cT (n:=1) gl (by omega) (by omega) rfl (by omega) (by omega),⟨a1,a2,a3,a4,[],rfl,po.aa F3.aa,rfl⟩,by simp⟩
 have X03:=(X1.trans X2).trans F3
 have E3:=E0.trans X03
 have g83:=X03.kept (by omega) g8
 have g93:=X03.kept (by omega) g9
 obtain⟨D,hD⟩:=Lf ko fun i j hi hj=>hk.dens ko hi hj
 obtain⟨N,hN⟩:=aP (ll.length)
 rw[←hN] at hD h8 lt lf ⊢
 obtain⟨d,hd⟩:=aP (512*N*N)
 have hd3:d≤32768:=by
  have a:512*N≤4096:=by omega
  have b:=Nat.mul_le_mul a h8
  omega
 rw[←hd] at hD
 have kb:S*(d+N)≤20*(d+N):=Nat.mul_le_mul_right _ (by omega)
 obtain⟨cl,cR⟩:=CD (n:=S) e0 e1
 have N0:0<N:=by have:=ko.1;omega
 have hwp : ∀p∈t,p<W8:=hw.2.2
 have wz:=EU hwp hn0 hz
 have gO : ∀s,s<N→OvL (D ^ S) (S*(d+N)+2*N+2*S+2) (ch N (kAt ll) (ni f) (mD e S) S s):=fun s hs=>OI hD hs
 have mO:=fun s (hs:s≤N)=>KV (g:=ch N (kAt ll) (ni f) (mD e S) S) hwp hn0 wz (by omega) (by rw[lt];exact gO) (i:=s) (by omega)
 rw[lt] at mO wz
 have w0:rs N (wQ t)=((qc t N:Nat):Int):=by rw[←lt];exact ye hn0 _ (Nat.le_refl _)
 refine call (Gu (k:=512+N+(S*(d+N)+2*N+2*S+2)+N) (g:=ch N (kAt ll) (ni f) (mD e S) S) (hk.aa E3.aa) (hw.aa E3.aa) (hf.aa E3.aa) ok (N:=N) (by omega) lt lf ⟨rfl,rfl⟩ (fun H s hv X hs sl=>IE (hk.aa (E3.trans X).aa) ko hN sl (by omega) hs hD (by omega) (X.kept (by omega) g83) (X.kept (by omega) g13) (X.kept (by omega) g93) (by have:=X.n;omega) (by have:=X.n;omega) (by have:=X.n;omega) (sn.aa gL X.aa) he oke e0 e1 cl) (fun s hs=>((gO s hs).mono (by omega)).qb) (fun s hs=>((mO s hs).mono (by omega)).qb) (by omega) (by rw[w0];exact oZ wz) (by
  rw[w0]
  exact(QB.int (k:=512+N) (by rw[Int.natAbs_natCast];exact yf (yQ hwp) N (by omega))).mono (by omega))) ?_
 rintro _ h4 ⟨X4,rfl⟩
 obtain⟨x,y,er,hf'⟩:=lV (pS t (ch N (kAt ll) (ni f) (mD e S) S) N)
 rw[hf']
 have Q5:=(X03.trans X4).kept (by omega) g10
 simp -dsimp (disch:=omega) only[wpS,wpT,zE,zL,zA,bY,ed,Q5,aB,au,aY,bC,aO]
 exact⟨(E3.trans X4).put (by omega) _,rfl⟩
theorem OvL.divN {L x m y:Nat} {q:Rat} (h:OvL L x q) (hm:0<m) (hy:m≤2 ^ y):OvL (L*m) (x+y) (q / ((m:Int):Rat)):=by
 obtain⟨hL,hx,N,e,hN⟩:=h
 have h2:2 ^ (x+y)=2 ^ x*2 ^ y:=Nat.pow_add ..
 have:=oZ hL
 have:=oZ hm
 refine⟨Nat.mul_pos hL hm,by rw[h2];exact Nat.mul_le_mul hx hy,N,?_,by rw[h2];exact Nat.le_trans hN (Nat.le_mul_of_pos_right _ (Nat.pow_pos (by omega)))⟩
 rw[e,Int.natCast_mul,Rat.intCast_mul]
 grind
theorem IC {h:IH} {kv wv fv:Value} {ll:List (List (Nat×Nat))} {t:List Nat} {f:List (Nat×Nat)} {e:Nat×Nat} {n:Int} (hk:jt h kv ll) (hw:pE h wv t) (hf:iT h fv f) (hne:fv=.slice none 0 0∨0<f.length) (hfl:f.length≤1000) (he:e.1<W8∧e.2<W8) (hn:fR n) (h8:ll.length≤8) :
  WV Proofs.Tryz.prog (.func (.func 22) #[] #[]) [kv,wv,fv,KI n,shV e.1 e.2] h fun r h'=>Ext h h'∧r=DH ll t f e n:=by
 obtain⟨H0,hH0,n0,E0,g8,g9,g10⟩:=fP h [KI n] (shC e.1 e.2) Z16
 refine enter (nt:=30) (rs:=[.cell 10 32,.tmp 11]) Proofs.Tryz.func22 rfl rfl rfl (by simp) ?_
 simp -dsimp (disch:=try exact dx) only[wpS,zE,zL,zA,gC,ld3,bY,aB,au,aO]
 rw[←hH0]
 clear hH0
 refine call (BT (hk.aa E0.aa) (hw.aa E0.aa) (hf.aa E0.aa) hne hfl he hn) ?_
 rintro _ h1 ⟨X1,rfl⟩
 have m1:=X1.n
 unfold DH
 by_cases c:tA ll t f e n=0
 case neg =>
  rw[if_neg c]
  have d:(tA ll t f e n != 0)=true:=by simpa using c
  have Xf:=X1.kept (by omega) g10
  simp -dsimp (disch:=omega) only[wpS,wpT,zE,zL,zA,bY,Ej,ed,d,Xf]
  exact⟨(E0.trans X1).put (by omega) _,rfl⟩
 rw[if_pos c,c]
 obtain⟨ko,lt,hn0,hz,hr,ok,oke,lf,e0,e1,z0,z20⟩:=Gf c
 obtain⟨S,rfl⟩:=Int.eq_ofNat_of_zero_le z0
 rw[Int.toNat_natCast]
 have E3:=E0.trans X1
 have g83:=X1.kept (by omega) g8
 have g93:=X1.kept (by omega) g9
 simp -dsimp (disch:=omega) only[wpS,wpT,zE]
 obtain⟨D,hD⟩:=Lf ko fun i j hi hj=>hk.dens ko hi hj
 obtain⟨N,hN⟩:=aP (ll.length)
 rw[←hN] at hD h8 lt lf ⊢
 obtain⟨d,hd⟩:=aP (512*N*N)
 have hd3:d≤32768:=by
  have a:512*N≤4096:=by omega
  have b:=Nat.mul_le_mul a h8
  omega
 rw[←hd] at hD
 have kb:S*(d+N)≤20*(d+N):=Nat.mul_le_mul_right _ (by omega)
 obtain⟨cl,cR⟩:=CD (n:=S) e0 e1
 have N0:0<N:=by have:=ko.1;omega
 have hwp : ∀p∈t,p<W8:=hw.2.2
 have wz:=EU hwp hn0 hz
 obtain⟨g,hg⟩:=aP (fun s=>rs (S+1) (fun k=>qK N (kAt ll) (ni f) (mD e S) S k s) / (((S+1:Nat):Int):Rat))
 rw[←hg]
 have gO : ∀s,s<N→OvL (D ^ S*(S+1)) (S*(d+N)+2*N+3*S+8) (g s):=fun s hs=>by
  rw[hg]
  have z : ∀k,k<S+1→OvL (D ^ S) (S*(d+N)+2*N+2*S+2) (qK N (kAt ll) (ni f) (mD e S) S k s):=fun k hk=>KX hD hs hk
  exact((OvL.rs (z 0 (by omega)).1 (z 0 (by omega)).2.1 z).divN (m:=S+1) (y:=5) (by omega) (by omega)).mono (by omega)
 have mO:=fun s (hs:s≤N)=>KV (g:=g) hwp hn0 wz (by omega) (by rw[lt];exact gO) (i:=s) (by omega)
 rw[lt] at mO wz
 have w0:rs N (wQ t)=((qc t N:Nat):Int):=by rw[←lt];exact ye hn0 _ (Nat.le_refl _)
 refine call (Gu (k:=512+N+(S*(d+N)+2*N+3*S+8)+N) (g:=g) (hk.aa E3.aa) (hw.aa E3.aa) (hf.aa E3.aa) ok (N:=N) (by omega) lt lf ⟨rfl,rfl⟩ (fun H s hv X hs sl=>by
  rw[hg]
  exact Ge (hk.aa (E3.trans X).aa) ko hN sl (by omega) hs hD (by omega) (X.kept (by omega) g83) (X.kept (by omega) g93) (by have:=X.n;omega) (by have:=X.n;omega) he oke e0 e1 cl) (fun s hs=>((gO s hs).mono (by omega)).qb) (fun s hs=>((mO s hs).mono (by omega)).qb) (by omega) (by rw[w0];exact oZ wz) (by
  rw[w0]
  exact(QB.int (k:=512+N) (by rw[Int.natAbs_natCast];exact yf (yQ hwp) N (by omega))).mono (by omega))) ?_
 rintro _ h4 ⟨X4,rfl⟩
 obtain⟨x,y,er,hf'⟩:=lV (pS t (g) N)
 rw[hf']
 have Q5:=(X1.trans X4).kept (by omega) g10
 simp -dsimp (disch:=omega) only[wpS,wpT,zE,zL,zA,bY,ed,Q5,aB,au,aY,bC,aO]
 exact⟨(E3.trans X4).put (by omega) _,rfl⟩
end Go.Id
namespace Go.Id
open Go

theorem Tf {a b:Nat} (h:a≤b):(2:Nat) ^ a≤2 ^ b:=Nat.pow_le_pow_right (by omega) h
structure WB (h hh:IH) (b7 b9 b10:Nat) (s7 s9 s10:Value) (n k:Nat):Prop where
 e:Ext h hh
 l7:h.n+1+1+1+1≤b7
 l9:b7<b9
 l10:b9<b10
 lt:b10<hh.n
 g4:hh.ext.get (h.n+1+1)=some (.cells [ZW,ZW,ZW,ZW,ZW,ZW,ZW,ZW] 0 none)
 g5:hh.ext.get (h.n+1+1+1)=some (.cells [.int .u64 0] 0 none)
 g7:hh.ext.get b7=some (.cells [.bool false,s7] 0 none)
 g9:hh.ext.get b9=some (.cells [.bool false,s9] 0 none)
 g10:hh.ext.get b10=some (.cells [.bool false,s10] 0 none)
 p7:ba hh (.agg #[.bool false,s7]) ((n:Nat):Int)
 p9:ba hh (.agg #[.bool false,s9]) ((2 ^ 64:Nat):Int)
 p10:ba hh (.agg #[.bool false,s10]) ((2 ^ k:Nat):Int)
structure FW (fr:Fr) (h:IH) (b7 b9 b10 k:Nat):Prop where
 f2:ab fr 2=some (ptr (2*h.n) 0)
 f4:ab fr 4=some (ptr (2*(h.n+1+1)) 0)
 f5:ab fr 5=some (ptr (2*(h.n+1+1+1)) 0)
 f7:ab fr 7=some (ptr (2*b7) 0)
 f8:ab fr 8=some (KN k)
 f9:ab fr 9=some (ptr (2*b9) 0)
 f10:ab fr 10=some (ptr (2*b10) 0)



def FamZ (h:IH) (sz:Nat) (v:Value):Prop:=∀k n c,v=.slice (some ⟨2*k,0,none⟩) n c → ∀cs f rest,h.ext.get k=some (.cells cs sz (some f))→h.bT.get f=some (k :: rest) → ∀j∈rest,∃c' f',h.ext.get j=some (.cells c' sz f')
def mz (h:IH) (n0 sz:Nat) (v:Value) (n:Nat) (cs:List Value):Prop:=Acc h n0 sz v n cs∧FamZ h sz v
theorem mz.nil (h:IH) (n0:Nat) {sz:Nat} (hz:0<sz):mz h n0 sz (.slice none 0 0) 0 []:=⟨Acc.nil h n0 hz,fun k n c hv=>by cases hv⟩
theorem Hu {h:IH} {n0 sz:Nat} {v:Value} {n:Nat} {cs:List Value} (a:Acc h n0 sz v n cs) {k m c:Nat} (hv:v=.slice (some ⟨2*k,0,none⟩) m c):0<sz∧k<h.n ∧ ∃fam,h.ext.get k=some (.cells cs sz fam)∧Sn h n0 k fam:=by
 obtain⟨hz,hl,⟨rfl,rfl⟩|⟨k',fam,rfl,hn,h1,h2,h3,h4⟩⟩:=a
 ·cases hv
 ·have hkk:k=k':=by
   injection hv with hv _ _;injection hv with hv;injection hv with hv _ _;omega
  subst hkk
  exact⟨hz,h2,fam,h3,h4⟩
theorem mz.ext {h h':IH} {n0 sz:Nat} {v:Value} {n:Nat} {cs:List Value} (a:mz h n0 sz v n cs) (e:Ext h h'):mz h' n0 sz v n cs:=by
 refine⟨a.1.ext e,fun k m c hv cs2 f rest hg hf j hj=>?_⟩
 obtain⟨hz,hk,fam,g1,g2⟩:=Hu a.1 hv
 rw[e.get k hk,g1] at hg
 cases hg
 obtain⟨f1,f2,r,f3,f4⟩:=g2
 rw[e.bT f f2,f3] at hf
 cases hf
 obtain⟨c',f',h5⟩:=a.2 k m c hv cs f rest g1 f3 j hj
 exact⟨c',f',(e.get j (f4 j hj).2).trans h5⟩
theorem mz.put {h:IH} {n0 sz:Nat} {v:Value} {n:Nat} {cs:List Value} (a:mz h n0 sz v n cs) {i:Nat} {c:List Value} {f:Option Nat} (hi:h.ext.get i=some (.cells c 0 f)) (o:bz):mz (h.put i o) n0 sz v n cs:=by
 refine⟨a.1.put hi o,fun k m c2 hv cs2 f2 rest hg hf j hj=>?_⟩
 obtain⟨hz,hk,fam,g1,g2⟩:=Hu a.1 hv
 have hki:k≠i:=by rintro rfl;rw[hi] at g1;cases g1;omega
 rw[ak _ _ hki,g1] at hg
 cases hg
 obtain⟨c',f',h5⟩:=a.2 k m c2 hv cs f2 rest g1 hf j hj
 have hji:j≠i:=by rintro rfl;rw[hi] at h5;cases h5;omega
 exact⟨c',f',by rw[ak _ _ hji];exact h5⟩
theorem mz.appE {h:IH} {n0 sz:Nat} {v:Value} {n:Nat} {cs:List Value} (aF:mz h n0 sz v n cs) {P:Program} {t:TypeId} {bytes:Nat} (hT:kG P t=some (sz,bytes)) {x:Value} {m:Nat} {new:List Value} (sx:bJ h sz x m new) (hm:0<m)
  (hc:new.all aA=true) (hsz:(n+m)*(bytes+1)≤aN) (h0:n0≤h.n) {h0':IH} (e0:Ext h0' h) (hn0:h0'.n≤n0) :
  ∃v' h',append P h t v x=some (v',h')∧mz h' n0 sz v' (n+m) (cs ++ new)∧Grow h h'∧h'.n=h.n+1∧Ext h0' h' ∧ ∀j c e f,j<h.n→e≠sz→h.ext.get j=some (.cells c e f)→h'.ext.get j=some (.cells c e f):=by
 obtain⟨a,aZ⟩:=aF
 unfold kG at hT
 split at hT
 case h_2=>cases hT
 rename_i e hu
 split at hT
 case h_2=>cases hT
 rename_i zs h1 h2 h3
 simp only[cond_eq_ite] at hT
 split at hT
 case isTrue=>cases hT
 rename_i Jc
 cases hT
 have og:(sz == 0 || (!(Nat.ble bytes 65536) || !(zs.length == sz)))=false:=by simpa using Jc
 have WL:0<sz:=by
  simp at og;omega
 obtain⟨_,hln,hx⟩:=sx
 have Aa:(m == 0)=false:=by simp;omega
 have hx' : ∃b o k row,x=.slice (some ⟨b,o,none⟩) m k∧h.row b=some row∧(row.drop o).take (m*sz)=new∧o+m*sz≤row.length:=by
  rcases hx with⟨rfl,rfl⟩|⟨b,o,k,rfl,⟨rfl,_⟩|⟨_,_,row,_,a1,a2,a3⟩⟩
  ·omega
  ·omega
  ·exact⟨b,o,k,row,rfl,a1,a2,a3⟩
 obtain⟨b,o,k,row,rfl,a1,a2,a3⟩:=hx'
 have hms : ¬m*sz=0:=by
  have:0<m*sz:=Nat.mul_pos hm WL
  omega
 have ml:bL h sz m (.slice (some ⟨b,o,none⟩) m k)=some new:=by
  simp only[bL,cond_eq_ite,Nat.ble_eq,Nat.le_refl,if_true,beq_iff_eq,if_neg hms]
  rw[xn a1,if_pos a3,a2]
 have wD:Nat.ble ((n+m)*(bytes+1)) aN=true:=by rw[Nat.ble_eq];exact hsz
 obtain⟨hz,hl,⟨rfl,rfl⟩|⟨kk,fam,rfl,hn,g1,g2,g3,g4⟩⟩:=a
 ·-- from nothing
  have hcs:cs = []:=List.length_eq_zero_iff.1 (by omega)
  subst hcs
  refine⟨.slice (some ⟨2*h.n,0,none⟩) m (2*m),h.new (.cells new sz none),?_,⟨⟨hz,by simp;exact hln,.inr ⟨h.n,none,by simp,by omega,h0,by simp,by simp[lu],trivial⟩⟩,fun k2 n2 c2 hv2 cs2 f2 Yu hg2=>by
   have hkk:k2=h.n:=by
    injection hv2 with hv2 _ _;injection hv2 with hv2;injection hv2 with hv2 _ _;omega
   subst hkk
   rw[lu,if_pos rfl] at hg2;cases hg2⟩,(Grow.refl h).new _,rfl,e0.new _,fun j c e f hj _ hg=>(ax _ _ (by omega)).trans hg⟩
  have QY:Nat.ble (m*(bytes+1)) aN=true:=by simpa using wD
  simp only[Id.append,hu,h1,h2,h3,lenOf,Aa,og,ml,hc,QY,cond_true,cond_false,Bool.not_true,BEq.rfl,Bool.and_self]
 ·have od:Nat.ble (n+m) (2*n / 2)=false:=by
   rw[Bool.eq_false_iff];intro hh;rw[Nat.ble_eq] at hh;omega
  have nW:(2*n % 2 == 1)=false:=by simp
  have hlen:(n == 2*n / 2 && Nat.blt 0 n && (2*kk) % 2 == 0)=true:=by
   have:2*n / 2=n:=by omega
   simp[this,Nat.blt,Nat.ble_eq];omega
  have vc:(0+n*sz == cs.length && sz == sz)=true:=by simp[hl]
  have hk2:2*kk / 2=kk:=by omega
  have body : ∀f below,(∀j∈below,n0≤j∧j<h.n)→(∀j∈below,∃c f',h.ext.get j=some (.cells c sz f'))→(n0≤f)→f<h.n+1 →
    mz (grown h kk f cs sz [] below (cs.drop 0 ++ new) sz) n0 sz (.slice (some ⟨2*h.n,0,none⟩) (n+m) (2*(n+m))) (n+m) (cs ++ new) ∧
    Grow h (grown h kk f cs sz [] below (cs.drop 0 ++ new) sz)∧Ext h0' (grown h kk f cs sz [] below (cs.drop 0 ++ new) sz)∧(∀j c e f',j<h.n→e≠sz→h.ext.get j=some (.cells c e f')→(grown h kk f cs sz [] below (cs.drop 0 ++ new) sz).ext.get j=some (.cells c e f')):=by
   intro f below hbl hbz hf1 hf2
   have cC : ∀j,(grown h kk f cs sz [] below (cs.drop 0 ++ new) sz).ext.get j=if j=h.n then some (.cells (cs ++ new) sz (some f)) else if j=kk then some (.cells cs sz (some f)) else h.ext.get j:=by
    intro j
    simp[grown,IH.dJ,Tr.bK]
   refine⟨⟨⟨hz,by simp[hl,hln,Nat.add_mul],.inr ⟨h.n,some f,rfl,by omega,h0,by simp[grown],by rw[cC,if_pos rfl],hf1,by simp[grown];omega,kk :: below,?_,fun j hj=>by rcases List.mem_cons.1 hj with rfl|hj;exact⟨g1,by simp[grown];omega⟩;exact⟨(hbl j hj).1,by have:=(hbl j hj).2;simp[grown];omega⟩⟩⟩,?_⟩,⟨by simp[grown],rfl,fun j hj=>?_⟩,?_,fun j c e f' hj he hg=>by
    rw[cC,if_neg (by omega),if_neg (by rintro rfl;rw[g3] at hg;cases hg;exact he rfl)];exact hg⟩
   ·simp[grown,Tr.bK]
   ·intro k2 n2 c2 hv2 cs2 f2 Yu hg2 ZJ j hj
    have hkk:k2=h.n:=by
     injection hv2 with hv2 _ _;injection hv2 with hv2;injection hv2 with hv2 _ _;omega
    subst hkk
    rw[cC,if_pos rfl] at hg2
    cases hg2
    have hfm:(grown h kk f cs sz [] below (cs.drop 0 ++ new) sz).bT.get f=some (h.n :: kk :: below):=by simp[grown,Tr.bK]
    rw[hfm] at ZJ
    cases ZJ
    rw[cC]
    rcases List.mem_cons.1 hj with rfl|hj
    ·rw[if_neg (by omega),if_pos rfl];exact⟨_,_,rfl⟩
    ·obtain⟨c',f',hc'⟩:=hbz j hj
     have:=(hbl j hj).2
     rw[if_neg (by omega)]
     by_cases hjk:j=kk
     ·rw[if_pos hjk];exact⟨_,_,rfl⟩
     ·rw[if_neg hjk];exact⟨c',f',hc'⟩
   ·rw[cC,if_neg (by omega)]
    by_cases hjk:j=kk
    ·subst hjk
     exact .inr ⟨cs,sz,fam,some f,by omega,g3,by rw[if_pos rfl]⟩
    ·rw[if_neg hjk];exact .inl rfl
   ·refine⟨by have:=e0.n;simp[grown];omega,e0.base,fun j hj=>?_,fun g hg=>?_⟩
    ·rw[cC,if_neg (by omega),if_neg (by omega)];exact e0.get j hj
    ·simp only[grown,Tr.bK]
     rw[if_neg (by omega)];exact e0.bT g hg
  cases fam with
  | none =>
   obtain⟨b1,b2,b3,b4⟩:=body h.n [] (fun _ h=>by cases h) (fun _ h=>by cases h) h0 (by omega)
   refine⟨_,_,?_,b1,b2,rfl,b3,b4⟩
   simp only[Id.append,hu,h1,h2,h3,lenOf,Aa,og,ml,hc,wD,od,nW,hlen,hk2,g3,vc,cond_true,cond_false,Bool.not_true]
  | some f =>
   obtain⟨f1,f2,rest,f3,f4⟩:=g4
   obtain⟨b1,b2,b3,b4⟩:=body f rest f4 (aZ kk n _ rfl cs f rest g3 f3) f1 (by omega)
   refine⟨_,_,?_,b1,b2,rfl,b3,b4⟩
   have t1:(kk :: rest).takeWhile (· != kk) = []:=by simp
   have t2:((kk :: rest).dropWhile (· != kk)).drop 1=rest:=by simp
   simp only[Id.append,hu,h1,h2,h3,lenOf,Aa,og,ml,hc,wD,od,nW,hlen,hk2,g3,vc,f3,t1,t2,cond_true,cond_false,Bool.not_true]
theorem mz.app {h:IH} {n0 sz:Nat} {v:Value} {n:Nat} {cs:List Value} (a:mz h n0 sz v n cs) {P:Program} {t:TypeId} {bytes:Nat} (hT:kG P t=some (sz,bytes)) {x:Value} {m:Nat} {new:List Value} (sx:bJ h sz x m new) (hm:0<m)
  (hc:new.all aA=true) (hsz:(n+m)*(bytes+1)≤aN) (h0:n0≤h.n) {h0':IH} (e0:Ext h0' h) (hn0:h0'.n≤n0) :
  ∃v' h',append P h t v x=some (v',h')∧mz h' n0 sz v' (n+m) (cs ++ new)∧Grow h h'∧h'.n=h.n+1∧Ext h0' h':=by
 obtain⟨v',h',a1,a2,a3,a4,a5,_⟩:=a.appE hT sx hm hc hsz h0 e0 hn0
 exact⟨v',h',a1,a2,a3,a4,a5⟩
theorem mz.se {h:IH} {n0 sz:Nat} {v:Value} {n:Nat} {cs:List Value} (a:mz h n0 sz v n cs) {P:Program} {t:TypeId} {bytes:Nat} (hT:kG P t=some (sz,bytes)) {m:Nat} {new:List Value} (hm:0<m) (hl:new.length=m*sz)
  (hc:new.all aA=true) (hsz:(n+m)*(bytes+1)≤1099511627776) (h0:n0≤h.n) {h0':IH} (e0:Ext h0' h) (hn0:h0'.n≤n0) :
  ∃v' h',append P (h.new (.cells new sz none)) t v (.slice (some ⟨2*h.n,0,none⟩) m (2*m+1))=some (v',h')∧mz h' n0 sz v' (n+m) (cs ++ new)∧Grow h h'∧Ext h0' h':=by
 have e1:Ext h (h.new (.cells new sz none)):=(Ext.refl h).new _
 obtain⟨v',h',b1,b2,b3,b4,b5⟩:=(a.ext e1).app hT (vz h a.1.1 hl hm) hm hc hsz (by simp;omega) (e0.trans e1) hn0
 exact⟨v',h',b1,b2,e1.grow.trans b3,b5⟩
theorem mz.Wi {h:IH} {n0 sz:Nat} {v:Value} {n:Nat} {cs:List Value} (a:mz h n0 sz v n cs) {P:Program} {t:TypeId} (hT:aK P t=some sz) {i:Nat} (hi:i<n) {x:Value} {xs:List Value} (hx:x.cells.toList=xs) (hxl:xs.length=sz) (hc:xs.all aA=true) {h0':IH} (e0:Ext h0' h) (hn0:h0'.n≤n0) :
  ∃h',store P h t (aM v (i*sz)) x=some h'∧mz h' n0 sz v n (IH.aG cs (i*sz) xs)∧Ext h0' h'∧h'.n=h.n∧h'.base=h.base ∧ ∀j c e f,e≠sz→h.ext.get j=some (.cells c e f)→h'.ext.get j=some (.cells c e f):=by
 obtain⟨⟨hz,hl,⟨rfl,rfl⟩|⟨k,fam,rfl,hn,h1,h2,h3,h4⟩⟩,aZ⟩:=a
 ·omega
 ·have hle:i*sz+sz≤cs.length:=by
   rw[hl,←Nat.succ_mul];exact Nat.mul_le_mul_right _ hi
  have hsl:(IH.aG cs (i*sz) xs).length=n*sz:=by
   simp only[IH.aG,List.length_append,List.length_take,List.length_drop]
   omega
  have k2:2*k / 2=k:=by omega
  have k1:(2*k % 2 == 1)=false:=by simp
  have hsx:x.cells.size=sz:=by rw[←Array.length_toList,hx,hxl]
  have hst:store P h t (aM (.slice (some ⟨2*k,0,none⟩) n (2*n)) (i*sz)) x=h.wr (2*k) (i*sz) xs:=by
   simp only[aM,Nat.zero_add,store,asAddr,ptr,hT,hx,hsx,hc,beq_self_eq_true,Bool.and_self,cond_true]
  have hle:Nat.ble (i*sz+xs.length) cs.length=true:=by rw[Nat.ble_eq,hxl];exact hle
  have Va : ∀H:IH,H.ext.get k=some (.cells (IH.aG cs (i*sz) xs) sz none)→FamZ H sz (.slice (some ⟨2*k,0,none⟩) n (2*n)):=fun H hH k' n' c' hv cs2 f rest hg=>by
   have hkk:k'=k:=by
    injection hv with hv _ _;injection hv with hv;injection hv with hv _ _;omega
   subst hkk
   rw[hH] at hg;cases hg
  rw[hst]
  cases fam with
  | none =>
   refine⟨h.put k (.cells (IH.aG cs (i*sz) xs) sz none),?_,⟨⟨hz,hsl,.inr ⟨k,none,rfl,hn,h1,h2,ae _ _ rfl,trivial⟩⟩,Va _ (ae _ _ rfl)⟩,e0.put (by omega) _,rfl,rfl,fun j c e f he hg=>?_⟩
   ·simp only[IH.wr,k1,k2,h3,hle,cond_true,cond_false];rfl
   ·rw[ak]
    ·exact hg
    ·rintro rfl;rw[h3] at hg;cases hg;exact he rfl
  | some f =>
   obtain⟨a1,a2,rest,a3,a4⟩:=h4
   have hgk:((IH.dJ h.ext (((k :: rest).filter (· != k)))).set k (.cells (IH.aG cs (i*sz) xs) sz none)).get k=some (.cells (IH.aG cs (i*sz) xs) sz none):=by simp[Tr.bK]
   refine⟨{ h with ext:=(IH.dJ h.ext (((k :: rest).filter (· != k)))).set k (.cells (IH.aG cs (i*sz) xs) sz none) },?_,⟨⟨hz,hsl,.inr ⟨k,none,rfl,hn,h1,h2,hgk,trivial⟩⟩,Va _ hgk⟩,⟨e0.n,e0.base,fun j hj=>?_,e0.bT⟩,rfl,rfl,fun j c e f2 he hg=>?_⟩
   ·simp only[IH.wr,k1,k2,h3,hle,cond_true,cond_false,a3]
   ·have hjk:j≠k:=by omega
    rw[Tr.bK,if_neg hjk,jc,if_neg]
    ·exact e0.get j hj
    ·intro hm
     simp only[List.mem_filter,List.mem_cons,bne_iff_ne,ne_eq] at hm
     rcases hm with⟨rfl|hm,hne⟩
     ·exact hne rfl
     ·have:=a4 j hm;omega
   ·have hjk:j≠k:=by rintro rfl;rw[h3] at hg;cases hg;exact he rfl
    rw[Tr.bK,if_neg hjk,jc,if_neg]
    ·exact hg
    ·intro hm
     simp only[List.mem_filter,List.mem_cons,bne_iff_ne,ne_eq] at hm
     rcases hm with⟨rfl|hm,hne⟩
     ·exact hne rfl
     ·obtain⟨c',f',h5⟩:=aZ k n _ rfl cs f rest h3 a3 j hm
      rw[h5] at hg;cases hg;exact he rfl
open Go.Proofs.Tryz (prog)
open Nat renaming reduceAdd→zA,reduceEqDiff→zE,reduceLeDiff→zL
set_option maxHeartbeats 16000000
theorem nC:Kept fm:=fun _ _ _ _ r e=>r.aa e
theorem PV {h:IH} (a b:Nat) (ha:a<W8) (hb:b<W8):WV prog (.func (.func 149) #[] #[]) [wdV a,wdV b] h fun r h'=>Ext h h'∧r=KI (if wdI a<wdI b then -1 else if wdI b<wdI a then 1 else 0):=by
 obtain⟨H0,hH0,n0,E0,k0,k1⟩:=dY h (wdC a) (wdC b)
 refine enter (nt:=10) (rs:=[.tmp 4]) Proofs.Tryz.func149 rfl rfl rfl (by simp) ?_
 simp -dsimp (disch:=omega) only[wpS,zE,zA,cD]
 rw[←hH0]
 clear hH0
 have X0:=Ext.refl H0
 have L1:=K3 k0
 have L2:=K3 k1
 refine drawn [(2,[1])] (by kernel_rfl) (by kernel_rfl) rfl ?_
 simp -dsimp (disch:=omega) only[wpS,zE,L1]
 refine call (uX a ha) ?_
 rintro r1 h1 ⟨X1,p1⟩
 have L2':=KY L2 (by omega) X1
 simp -dsimp (disch:=omega) only[wpS,zE,L2']
 refine call (uX b hb) ?_
 rintro r2 h2 ⟨X2,p2⟩
 simp -dsimp (disch:=omega) only[wpS,zE]
 refine call (B6 (p1.aa X2.aa) p2 (ER ha).small (ER hb).small) ?_
 rintro _ h3 ⟨X3,rfl⟩
 simp -dsimp (disch:=omega) only[wpS,zE]
 refine⟨ad rfl rfl rfl rfl (ai rfl L2' L2),?_⟩
 simp -dsimp (disch:=omega) only[wpS,wpT,zE,zA]
 exact((E0.trans X1).trans X2).trans X3
open Classical in
theorem NH {h:IH} {v:Value} {l:List Nat} {least:Int} (hv:pE h v l) (hl:fR least) :
  WV prog (.func (.func 161) #[] #[]) [v,KI least] h fun r h'=>Ext h h'∧r=.bool (decide (∃p∈l,wdI p<least)):=by
 have hlb:=hv.2.1
 have len:=hv.1.len (P:=prog) Dh
 refine enter (nt:=20) (rs:=[.tmp 4]) Proofs.Tryz.func161 rfl rfl rfl (by simp) ?_
 simp -dsimp (disch:=omega) only[wpS,zA]
 refine loop (fun m fr h1 => ∃i:Nat,i+m=l.length∧Ext h h1∧(∀(j:Nat) p,j<i→l[j]?=some p → ¬wdI p<least)∧ab fr 0=some v∧ab fr 1=some (KI least)∧ab fr 5=some (KN i)) l.length
  ⟨0,by omega,Ext.refl _,fun j p hj=>by omega,by simp⟩ ?_
 rintro m fr h1 ⟨i,him,hE,hno,f0,f1,f5⟩
 simp -dsimp (disch:=omega) only[wpS,zE,f0,f5,len]
 refine aq ?_ ?_<;>intro hc<;>simp only[decide_eq_true_eq,decide_eq_false_iff_not] at hc
 ·have hi:i<l.length:=by omega
  obtain⟨p,hp⟩:=il (l:=l) (i:=i) hi
  have hpm:=List.mem_of_getElem? hp
  have wp:=hv.2.2 p hpm
  have ld:=fun h' (K:aJ h h')=>hv.ld K hp
  simp -dsimp (disch:=omega) only[wpS,wpT]
  refine drawn [(3,[6])] (by kernel_rfl) (by kernel_rfl) rfl ?_
  simp -dsimp (disch:=omega) only[wpS,zE,f0,f1,f5,hv.1.idx N9 hi,ld h1 hE.aa]
  refine call (dT least hl) ?_
  rintro _ h2 ⟨X2,rfl⟩
  simp -dsimp (disch:=omega) only[wpS,zE]
  refine call (PV p (aV least) wp (dR (jy hl))) ?_
  rintro _ h3 ⟨X3,rfl⟩
  rw[cm (jy hl)]
  have E3:=hE.trans (X2.trans X3)
  by_cases c:wdI p<least
  ·rw[if_pos c,decide_eq_true (⟨p,hpm,c⟩ : ∃p∈l,wdI p<least)]
   simp -dsimp (disch:=omega) only[wpS,wpT,zE]
   refine⟨ad rfl rfl rfl rfl (ai rfl (ld h1 hE.aa) (ld _ (hE.trans X2).aa)),?_⟩
   simp -dsimp (disch:=omega) only[wpS,wpT,zE,zA]
   exact E3
  ·obtain⟨z,hz,hz0⟩ : ∃z:Int,(if wdI p<least then (-1:Int) else if least<wdI p then 1 else 0)=z∧0≤z:=⟨_,rfl,by rw[if_neg c];split<;>omega⟩
   rw[hz]
   simp -dsimp (disch:=omega) only[wpS,wpT,zE]
   refine⟨ad rfl rfl rfl rfl (ai rfl (ld h1 hE.aa) (ld _ (hE.trans X2).aa)),?_⟩
   simp -dsimp (disch:=omega) only[wpS,wpT,zE,zA,f5]
   refine⟨m - 1,by omega,i+1,by omega,E3,?_,by simp[f0,f1]⟩
   intro j q hj hq
   by_cases hji:j=i
   ·subst hji;rw[hp] at hq;cases hq;exact c
   ·exact hno j q (by omega) hq
 ·have tL : ¬∃p∈l,wdI p<least:=fun⟨p,hp,hb⟩=>by
   obtain⟨j,hj⟩:=List.getElem?_of_mem hp
   have:=(List.getElem?_eq_some_iff.1 hj).1
   exact hno j p (by omega) hj hb
  rw[decide_eq_false tL]
  simp -dsimp (disch:=omega) only[wpS,wpT]
  exact hE
theorem IZ {h:IH} {v:Value} {l:List Nat} (hv:pE h v l) (hl:l.length≤1000):WV prog (.func (.func 162) #[] #[]) [v] h fun r h'=>Ext h h'∧nF fm h' r (l.map cA):=by
 have len:=hv.1.len (P:=prog) Dh
 refine enter (nt:=22) (rs:=[.tmp 2]) Proofs.Tryz.func162 rfl rfl rfl (by simp) ?_
 simp -dsimp (disch:=omega) only[wpS]
 refine loop (fun m fr h1 => ∃(i:Nat) (out:Value) (cs:List Value),i+m=l.length∧Ext h h1∧Acc h1 h.n 4 out ((l.take i).map cA).length cs∧jR fm h1 ((l.take i).map cA) cs∧ab fr 0=some v∧ab fr 3=some out∧ab fr 4=some (KN i)) l.length
  ⟨0,.slice none 0 0,[],by omega,Ext.refl _,Acc.nil h _ (by omega),by simp[jR]⟩ ?_
 rintro m fr h1 ⟨i,out,cs,him,hE,hA,hC,f0,f3,f4⟩
 simp -dsimp (disch:=omega) only[wpS,zE,f0,f4,len]
 refine aq ?_ ?_<;>intro hc<;>simp only[decide_eq_true_eq,decide_eq_false_iff_not] at hc
 ·have hi:i<l.length:=by omega
  obtain⟨p,hp⟩:=il (l:=l) (i:=i) hi
  have wp:=hv.2.2 p (List.mem_of_getElem? hp)
  simp -dsimp (disch:=omega) only[wpS,wpT,zE,f0,f3,f4,hv.1.idx N9 hi,hv.ld hE.aa hp]
  refine call (uX p wp) ?_
  rintro r1 h2 ⟨X2,p2⟩
  simp -dsimp (disch:=omega) only[wpS]
  refine call (nU 1 ⟨by omega,by omega⟩) ?_
  rintro r3 h3 ⟨X3,p3⟩
  have p2:=p2.aa X3.aa
  obtain⟨s1,rfl,c1,o1⟩:=p2.cg
  obtain⟨s3,rfl,c3,o3⟩:=p3.cg
  have pr:fm h3 (.agg #[.bool (decide (wdI p<0)),s1,.bool false,s3]) (cA p):=⟨_,_,_,_,rfl,p2,p3⟩
  have X13:=X2.trans X3
  have n1:=hE.n
  have n2:=X13.n
  obtain⟨dU,h5,hap,hA5,hC5,hG5,hE5⟩:=PS VJ (by omega) nC (hA.ext X13) (hC.aa nC X13.aa) pr (by simp[o1,o3,He]) (by simp;omega) (by omega) (hE.trans X13) (Nat.le_refl _)
  have eT:(l.take i).map cA ++ [cA p]=(l.take (i+1)).map cA:=by rw[fy hp,List.map_append];rfl
  rw[eT] at hA5 hC5
  simp -dsimp (disch:=omega) only[wpS,wpT,zE,zL,zA,LW,ym,yl,VC,CL,f4,hap]
  exact⟨m - 1,by omega,i+1,dU,_,by omega,hE5,hA5,hC5,by simp[f0]⟩
 ·obtain rfl:i=l.length:=by omega
  rw[List.take_length] at hA hC
  simp -dsimp (disch:=omega) only[wpS,wpT,zE,f3]
  exact⟨hE,cs,hA.sl,hC,by simp;omega⟩
open Classical in
theorem MU {h:IH} {v:Value} {l:List Rat} (hv:nF fm h v l) (hl:l.length≤1000) :
  WV prog (.func (.func 170) #[] #[]) [v] h fun r h'=>Ext h h'∧((∀q∈l,QW q) → ∃w,r=.tuple #[w,KI 0]∧iT h' w (l.map shq))∧(¬(∀q∈l,QW q)→r=.tuple #[.slice none 0 0,KI 6]):=by
 obtain⟨cs0,hs0,_,_⟩:=id hv
 have len:=hs0.len (P:=prog) UW
 refine enter (nt:=30) (rs:=[.tmp 2,.tmp 3]) Proofs.Tryz.func170 rfl rfl rfl (by simp) ?_
 simp -dsimp (disch:=omega) only[wpS]
 refine loop (fun m fr h1 => ∃(i:Nat) (out:Value),i+m=l.length∧Ext h h1∧Acc h1 h.n 16 out i (shL ((l.take i).map shq))∧(∀(j:Nat) q,j<i→l[j]?=some q→QW q)∧ab fr 0=some v∧ab fr 4=some out∧ab fr 5=some (KN i)) l.length
  ⟨0,.slice none 0 0,by omega,Ext.refl _,Acc.nil h _ (by omega),fun j q hj=>by omega,by simp⟩ ?_
 rintro m fr h1 ⟨i,out,him,hE,hA,hW,f0,f4,f5⟩
 simp -dsimp (disch:=omega) only[wpS,zE,f0,f5,len]
 refine aq ?_ ?_<;>intro hc<;>simp only[decide_eq_true_eq,decide_eq_false_iff_not] at hc
 ·have hi:i<l.length:=by omega
  obtain⟨q,hq⟩:=il (l:=l) (i:=i) hi
  obtain⟨a,s,b,u,ld,pq⟩:=hv.ld nC hE.aa hq Hs yZ
  simp -dsimp (disch:=omega) only[wpS,wpT,zE,f0,f5,hs0.idx LF hi,ld]
  refine call (vY pq) ?_
  rintro _ h2 ⟨X2,rfl⟩
  have n1:=hE.n
  have n2:=X2.n
  by_cases c:QW q
  ·rw[if_pos c,fh]
   simp -dsimp (disch:=omega) only[wpS,wpT,zE,zL,zA,gC,ed,aB,au,aY,bC]
   obtain⟨H3,hH3⟩:=aP ((h2.new (.cells Z16 0 none)).put h2.n (.cells (shC (shq q).1 (shq q).2) 0 none))
   have E3:Ext h2 H3:=by rw[hH3];exact((Ext.refl h2).new _).put (Nat.le_refl _) _
   have n3:=E3.n
   have g3:H3.ext.get h2.n=some (.cells (shC (shq q).1 (shq q).2) 0 none):=by rw[hH3];simp (disch:=omega) only[ae]
   rw[←hH3]
   clear hH3
   have E23:=X2.trans E3
   obtain⟨dU,h5,hap,hA5,hG5,hE5⟩:=(hA.ext E23).se (P:=prog) (t:=61) OG (m:=1) (new:=shC (shq q).1 (shq q).2) (by omega) (by rw[au]) (aY _ _) (by omega) (by omega) (hE.trans E23) (Nat.le_refl _)
   have eT:shL ((l.take i).map shq) ++ shC (shq q).1 (shq q).2=shL ((l.take (i+1)).map shq):=by
    rw[fy hq,List.map_append,List.map_cons,List.map_nil,shL,shL,List.flatMap_append];simp
   rw[eT] at hA5
   simp -dsimp (disch:=omega) only[wpS,wpT,zE,zL,zA,bY,Hm,rT,f4,f5,aj g3,au,bC,aO,hap]
   refine⟨m - 1,by omega,i+1,dU,by omega,hE5,hA5,fun j p hj hp=>?_,by simp[f0]⟩
   by_cases hji:j=i
   ·subst hji;rw[hq] at hp;cases hp;exact c
   ·exact hW j p (by omega) hp
  ·rw[if_neg c]
   simp -dsimp (disch:=omega) only[wpS,wpT,zE,zL,zA,gC,ed,aB,au,aY,bC]
   exact⟨(hE.trans X2).trans (((Ext.refl h2).new _).put (Nat.le_refl _) _),fun ef=>absurd (ef q (List.mem_of_getElem? hq)) c,fun _=>trivial⟩
 ·obtain rfl:i=l.length:=by omega
  rw[List.take_length] at hA
  have ef : ∀q∈l,QW q:=fun q hq=>by
   obtain⟨j,hj⟩:=List.getElem?_of_mem hq
   exact hW j q (List.getElem?_eq_some_iff.1 hj).1 hj
  simp -dsimp (disch:=omega) only[wpS,wpT,zE,f4]
  refine⟨hE,fun _=>⟨out,rfl,?_⟩,fun hn=>absurd ef hn⟩
  refine⟨by rw[List.length_map];exact hA.sl,by rw[List.length_map];omega,fun p hp=>?_⟩
  obtain⟨q,hq,rfl⟩:=List.mem_map.1 hp
  exact nk (ef q hq)
end Go.Id
