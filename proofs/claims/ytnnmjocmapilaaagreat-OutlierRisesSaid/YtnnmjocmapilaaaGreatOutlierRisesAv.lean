/-
  Contracts: package kernel: told
-/
import Derived.Test.YtnnmjocmapilaaaGreatOutlierRisesAu
set_option linter.unusedVariables false
set_option linter.unusedSimpArgs false
set_option linter.defProp false
set_option linter.deprecated false
namespace Go.Id
open Go
theorem bt.rE {h h':IH} {v:Value} {q:Rat} (p:bt h v q) (e:rZ 1 h h'):bt h' v q:=by
 obtain⟨a,s,b,t,h1,⟨s1,e1,ds,d1,d2⟩,⟨s2,e2,es,d3,d4⟩⟩:=p
 exact⟨a,s,b,t,h1,⟨s1,e1,ds,⟨d1.1.rE e,d1.2⟩,d2⟩,⟨s2,e2,es,⟨d3.1.rE e,d3.2⟩,d4⟩⟩
theorem He (z:List Value) : ∀n,(bB n z).length=n*z.length
 | 0=>by rw[CC];simp
 | n+1=>by rw[wS,List.length_append,He z n,Nat.add_mul];omega
def kAt (ll:List (List (Nat×Nat))) (i j:Nat):Rat:=rOf ((ll.getD i []).getD j (0,0))
def goQ (ll:List (List (Nat×Nat))) (t:List Nat) (i j:Nat):Rat:=if kAt ll j i*cK (t.getD j 0) / cK (t.getD i 0)<kAt ll i j then kAt ll j i*cK (t.getD j 0) / cK (t.getD i 0) else kAt ll i j
def oi (g:Nat→Rat) (i:Nat):Nat→Rat
 | 0=>1
 | j+1=>if j=i then oi g i j else oi g i j - g j
def nM (ll:List (List (Nat×Nat))) (t:List Nat) (i j:Nat):Rat:=if j=i then oi (goQ ll t i) i ll.length else goQ ll t i j
def dS (ll:List (List (Nat×Nat))) (t:List Nat) (i:Nat):List Rat:=(List.range ll.length).map (nM ll t i)
def uA (ll:List (List (Nat×Nat))) (t:List Nat):Prop:=∀i,i<ll.length → ∀q∈dS ll t i,QW q
def iH (ll:List (List (Nat×Nat))) (t:List Nat):List (List (Nat×Nat)):=(List.range ll.length).map fun i=>(dS ll t i).map shq
open Classical in
noncomputable def nN (ll:List (List (Nat×Nat))) (t:List Nat):Int:=if ¬dK ll then 330 else if t.length≠ll.length∨(∃p∈t,wdI p<1) then 2 else if uA ll t then 0 else 6
theorem fj (ll:List (List (Nat×Nat))) (t:List Nat) (i:Nat):(dS ll t i).length=ll.length:=by simp[dS]
variable {t:List Nat}{i j:Nat}{ll:List (List (Nat×Nat))}
theorem j0 (hj:j<ll.length):(dS ll t i)[j]?=some (nM ll t i j):=by
 rw[dS,List.getElem?_map,List.getElem?_range hj];rfl
theorem Dj (hi:i<ll.length):(iH ll t)[i]?=some ((dS ll t i).map shq):=by
 rw[iH,List.getElem?_map,List.getElem?_range hi];rfl
theorem jf (ll:List (List (Nat×Nat))) (t:List Nat):(iH ll t).length=ll.length:=by simp[iH]
variable {p:Nat}
theorem lI (hp:p<W8):QB 512 (cK p):=by
 refine QB.int ?_
 have hw:W8=2 ^ 512:=by decide +kernel
 rw[←hw]
 unfold wdI
 have:=eP
 split<;>omega
theorem DT (h:1≤wdI p):cK p≠0:=fun e=>by
 have:wdI p=0:=Rat.intCast_inj.1 e
 omega
theorem YX (h1:QB 512 (kAt ll i j)) (h2:QB 512 (kAt ll j i)) (h3:t.getD j 0<W8) (h4:t.getD i 0<W8) (h5:1≤wdI (t.getD i 0)):QB 1536 (goQ ll t i j):=by
 have q1:=h2.mul (lI h3)
 have q2:=q1.div (lI h4) (DT h5)
 have q3:=q2.mono (b:=1536) (by omega)
 unfold goQ
 split
 ·exact q3
 ·exact h1.mono (by omega)
theorem fi (k:dK ll) (hi:i<ll.length) (hj:j<ll.length) : ∃row p,ll[i]?=some row∧row.length=ll.length∧row[j]?=some p∧okS p.1 p.2∧0≤wdI p.1∧kAt ll i j=rOf p:=by
 obtain⟨h1,h2⟩:=k.2.2 _ (List.getElem_mem hi)
 have hj':j<(ll[i]).length:=by omega
 refine⟨_,_,List.getElem?_eq_getElem hi,h1,List.getElem?_eq_getElem hj',(EP (h2.1 _ (List.getElem_mem hj'))).1,(EP (h2.1 _ (List.getElem_mem hj'))).2,?_⟩
 unfold kAt
 simp only[List.getD_eq_getElem?_getD,List.getElem?_eq_getElem hi,Option.getD_some,List.getElem?_eq_getElem hj']
end Go.Id
namespace Go.Id
def rs:Nat→(Nat→Rat)→Rat
 | 0,_=>0
 | n+1,g=>rs n g+g n
variable {f g:Nat→Rat}{n:Nat}
theorem bm (h : ∀i,i<n→f i=g i):rs n f=rs n g:=by
 induction n with
 | zero=>rfl
 | succ n ih=>rw[rs,rs,ih (fun i hi=>h i (by omega)),h n (by omega)]
theorem XW (n:Nat) (f g:Nat→Rat):rs n (fun i=>f i+g i)=rs n f+rs n g:=by
 induction n with
 | zero=>rw[rs,rs,rs,Rat.add_zero]
 | succ n ih=>rw[rs,rs,rs,ih];grind
theorem Ag (n:Nat) (c:Rat) (f:Nat→Rat):rs n (fun i=>c*f i)=c*rs n f:=by
 induction n with
 | zero=>simp[rs]
 | succ n ih=>rw[rs,rs,ih];grind
theorem vi (n:Nat):rs n (fun _=>0)=0:=by
 induction n with
 | zero=>rfl
 | succ n ih=>rw[rs,ih];grind
theorem LW (h : ∀i,i<n→f i≤g i):rs n f≤rs n g:=by
 induction n with
 | zero=>simp[rs]
 | succ n ih =>
  have a:=ih (fun i hi=>h i (by omega))
  have b:=h n (by omega)
  rw[rs,rs]
  grind
theorem Oi (h : ∀i,i<n→0≤f i):0≤rs n f:=by
 have:=LW (f:=fun _=>0) (g:=f) h
 rwa [vi] at this
def dO (N:Nat) (p:Nat→Nat→Rat):Nat→Nat→(List Nat→Rat)→Rat
 | 0,_,F=>F []
 | k+1,s,F=>rs N fun j=>p s j*dO N p k j (fun l=>F (j :: l))
section
variable {N:Nat} {p:Nat→Nat→Rat}
variable {s:Nat}{F G:List Nat→Rat}{k:Nat}
theorem fU (h : ∀l,l.length=k→F l=G l):dO N p k s F=dO N p k s G:=by
 induction k generalizing s F G with
 | zero=>exact h [] rfl
 | succ k ih =>
  rw[dO,dO]
  refine bm fun j _=>?_
  rw[ih fun l hl=>h (j :: l) (by rw[List.length_cons,hl])]
theorem vv (k s:Nat) (c:Rat) (F:List Nat→Rat):dO N p k s (fun l=>c*F l)=c*dO N p k s F:=by
 induction k generalizing s F with
 | zero=>rfl
 | succ k ih =>
  rw[dO,dO,←Ag]
  refine bm fun j _=>?_
  rw[ih]
  grind
theorem Rh (k s:Nat) (F G:List Nat→Rat):dO N p k s (fun l=>F l+G l)=dO N p k s F+dO N p k s G:=by
 induction k generalizing s F G with
 | zero=>rfl
 | succ k ih =>
  rw[dO,dO,dO,←XW]
  refine bm fun j _=>?_
  rw[ih]
  grind
theorem EB (k s n:Nat) (F:Nat→List Nat→Rat):dO N p k s (fun l=>rs n fun i=>F i l)=rs n fun i=>dO N p k s (F i):=by
 induction n with
 | zero =>
  have:=vv (N:=N) (p:=p) k s 0 (fun _=>0)
  simp only[rs]
  simpa using this
 | succ n ih =>
  simp only[rs]
  rw[Rh,ih]
theorem EC (hp : ∀i j,0≤p i j) (h : ∀l,l.length=k→F l≤G l):dO N p k s F≤dO N p k s G:=by
 induction k generalizing s F G with
 | zero=>exact h [] rfl
 | succ k ih =>
  rw[dO,dO]
  refine LW fun j _=>?_
  exact Rat.mul_le_mul_of_nonneg_left (ih fun l hl=>h (j :: l) (by rw[List.length_cons,hl])) (hp s j)
theorem oJ (h1 : ∀i,i<N→rs N (p i)=1) (k:Nat) (hs:s<N) (c:Rat):dO N p k s (fun _=>c)=c:=by
 induction k generalizing s with
 | zero=>rfl
 | succ k ih =>
  rw[dO,bm (g:=fun j=>c*p s j) (fun j hj=>by rw[ih hj];grind),Ag]
  show c*rs N (fun j=>p s j)=c
  rw[h1 s hs]
  grind
end
abbrev leF (f:Nat→Rat) (s:Nat) (t:Nat):Bool:=decide (f t≤f s)
section
variable {N:Nat} {p:Nat→Nat→Rat} {w:Nat→Rat}
def fC (N:Nat) (p:Nat→Nat→Rat) (f:Nat→Rat) (R k s:Nat):Rat:=dO N p k s fun o=>if o.countP (leF f s)+1≤R then 1 else 0
theorem QZ (n:Nat) (c:Rat):rs n (fun _=>c)=(n:Rat)*c:=by
 induction n with
 | zero=>simp[rs]
 | succ n ih=>rw[rs,ih,Rat.natCast_add];grind
end
theorem yU {n a:Nat} (h:a<n) (g:Nat→Rat):rs n (fun i=>if i=a then g i else 0)=g a:=by
 induction n with
 | zero=>omega
 | succ n ih =>
  rw[rs]
  by_cases c:n=a
  ·rw[if_pos c,c,bm (g:=fun _=>0) (fun i hi=>by rw[if_neg (by omega)]),vi,Rat.zero_add]
  ·rw[if_neg c,ih (by omega),Rat.add_zero]
section
variable {N:Nat} {p:Nat→Nat→Rat}
variable {s:Nat}
theorem ny {k:Nat} {F G:List Nat→Rat} (h : ∀l,l.length=k→(∀x∈l,x<N)→F l=G l):dO N p k s F=dO N p k s G:=by
 induction k generalizing s F G with
 | zero=>exact h [] rfl (by simp)
 | succ k ih =>
  rw[dO,dO]
  refine bm fun j hj=>?_
  rw[ih fun l hl hx=>h (j :: l) (by rw[List.length_cons,hl]) (by
   intro x hm
   rcases List.mem_cons.1 hm with rfl|hm
   ·exact hj
   ·exact hx x hm)]
def lE (s:Nat) (l:List Nat):Nat:=l.getLast?.getD s
theorem J9 (s a:Nat) (l:List Nat):lE s (a :: l)=lE a l:=by
 unfold lE
 rw[List.getLast?_cons,Option.getD_some]
theorem O2 (s a:Nat) (l:List Nat):lE s (l ++ [a])=a:=by
 unfold lE
 rw[List.getLast?_append]
 rfl
theorem HV {l:List Nat} (hs:s<N) (h : ∀x∈l,x<N):lE s l<N:=by
 unfold lE
 cases e:l.getLast? with
 | none=>exact hs
 | some a=>exact h a (List.mem_of_getLast? e)
theorem Oz (k s:Nat) (F:List Nat→Rat):dO N p (k+1) s F=dO N p k s fun l=>rs N fun j=>p (lE s l) j*F (l ++ [j]):=by
 induction k generalizing s F with
 | zero=>rfl
 | succ k ih =>
  rw[dO,dO]
  refine bm fun j _=>?_
  rw[ih]
  congr 1
  refine fU fun l _=>?_
  rw[J9]
  rfl
def jg (N:Nat) (p:Nat→Nat→Rat) (hit:Nat→Bool) (s:Nat):Nat→Nat→Nat→Rat
 | 0,j,n=>if j=s∧n=0 then 1 else 0
 | k+1,j,n=>if hit j then (if n=0 then 0 else rs N fun i=>jg N p hit s k i (n - 1)*p i j) else rs N fun i=>jg N p hit s k i n*p i j
theorem PA (hit:Nat→Bool) (hs:s<N) (k:Nat) {j:Nat} (hj:j<N) (n:Nat):jg N p hit s k j n=dO N p k s fun l=>if lE s l=j∧l.countP hit=n then 1 else 0:=by
 induction k generalizing j n with
 | zero =>
  rw[jg,dO]
  show _=if s=j∧0=n then (1:Rat) else 0
  by_cases c:j=s∧n=0
  ·rw[if_pos c,if_pos ⟨c.1.symm,c.2.symm⟩]
  ·rw[if_neg c,if_neg fun x=>c ⟨x.1.symm,x.2.symm⟩]
 | succ k ih =>
  have st : ∀m,(rs N fun i=>jg N p hit s k i m*p i j)=dO N p k s fun l=>p (lE s l) j*if l.countP hit=m then 1 else 0:=fun m=>by
   rw[bm (g:=fun i=>dO N p k s fun l=>p i j*if lE s l=i∧l.countP hit=m then 1 else 0) (fun i hi=>by rw[ih hi,Rat.mul_comm,vv]),←EB]
   refine ny fun l hl hx=>?_
   rw[←yU (HV hs hx) (fun i=>p i j*if l.countP hit=m then 1 else 0)]
   refine bm fun i _=>?_
   by_cases c:i=lE s l
   ·rw[if_pos c,←c]
    simp
   ·rw[if_neg c,if_neg fun x=>c x.1.symm,Rat.mul_zero]
  have rt:(dO N p (k+1) s fun l=>if lE s l=j∧l.countP hit=n then (1:Rat) else 0)=dO N p k s fun l=>p (lE s l) j*if l.countP hit+(if hit j then 1 else 0)=n then 1 else 0:=by
   rw[Oz]
   refine fU fun l _=>?_
   rw[←yU hj (fun t=>p (lE s l) t*if l.countP hit+(if hit t then 1 else 0)=n then 1 else 0)]
   refine bm fun t _=>?_
   rw[O2,List.countP_append,List.countP_singleton]
   by_cases c:t=j
   ·rw[if_pos c]
    simp[c]
   ·rw[if_neg c,if_neg fun x=>c x.1,Rat.mul_zero]
  rw[rt,jg]
  by_cases hh:hit j
  ·rw[if_pos hh]
   by_cases n0:n=0
   ·rw[if_pos n0,fU (G:=fun l=>0*0) (fun l _=>by rw[if_neg (by rw[if_pos hh];omega)];simp),vv,Rat.zero_mul]
   ·rw[if_neg n0,st]
    refine fU fun l _=>?_
    congr 1
    by_cases c:l.countP hit=n - 1
    ·rw[if_pos c,if_pos (by rw[if_pos hh];omega)]
    ·rw[if_neg c,if_neg (by rw[if_pos hh];omega)]
  ·rw[if_neg hh,st]
   refine fU fun l _=>?_
   rw[if_neg hh]
   rfl
theorem XI (hit:Nat→Bool) (hs:s<N) (k n:Nat):(rs N fun j=>jg N p hit s k j n)=dO N p k s fun l=>if l.countP hit=n then 1 else 0:=by
 rw[bm fun j hj=>PA hit hs k hj n,←EB]
 refine ny fun l _ hx=>?_
 rw[←yU (HV hs hx) (fun _=>if l.countP hit=n then (1:Rat) else 0)]
 refine bm fun i _=>?_
 by_cases c:i=lE s l
 ·rw[if_pos c,←c]
  simp
 ·rw[if_neg c,if_neg fun x=>c x.1.symm]
end
section
variable {N:Nat} {p:Nat→Nat→Rat}
variable {M:Nat}
theorem Bv (hit:Nat→Bool) (k s:Nat) (hM:k<M) (g:Nat→Rat):(rs M fun i=>(dO N p k s fun l=>if l.countP hit=i then 1 else 0)*g i)=dO N p k s fun l=>g (l.countP hit):=by
 rw[bm (g:=fun i=>dO N p k s fun l=>g i*if l.countP hit=i then 1 else 0) (fun i _=>by rw[vv,Rat.mul_comm]),←EB]
 refine fU fun l hl=>?_
 have c:l.countP hit<M:=Nat.lt_of_le_of_lt (hl▸List.countP_le_length) hM
 rw[←yU c g]
 refine bm fun i _=>?_
 by_cases e:i=l.countP hit
 ·rw[if_pos e,if_pos e.symm,Rat.mul_one]
 ·rw[if_neg e,if_neg fun x=>e x.symm,Rat.mul_zero]
theorem upQ (hit:Nat→Bool) (s:Nat) {k1 k2:Nat} (h1:k1<M) (h2:k2<M) (R:Nat) :
  (rs M fun i=>rs M fun j=>if i+j+1≤R then (dO N p k1 s fun l=>if l.countP hit=i then 1 else 0)*(dO N p k2 s fun l=>if l.countP hit=j then 1 else 0) else 0)
   = dO N p k1 s fun b=>dO N p k2 s fun o=>if b.countP hit+o.countP hit+1≤R then 1 else 0:=by
 rw[←Bv hit k1 s h1 (fun i=>dO N p k2 s fun o=>if i+o.countP hit+1≤R then 1 else 0)]
 refine bm fun i _=>?_
 rw[←Bv hit k2 s h2 (fun j=>if i+j+1≤R then 1 else 0),←Ag]
 refine bm fun j _=>?_
 by_cases c:i+j+1≤R
 ·rw[if_pos c,if_pos c,Rat.mul_one]
 ·rw[if_neg c,if_neg c,Rat.mul_zero,Rat.mul_zero]
theorem upQ1 (f:Nat→Rat) (s:Nat) {k:Nat} (h:k<M) (R:Nat) :
  (rs M fun i=>if i+1≤R then (dO N p k s fun l=>if l.countP (leF f s)=i then 1 else 0) else 0)=fC N p f R k s:=by
 unfold fC
 rw[←Bv (leF f s) k s h (fun i=>if i+1≤R then 1 else 0)]
 refine bm fun i _=>?_
 by_cases c:i+1≤R
 ·rw[if_pos c,if_pos c,Rat.mul_one]
 ·rw[if_neg c,if_neg c,Rat.mul_zero]
end
open Go
def OvL (L x:Nat) (q:Rat):Prop:=0<L∧L≤2 ^ x ∧ ∃N:Int,q=(N:Rat) / ((L:Int):Rat)∧N.natAbs≤2 ^ x
variable {L:Nat}
theorem oh (h:0<L):((L:Int):Rat)≠0:=by
 intro e
 have:=Rat.intCast_eq_zero_iff.1 e
 omega
variable {q:Rat}{x:Nat}
theorem OvL.qb (h:OvL L x q):QB x q:=by
 obtain⟨hL,hx,N,rfl,hN⟩:=h
 rw[←Rat.divInt_eq_div]
 obtain⟨e1,e2⟩:=nD (n:=N) (d:=(L:Int)) (by omega)
 have a1:=v8 N (Int.gcd N (L:Int))
 have a2:=v8 (L:Int) (Int.gcd N (L:Int))
 rw[e1] at a1
 rw[e2] at a2
 have a3:((Rat.divInt N (L:Int)).den:Int).natAbs=(Rat.divInt N (L:Int)).den:=Int.natAbs_natCast _
 have a4:((L:Int)).natAbs=L:=Int.natAbs_natCast _
 exact⟨Nat.le_trans a1 hN,by omega⟩
variable {y:Nat}
theorem OvL.mono (h:OvL L x q) (k:x≤y):OvL L y q:=by
 obtain⟨hL,hx,N,e,hN⟩:=h
 have:=Nat.pow_le_pow_right (n:=2) (by omega) k
 exact⟨hL,Nat.le_trans hx this,N,e,Nat.le_trans hN this⟩
variable {p:Rat}
theorem OvL.add (hp:OvL L x p) (hq:OvL L x q):OvL L (x+1) (p+q):=by
 obtain⟨hL,hx,N,e,hN⟩:=hp
 obtain⟨_,_,M,f,hM⟩:=hq
 have h2:2 ^ (x+1)=2 ^ x+2 ^ x:=by rw[Nat.pow_succ];omega
 have:=oh hL
 refine⟨hL,by omega,N+M,?_,?_⟩
 ·rw[e,f,Rat.intCast_add];grind
 ·have:=Int.natAbs_add_le N M
  omega
theorem OvL.mul {K:Nat} (hp:OvL L x p) (hq:OvL K y q):OvL (L*K) (x+y) (p*q):=by
 obtain⟨hL,hx,N,e,hN⟩:=hp
 obtain⟨hK,hy,M,f,hM⟩:=hq
 have h2:2 ^ (x+y)=2 ^ x*2 ^ y:=Nat.pow_add ..
 have:=oh hL
 have:=oh hK
 refine⟨Nat.mul_pos hL hK,by rw[h2];exact Nat.mul_le_mul hx hy,N*M,?_,by rw[h2,Int.natAbs_mul];exact Nat.mul_le_mul hN hM⟩
 rw[e,f,Rat.intCast_mul,Int.natCast_mul,Rat.intCast_mul]
 grind
theorem OvL.zero (hL:0<L) (hx:L≤2 ^ x):OvL L x 0:=⟨hL,hx,0,by simp;grind,by simp⟩
theorem OvL.one:OvL 1 0 1:=⟨by omega,by omega,1,by simp;grind,by simp⟩
variable {n:Nat}
theorem OvL.rs {f:Nat→Rat} (hL:0<L) (hx:L≤2 ^ x) (h : ∀i,i<n→OvL L x (f i)):OvL L (x+n) (Go.Id.rs n f):=by
 induction n with
 | zero=>exact OvL.zero hL hx
 | succ n ih =>
  exact(ih fun i hi=>h i (by omega)).add ((h n (by omega)).mono (by omega))
variable {z:Int}
theorem UO (h:z.natAbs≤2 ^ x):OvL 1 x (z:Rat):=⟨by omega,Nat.one_le_two_pow,z,by simp;grind,h⟩
theorem UU (x:Nat):1≤2 ^ x:=Nat.one_le_two_pow
theorem QB.abs (h:QB x (z:Rat)):z.natAbs≤2 ^ x:=h.1
theorem OvL.ite {L x:Nat} {q:Rat} {c:Prop} [Decidable c] (h:OvL L x q):OvL L x (if c then q else 0):=by
 split
 ·exact h
 ·exact OvL.zero h.1 h.2.1
def qX:Nat→(Nat→Nat)→Nat
 | 0,_=>1
 | n+1,g=>qX n g*g n
variable {g:Nat→Nat}
theorem CG {i:Nat} (hi:i<n):g i∣qX n g:=by
 induction n with
 | zero=>omega
 | succ n ih =>
  rw[qX]
  by_cases c:i=n
  ·subst c;exact Nat.dvd_mul_left ..
  ·exact Nat.dvd_trans (ih (by omega)) (Nat.dvd_mul_right ..)
theorem CF (h : ∀i,i<n→0<g i):0<qX n g:=by
 induction n with
 | zero=>exact Nat.one_pos
 | succ n ih=>exact Nat.mul_pos (ih fun i hi=>h i (by omega)) (h n (by omega))
variable {b:Nat}
theorem Hi (h : ∀i,i<n→g i≤2 ^ b):qX n g≤2 ^ (b*n):=by
 induction n with
 | zero=>exact Nat.le_of_eq (by rw[Nat.mul_zero];rfl)
 | succ n ih =>
  rw[qX,Nat.mul_succ,Nat.pow_add]
  exact Nat.mul_le_mul (ih fun i hi=>h i (by omega)) (h n (by omega))
theorem U6 {N:Nat} {f:Nat→Nat→Rat} (h : ∀i j,i<N→j<N→0≤f i j∧f i j≤1∧(f i j).den≤2 ^ b) : ∃D,∀i j,i<N→j<N→OvL D (b*N*N) (f i j):=by
 refine⟨qX N fun i=>qX N fun j=>(f i j).den,fun i j hi hj=>?_⟩
 obtain⟨D,hD⟩:=aT (qX N fun i=>qX N fun j=>(f i j).den)
 have pos:0<D:=by rw[hD];exact CF fun i _=>CF fun j _=>(f i j).den_pos
 have le:D≤2 ^ (b*N*N):=by
  rw[hD]
  exact Hi fun i hi=>Hi fun j hj=>(h i j hi hj).2.2
 have dv:(f i j).den∣D:=by
  rw[hD]
  exact Nat.dvd_trans (CG (g:=fun j=>(f i j).den) hj) (CG (g:=fun i=>qX N fun j=>(f i j).den) hi)
 rw[←hD]
 obtain⟨h0,h1,_⟩:=h i j hi hj
 obtain⟨c,hc⟩:=dv
 have dp:=(f i j).den_pos
 have n0:0≤(f i j).num:=Rat.num_nonneg.2 h0
 have n1:(f i j).num≤(f i j).den:=by
  have:=(Rat.le_iff (f i j) 1).1 h1
  simpa using this
 have hne:((c:Int):Rat)≠0:=by
  intro e
  have:(c:Int)=0:=Rat.intCast_eq_zero_iff.1 e
  have:c=0:=by omega
  subst this
  omega
 have hdn:(((f i j).den:Int):Rat)≠0:=oh dp
 refine⟨pos,le,(f i j).num*c,?_,?_⟩
 ·have e:f i j=((f i j).num:Rat) / (((f i j).den:Int):Rat):=by
   rw[←Rat.divInt_eq_div];exact(Rat.num_divInt_den (f i j)).symm
  rw[hc,Int.natCast_mul,Rat.intCast_mul,Rat.intCast_mul]
  conv=>lhs;rw[e]
  grind
 ·refine Nat.le_trans ?_ le
  rw[Int.natAbs_mul,Int.natAbs_natCast,hc]
  exact Nat.mul_le_mul_right _ (by omega)
section
variable (p:Nat→Nat→Rat) (hit:Nat→Bool) (x:Nat→Nat→Rat)
def lq (a:Nat):Nat:=if hit a then 1 else 0
def uY (i a m:Nat):Rat:=if hit a then (if m=0 then 0 else x i (m - 1)) else x i m
def nxQ (i j n a m:Nat):Rat:=rs i (fun t=>uY hit x t a m*p t a)+if a<j∨(a=j∧m<n+lq hit a) then uY hit x i a m*p i a else 0
theorem UX (a m:Nat):nxQ p hit x 0 0 0 a m=0:=by
 unfold nxQ
 rw[rs,Rat.zero_add]
 by_cases d:a<0∨(a=0∧m<0+lq hit a)
 ·rw[if_pos d]
  have hh:hit a=true:=by
   cases e:hit a with
   | true=>rfl
   | false=>have:=d;unfold lq at this;rw[e] at this;simp at this
  have m0:m=0:=by have:=d;unfold lq at this;rw[hh] at this;simp at this;exact this.2
  unfold uY
  rw[if_pos hh,if_pos m0,Rat.zero_mul]
 ·rw[if_neg d]
theorem Wy (i j n:Nat):nxQ p hit x i j n j (n+lq hit j)+x i n*p i j=nxQ p hit x i j (n+1) j (n+lq hit j):=by
 have e:uY hit x i j (n+lq hit j)=x i n:=by
  unfold uY lq
  by_cases h:hit j
  ·simp[h]
  ·simp[h]
 unfold nxQ
 rw[if_neg (by omega),if_pos (by omega),e,Rat.add_zero]
variable {a m:Nat}
theorem Mw (i j n:Nat) (h : ¬(a=j∧m=n+lq hit j)):nxQ p hit x i j (n+1) a m=nxQ p hit x i j n a m:=by
 unfold nxQ
 congr 1
 by_cases c:a=j
 ·subst c
  by_cases d:m<n+lq hit a
  ·rw[if_pos (by omega),if_pos (by omega)]
  ·rw[if_neg (by omega),if_neg (by omega)]
 ·by_cases d:a<j
  ·rw[if_pos (by omega),if_pos (by omega)]
  ·rw[if_neg (by omega),if_neg (by omega)]
variable {i:Nat}
theorem Mv {j n:Nat} (h:x i n=0∨p i j=0) (a m:Nat):nxQ p hit x i j (n+1) a m=nxQ p hit x i j n a m:=by
 by_cases c:a=j∧m=n+lq hit j
 ·obtain⟨rfl,rfl⟩:=c
  rw[←Wy]
  rcases h with h|h
  ·rw[h,Rat.zero_mul,Rat.add_zero]
  ·rw[h,Rat.mul_zero,Rat.add_zero]
 ·exact Mw p hit x i j n c
theorem Yo (i j:Nat) {S:Nat} (hm:m<S):nxQ p hit x i (j+1) 0 a m=nxQ p hit x i j S a m:=by
 unfold nxQ
 congr 1
 by_cases c:a<j+1
 ·rw[if_pos (by omega),if_pos (by omega)]
 ·rw[if_neg (c:=a<j∨_) (by omega)]
  by_cases d:a=j+1∧m<0+lq hit a
  ·have hh:hit a=true:=by
    cases e:hit a with
    | true=>rfl
    | false=>have:=d.2;unfold lq at this;rw[e] at this;simp at this
   have m0:m=0:=by have:=d.2;unfold lq at this;rw[hh] at this;simp at this;exact this
   unfold uY
   rw[hh,m0]
   simp
  ·rw[if_neg (by omega)]
theorem Ym {N:Nat} (m:Nat) (ha:a<N):nxQ p hit x (i+1) 0 0 a m=nxQ p hit x i N 0 a m:=by
 unfold nxQ
 rw[if_pos (c:=a<N∨_) (.inl ha),rs]
 by_cases d:a=0∧m<0+lq hit a
 ·have hh:hit a=true:=by
   cases e:hit a with
   | true=>rfl
   | false=>have:=d.2;unfold lq at this;rw[e] at this;simp at this
  have m0:m=0:=by have:=d.2;unfold lq at this;rw[hh] at this;simp at this;exact this
  have z : ∀t,uY hit x t a m=0:=fun t=>by unfold uY;rw[if_pos hh,if_pos m0]
  rw[z,z,Rat.zero_mul,Rat.zero_mul]
  split<;>simp[Rat.add_zero]
 ·rw[if_neg (by omega),Rat.add_zero]
end
variable {N:Nat}{hit:Nat→Bool}{p:Nat→Nat→Rat}{s:Nat}{x:Nat→Nat→Rat}
theorem Yn {k:Nat} (a m:Nat) (hx : ∀i m,i<N→x i m=jg N p hit s k i m):nxQ p hit x N 0 0 a m=jg N p hit s (k+1) a m:=by
 unfold nxQ
 rw[jg]
 have z:(if a<0∨(a=0∧m<0+lq hit a) then uY hit x N a m*p N a else 0)=0:=by
  by_cases d:a=0∧m<0+lq hit a
  ·have hh:hit a=true:=by
    cases e:hit a with
    | true=>rfl
    | false=>have:=d.2;unfold lq at this;rw[e] at this;simp at this
   have m0:m=0:=by have:=d.2;unfold lq at this;rw[hh] at this;simp at this;exact this
   unfold uY
   rw[hh,m0]
   simp
  ·rw[if_neg (by omega)]
 rw[z,Rat.add_zero]
 unfold uY
 by_cases hh:hit a
 ·simp only[hh,if_true]
  by_cases m0:m=0
  ·simp only[m0,if_true]
   rw[bm (g:=fun _=>0) (fun i _=>by rw[Rat.zero_mul]),vi]
  ·simp only[m0,if_false]
   exact bm fun i hi=>by rw[hx i _ hi]
 ·simp only[hh]
  exact bm fun i hi=>by simp only[Bool.false_eq_true,if_false];rw[hx i _ hi]
variable {y i L:Nat}
theorem Un (hx : ∀i m,i<N→OvL L y (x i m)) (hi:i<N) (a m:Nat):OvL L y (uY hit x i a m):=by
 unfold uY
 split
 ·split
  ·exact OvL.zero (hx i 0 hi).1 (hx i 0 hi).2.1
  ·exact hx i _ hi
 ·exact hx i _ hi
variable {D d:Nat}
theorem Yp (hx : ∀i m,i<N→OvL L y (x i m)) (hp : ∀i j,i<N→j<N→OvL D d (p i j)) {a:Nat} (hi:i<N) (ha:a<N) (j n m:Nat):OvL (L*D) (y+d+N) (nxQ p hit x i j n a m):=by
 have t : ∀t,t<N→OvL (L*D) (y+d) (uY hit x t a m*p t a):=fun t ht=>(Un hx ht a m).mul (hp t a ht ha)
 have z:=t i hi
 refine OvL.mono (x:=y+d+i+1) ?_ (by omega)
 refine OvL.add ?_ ?_
 ·exact OvL.rs z.1 z.2.1 fun t' ht'=>t t' (by omega)
 ·exact(z.mono (by omega)).ite
variable {j:Nat}
theorem zk (hp : ∀i j,i<N→j<N→OvL D d (p i j)) (k:Nat) (hj:j<N) (n:Nat):OvL (D ^ k) (k*(d+N)) (jg N p hit s k j n):=by
 induction k generalizing j n with
 | zero =>
  rw[jg,Nat.pow_zero,Nat.zero_mul]
  exact OvL.one.ite
 | succ k ih =>
  have t : ∀m i,i<N→OvL (D ^ k*D) (k*(d+N)+d) (jg N p hit s k i m*p i j):=fun m i hi=>(ih hi m).mul (hp i j hi hj)
  have z:=t 0 j hj
  rw[jg,Nat.pow_succ,Nat.succ_mul,←Nat.add_assoc]
  split
  ·split
   ·exact(OvL.zero z.1 z.2.1).mono (by omega)
   ·exact OvL.rs z.1 z.2.1 (t _)
  ·exact OvL.rs z.1 z.2.1 (t _)
theorem Ti (k:Nat) {n:Nat} (h:k<n):jg N p hit s k j n=0:=by
 induction k generalizing j n with
 | zero=>rw[jg,if_neg (by omega)]
 | succ k ih =>
  rw[jg]
  split
  ·rw[if_neg (by omega),bm (g:=fun _=>0) (fun i _=>by rw[ih (by omega),Rat.zero_mul]),vi]
  ·rw[bm (g:=fun _=>0) (fun i _=>by rw[ih (by omega),Rat.zero_mul]),vi]
open Go.Proofs.Tryz (prog)
def mkV (k n:Nat):Value:=.slice (some ⟨2*k,0,none⟩) n (2*n+1)
theorem RJ (k n:Nat):(mkV k n).cells = #[mkV k n]∧aB (mkV k n)=true:=⟨rfl,by simp[mkV,aB]⟩
def Ur (c:List Value):Prop:=∀x∈c,∃a b d,x=.slice a b d
variable {v:Value}{c:List Value}{h:IH}{c':List Value}{b:Nat}
theorem I8 {ds:List Nat} (s:bH h 1 v ds.length (ds.map K64)) (hb:h.ext.get b=some (.cells c 1 none)) (hc:Ur c) (hl:c'.length=c.length):bH (h.put b (.cells c' 1 none)) 1 v ds.length (ds.map K64):=by
 by_cases hk:dN v=some (2*b)
 case neg=>exact s.putAt hk _
 obtain⟨hz,hln,⟨rfl,_⟩|⟨b0,o,k,rfl,s⟩⟩:=s
 ·cases hk
 have hb0:b0=2*b:=by injection hk
 subst hb0
 refine⟨hz,hln,.inr ⟨2*b,o,k,rfl,?_⟩⟩
 rcases s with s|⟨a1,a2,row,a3,a4,a5,a6⟩
 ·exact .inl s
 have k2:2*b / 2=b:=by omega
 have k0:(2*b % 2 == 1)=false:=by simp
 have fA:row=c:=by
  simp only[IH.row,k0,cond_false,k2,hb] at a4
  injection a4 with a4;exact a4.symm
 subst fA
 by_cases hn:ds.length=0
 ·have hd:ds = []:=List.length_eq_zero_iff.1 hn
  subst hd
  refine .inr ⟨a1,a2,c',?_,?_,by simp,by simp at a6 ⊢;omega⟩
  ·rcases a3 with a3|⟨a4',a5',f,_⟩
   ·omega
   ·exact .inr ⟨a4',a5',none,by rw[k2];exact ae _ _ rfl⟩
  ·simp only[IH.row,k0,cond_false,k2]
   rw[ae _ _ rfl]
 ·exfalso
  cases ds with
  | nil=>exact hn rfl
  | cons d ds =>
   have:K64 d∈row:=by
    have h1:K64 d∈(row.drop o).take ((d :: ds).length*1):=by rw[a5];simp
    exact List.mem_of_mem_drop (List.mem_of_mem_take h1)
   obtain⟨_,_,_,h2⟩:=hc _ this
   cases h2
theorem a9.UG {z:Int} (p:a9 h v z) (hb:h.ext.get b=some (.cells c 1 none)) (hc:Ur c) (hl:c'.length=c.length):a9 (h.put b (.cells c' 1 none)) v z:=by
 obtain⟨s,e,ds,d1,d2⟩:=p
 exact⟨s,e,ds,⟨I8 d1.1 hb hc hl,d1.2⟩,d2⟩
variable {q:Rat}
theorem bt.UG (p:bt h v q) (hb:h.ext.get b=some (.cells c 1 none)) (hc:Ur c) (hl:c'.length=c.length):bt (h.put b (.cells c' 1 none)) v q:=by
 obtain⟨a,s,b',t,e,h1,h2⟩:=p
 exact⟨a,s,b',t,e,h1.UG hb hc hl,h2.UG hb hc hl⟩
theorem bt.BW (p:bt h v q) {k e:Nat} {f:Option Nat} (hk:h.ext.get k=some (.cells c e f)) (he:e≠1) (o:bI):bt (h.put k o) v q :=
 p.rE ((rZ.refl 1 h).put hk he o)
def lC (H:IH) (k M:Nat) (g:Nat→Rat):Prop:=∃cs,rU H 4 k (mkV k M) M cs ∧ ∀m,m<M→lG bt H cs m (g m)
structure Tab (H:IH) (n0 n1 b N M:Nat) (r:Nat→Nat) (q:Nat→Nat→Rat):Prop where
 lo:n0≤b∧b<n1
 ob:rU H 1 b (mkV b N) N ((List.range N).map fun j=>mkV (r j) M)
 lr : ∀j,j<N→n0≤r j∧r j<n1∧r j≠b
 inj : ∀i j,i<N→j<N→r i=r j→i=j
 row : ∀j,j<N→lC H (r j) M (q j)
section
variable {H H':IH} {n0 n1 b N M:Nat} {r:Nat→Nat} {q:Nat→Nat→Rat}
variable {g:Nat→Rat}{k:Nat}
theorem lC.ext (t:lC H k M g) (e:Ext H H'):lC H' k M g :=
 let ⟨cs,h1,h2⟩:=t
 ⟨cs,h1.ext e,fun m hm=>(h2 m hm).mono fun _ p=>p.aa e.aa⟩
theorem lC.congr {g':Nat→Rat} (t:lC H k M g) (h : ∀m,m<M→g m=g' m):lC H k M g' :=
 let ⟨cs,h1,h2⟩:=t
 ⟨cs,h1,fun m hm=>h m hm▸h2 m hm⟩
variable {f:Option Nat}{c:List Value}{j e:Nat}
theorem lC.BW (t:lC H k M g) (hj:H.ext.get j=some (.cells c e f)) (he:e≠1) (hk:k≠j) (o:bI):lC (H.put j o) k M g :=
 let ⟨cs,h1,h2⟩:=t
 ⟨cs,⟨h1.form,h1.len,h1.size,h1.some_,h1.old,(ak _ _ hk).trans h1.got⟩,fun m hm=>(h2 m hm).mono fun _ p=>p.BW hj he o⟩
variable {m:Nat}
theorem lC.ldK (t:lC H k M g) (hm:m<M) : ∃a s b u,(∀h',Ext H h'→load prog h' 137 (aP (mkV k M) (m*4))=some (.agg #[a,s,b,u]))∧bt H (.agg #[a,s,b,u]) (g m):=by
 obtain⟨cs,h1,h2⟩:=t
 obtain⟨a,s,b,u,h3,h4⟩:=h2 m hm
 have hl:=h1.len
 refine⟨a,s,b,u,fun h' e=>?_,h4⟩
 rw[(h1.ext e).sl.C6 (aK.refl h') (by omega) (by omega) BN tC,h3]
theorem lC.idx (t:lC H k M g) (hm:m<M):indexAddr prog 139 (mkV k M) (KN m)=some (aP (mkV k M) (m*4)):=by
 obtain⟨cs,h1,_⟩:=t
 exact h1.sl.idx Bg (k:=.i64) hm
theorem lC.len (t:lC H k M g) (h':IH):ot prog h' 139 (mkV k M)=some (KN M):=by
 obtain⟨cs,h1,_⟩:=t
 exact h1.sl.len Cu h'
variable {x4 x2 x1 x3:Value}{z:Rat}
theorem lC.set (t:lC H k M g) (hm:m<M) (p:bt H (.agg #[x1,x2,x3,x4]) z) (hc:([x1,x2,x3,x4]:List Value).all aB=true) :
  ∃cs' c,H.ext.get k=some (.cells c 4 none)∧store prog H 137 (aP (mkV k M) (m*4)) (.agg #[x1,x2,x3,x4])=some (H.put k (.cells cs' 4 none))∧lC (H.put k (.cells cs' 4 none)) k M (fun c=>if c=m then z else g c):=by
 obtain⟨cs,h1,h2⟩:=t
 obtain⟨s1,s2⟩:=h1.set (P:=prog) (t:=137) tC hm (x:=.agg #[x1,x2,x3,x4]) (xs:=[x1,x2,x3,x4]) rfl rfl hc
 have hl:=h1.len
 refine⟨_,cs,h1.got,s1,_,s2,fun c hc=>?_⟩
 by_cases e:c=m
 ·subst e
  simp only[if_true]
  exact lG.set (by omega) (p.BW h1.got (by decide) _)
 ·simp only[if_neg e]
  exact((h2 c hc).mono fun _ p=>p.BW h1.got (by decide) _).other (by omega) e
theorem Tab.ext (t:Tab H n0 n1 b N M r q) (e:Ext H H'):Tab H' n0 n1 b N M r q :=
 ⟨t.lo,t.ob.ext e,t.lr,t.inj,fun j hj=>(t.row j hj).ext e⟩
theorem Tab.up {n2:Nat} (t:Tab H n0 n1 b N M r q) (h:n1≤n2):Tab H n0 n2 b N M r q :=
 ⟨⟨t.lo.1,Nat.lt_of_lt_of_le t.lo.2 h⟩,t.ob,fun j hj=>⟨(t.lr j hj).1,Nat.lt_of_lt_of_le (t.lr j hj).2.1 h,(t.lr j hj).2.2⟩,t.inj,t.row⟩
theorem Tab.congr {q':Nat→Nat→Rat} (t:Tab H n0 n1 b N M r q) (h : ∀j m,j<N→m<M→q j m=q' j m):Tab H n0 n1 b N M r q' :=
 ⟨t.lo,t.ob,t.lr,t.inj,fun j hj=>(t.row j hj).congr fun m hm=>h j m hj hm⟩
theorem Tab.put (t:Tab H n0 n1 b N M r q) (hj:H.ext.get j=some (.cells c e f)) (he:e≠1) (hk:j<n0∨n1≤j) (o:bI):Tab (H.put j o) n0 n1 b N M r q:=by
 have hb:=t.lo
 refine⟨t.lo,⟨t.ob.form,t.ob.len,t.ob.size,t.ob.some_,t.ob.old,(ak _ _ (by omega)).trans t.ob.got⟩,t.lr,t.inj,fun i hi=>(t.row i hi).BW hj he ?_ o⟩
 have:=t.lr i hi
 omega
theorem Tab.ldR (t:Tab H n0 n1 b N M r q) {h':IH} (e:Ext H h') (hj:j<N):load prog h' 139 (aP (mkV b N) j)=some (mkV (r j) M):=by
 have hl:=t.ob.len
 rw[(t.ob.ext e).sl.ld (aK.refl h') (by omega) yC,List.getElem?_map,List.getElem?_range hj]
 rfl
theorem Tab.idx (t:Tab H n0 n1 b N M r q) (hj:j<N):indexAddr prog 147 (mkV b N) (KN j)=some (aP (mkV b N) j):=by
 have:=t.ob.sl.idx Na (P:=prog) (k:=.i64) hj
 rwa [Nat.mul_one] at this
theorem Tab.len (t:Tab H n0 n1 b N M r q) (h':IH):ot prog h' 147 (mkV b N)=some (KN N) :=
 t.ob.sl.len QG h'
theorem Tab.set (t:Tab H n0 n1 b N M r q) (hj:j<N) (hm:m<M) (p:bt H (.agg #[x1,x2,x3,x4]) z) (hc:([x1,x2,x3,x4]:List Value).all aB=true) :
  ∃cs' c,H.ext.get (r j)=some (.cells c 4 none)∧store prog H 137 (aP (mkV (r j) M) (m*4)) (.agg #[x1,x2,x3,x4])=some (H.put (r j) (.cells cs' 4 none))∧Tab (H.put (r j) (.cells cs' 4 none)) n0 n1 b N M r (fun a c=>if a=j∧c=m then z else q a c):=by
 obtain⟨cs',c,g,s1,s2⟩:=(t.row j hj).set hm p hc
 have hr:=t.lr j hj
 refine⟨cs',c,g,s1,t.lo,⟨t.ob.form,t.ob.len,t.ob.size,t.ob.some_,t.ob.old,(ak _ _ (Ne.symm hr.2.2)).trans t.ob.got⟩,t.lr,t.inj,fun i hi=>?_⟩
 by_cases e:i=j
 ·subst e
  exact s2.congr fun m' _=>by
   by_cases d:m'=m
   ·simp[d]
   ·simp[d]
 ·exact((t.row i hi).BW g (by decide) (fun x=>e (t.inj i j hi hj x)) _).congr fun m' _=>by simp only[if_neg (show ¬(i=j∧m'=m) from fun x=>e x.1)]
end
structure tv (H:IH) (v:Value) (N M:Nat) (rv:Nat→Value) (q:Nat→Nat→Rat):Prop where
 sl:bH H 1 v N ((List.range N).map rv)
 row : ∀j,j<N→oz bt H (rv j) ((List.range M).map (q j))
section
variable {H H':IH} {v:Value} {N M:Nat} {rv:Nat→Value} {q:Nat→Nat→Rat}
theorem tv.aa (t:tv H v N M rv q) (k:aK H H'):tv H' v N M rv q:=⟨t.sl.aa k,fun j hj=>(t.row j hj).aa hI k⟩
variable {j:Nat}
theorem tv.ldR (t:tv H v N M rv q) {h':IH} (e:Ext H h') (hj:j<N):load prog h' 139 (aP v j)=some (rv j):=by
 rw[t.sl.ld e.aa (by simp;exact hj) yC,List.getElem?_map,List.getElem?_range hj]
 rfl
theorem tv.idx (t:tv H v N M rv q) (hj:j<N):indexAddr prog 147 v (KN j)=some (aP v j):=by
 have:=t.sl.idx Na (P:=prog) (k:=.i64) hj
 rwa [Nat.mul_one] at this
theorem tv.lenR (t:tv H v N M rv q) (hj:j<N) (h':IH):ot prog h' 139 (rv j)=some (KN M):=by
 obtain⟨cs,s,_,_⟩:=t.row j hj
 have:=s.len Cu (P:=prog) h'
 rwa [List.length_map,List.length_range] at this
variable {m:Nat}
theorem tv.idxR (t:tv H v N M rv q) (hj:j<N) (hm:m<M):indexAddr prog 139 (rv j) (KN m)=some (aP (rv j) (m*4)):=by
 obtain⟨cs,s,_,_⟩:=t.row j hj
 exact s.idx Bg (k:=.i64) (by rw[List.length_map,List.length_range];exact hm)
theorem tv.ldK (t:tv H v N M rv q) (hj:j<N) (hm:m<M) : ∃a s b u,(∀h',Ext H h'→load prog h' 137 (aP (rv j) (m*4))=some (.agg #[a,s,b,u]))∧bt H (.agg #[a,s,b,u]) (q j m):=by
 obtain⟨a,s,b,u,h1,h2⟩:=(t.row j hj).nT hI (i:=m) (q:=q j m) (by rw[List.getElem?_map,List.getElem?_range hm];rfl) BN tC (P:=prog)
 exact⟨a,s,b,u,fun h' e=>h1 h' e.aa,h2⟩
theorem lC.el {k:Nat} {g:Nat→Rat} (t:lC H k M g) (hM:M≤1000):oz bt H (mkV k M) ((List.range M).map g):=by
 obtain⟨cs,h1,h2⟩:=t
 refine⟨cs,by simpa using h1.sl,F0 (by simpa using h1.len) fun j q hj=>?_,by simp;omega⟩
 have hjm:j<M:=by have:=(List.getElem?_eq_some_iff.1 hj).1;simpa using this
 rw[List.getElem?_map,List.getElem?_range hjm] at hj
 cases hj
 exact h2 j hjm
theorem Tab.toR {n0 n1 b:Nat} {r:Nat→Nat} (t:Tab H n0 n1 b N M r q) (hM:M≤1000):tv H (mkV b N) N M (fun j=>mkV (r j) M) q :=
 ⟨t.ob.sl,fun j hj=>(t.row j hj).el hM⟩
end
open Nat renaming reduceAdd→zA,reduceEqDiff→zE
set_option maxHeartbeats 16000000
def qq (N M i:Nat) (r:Nat→Nat):List Value:=(List.range N).map fun j=>if j<i then mkV (r j) M else .slice none 0 0
theorem N4 (N M:Nat) (r:Nat→Nat):qq N M 0 r=bB N [.slice none 0 0]:=by
 rw[Ak]
 unfold qq
 refine List.ext_getElem (by simp) fun i h1 h2=>?_
 simp
variable {M N:Nat}{r:Nat→Nat}{i:Nat}
theorem Qw {k:Nat} (hi:i<N):IH.aJ (qq N M i r) (i*1) [mkV k M]=qq N M (i+1) (fun j=>if j=i then k else r j):=by
 rw[Nat.mul_one,gS (by simp[qq];omega)]
 unfold qq
 refine List.ext_getElem (by simp) fun j h1 h2=>?_
 simp only[List.getElem_set,List.getElem_map,List.getElem_range]
 by_cases e:i=j
 ·subst e
  simp
 ·rw[if_neg e,if_neg (c:=j=i) (Ne.symm e)]
  by_cases c:j<i
  ·rw[if_pos c,if_pos (by omega)]
  ·rw[if_neg c,if_neg (by omega)]
theorem Uh (N M i:Nat) (r:Nat→Nat):Ur (qq N M i r):=fun x hx=>by
 unfold qq at hx
 obtain⟨j,_,rfl⟩:=List.mem_map.1 hx
 split
 ·exact⟨_,_,_,rfl⟩
 ·exact⟨_,_,_,rfl⟩
theorem zR (N M i:Nat) (r:Nat→Nat):(qq N M i r).length=N:=by simp[qq]
structure K4 (H:IH) (b N M i:Nat) (r:Nat→Nat):Prop where
 ob:rU H 1 b (mkV b N) N (qq N M i r)
 lr : ∀j,j<i→b<r j∧r j<H.n
 inj : ∀j k,j<i→k<i→r j=r k→j=k
 row : ∀j,j<i→lC H (r j) M fun _=>0
variable {H:IH}{b:Nat}
theorem K4.ext {H':IH} (t:K4 H b N M i r) (e:Ext H H'):K4 H' b N M i r :=
 ⟨t.ob.ext e,fun j hj=>⟨(t.lr j hj).1,Nat.lt_of_lt_of_le (t.lr j hj).2 e.n⟩,t.inj,fun j hj=>(t.row j hj).ext e⟩
theorem K4.full (t:K4 H b N M N r):Tab H b H.n b N M r fun _ _=>0:=by
 refine⟨⟨Nat.le_refl _,t.ob.old⟩,?_,fun j hj=>⟨Nat.le_of_lt (t.lr j hj).1,(t.lr j hj).2,Nat.ne_of_gt (t.lr j hj).1⟩,t.inj,t.row⟩
 have:qq N M N r=(List.range N).map fun j=>mkV (r j) M:=by
  unfold qq
  refine List.map_congr_left fun j hj=>?_
  rw[if_pos (List.mem_range.1 hj)]
 rw[←this]
 exact t.ob
theorem Eh (o:rU H 1 b (mkV b N) N (qq N M (i+1) r)) (hi:i<N):load prog H 139 (aP (mkV b N) i)=some (mkV (r i) M):=by
 have l2:=o.len
 rw[o.sl.ld (aK.refl H) (by omega) yC]
 unfold qq
 rw[List.getElem?_map,List.getElem?_range hi]
 simp
theorem Gg {h:IH} (hN:0<N) (hN1:N≤1000) (hM:0<M) (hM1:M≤1000) :
  WV prog (.func (.func 178) #[] #[]) [KN N,KN M] h fun v h'=>Ext h h' ∧ ∃b r,h.n≤b∧v=mkV b N∧Tab h' b h'.n b N M r fun _ _=>0:=by
 refine enter (nt:=38) (rs:=[.tmp 4]) Proofs.Tryz.func178 rfl rfl rfl (by simp) ?_
 simp -dsimp (disch:=omega) only[wpS,zE,zA,ZaU,Za1]
 obtain⟨v5,hv5⟩:=aT (mkV h.n N)
 obtain⟨H1,hH1⟩:=aT (h.new (.cells (bB N [.slice none 0 0]) 1 none))
 have E1:Ext h H1:=by rw[hH1];exact(Ext.refl h).new _
 have n1:H1.n=h.n+1:=by rw[hH1];rfl
 have r1:rU H1 1 h.n v5 N (qq N M 0 fun _=>0):=⟨hv5,by rw[zR,Nat.mul_one],by omega,hN,by omega,by rw[hH1,N4];simp (disch:=omega) only[ah]⟩
 rw[←hH1]
 have t1:K4 H1 h.n N M 0 fun _=>0:=⟨hv5▸r1,fun j hj=>by omega,fun j k hj=>by omega,fun j hj=>by omega⟩
 clear hH1 r1
 refine loop (fun m fr hh => ∃(i:Nat) (r:Nat→Nat),i+m=N∧Ext h hh∧K4 hh h.n N M i r∧ab fr 1=some (KN M)∧ab fr 5=some (mkV h.n N)∧ab fr 11=some (KN N)∧ab fr 12=some (KN i)) N
  ⟨0,fun _=>0,by omega,E1,t1,by simp[mkV]⟩ ?_
 clear t1 E1 n1
 rintro m fr hh ⟨i,r,him,hE,t,f1,f5,f11,f12⟩
 simp -dsimp (disch:=omega) only[wpS,f11,f12]
 refine au ?_ ?_<;>intro hc<;>simp only[decide_eq_true_eq,decide_eq_false_iff_not] at hc
 ·have hi:i<N:=by omega
  have nn:=hE.n
  have ob:=t.ob.old
  have E1:Ext hh (hh.new (.cells (bB M ZR) 4 none)):=(Ext.refl hh).new _
  have t2:=t.ext E1
  have ol:=t2.ob.len
  have ix:indexAddr prog 147 (mkV h.n N) (KN i)=some (aP (mkV h.n N) i):=by
   have:=t.ob.sl.idx Na (P:=prog) (k:=.i64) hi
   rwa [Nat.mul_one] at this
  obtain⟨s1,s2⟩:=t2.ob.set (P:=prog) (t:=139) Wg hi (x:=mkV hh.n M) (xs:=[mkV hh.n M]) rfl rfl (by simp[mkV,aB])
  rw[Qw hi] at s1 s2
  rw[Nat.mul_one] at s1
  have s1':store prog (hh.new (.cells (bB M ZR) 4 none)) 139 (aP (mkV h.n N) i) (.slice (some ⟨2*hh.n,0,none⟩) M (2*M+1))=_:=s1
  obtain⟨H2,hH2⟩:=aT ((hh.new (.cells (bB M ZR) 4 none)).put h.n (.cells (qq N M (i+1) fun j=>if j=i then hh.n else r j) 1 none))
  rw[←hH2] at s1' s2
  have E2:Ext h H2:=by rw[hH2];exact(hE.trans E1).put (Nat.le_refl _) _
  have n2:H2.n=hh.n+1:=by rw[hH2];rfl
  have g2:H2.ext.get hh.n=some (.cells (bB M ZR) 4 none):=by rw[hH2,ak _ _ (by omega)];simp (disch:=omega) only[ah]
  have rw2 : ∀j,j<i→lC H2 (r j) M fun _=>0:=fun j hj=>by
   have lj:=t2.lr j hj
   obtain⟨cs,c1,c2⟩:=t2.row j hj
   rw[hH2]
   exact⟨cs,⟨c1.form,c1.len,c1.size,c1.some_,c1.old,(ak _ _ (by omega)).trans c1.got⟩,fun m hm=>(c2 m hm).mono fun _ p=>p.UG t2.ob.got (Uh _ _ _ _) (by rw[zR,zR])⟩
  have lr2 : ∀j,j<i→h.n<r j∧r j<hh.n:=fun j hj=>t.lr j hj
  obtain⟨r',hr'⟩ : ∃f,f=(fun j=>if j=i then hh.n else r j):=⟨_,rfl⟩
  rw[←hr'] at s2 hH2
  have ri:r' i=hh.n:=by rw[hr'];simp
  have rj : ∀j,j<i→r' j=r j:=fun j hj=>by rw[hr'];simp only[if_neg (show ¬j=i by omega)]
  have ld2:=Eh s2 hi
  rw[ri] at ld2
  have r2:rU H2 4 hh.n (mkV hh.n M) M (bB M ZR):=⟨rfl,by rw[He];rfl,by omega,hM,by omega,g2⟩
  have Vc:ot prog H2 139 (mkV hh.n M)=some (KN M):=r2.sl.len Cu H2
  clear hH2 g2 t2 s1
  simp -dsimp (disch:=omega) only[wpS,wpT,zE,ZaV,f1,f5,f12,ix,s1',ld2,Vc]
  refine loop (fun m2 fr H => ∃(j:Nat) (cs:List Value),j+m2=M∧Ext h H∧hh.n<H.n∧rU H 1 h.n (mkV h.n N) N (qq N M (i+1) r')∧(∀j,j<i→lC H (r j) M fun _=>0)∧rU H 4 hh.n (mkV hh.n M) M cs∧(∀m,m<j→lG bt H cs m 0) ∧
    ab fr 1=some (KN M)∧ab fr 5=some (mkV h.n N)∧ab fr 6=some (KN i)∧ab fr 11=some (KN N)∧ab fr 12=some (KN i)∧ab fr 24=some (KN M)∧ab fr 25=some (KN j)) M
   ⟨0,_,by omega,E2,by omega,s2,rw2,r2,fun m hm=>by omega,by simp[f1,f5,f11,f12]⟩ ?_
  clear E2 n2 s2 rw2 r2 s1' ld2 Vc f1 f5 f11 f12 E1 hr'
  rintro m2 fr H ⟨j,cs,hjm,E,nH,o,rows,rb,el,f1,f5,f6,f11,f12,f24,f25⟩
  simp -dsimp (disch:=omega) only[wpS,f24,f25]
  refine au ?_ ?_<;>intro hc2<;>simp only[decide_eq_true_eq,decide_eq_false_iff_not] at hc2
  ·have hj:j<M:=by omega
   have ld3:=Eh o hi
   rw[ri] at ld3
   simp -dsimp (disch:=omega) only[wpS,wpT,zE,f25]
   refine drawn [(3,[7])] (by kernel_rfl) (by kernel_rfl) rfl ?_
   simp -dsimp (disch:=omega) only[wpS,zE,f5,f6,ix,ld3]
   refine call (fe 0 ⟨by omega,by omega⟩) ?_
   rintro z h4 ⟨X4,p4⟩
   have m4:=X4.n
   have o4:=o.ext X4
   have ld4:=Eh o4 hi
   rw[ri] at ld4
   obtain⟨x1,x2,x3,x4,rfl,_,_,d1,o1,d2,o2,o3,o5⟩:=p4.parts
   have rb4:=rb.ext X4
   have rl:=rb4.len
   have ixr:indexAddr prog 139 (mkV hh.n M) (KN j)=some (aP (mkV hh.n M) (j*4)):=rb4.sl.idx Bg (k:=.i64) hj
   obtain⟨u1,u2⟩:=rb4.set (P:=prog) (t:=137) tC hj (x:=.agg #[x1,x2,x3,x4]) (xs:=[x1,x2,x3,x4]) rfl rfl (by simp[o1,o2,o3,o5])
   simp -dsimp (disch:=omega) only[wpS,zE,ixr,u1]
   refine⟨ad rfl rfl rfl rfl (ai rfl ld3 ld4),?_⟩
   simp -dsimp (disch:=omega) only[wpS,wpT,zE,zA,f25]
   refine⟨m2 - 1,by omega,j+1,_,by omega,(E.trans X4).put (by have:=hE.n;omega) _,by simp only[aM];omega,⟨o4.form,o4.len,o4.size,o4.some_,o4.old,(ak _ _ (by omega)).trans o4.got⟩,fun k hk=>((rows k hk).ext X4).BW rb4.got (by decide) (by have:=t.lr k hk;omega) _,u2,fun m hm=>?_,by simp[f1,f5,f6,f11,f12,f24]⟩
   by_cases e:m=j
   ·subst e
    exact lG.set (by omega) (p4.BW rb4.got (by decide) _)
   ·exact((el m (by omega)).mono fun _ p=>(p.aa X4.aa).BW rb4.got (by decide) _).other (by omega) e
  ·obtain rfl:j=M:=by omega
   simp -dsimp (disch:=omega) only[wpS,wpT,zE,f12]
   refine⟨m - 1,by omega,i+1,r',by omega,E,⟨o,fun k hk=>?_,fun k l hk hl h=>?_,fun k hk=>?_⟩,by simp[f1,f5,f11]⟩
   ·by_cases e:k=i
    ·subst e;rw[ri];exact⟨by omega,by omega⟩
    ·rw[rj k (by omega)]
     have:=lr2 k (by omega)
     exact⟨this.1,by omega⟩
   ·by_cases e:k=i
    ·by_cases e2:l=i
     ·omega
     ·rw[e,ri,rj l (by omega)] at h
      have:=lr2 l (by omega)
      omega
    ·by_cases e2:l=i
     ·rw[e2,ri,rj k (by omega)] at h
      have:=lr2 k (by omega)
      omega
     ·rw[rj k (by omega),rj l (by omega)] at h
      exact t.inj k l (by omega) (by omega) h
   ·by_cases e:k=i
    ·subst e;rw[ri];exact⟨cs,rb,el⟩
    ·rw[rj k (by omega)];exact rows k (by omega)
 ·obtain rfl:i=N:=by omega
  simp -dsimp (disch:=omega) only[wpS,wpT,zE,f5]
  exact⟨hE,h.n,r,Nat.le_refl _,rfl,t.full⟩
end Go.Id
namespace Go.Id

open Go

theorem ZP:H8=2 ^ 511:=by unfold H8;decide +kernel


theorem T0 {n:Nat} (hn:n<H8):wdI n=(n:Int):=by unfold wdI;rw[if_pos hn]
theorem yE.rat {h:IH} {v:Value} {n d:Nat} (p:yE h v (wdI n) (wdI d)) (ok:okS n d):fD h v (rOf (n,d)):=by
 obtain⟨e1,e2⟩:=cZ (p:=(n,d)) ok
 unfold fD
 rw[e1,e2];exact p
open Go.Proofs.Tryz (prog)
open Nat renaming reduceAdd→zA,reduceEqDiff→zE,reduceLeDiff→zL
set_option maxHeartbeats 16000000
theorem AN {h:IH}:WV prog (.func (.func 163) #[] #[]) [] h fun r h'=>Ext h h'∧fD h' r 0:=by
 have E1:Ext h (h.new (.cells ZR 0 none)):=(Ext.refl h).new _
 have g1:(h.new (.cells ZR 0 none)).ext.get h.n=some (.cells ZR 0 none):=by simp (disch:=omega) only[ah]
 refine enter (nt:=2) (rs:=[.cell 0 177]) Proofs.Tryz.func163 rfl rfl rfl (by simp) ?_
 simp -dsimp (disch:=omega) only[wpS,kQ]
 refine call (vu 0 1 ⟨by omega,by omega⟩ ⟨by omega,by omega⟩ (by omega)) ?_
 rintro r h1 ⟨X1,p1⟩
 rw[Rat.zero_divInt] at p1
 obtain⟨a3,s3,b3,t3,rfl,_,_,d1,o1,d2,o2,o3,o4⟩:=p1.parts
 have k1:=X1.kept (by simp) g1
 have m1:=X1.n
 simp only[aH] at m1
 simp -dsimp (disch:=omega) only[wpS,wpT,zE,zL,zA,jl,jK,k1,o1,o2,o3,o4,fF]
 exact⟨(E1.trans X1).put (by omega) _,p1.aa ((aK.refl _).put k1 _)⟩
open Classical in
theorem O3 {h:IH} {v:Value} {l:List (Nat×Nat)} (hv:gw h v l) :
  WV prog (.func (.func 133) #[] #[]) [v] h fun r h'=>Ext h h'∧r=.bool (decide (∀p∈l,okS p.1 p.2)):=by
 have hlb:=hv.2.1
 refine enter (nt:=16) (rs:=[.tmp 2]) Proofs.Tryz.func133 rfl rfl rfl (by simp) ?_
 simp -dsimp (disch:=omega) only[wpS]
 refine loop (fun m fr h1 => ∃i:Nat,i+m=l.length∧Ext h h1∧(∀(j:Nat) p,j<i→l[j]?=some p→okS p.1 p.2)∧ab fr 0=some v∧ab fr 3=some (KN i)) l.length
  ⟨0,by omega,Ext.refl _,fun j p hj=>by omega,by simp⟩ ?_
 rintro m fr h1 ⟨i,him,hE,hok,f0,f3⟩
 simp -dsimp (disch:=omega) only[wpS,zE,f0,f3,hv.1.len tZ]
 refine au ?_ ?_<;>intro hc<;>simp only[decide_eq_true_eq,decide_eq_false_iff_not] at hc
 ·have hi:i<l.length:=by omega
  obtain⟨p,hp⟩:=iC (l:=l) (i:=i) hi
  have hpm:=List.mem_of_getElem? hp
  obtain⟨w1,w2⟩:=hv.2.2 p hpm
  simp -dsimp (disch:=omega) only[wpS,wpT,zE,f0,f3,hv.1.idx xl hi,hv.ld hE.aa hp]
  refine call (Hg p.1 p.2 w1 w2) ?_
  rintro _ h3 ⟨hE2,rfl⟩
  have E2:=hE.trans hE2
  by_cases hk:okS p.1 p.2
  ·rw[decide_eq_true hk]
   simp -dsimp (disch:=omega) only[wpS,wpT,zE,f3]
   refine⟨m - 1,by omega,i+1,by omega,E2,?_,by simp[f0]⟩
   intro j q hj hq
   by_cases hji:j=i
   ·subst hji;rw[hp] at hq;cases hq;exact hk
   ·exact hok j q (by omega) hq
  ·rw[decide_eq_false hk,decide_eq_false (show ¬∀p∈l,okS p.1 p.2 from fun eF=>hk (eF p hpm))]
   simp -dsimp (disch:=omega) only[wpS,wpT,zE]
   exact E2
 ·rw[decide_eq_true (show ∀p∈l,okS p.1 p.2 from fun p hp=>by
   obtain⟨j,hj⟩:=List.getElem?_of_mem hp
   exact hok j p (by have:=(List.getElem?_eq_some_iff.1 hj).1;omega) hj)]
  simp -dsimp (disch:=omega) only[wpS,wpT]
  exact hE
open Classical in
theorem O9 {h:IH} {v:Value} {l:List (Nat×Nat)} (hv:gw h v l) (ho : ∀p∈l,okS p.1 p.2) (hl:l.length≤1000) :
  WV prog (.func (.func 134) #[] #[]) [v] h fun r h'=>Ext h h'∧r=.bool (decide (mB l)):=by
 have hq0 : ∀q∈l.map rOf,QB 512 q:=by
  intro q hq
  obtain⟨p,hp,rfl⟩:=List.mem_map.1 hq
  exact iO (hv.2.2 p hp).1 (hv.2.2 p hp).2 (ho p hp)
 have hQ : ∀i,i≤l.length→QB (i*(512+1)) (gi ((l.take i).map rOf)):=by
  intro i hi
  have:=QB.gi (k:=512) hq0 i (by simpa using hi)
  rwa [←List.map_take] at this
 refine enter (nt:=28) (rs:=[.tmp 2]) Proofs.Tryz.func134 rfl rfl rfl (by simp) ?_
 simp -dsimp (disch:=omega) only[wpS]
 refine call AN ?_
 rintro z h1 ⟨X1,p1⟩
 have m1:=X1.n
 obtain⟨a3,s3,b3,t3,rfl,_,_,d1,o1,d2,o2,o3,o4⟩:=p1.parts
 simp -dsimp (disch:=omega) only[wpS,wpT,zE,zL,zA,kQ,jl,o1,o2,o3,o4]
 have Ex2:Ext h1 ((h1.new (.cells ZR 0 none)).put h1.n (.cells [a3,s3,b3,t3] 0 none)):=((Ext.refl h1).new _).put (Nat.le_refl _) _
 refine loop (fun m fr hh => ∃(i:Nat) (a s b t:Value),i+m=l.length∧Ext h hh∧h1.n<hh.n∧hh.ext.get h1.n=some (.cells [a,s,b,t] 0 none)∧fD hh (.agg #[a,s,b,t]) (gi ((l.take i).map rOf))∧(∀(j:Nat) p,j<i→l[j]?=some p → ¬yN p) ∧
   ab fr 0=some v∧ab fr 3=some (ptr (2*h1.n) 0)∧ab fr 4=some (KN i)) l.length
  ⟨0,a3,s3,b3,t3,by omega,X1.trans Ex2,by simp,by simp (disch:=omega) only[ae],p1.aa Ex2.aa,fun j p hj=>by omega,by simp⟩ ?_
 clear p1 Ex2
 rintro m fr hh ⟨i,a,s,b,t,him,hE,hn,hg5,hp,hno,f0,f3,f4⟩
 simp -dsimp (disch:=omega) only[wpS,zE,f0,f4,hv.1.len tZ]
 refine au ?_ ?_<;>intro hc<;>simp only[decide_eq_true_eq,decide_eq_false_iff_not] at hc
 ·have hi:i<l.length:=by omega
  obtain⟨q,hq⟩:=iC (l:=l) (i:=i) hi
  have hqm:=List.mem_of_getElem? hq
  obtain⟨w1,w2⟩:=hv.2.2 q hqm
  have hoq:=ho q hqm
  simp -dsimp (disch:=omega) only[wpS,wpT,zE,f0,f4,hv.1.idx xl hi,hv.ld hE.aa hq]
  refine call (An q.1 q.2 w1 w2) ?_
  rintro _ h2 ⟨X2,pp⟩
  have m2:=X2.n
  have p2:=pp.rat hoq
  obtain⟨a2,s2,b2,t2,rfl,l1,_,d1,o1,d2,o2,o3,o4⟩:=p2.parts
  have ea2:=l1.co.1
  rw[show(rOf (q.1,q.2)).num=wdI q.1 from(cZ hoq).1] at ea2
  have gs:=X2.kept hn hg5
  obtain⟨H3,hH3⟩:=aT ((h2.new (.cells ZR 0 none)).put h2.n (.cells [a2,s2,b2,t2] 0 none))
  have e3:Ext h2 H3:=by rw[hH3];exact((Ext.refl h2).new _).put (Nat.le_refl _) _
  have n3:H3.n=h2.n+1:=by rw[hH3];rfl
  have g3:H3.ext.get h2.n=some (.cells [a2,s2,b2,t2] 0 none):=by rw[hH3];simp (disch:=omega) only[ae]
  have gs3:=e3.kept (by omega) gs
  have hX:=hE.trans (X2.trans e3)
  by_cases cn:wdI q.1<0
  ·have hr : ¬mB l:=fun hr=>hr.1 q hqm (.inr cn)
   rw[decide_eq_true cn] at ea2
   subst ea2
   rw[decide_eq_false hr]
   have row3 : ∀X,((h2.new (.cells ZR 0 none)).put h2.n (.cells [.bool true,s2,b2,t2] 0 none)).row X=H3.row X:=fun X=>by rw[hH3]
   simp -dsimp (disch:=omega) only[wpS,wpT,zE,zL,zA,kQ,jl,jG,dT,ld4,o1,o2,o3,o4]
   rw[←hH3]
   exact hX
  ·rw[decide_eq_false cn] at ea2
   subst ea2
   simp -dsimp (disch:=omega) only[wpS,wpT,zE,zL,zA,kQ,jl,jG,dT,ld4,o1,o2,o3,o4]
   rw[←hH3]
   clear hH3
   simp -dsimp (disch:=omega) only[wpS,wpT,zE,zL,zA,jK,f3,aj gs3,aj g3,fF]
   have hkb:i*(512+1)+512+1<16000000:=by omega
   refine call (Ap (hp.aa (X2.trans e3).aa) (p2.aa e3.aa) (hQ i (by omega)) (iO w1 w2 hoq) hkb) ?_
   rintro r3 h5 ⟨X5,p5⟩
   have m5:=X5.n
   have eT:gi ((l.take i).map rOf)+rOf (q.1,q.2)=gi ((l.take (i+1)).map rOf):=by rw[eV hq,List.map_append,List.map_cons,List.map_nil,jU]
   rw[eT] at p5
   obtain⟨a4,s4,b4,t4,rfl,_,_,_,o1,_,o2,o3,o4⟩:=p5.parts
   have k5:=X5.kept (by omega) gs3
   simp -dsimp (disch:=omega) only[wpS,wpT,zE,zL,zA,jl,f3,f4,k5,o1,o2,o3,o4]
   refine⟨m - 1,by omega,i+1,a4,s4,b4,t4,by omega,(hX.trans X5).put (by omega) _,by simp only[aM];omega,ae _ _ rfl,p5.aa ((aK.refl _).put k5 _),?_,by simp[f0,f3]⟩
   intro j x hj hx
   by_cases hji:j=i
   ·subst hji;rw[hq] at hx;cases hx;exact fun h=>h.elim (fun h=>h hoq) cn
   ·exact hno j x (by omega) hx
 ·obtain rfl:i=l.length:=by omega
  have hQl:=hQ l.length (Nat.le_refl _)
  rw[List.take_length] at hp hQl
  have hno' : ∀p∈l,¬yN p:=fun p hp=>by
   obtain⟨j,hj⟩:=List.getElem?_of_mem hp
   exact hno j p (by have:=(List.getElem?_eq_some_iff.1 hj).1;omega) hj
  obtain⟨_,_,L1⟩:=ql4 hg5
  have X0:=Ext.refl hh
  simp -dsimp (disch:=omega) only[wpS,wpT]
  refine drawn [(0,[2])] (by kernel_rfl) (by kernel_rfl) rfl ?_
  simp -dsimp (disch:=omega) only[wpS,wpT,zE,zL,zA,jK,f3,aj hg5,fF]
  refine call (vu 1 1 ⟨by omega,by omega⟩ ⟨by omega,by omega⟩ (by omega)) ?_
  rintro r6 h6 ⟨X6,p6⟩
  rw[show Rat.divInt 1 1=(1:Rat) from rfl] at p6
  simp -dsimp (disch:=omega) only[wpS,zE]
  refine call (CE (hp.aa X6.aa) p6 hQl (QB.int (k:=64) (n:=1) (by decide)) (by omega)) ?_
  rintro _ h7 ⟨X7,rfl⟩
  have XX:=(hE.trans X6).trans X7
  by_cases c1:gi (l.map rOf)=1
  ·rw[decide_eq_true (show mB l from⟨hno',c1⟩),c1,if_neg (by exact Rat.lt_irrefl),if_pos rfl]
   simp -dsimp (disch:=omega) only[wpS,wpT,zE]
   refine⟨ad rfl rfl rfl rfl (aW (H0:=hh) f3 (by omega) X0 X6 L1),?_⟩
   simp -dsimp (disch:=omega) only[wpS,wpT,zE,zA]
   exact XX
  ·rw[decide_eq_false (show ¬mB l from fun h=>c1 h.2)]
   obtain⟨z,hz,hz0⟩ : ∃z:Int,(if gi (l.map rOf)<1 then (-1:Int) else if gi (l.map rOf)=1 then 0 else 1)=z∧z≠0:=⟨_,rfl,by split<;>simp[]⟩
   rw[hz]
   have d:(z == 0)=false:=by simpa using hz0
   simp -dsimp (disch:=omega) only[wpS,zE,d]
   refine⟨ad rfl rfl rfl rfl (aW (H0:=hh) f3 (by omega) X0 X6 L1),?_⟩
   simp -dsimp (disch:=omega) only[wpS,wpT,zE,zA]
   exact XX
open Classical in
theorem O7 {h:IH} {v:Value} {ll:List (List (Nat×Nat))} (hv:ji h v ll) :
  WV prog (.func (.func 52) #[] #[]) [v] h fun r h'=>Ext h h'∧r=.bool (decide (dK ll)):=by
 obtain⟨_,_,hlen⟩:=hv.co
 have hlb:=hv.choose_spec.2.1
 refine enter (nt:=42) (rs:=[.tmp 2]) Proofs.Tryz.func52 rfl rfl rfl (by simp) ?_
 by_cases a1:ll.length<1
 ·rw[decide_eq_false (show ¬dK ll from fun hk=>by have:=hk.1;omega)]
  simp -dsimp (disch:=omega) only[wpS,wpT,zE,hlen]
  exact Ext.refl _
 by_cases a2:60<ll.length
 ·rw[decide_eq_false (show ¬dK ll from fun hk=>by have:=hk.2.1;omega)]
  simp -dsimp (disch:=omega) only[wpS,wpT,zE,hlen]
  exact Ext.refl _
 simp -dsimp (disch:=omega) only[wpS,wpT,zE,hlen]
 refine loop (fun m fr h1 => ∃i:Nat,i+m=ll.length∧Ext h h1∧(∀(j:Nat) x,j<i→ll[j]?=some x→x.length=ll.length∧mB x)∧ab fr 0=some v∧ab fr 3=some (KN i)) ll.length
  ⟨0,by omega,Ext.refl _,fun j p hj=>by omega,by simp⟩ ?_
 rintro m fr h1 ⟨i,him,hE,hok,f0,f3⟩
 simp -dsimp (disch:=omega) only[wpS,zE,f0,f3,hlen]
 refine au ?_ ?_<;>intro hc<;>simp only[decide_eq_true_eq,decide_eq_false_iff_not] at hc
 ·have hi:i<ll.length:=by omega
  obtain⟨x,hx⟩:=iC (l:=ll) (i:=i) hi
  have hxm:=List.mem_of_getElem? hx
  obtain⟨w,l1,l2,l3⟩:=hv.at hE.aa hx
  have lx:=l2.2.1
  by_cases cl:x.length=ll.length
  case neg =>
   rw[decide_eq_false (show ¬dK ll from fun hk=>cl (hk.2.2 x hxm).1)]
   have d:(((x.length:Nat):Int) != ((ll.length:Nat):Int))=true:=by simpa using fun h=>cl (by omega)
   simp -dsimp (disch:=omega) only[wpS,wpT,zE,f0,f3,l1,l3,l2.1.len tZ,hlen,d]
   exact hE
  have d:(((x.length:Nat):Int) != ((ll.length:Nat):Int))=false:=by simp[cl]
  simp -dsimp (disch:=omega) only[wpS,wpT,zE,f0,f3,l1,l3,l2.1.len tZ,hlen,d]
  refine call (O3 l2) ?_
  rintro _ h2 ⟨X2,rfl⟩
  have E2:=hE.trans X2
  by_cases ca : ∀p∈x,okS p.1 p.2
  case neg =>
   rw[decide_eq_false ca,decide_eq_false (show ¬dK ll from fun hk=>ca fun p hp=>(EP ((hk.2.2 x hxm).2.1 p hp)).1)]
   simp -dsimp (disch:=omega) only[wpS,wpT,zE]
   exact E2
  rw[decide_eq_true ca]
  obtain⟨w',l1',l2',l3'⟩:=hv.at E2.aa hx
  simp -dsimp (disch:=omega) only[wpS,wpT,zE,f0,f3,l1',l3']
  refine call (O9 l2' ca (by omega)) ?_
  rintro _ h4 ⟨X4,rfl⟩
  have E4:=E2.trans X4
  by_cases cr:mB x
  ·rw[decide_eq_true cr]
   simp -dsimp (disch:=omega) only[wpS,wpT,zE,f3]
   refine⟨m - 1,by omega,i+1,by omega,E4,?_,by simp[f0]⟩
   intro j q hj hq
   by_cases hji:j=i
   ·subst hji;rw[hx] at hq;cases hq;exact⟨cl,cr⟩
   ·exact hok j q (by omega) hq
  ·rw[decide_eq_false cr,decide_eq_false (show ¬dK ll from fun hk=>cr (hk.2.2 x hxm).2)]
   simp -dsimp (disch:=omega) only[wpS,wpT,zE]
   exact E4
 ·rw[decide_eq_true (show dK ll from⟨by omega,by omega,fun x hx=>by
   obtain⟨j,hj⟩:=List.getElem?_of_mem hx
   exact hok j x (by have:=(List.getElem?_eq_some_iff.1 hj).1;omega) hj⟩)]
  simp -dsimp (disch:=omega) only[wpS,wpT]
  exact hE
end Go.Id
namespace Go.Id
open Go
theorem Acc.XT {h:IH} {n0 sz:Nat} {v:Value} {n:Nat} {cs:List Value} (a:Acc h n0 sz v n cs) {P:Program} {t:TypeId} (hT:aO P t=some sz) {i:Nat} (hi:i<n) {x:Value} {xs:List Value} (hx:x.cells.toList=xs) (hxl:xs.length=sz) (hc:xs.all aB=true) {h0':IH} (e0:Ext h0' h) (hn0:h0'.n≤n0) :
  ∃h',store P h t (aP v (i*sz)) x=some h'∧Acc h' n0 sz v n (IH.aJ cs (i*sz) xs)∧Ext h0' h'∧h'.n=h.n:=by
 obtain⟨hz,hl,⟨rfl,rfl⟩|⟨k,fam,rfl,hn,h1,h2,h3,h4⟩⟩:=a
 ·omega
 ·have hle:i*sz+sz≤cs.length:=by
   rw[hl,←Nat.succ_mul];exact Nat.mul_le_mul_right _ hi
  have hsl:(IH.aJ cs (i*sz) xs).length=n*sz:=by
   simp only[IH.aJ,List.length_append,List.length_take,List.length_drop]
   omega
  have k2:2*k / 2=k:=by omega
  have k1:(2*k % 2 == 1)=false:=by simp
  have hsx:x.cells.size=sz:=by rw[←Array.length_toList,hx,hxl]
  have hst:store P h t (aP (.slice (some ⟨2*k,0,none⟩) n (2*n)) (i*sz)) x=h.wr (2*k) (i*sz) xs:=by
   simp only[aP,Nat.zero_add,store,asAddr,ptr,hT,hx,hsx,hc,beq_self_eq_true,Bool.and_self,cond_true]
  have hle:Nat.ble (i*sz+xs.length) cs.length=true:=by rw[Nat.ble_eq,hxl];exact hle
  rw[hst]
  cases fam with
  | none =>
   refine⟨h.put k (.cells (IH.aJ cs (i*sz) xs) sz none),?_,⟨hz,hsl,.inr ⟨k,none,rfl,hn,h1,h2,ae _ _ rfl,trivial⟩⟩,e0.put (by omega) _,rfl⟩
   ·simp only[IH.wr,k1,k2,h3,hle,cond_true,cond_false];rfl
  | some f =>
   obtain⟨a1,a2,rest,a3,a4⟩:=h4
   refine⟨{ h with ext:=(IH.dJ h.ext (((k :: rest).filter (· != k)))).set k (.cells (IH.aJ cs (i*sz) xs) sz none) },?_,⟨hz,hsl,.inr ⟨k,none,rfl,hn,h1,h2,?_,trivial⟩⟩,⟨e0.n,e0.base,fun j hj=>?_,e0.bP⟩,rfl⟩
   ·simp only[IH.wr,k1,k2,h3,hle,cond_true,cond_false,a3]
   ·simp[Tr.bL]
   ·have hjk:j≠k:=by omega
    rw[Tr.bL,if_neg hjk,ju,if_neg]
    ·exact e0.get j hj
    ·intro hm
     simp only[List.mem_filter,List.mem_cons,bne_iff_ne,ne_eq] at hm
     rcases hm with⟨rfl|hm,hne⟩
     ·exact hne rfl
     ·have:=a4 j hm;omega
end Go.Id
