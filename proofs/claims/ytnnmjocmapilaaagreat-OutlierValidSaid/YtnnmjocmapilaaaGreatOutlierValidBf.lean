/-
  Sums over the paths of a chain, as numbers: what stands before a state and what stands beh
-/
import Derived.Test.YtnnmjocmapilaaaGreatOutlierValidBe
set_option linter.unusedVariables false
set_option linter.unusedSimpArgs false
set_option linter.defProp false
set_option linter.deprecated false
namespace Go.Id
def rs:Nat→(Nat→Rat)→Rat
 | 0,_=>0
 | n+1,g=>rs n g+g n
theorem aX {n:Nat} {f g:Nat→Rat} (h : ∀i,i<n→f i=g i):rs n f=rs n g:=by
 induction n with
 | zero=>rfl
 | succ n ih=>rw[rs,rs,ih (fun i hi=>h i (by omega)),h n (by omega)]
theorem PK (n:Nat) (f g:Nat→Rat):rs n (fun i=>f i+g i)=rs n f+rs n g:=by
 induction n with
 | zero=>rw[rs,rs,rs,Rat.add_zero]
 | succ n ih=>rw[rs,rs,rs,ih];grind
theorem qu (n:Nat) (c:Rat) (f:Nat→Rat):rs n (fun i=>c*f i)=c*rs n f:=by
 induction n with
 | zero=>simp[rs]
 | succ n ih=>rw[rs,rs,ih];grind
theorem oQ (n:Nat):rs n (fun _=>0)=0:=by
 induction n with
 | zero=>rfl
 | succ n ih=>rw[rs,ih];grind
theorem Dp (n m:Nat) (f:Nat→Nat→Rat):rs n (fun i=>rs m (fun j=>f i j))=rs m (fun j=>rs n (fun i=>f i j)):=by
 induction n with
 | zero=>simp only[rs,oQ]
 | succ n ih=>simp only[rs,PK];rw[ih]
theorem FF {n:Nat} {f g:Nat→Rat} (h : ∀i,i<n→f i≤g i):rs n f≤rs n g:=by
 induction n with
 | zero=>simp[rs]
 | succ n ih =>
  have a:=ih (fun i hi=>h i (by omega))
  have b:=h n (by omega)
  rw[rs,rs]
  grind
theorem lE {n:Nat} {f:Nat→Rat} (h : ∀i,i<n→0≤f i):0≤rs n f:=by
 have:=FF (f:=fun _=>0) (g:=f) h
 rwa [oQ] at this
def bN (N:Nat) (p:Nat→Nat→Rat):Nat→Nat→(List Nat→Rat)→Rat
 | 0,_,F=>F []
 | k+1,s,F=>rs N fun j=>p s j*bN N p k j (fun l=>F (j :: l))
section
variable {N:Nat} {p:Nat→Nat→Rat}
theorem fK {k s:Nat} {F G:List Nat→Rat} (h : ∀l,l.length=k→F l=G l):bN N p k s F=bN N p k s G:=by
 induction k generalizing s F G with
 | zero=>exact h [] rfl
 | succ k ih =>
  rw[bN,bN]
  refine aX fun j _=>?_
  rw[ih fun l hl=>h (j :: l) (by rw[List.length_cons,hl])]
theorem iv (k s:Nat) (c:Rat) (F:List Nat→Rat):bN N p k s (fun l=>c*F l)=c*bN N p k s F:=by
 induction k generalizing s F with
 | zero=>rfl
 | succ k ih =>
  rw[bN,bN,←qu]
  refine aX fun j _=>?_
  rw[ih]
  grind
theorem P2 (k s:Nat) (F G:List Nat→Rat):bN N p k s (fun l=>F l+G l)=bN N p k s F+bN N p k s G:=by
 induction k generalizing s F G with
 | zero=>rfl
 | succ k ih =>
  rw[bN,bN,bN,←PK]
  refine aX fun j _=>?_
  rw[ih]
  grind
theorem uK (k s n:Nat) (F:Nat→List Nat→Rat):bN N p k s (fun l=>rs n fun i=>F i l)=rs n fun i=>bN N p k s (F i):=by
 induction n with
 | zero =>
  have:=iv (N:=N) (p:=p) k s 0 (fun _=>0)
  simp only[rs]
  simpa using this
 | succ n ih =>
  simp only[rs]
  rw[P2,ih]
theorem M8 {w:Nat→Rat} (hr : ∀i j,i<N→j<N→w i*p i j=w j*p j i) (j k:Nat) (F:List Nat→Nat→List Nat→Rat) :
  rs N (fun s=>w s*bN N p j s fun b=>bN N p k s fun o=>F b s o)=rs N (fun s=>w s*bN N p (j+k) s fun l=>F ((s :: l).take j).reverse ((s :: l).getD j 0) ((s :: l).drop (j+1))):=by
 induction j generalizing k F with
 | zero =>
  refine aX fun s _=>?_
  rw[Nat.zero_add]
  rfl
 | succ j ih =>
  have e:=ih (k+1) (fun b t o=>F (t :: b) (o.getD 0 0) (o.drop 1))
  have l1:rs N (fun s=>w s*bN N p (j+1) s fun b=>bN N p k s fun o=>F b s o)=rs N (fun t=>w t*bN N p j t fun b=>bN N p (k+1) t fun o=>F (t :: b) (o.getD 0 0) (o.drop 1)):=by
   simp only[bN,←qu,uK]
   rw[Dp]
   refine aX fun t ht=>aX fun s hs=>?_
   have e1:=iv (N:=N) (p:=p) j t (p t s) (fun b=>bN N p k s fun o=>F (t :: b) s o)
   show w s*(p s t*bN N p j t fun b=>bN N p k s fun o=>F (t :: b) s o)=w t*bN N p j t fun b=>p t s*bN N p k s fun o=>F (t :: b) s o
   rw[e1,←Rat.mul_assoc,←Rat.mul_assoc,hr s t hs ht]
  rw[l1,e,show j+1+k=j+(k+1) by omega]
  refine aX fun s _=>?_
  congr 1
  refine fK fun l hl=>?_
  have hj:j<(s :: l).length:=by rw[List.length_cons];omega
  rw[List.getD_eq_getElem?_getD,List.getD_eq_getElem?_getD,List.getElem?_drop,List.drop_drop,Nat.add_zero,←List.getD_eq_getElem?_getD,←List.getD_eq_getElem?_getD]
  congr 1
  rw[List.getD_eq_getElem?_getD,List.getElem?_eq_getElem hj,Option.getD_some,List.take_add_one,List.getElem?_eq_getElem hj,Option.toList_some,List.reverse_append]
  rfl
theorem mK (hp : ∀i j,0≤p i j) {k s:Nat} {F G:List Nat→Rat} (h : ∀l,l.length=k→F l≤G l):bN N p k s F≤bN N p k s G:=by
 induction k generalizing s F G with
 | zero=>exact h [] rfl
 | succ k ih =>
  rw[bN,bN]
  refine FF fun j _=>?_
  exact Rat.mul_le_mul_of_nonneg_left (ih fun l hl=>h (j :: l) (by rw[List.length_cons,hl])) (hp s j)
theorem FP (h1 : ∀i,i<N→rs N (p i)=1) (k:Nat) {s:Nat} (hs:s<N) (c:Rat):bN N p k s (fun _=>c)=c:=by
 induction k generalizing s with
 | zero=>rfl
 | succ k ih =>
  rw[bN,aX (g:=fun j=>c*p s j) (fun j hj=>by rw[ih hj];grind),qu]
  show c*rs N (fun j=>p s j)=c
  rw[h1 s hs]
  grind
end
theorem Z6 (f:Nat→Rat) (P:Nat→Prop) (l:List Nat) (h : ∃s,s∈l∧P s) : ∃s,s∈l∧P s ∧ ∀t,t∈l→P t→f t≤f s:=by
 induction l with
 | nil=>obtain⟨s,hs,_⟩:=h;simp at hs
 | cons a l ih =>
  by_cases hl : ∃s,s∈l∧P s
  ·obtain⟨s,hs,ps,hm⟩:=ih hl
   by_cases c:P a ∧ ¬f a≤f s
   ·refine⟨a,List.mem_cons_self,c.1,fun t ht pt=>?_⟩
    rcases List.mem_cons.1 ht with rfl|ht
    ·exact Rat.le_refl
    ·exact Rat.le_trans (hm t ht pt) (Rat.le_of_lt (Rat.not_le.1 c.2))
   ·refine⟨s,List.mem_cons_of_mem _ hs,ps,fun t ht pt=>?_⟩
    rcases List.mem_cons.1 ht with rfl|ht
    ·exact Classical.byContradiction fun n=>c ⟨pt,n⟩
    ·exact hm t ht pt
  ·obtain⟨s,hs,ps⟩:=h
   rcases List.mem_cons.1 hs with rfl|hs
   ·refine⟨s,List.mem_cons_self,ps,fun t ht pt=>?_⟩
    rcases List.mem_cons.1 ht with rfl|ht
    ·exact Rat.le_refl
    ·exact absurd ⟨t,ht,pt⟩ hl
   ·exact absurd ⟨s,hs,ps⟩ hl
theorem few (f:Nat→Rat) (R:Nat) (l:List Nat):l.countP (fun s=>decide (l.countP (fun t=>decide (f t≤f s))≤R))≤R:=by
 by_cases h : ∃s,s∈l∧l.countP (fun t=>decide (f t≤f s))≤R
 ·obtain⟨s,hs,ps,hm⟩:=Z6 f _ l h
  refine Nat.le_trans (List.countP_mono_left fun t ht pt=>?_) ps
  exact decide_eq_true (hm t ht (of_decide_eq_true pt))
 ·rw[List.countP_eq_zero.2 fun s hs c=>h ⟨s,hs,of_decide_eq_true c⟩]
  omega
theorem PF (n:Nat) (g:Nat→Rat):rs (n+1) g=g 0+rs n fun i=>g (i+1):=by
 induction n with
 | zero=>simp only[rs];grind
 | succ n ih=>rw[rs,ih,rs];grind
theorem PI (q:Nat→Bool) (l:List Nat):rs l.length (fun j=>if q (l.getD j 0) then 1 else 0)=(l.countP q:Rat):=by
 induction l with
 | nil=>rfl
 | cons a l ih =>
  rw[List.length_cons,PF,List.countP_cons]
  simp only[List.getD_cons_zero,List.getD_cons_succ]
  rw[ih]
  by_cases h:q a
  ·simp only[h,if_true]
   push_cast
   grind
  ·rw[if_neg h,if_neg h,Nat.add_zero,Rat.zero_add]
abbrev leF (f:Nat→Rat) (s:Nat) (t:Nat):Bool:=decide (f t≤f s)
theorem RL (f:Nat→Rat) {x:List Nat} {j:Nat} (hj:j<x.length):(x.take j).reverse.countP (leF f (x.getD j 0))+(x.drop (j+1)).countP (leF f (x.getD j 0))+1=x.countP (leF f (x.getD j 0)):=by
 have e:x=x.take j ++ x.getD j 0 :: x.drop (j+1):=by
  rw[List.getD_eq_getElem?_getD,List.getElem?_eq_getElem hj,Option.getD_some,←List.drop_eq_getElem_cons hj,List.take_append_drop]
 obtain⟨z,hz⟩:=aP (x.getD j 0)
 rw[←hz] at e ⊢
 conv=>rhs;rw[e]
 rw[List.countP_append,List.countP_cons_of_pos (p:=leF f z) (decide_eq_true Rat.le_refl),List.countP_reverse]
 omega
section
variable {N:Nat} {p:Nat→Nat→Rat} {w:Nat→Rat}
theorem Qs (hr : ∀i j,i<N→j<N→w i*p i j=w j*p j i) (hp : ∀i j,0≤p i j) (h1 : ∀i,i<N→rs N (p i)=1) (hw : ∀i,0≤w i) (f:Nat→Rat) (k R:Nat) :
  rs (k+1) (fun j=>rs N fun s=>w s*bN N p j s fun b=>bN N p (k - j) s fun o=>if b.countP (leF f s)+o.countP (leF f s)+1≤R then 1 else 0)≤(R:Rat)*rs N w:=by
 have e1 : ∀j,j<k+1→(rs N fun s=>w s*bN N p j s fun b=>bN N p (k - j) s fun o=>if b.countP (leF f s)+o.countP (leF f s)+1≤R then (1:Rat) else 0)=rs N fun s=>w s*bN N p k s fun l=>if (s :: l).countP (leF f ((s :: l).getD j 0))≤R then 1 else 0:=fun j hj=>by
  rw[M8 hr j (k - j) (fun b s o=>if b.countP (leF f s)+o.countP (leF f s)+1≤R then (1:Rat) else 0),show j+(k - j)=k by omega]
  refine aX fun s _=>?_
  congr 1
  refine fK fun l hl=>?_
  rw[RL f (by rw[List.length_cons];omega)]
 rw[aX e1,Dp,←qu]
 refine FF fun s hs=>?_
 rw[qu,←uK]
 have a:bN N p k s (fun l=>rs (k+1) fun j=>if (s :: l).countP (leF f ((s :: l).getD j 0))≤R then (1:Rat) else 0)≤R:=by
  refine Rat.le_trans (mK hp (G:=fun _=>(R:Rat)) fun l hl=>?_) (by rw[FP h1 k hs];exact Rat.le_refl)
  have c:=PI (fun t=>decide ((s :: l).countP (leF f t)≤R)) (s :: l)
  rw[List.length_cons,hl] at c
  simp only[decide_eq_true_eq] at c
  rw[c]
  exact Rat.natCast_le_natCast.2 (few f R (s :: l))
 have b:=Rat.mul_le_mul_of_nonneg_left a (hw s)
 rw[Rat.mul_comm (R:Rat)]
 exact b
theorem Na (h1 : ∀i,i<N→rs N (p i)=1) (k m:Nat) {s:Nat} (hs:s<N) (G:List Nat→Rat):bN N p (k+m) s (fun l=>G (l.take k))=bN N p k s G:=by
 induction k generalizing s G with
 | zero =>
  simp only[List.take_zero]
  rw[FP h1 _ hs]
  rfl
 | succ k ih =>
  rw[show k+1+m=k+m+1 by omega,bN,bN]
  refine aX fun j hj=>?_
  simp only[List.take_succ_cons]
  rw[ih hj (fun l=>G (j :: l))]
def ch (N:Nat) (p:Nat→Nat→Rat) (f:Nat→Rat) (R k s:Nat):Rat:=bN N p k s fun o=>if o.countP (leF f s)+1≤R then 1 else 0
theorem pC (hp : ∀i j,0≤p i j) (f:Nat→Rat) (R k s:Nat):0≤ch N p f R k s:=by
 have:=mK (N:=N) hp (k:=k) (s:=s) (F:=fun _=>0) (G:=fun o=>if o.countP (leF f s)+1≤R then 1 else 0) (fun l _=>by split<;>grind)
 have z:=iv (N:=N) (p:=p) k s 0 (fun _=>0)
 simp only[Rat.zero_mul] at z
 rw[z] at this
 exact this
theorem Hr (hp : ∀i j,0≤p i j) (h1 : ∀i,i<N→rs N (p i)=1) (f:Nat→Rat) (R:Nat) {j k s:Nat} (hjk:j≤k) (hs:s<N):ch N p f R k s≤ch N p f R j s:=by
 unfold ch
 rw[←Na h1 j (k - j) hs,show j+(k - j)=k by omega]
 refine mK hp fun l _=>?_
 have c:(l.take j).countP (leF f s)≤l.countP (leF f s):=(List.take_sublist j l).countP_le
 by_cases h:l.countP (leF f s)+1≤R
 ·rw[if_pos h,if_pos (by omega)]
  exact Rat.le_refl
 ·rw[if_neg h]
  split<;>grind
theorem MR (hw : ∀i,0≤w i) (a:Nat→Rat) (n:Nat):rs n (fun i=>w i*a i)*rs n (fun i=>w i*a i)≤rs n w*rs n (fun i=>w i*(a i*a i)):=by
 induction n with
 | zero=>simp[rs]
 | succ n ih =>
  have e : ∀c:Rat,rs n (fun i=>w i*((a i - c)*(a i - c)))=rs n (fun i=>w i*(a i*a i)) - 2*c*rs n (fun i=>w i*a i)+c*c*rs n w:=fun c=>by
   clear ih
   induction n with
   | zero=>simp only[rs];grind
   | succ n ih=>rw[rs,rs,rs,rs,ih];grind
  have q:0≤rs n (fun i=>w i*((a i - a n)*(a i - a n))):=lE fun i _=>by
   have sq : ∀x:Rat,0≤x*x:=fun x=>by
    rcases Rat.le_total (a:=0) (b:=x) with h|h
    ·exact Rat.mul_nonneg h h
    ·have:=Rat.mul_nonneg (a:=-x) (b:=-x) (by grind) (by grind)
     grind
   exact Rat.mul_nonneg (hw i) (sq _)
  rw[e] at q
  have q2:=Rat.mul_nonneg (hw n) q
  rw[rs,rs,rs]
  obtain⟨S,hS⟩:=aP (rs n (fun i=>w i*a i))
  obtain⟨Q,hQ⟩:=aP (rs n (fun i=>w i*(a i*a i)))
  rw[←hS,←hQ] at q2 ih ⊢
  grind
theorem PJ (n:Nat) (c:Rat):rs n (fun _=>c)=(n:Rat)*c:=by
 induction n with
 | zero=>simp[rs]
 | succ n ih=>rw[rs,ih,Rat.natCast_add];grind
theorem Q7 (hr : ∀i j,i<N→j<N→w i*p i j=w j*p j i) (hp : ∀i j,0≤p i j) (h1 : ∀i,i<N→rs N (p i)=1) (hw : ∀i,0≤w i) (f:Nat→Rat) (k:Nat) {R:Nat} (hR:1≤R) :
  ((k+1:Nat):Rat)*(rs N (fun s=>w s*ch N p f R k s)*rs N (fun s=>w s*ch N p f R k s))≤((2*R - 1:Nat):Rat)*(rs N w*rs N w):=by
 have m:=Qs hr hp h1 hw f k (2*R - 1)
 have b : ∀j,j<k+1→rs N (fun s=>w s*(ch N p f R k s*ch N p f R k s))≤rs N fun s=>w s*bN N p j s fun b=>bN N p (k - j) s fun o=>if b.countP (leF f s)+o.countP (leF f s)+1≤2*R - 1 then 1 else 0:=fun j hj=>by
  refine FF fun s hs=>Rat.mul_le_mul_of_nonneg_left ?_ (hw s)
  have n0:=pC (N:=N) hp f R k s
  have a1:=Hr hp h1 f R (j:=j) (k:=k) (by omega) hs
  have a2:=Hr hp h1 f R (j:=k - j) (k:=k) (by omega) hs
  have n2:=pC (N:=N) hp f R (k - j) s
  have c1:ch N p f R k s*ch N p f R k s≤ch N p f R (k - j) s*ch N p f R j s :=
   Rat.le_trans (Rat.mul_le_mul_of_nonneg_left a1 n0) (Rat.mul_le_mul_of_nonneg_right a2 (Rat.le_trans n0 a1))
  refine Rat.le_trans c1 ?_
  rw[show ch N p f R (k - j) s*ch N p f R j s=bN N p j s fun b=>ch N p f R (k - j) s*(if b.countP (leF f s)+1≤R then 1 else 0) from(iv j s _ _).symm]
  refine mK hp fun b _=>?_
  by_cases hb:b.countP (leF f s)+1≤R
  ·rw[if_pos hb,Rat.mul_one]
   refine mK hp fun o _=>?_
   by_cases ho:o.countP (leF f s)+1≤R
   ·rw[if_pos ho,if_pos (by omega)]
    exact Rat.le_refl
   ·rw[if_neg ho]
    split<;>grind
  ·rw[if_neg hb,Rat.mul_zero]
   have:=mK (N:=N) hp (k:=k - j) (s:=s) (F:=fun _=>0) (G:=fun o=>if b.countP (leF f s)+o.countP (leF f s)+1≤2*R - 1 then 1 else 0) (fun l _=>by split<;>grind)
   have z:=iv (N:=N) (p:=p) (k - j) s 0 (fun _=>0)
   simp only[Rat.zero_mul] at z
   rw[z] at this
   exact this
 have t:=Rat.le_trans (FF b) m
 rw[PJ] at t
 have sq:=MR hw (fun s=>ch N p f R k s) N
 have W0:0≤rs N w:=lE fun i _=>hw i
 have k0:(0:Rat)≤((k+1:Nat):Rat):=Rat.natCast_nonneg
 have u1:=Rat.mul_le_mul_of_nonneg_left sq k0
 have u2:=Rat.mul_le_mul_of_nonneg_left t W0
 refine Rat.le_trans u1 ?_
 obtain⟨Q,hQ⟩:=aP (rs N (fun s=>w s*(ch N p f R k s*ch N p f R k s)))
 rw[←hQ] at u2 ⊢
 grind
end
theorem yh {n a:Nat} (h:a<n) (g:Nat→Rat):rs n (fun i=>if i=a then g i else 0)=g a:=by
 induction n with
 | zero=>omega
 | succ n ih =>
  rw[rs]
  by_cases c:n=a
  ·rw[if_pos c,c,aX (g:=fun _=>0) (fun i hi=>by rw[if_neg (by omega)]),oQ,Rat.zero_add]
  ·rw[if_neg c,ih (by omega),Rat.add_zero]
section
variable {N:Nat} {p:Nat→Nat→Rat}
theorem Kz {k s:Nat} {F G:List Nat→Rat} (h : ∀l,l.length=k→(∀x∈l,x<N)→F l=G l):bN N p k s F=bN N p k s G:=by
 induction k generalizing s F G with
 | zero=>exact h [] rfl (by simp)
 | succ k ih =>
  rw[bN,bN]
  refine aX fun j hj=>?_
  rw[ih fun l hl hx=>h (j :: l) (by rw[List.length_cons,hl]) (by
   intro x hm
   rcases List.mem_cons.1 hm with rfl|hm
   ·exact hj
   ·exact hx x hm)]
def kT (s:Nat) (l:List Nat):Nat:=l.getLast?.getD s
theorem IY (s a:Nat) (l:List Nat):kT s (a :: l)=kT a l:=by
 unfold kT
 rw[List.getLast?_cons,Option.getD_some]
theorem NF (s a:Nat) (l:List Nat):kT s (l ++ [a])=a:=by
 unfold kT
 rw[List.getLast?_append]
 rfl
theorem GG {s:Nat} {l:List Nat} (hs:s<N) (h : ∀x∈l,x<N):kT s l<N:=by
 unfold kT
 cases e:l.getLast? with
 | none=>exact hs
 | some a=>exact h a (List.mem_of_getLast? e)
theorem M9 (k s:Nat) (F:List Nat→Rat):bN N p (k+1) s F=bN N p k s fun l=>rs N fun j=>p (kT s l) j*F (l ++ [j]):=by
 induction k generalizing s F with
 | zero=>rfl
 | succ k ih =>
  rw[bN,bN]
  refine aX fun j _=>?_
  rw[ih]
  congr 1
  refine fK fun l _=>?_
  rw[IY]
  rfl
def iR (N:Nat) (p:Nat→Nat→Rat) (hit:Nat→Bool) (s:Nat):Nat→Nat→Nat→Rat
 | 0,j,n=>if j=s∧n=0 then 1 else 0
 | k+1,j,n=>if hit j then (if n=0 then 0 else rs N fun i=>iR N p hit s k i (n - 1)*p i j) else rs N fun i=>iR N p hit s k i n*p i j
theorem Ok (hit:Nat→Bool) {s:Nat} (hs:s<N) (k:Nat) {j:Nat} (hj:j<N) (n:Nat):iR N p hit s k j n=bN N p k s fun l=>if kT s l=j∧l.countP hit=n then 1 else 0:=by
 induction k generalizing j n with
 | zero =>
  rw[iR,bN]
  show _=if s=j∧0=n then (1:Rat) else 0
  by_cases c:j=s∧n=0
  ·rw[if_pos c,if_pos ⟨c.1.symm,c.2.symm⟩]
  ·rw[if_neg c,if_neg fun x=>c ⟨x.1.symm,x.2.symm⟩]
 | succ k ih =>
  have st : ∀m,(rs N fun i=>iR N p hit s k i m*p i j)=bN N p k s fun l=>p (kT s l) j*if l.countP hit=m then 1 else 0:=fun m=>by
   rw[aX (g:=fun i=>bN N p k s fun l=>p i j*if kT s l=i∧l.countP hit=m then 1 else 0) (fun i hi=>by rw[ih hi,Rat.mul_comm,iv]),←uK]
   refine Kz fun l hl hx=>?_
   rw[←yh (GG hs hx) (fun i=>p i j*if l.countP hit=m then 1 else 0)]
   refine aX fun i _=>?_
   by_cases c:i=kT s l
   ·rw[if_pos c,←c]
    simp
   ·rw[if_neg c,if_neg fun x=>c x.1.symm,Rat.mul_zero]
  have rt:(bN N p (k+1) s fun l=>if kT s l=j∧l.countP hit=n then (1:Rat) else 0)=bN N p k s fun l=>p (kT s l) j*if l.countP hit+(if hit j then 1 else 0)=n then 1 else 0:=by
   rw[M9]
   refine fK fun l _=>?_
   rw[←yh hj (fun t=>p (kT s l) t*if l.countP hit+(if hit t then 1 else 0)=n then 1 else 0)]
   refine aX fun t _=>?_
   rw[NF,List.countP_append,List.countP_singleton]
   by_cases c:t=j
   ·rw[if_pos c]
    simp[c]
   ·rw[if_neg c,if_neg fun x=>c x.1,Rat.mul_zero]
  rw[rt,iR]
  by_cases hh:hit j
  ·rw[if_pos hh]
   by_cases n0:n=0
   ·rw[if_pos n0,fK (G:=fun l=>0*0) (fun l _=>by rw[if_neg (by rw[if_pos hh];omega)];simp),iv,Rat.zero_mul]
   ·rw[if_neg n0,st]
    refine fK fun l _=>?_
    congr 1
    by_cases c:l.countP hit=n - 1
    ·rw[if_pos c,if_pos (by rw[if_pos hh];omega)]
    ·rw[if_neg c,if_neg (by rw[if_pos hh];omega)]
  ·rw[if_neg hh,st]
   refine fK fun l _=>?_
   rw[if_neg hh]
   rfl
theorem V4 (hit:Nat→Bool) {s:Nat} (hs:s<N) (k n:Nat):(rs N fun j=>iR N p hit s k j n)=bN N p k s fun l=>if l.countP hit=n then 1 else 0:=by
 rw[aX fun j hj=>Ok hit hs k hj n,←uK]
 refine Kz fun l _ hx=>?_
 rw[←yh (GG hs hx) (fun _=>if l.countP hit=n then (1:Rat) else 0)]
 refine aX fun i _=>?_
 by_cases c:i=kT s l
 ·rw[if_pos c,←c]
  simp
 ·rw[if_neg c,if_neg fun x=>c x.1.symm]
end
section
variable {N:Nat} {p:Nat→Nat→Rat}
theorem AA (hit:Nat→Bool) (k s:Nat) {M:Nat} (hM:k<M) (g:Nat→Rat):(rs M fun i=>(bN N p k s fun l=>if l.countP hit=i then 1 else 0)*g i)=bN N p k s fun l=>g (l.countP hit):=by
 rw[aX (g:=fun i=>bN N p k s fun l=>g i*if l.countP hit=i then 1 else 0) (fun i _=>by rw[iv,Rat.mul_comm]),←uK]
 refine fK fun l hl=>?_
 have c:l.countP hit<M:=Nat.lt_of_le_of_lt (hl▸List.countP_le_length) hM
 rw[←yh c g]
 refine aX fun i _=>?_
 by_cases e:i=l.countP hit
 ·rw[if_pos e,if_pos e.symm,Rat.mul_one]
 ·rw[if_neg e,if_neg fun x=>e x.symm,Rat.mul_zero]
theorem upQ (hit:Nat→Bool) (s:Nat) {k1 k2 M:Nat} (h1:k1<M) (h2:k2<M) (R:Nat) :
  (rs M fun i=>rs M fun j=>if i+j+1≤R then (bN N p k1 s fun l=>if l.countP hit=i then 1 else 0)*(bN N p k2 s fun l=>if l.countP hit=j then 1 else 0) else 0)
   = bN N p k1 s fun b=>bN N p k2 s fun o=>if b.countP hit+o.countP hit+1≤R then 1 else 0:=by
 rw[←AA hit k1 s h1 (fun i=>bN N p k2 s fun o=>if i+o.countP hit+1≤R then 1 else 0)]
 refine aX fun i _=>?_
 rw[←AA hit k2 s h2 (fun j=>if i+j+1≤R then 1 else 0),←qu]
 refine aX fun j _=>?_
 by_cases c:i+j+1≤R
 ·rw[if_pos c,if_pos c,Rat.mul_one]
 ·rw[if_neg c,if_neg c,Rat.mul_zero,Rat.mul_zero]
theorem upQ1 (f:Nat→Rat) (s:Nat) {k M:Nat} (h:k<M) (R:Nat) :
  (rs M fun i=>if i+1≤R then (bN N p k s fun l=>if l.countP (leF f s)=i then 1 else 0) else 0)=ch N p f R k s:=by
 unfold ch
 rw[←AA (leF f s) k s h (fun i=>if i+1≤R then 1 else 0)]
 refine aX fun i _=>?_
 by_cases c:i+1≤R
 ·rw[if_pos c,if_pos c,Rat.mul_one]
 ·rw[if_neg c,if_neg c,Rat.mul_zero]
end
open Go
def OvL (L x:Nat) (q:Rat):Prop:=0<L∧L≤2 ^ x ∧ ∃N:Int,q=(N:Rat) / ((L:Int):Rat)∧N.natAbs≤2 ^ x
theorem oZ {L:Nat} (h:0<L):((L:Int):Rat)≠0:=by
 intro e
 have:=Rat.intCast_eq_zero_iff.1 e
 omega
theorem OvL.qb {L x:Nat} {q:Rat} (h:OvL L x q):QB x q:=by
 obtain⟨hL,hx,N,rfl,hN⟩:=h
 rw[←Rat.divInt_eq_div]
 obtain⟨e1,e2⟩:=mP (n:=N) (d:=(L:Int)) (by omega)
 have a1:=vj N (Int.gcd N (L:Int))
 have a2:=vj (L:Int) (Int.gcd N (L:Int))
 rw[e1] at a1
 rw[e2] at a2
 have a3:((Rat.divInt N (L:Int)).den:Int).natAbs=(Rat.divInt N (L:Int)).den:=Int.natAbs_natCast _
 have a4:((L:Int)).natAbs=L:=Int.natAbs_natCast _
 exact⟨Nat.le_trans a1 hN,by omega⟩
theorem OvL.mono {L x y:Nat} {q:Rat} (h:OvL L x q) (k:x≤y):OvL L y q:=by
 obtain⟨hL,hx,N,e,hN⟩:=h
 have:=Nat.pow_le_pow_right (n:=2) (by omega) k
 exact⟨hL,Nat.le_trans hx this,N,e,Nat.le_trans hN this⟩
theorem OvL.add {L x:Nat} {p q:Rat} (hp:OvL L x p) (hq:OvL L x q):OvL L (x+1) (p+q):=by
 obtain⟨hL,hx,N,e,hN⟩:=hp
 obtain⟨_,_,M,f,hM⟩:=hq
 have h2:2 ^ (x+1)=2 ^ x+2 ^ x:=by rw[Nat.pow_succ];omega
 have:=oZ hL
 refine⟨hL,by omega,N+M,?_,?_⟩
 ·rw[e,f,Rat.intCast_add];grind
 ·have:=Int.natAbs_add_le N M
  omega
theorem OvL.mul {L K x y:Nat} {p q:Rat} (hp:OvL L x p) (hq:OvL K y q):OvL (L*K) (x+y) (p*q):=by
 obtain⟨hL,hx,N,e,hN⟩:=hp
 obtain⟨hK,hy,M,f,hM⟩:=hq
 have h2:2 ^ (x+y)=2 ^ x*2 ^ y:=Nat.pow_add ..
 have:=oZ hL
 have:=oZ hK
 refine⟨Nat.mul_pos hL hK,by rw[h2];exact Nat.mul_le_mul hx hy,N*M,?_,by rw[h2,Int.natAbs_mul];exact Nat.mul_le_mul hN hM⟩
 rw[e,f,Rat.intCast_mul,Int.natCast_mul,Rat.intCast_mul]
 grind
theorem OvL.zero {L x:Nat} (hL:0<L) (hx:L≤2 ^ x):OvL L x 0:=⟨hL,hx,0,by simp;grind,by simp⟩
theorem OvL.one:OvL 1 0 1:=⟨by omega,by omega,1,by simp;grind,by simp⟩
theorem OvL.rs {L x n:Nat} {f:Nat→Rat} (hL:0<L) (hx:L≤2 ^ x) (h : ∀i,i<n→OvL L x (f i)):OvL L (x+n) (Go.Id.rs n f):=by
 induction n with
 | zero=>exact OvL.zero hL hx
 | succ n ih =>
  exact(ih fun i hi=>h i (by omega)).add ((h n (by omega)).mono (by omega))
theorem Tl {x:Nat} {z:Int} (h:z.natAbs≤2 ^ x):OvL 1 x (z:Rat):=⟨by omega,Nat.one_le_two_pow,z,by simp;grind,h⟩
theorem Tu (x:Nat):1≤2 ^ x:=Nat.one_le_two_pow
theorem QB.abs {x:Nat} {z:Int} (h:QB x (z:Rat)):z.natAbs≤2 ^ x:=h.1
theorem OvL.ite {L x:Nat} {q:Rat} {c:Prop} [Decidable c] (h:OvL L x q):OvL L x (if c then q else 0):=by
 split
 ·exact h
 ·exact OvL.zero h.1 h.2.1
def qB:Nat→(Nat→Nat)→Nat
 | 0,_=>1
 | n+1,g=>qB n g*g n
theorem BL {n:Nat} {g:Nat→Nat} {i:Nat} (hi:i<n):g i∣qB n g:=by
 induction n with
 | zero=>omega
 | succ n ih =>
  rw[qB]
  by_cases c:i=n
  ·subst c;exact Nat.dvd_mul_left ..
  ·exact Nat.dvd_trans (ih (by omega)) (Nat.dvd_mul_right ..)
theorem BK {n:Nat} {g:Nat→Nat} (h : ∀i,i<n→0<g i):0<qB n g:=by
 induction n with
 | zero=>exact Nat.one_pos
 | succ n ih=>exact Nat.mul_pos (ih fun i hi=>h i (by omega)) (h n (by omega))
theorem FQ {n b:Nat} {g:Nat→Nat} (h : ∀i,i<n→g i≤2 ^ b):qB n g≤2 ^ (b*n):=by
 induction n with
 | zero=>exact Nat.le_of_eq (by rw[Nat.mul_zero];rfl)
 | succ n ih =>
  rw[qB,Nat.mul_succ,Nat.pow_add]
  exact Nat.mul_le_mul (ih fun i hi=>h i (by omega)) (h n (by omega))
theorem TD {N b:Nat} {f:Nat→Nat→Rat} (h : ∀i j,i<N→j<N→0≤f i j∧f i j≤1∧(f i j).den≤2 ^ b) : ∃D,∀i j,i<N→j<N→OvL D (b*N*N) (f i j):=by
 refine⟨qB N fun i=>qB N fun j=>(f i j).den,fun i j hi hj=>?_⟩
 obtain⟨D,hD⟩:=aP (qB N fun i=>qB N fun j=>(f i j).den)
 have pos:0<D:=by rw[hD];exact BK fun i _=>BK fun j _=>(f i j).den_pos
 have le:D≤2 ^ (b*N*N):=by
  rw[hD]
  exact FQ fun i hi=>FQ fun j hj=>(h i j hi hj).2.2
 have dv:(f i j).den∣D:=by
  rw[hD]
  exact Nat.dvd_trans (BL (g:=fun j=>(f i j).den) hj) (BL (g:=fun i=>qB N fun j=>(f i j).den) hi)
 rw[←hD]
 obtain⟨h0,h1,_⟩:=h i j hi hj
 obtain⟨c,hc⟩:=dv
 have dp:=(f i j).den_pos
 have n0:0≤(f i j).num:=Rat.num_nonneg.2 h0
 have n1:(f i j).num≤(f i j).den:=by
  have:=(Rat.le_iff (f i j) 1).1 h1
  simpa using this
 have hne:((c:Int):Rat)≠0:=by
  intro e
  have:(c:Int)=0:=Rat.intCast_eq_zero_iff.1 e
  have:c=0:=by omega
  subst this
  omega
 have hdn:(((f i j).den:Int):Rat)≠0:=oZ dp
 refine⟨pos,le,(f i j).num*c,?_,?_⟩
 ·have e:f i j=((f i j).num:Rat) / (((f i j).den:Int):Rat):=by
   rw[←Rat.divInt_eq_div];exact(Rat.num_divInt_den (f i j)).symm
  rw[hc,Int.natCast_mul,Rat.intCast_mul,Rat.intCast_mul]
  conv=>lhs;rw[e]
  grind
 ·refine Nat.le_trans ?_ le
  rw[Int.natAbs_mul,Int.natAbs_natCast,hc]
  exact Nat.mul_le_mul_right _ (by omega)
section
variable (p:Nat→Nat→Rat) (hit:Nat→Bool) (x:Nat→Nat→Rat)
def kN (a:Nat):Nat:=if hit a then 1 else 0
def uq (i a m:Nat):Rat:=if hit a then (if m=0 then 0 else x i (m - 1)) else x i m
def nxQ (i j n a m:Nat):Rat:=rs i (fun t=>uq hit x t a m*p t a)+if a<j∨(a=j∧m<n+kN hit a) then uq hit x i a m*p i a else 0
theorem Tv (a m:Nat):nxQ p hit x 0 0 0 a m=0:=by
 unfold nxQ
 rw[rs,Rat.zero_add]
 by_cases d:a<0∨(a=0∧m<0+kN hit a)
 ·rw[if_pos d]
  have hh:hit a=true:=by
   cases e:hit a with
   | true=>rfl
   | false=>have:=d;unfold kN at this;rw[e] at this;simp at this
  have m0:m=0:=by have:=d;unfold kN at this;rw[hh] at this;simp at this;exact this.2
  unfold uq
  rw[if_pos hh,if_pos m0,Rat.zero_mul]
 ·rw[if_neg d]
theorem U7 (i j n:Nat):nxQ p hit x i j n j (n+kN hit j)+x i n*p i j=nxQ p hit x i j (n+1) j (n+kN hit j):=by
 have e:uq hit x i j (n+kN hit j)=x i n:=by
  unfold uq kN
  by_cases h:hit j
  ·simp[h]
  ·simp[h]
 unfold nxQ
 rw[if_neg (by omega),if_pos (by omega),e,Rat.add_zero]
theorem KR (i j n:Nat) {a m:Nat} (h : ¬(a=j∧m=n+kN hit j)):nxQ p hit x i j (n+1) a m=nxQ p hit x i j n a m:=by
 unfold nxQ
 congr 1
 by_cases c:a=j
 ·subst c
  by_cases d:m<n+kN hit a
  ·rw[if_pos (by omega),if_pos (by omega)]
  ·rw[if_neg (by omega),if_neg (by omega)]
 ·by_cases d:a<j
  ·rw[if_pos (by omega),if_pos (by omega)]
  ·rw[if_neg (by omega),if_neg (by omega)]
theorem KQ {i j n:Nat} (h:x i n=0∨p i j=0) (a m:Nat):nxQ p hit x i j (n+1) a m=nxQ p hit x i j n a m:=by
 by_cases c:a=j∧m=n+kN hit j
 ·obtain⟨rfl,rfl⟩:=c
  rw[←U7]
  rcases h with h|h
  ·rw[h,Rat.zero_mul,Rat.add_zero]
  ·rw[h,Rat.mul_zero,Rat.add_zero]
 ·exact KR p hit x i j n c
theorem Wy (i j:Nat) {S a m:Nat} (hm:m<S):nxQ p hit x i (j+1) 0 a m=nxQ p hit x i j S a m:=by
 unfold nxQ
 congr 1
 by_cases c:a<j+1
 ·rw[if_pos (by omega),if_pos (by omega)]
 ·rw[if_neg (c:=a<j∨_) (by omega)]
  by_cases d:a=j+1∧m<0+kN hit a
  ·have hh:hit a=true:=by
    cases e:hit a with
    | true=>rfl
    | false=>have:=d.2;unfold kN at this;rw[e] at this;simp at this
   have m0:m=0:=by have:=d.2;unfold kN at this;rw[hh] at this;simp at this;exact this
   unfold uq
   rw[hh,m0]
   simp
  ·rw[if_neg (by omega)]
theorem Ww {i a N:Nat} (m:Nat) (ha:a<N):nxQ p hit x (i+1) 0 0 a m=nxQ p hit x i N 0 a m:=by
 unfold nxQ
 rw[if_pos (c:=a<N∨_) (.inl ha),rs]
 by_cases d:a=0∧m<0+kN hit a
 ·have hh:hit a=true:=by
   cases e:hit a with
   | true=>rfl
   | false=>have:=d.2;unfold kN at this;rw[e] at this;simp at this
  have m0:m=0:=by have:=d.2;unfold kN at this;rw[hh] at this;simp at this;exact this
  have z : ∀t,uq hit x t a m=0:=fun t=>by unfold uq;rw[if_pos hh,if_pos m0]
  rw[z,z,Rat.zero_mul,Rat.zero_mul]
  split<;>simp[Rat.add_zero]
 ·rw[if_neg (by omega),Rat.add_zero]
end
theorem Wx {N:Nat} {p:Nat→Nat→Rat} {hit:Nat→Bool} {s k:Nat} (a m:Nat) {x:Nat→Nat→Rat} (hx : ∀i m,i<N→x i m=iR N p hit s k i m):nxQ p hit x N 0 0 a m=iR N p hit s (k+1) a m:=by
 unfold nxQ
 rw[iR]
 have z:(if a<0∨(a=0∧m<0+kN hit a) then uq hit x N a m*p N a else 0)=0:=by
  by_cases d:a=0∧m<0+kN hit a
  ·have hh:hit a=true:=by
    cases e:hit a with
    | true=>rfl
    | false=>have:=d.2;unfold kN at this;rw[e] at this;simp at this
   have m0:m=0:=by have:=d.2;unfold kN at this;rw[hh] at this;simp at this;exact this
   unfold uq
   rw[hh,m0]
   simp
  ·rw[if_neg (by omega)]
 rw[z,Rat.add_zero]
 unfold uq
 by_cases hh:hit a
 ·simp only[hh,if_true]
  by_cases m0:m=0
  ·simp only[m0,if_true]
   rw[aX (g:=fun _=>0) (fun i _=>by rw[Rat.zero_mul]),oQ]
  ·simp only[m0,if_false]
   exact aX fun i hi=>by rw[hx i _ hi]
 ·simp only[hh]
  exact aX fun i hi=>by simp only[Bool.false_eq_true,if_false];rw[hx i _ hi]
theorem SO {N L y:Nat} {hit:Nat→Bool} {x:Nat→Nat→Rat} (hx : ∀i m,i<N→OvL L y (x i m)) {i:Nat} (hi:i<N) (a m:Nat):OvL L y (uq hit x i a m):=by
 unfold uq
 split
 ·split
  ·exact OvL.zero (hx i 0 hi).1 (hx i 0 hi).2.1
  ·exact hx i _ hi
 ·exact hx i _ hi
theorem Wz {N L D y d:Nat} {p:Nat→Nat→Rat} {hit:Nat→Bool} {x:Nat→Nat→Rat} (hx : ∀i m,i<N→OvL L y (x i m)) (hp : ∀i j,i<N→j<N→OvL D d (p i j)) {i a:Nat} (hi:i<N) (ha:a<N) (j n m:Nat):OvL (L*D) (y+d+N) (nxQ p hit x i j n a m):=by
 have t : ∀t,t<N→OvL (L*D) (y+d) (uq hit x t a m*p t a):=fun t ht=>(SO hx ht a m).mul (hp t a ht ha)
 have z:=t i hi
 refine OvL.mono (x:=y+d+i+1) ?_ (by omega)
 refine OvL.add ?_ ?_
 ·exact OvL.rs z.1 z.2.1 fun t' ht'=>t t' (by omega)
 ·exact(z.mono (by omega)).ite
theorem yB {N D d:Nat} {p:Nat→Nat→Rat} {hit:Nat→Bool} {s:Nat} (hp : ∀i j,i<N→j<N→OvL D d (p i j)) (k:Nat) {j:Nat} (hj:j<N) (n:Nat):OvL (D ^ k) (k*(d+N)) (iR N p hit s k j n):=by
 induction k generalizing j n with
 | zero =>
  rw[iR,Nat.pow_zero,Nat.zero_mul]
  exact OvL.one.ite
 | succ k ih =>
  have t : ∀m i,i<N→OvL (D ^ k*D) (k*(d+N)+d) (iR N p hit s k i m*p i j):=fun m i hi=>(ih hi m).mul (hp i j hi hj)
  have z:=t 0 j hj
  rw[iR,Nat.pow_succ,Nat.succ_mul,←Nat.add_assoc]
  split
  ·split
   ·exact(OvL.zero z.1 z.2.1).mono (by omega)
   ·exact OvL.rs z.1 z.2.1 (t _)
  ·exact OvL.rs z.1 z.2.1 (t _)
theorem RQ {N:Nat} {p:Nat→Nat→Rat} {hit:Nat→Bool} {s:Nat} (k:Nat) {j n:Nat} (h:k<n):iR N p hit s k j n=0:=by
 induction k generalizing j n with
 | zero=>rw[iR,if_neg (by omega)]
 | succ k ih =>
  rw[iR]
  split
  ·rw[if_neg (by omega),aX (g:=fun _=>0) (fun i _=>by rw[ih (by omega),Rat.zero_mul]),oQ]
  ·rw[aX (g:=fun _=>0) (fun i _=>by rw[ih (by omega),Rat.zero_mul]),oQ]
open Go.Proofs.Tryz (prog)
def mkV (k n:Nat):Value:=.slice (some ⟨2*k,0,none⟩) n (2*n+1)
theorem Qr (k n:Nat):(mkV k n).cells = #[mkV k n]∧aA (mkV k n)=true:=⟨rfl,by simp[mkV,aA]⟩
def SS (c:List Value):Prop:=∀x∈c,∃a b d,x=.slice a b d
theorem HJ {h:IH} {v:Value} {ds:List Nat} {b:Nat} {c c':List Value} (s:bJ h 1 v ds.length (ds.map K64)) (hb:h.ext.get b=some (.cells c 1 none)) (hc:SS c) (hl:c'.length=c.length):bJ (h.put b (.cells c' 1 none)) 1 v ds.length (ds.map K64):=by
 by_cases hk:dF v=some (2*b)
 case neg=>exact s.putAt hk _
 obtain⟨hz,hln,⟨rfl,_⟩|⟨b0,o,k,rfl,s⟩⟩:=s
 ·cases hk
 have hb0:b0=2*b:=by injection hk
 subst hb0
 refine⟨hz,hln,.inr ⟨2*b,o,k,rfl,?_⟩⟩
 rcases s with s|⟨a1,a2,row,a3,a4,a5,a6⟩
 ·exact .inl s
 have k2:2*b / 2=b:=by omega
 have k0:(2*b % 2 == 1)=false:=by simp
 have fl:row=c:=by
  simp only[IH.row,k0,cond_false,k2,hb] at a4
  injection a4 with a4;exact a4.symm
 subst fl
 by_cases hn:ds.length=0
 ·have hd:ds = []:=List.length_eq_zero_iff.1 hn
  subst hd
  refine .inr ⟨a1,a2,c',?_,?_,by simp,by simp at a6 ⊢;omega⟩
  ·rcases a3 with a3|⟨a4',a5',f,_⟩
   ·omega
   ·exact .inr ⟨a4',a5',none,by rw[k2];exact ae _ _ rfl⟩
  ·simp only[IH.row,k0,cond_false,k2]
   rw[ae _ _ rfl]
 ·exfalso
  cases ds with
  | nil=>exact hn rfl
  | cons d ds =>
   have:K64 d∈row:=by
    have h1:K64 d∈(row.drop o).take ((d :: ds).length*1):=by rw[a5];simp
    exact List.mem_of_mem_drop (List.mem_of_mem_take h1)
   obtain⟨_,_,_,h2⟩:=hc _ this
   cases h2
theorem a9.Tc {h:IH} {v:Value} {z:Int} (p:a9 h v z) {b:Nat} {c c':List Value} (hb:h.ext.get b=some (.cells c 1 none)) (hc:SS c) (hl:c'.length=c.length):a9 (h.put b (.cells c' 1 none)) v z:=by
 obtain⟨s,e,ds,d1,d2⟩:=p
 exact⟨s,e,ds,⟨HJ d1.1 hb hc hl,d1.2⟩,d2⟩
theorem bg.Tc {h:IH} {v:Value} {q:Rat} (p:bg h v q) {b:Nat} {c c':List Value} (hb:h.ext.get b=some (.cells c 1 none)) (hc:SS c) (hl:c'.length=c.length):bg (h.put b (.cells c' 1 none)) v q:=by
 obtain⟨a,s,b',t,e,h1,h2⟩:=p
 exact⟨a,s,b',t,e,h1.Tc hb hc hl,h2.Tc hb hc hl⟩
theorem bg.A5 {h:IH} {v:Value} {q:Rat} (p:bg h v q) {k e:Nat} {c:List Value} {f:Option Nat} (hk:h.ext.get k=some (.cells c e f)) (he:e≠1) (o:bz):bg (h.put k o) v q :=
 p.qO ((ru.refl 1 h).put hk he o)
def kQ (H:IH) (k M:Nat) (g:Nat→Rat):Prop:=∃cs,rh H 4 k (mkV k M) M cs ∧ ∀m,m<M→kU bg H cs m (g m)
structure Tab (H:IH) (n0 n1 b N M:Nat) (r:Nat→Nat) (q:Nat→Nat→Rat):Prop where
 lo:n0≤b∧b<n1
 ob:rh H 1 b (mkV b N) N ((List.range N).map fun j=>mkV (r j) M)
 lr : ∀j,j<N→n0≤r j∧r j<n1∧r j≠b
 inj : ∀i j,i<N→j<N→r i=r j→i=j
 row : ∀j,j<N→kQ H (r j) M (q j)
section
variable {H H':IH} {n0 n1 b N M:Nat} {r:Nat→Nat} {q:Nat→Nat→Rat}
theorem kQ.ext {k:Nat} {g:Nat→Rat} (t:kQ H k M g) (e:Ext H H'):kQ H' k M g :=
 let ⟨cs,h1,h2⟩:=t
 ⟨cs,h1.ext e,fun m hm=>(h2 m hm).mono fun _ p=>p.aa e.aa⟩
theorem kQ.congr {k:Nat} {g g':Nat→Rat} (t:kQ H k M g) (h : ∀m,m<M→g m=g' m):kQ H k M g' :=
 let ⟨cs,h1,h2⟩:=t
 ⟨cs,h1,fun m hm=>h m hm▸h2 m hm⟩
theorem kQ.A5 {k:Nat} {g:Nat→Rat} (t:kQ H k M g) {j e:Nat} {c:List Value} {f:Option Nat} (hj:H.ext.get j=some (.cells c e f)) (he:e≠1) (hk:k≠j) (o:bz):kQ (H.put j o) k M g :=
 let ⟨cs,h1,h2⟩:=t
 ⟨cs,⟨h1.form,h1.len,h1.size,h1.some_,h1.old,(ak _ _ hk).trans h1.got⟩,fun m hm=>(h2 m hm).mono fun _ p=>p.A5 hj he o⟩
theorem kQ.ldK {k:Nat} {g:Nat→Rat} (t:kQ H k M g) {m:Nat} (hm:m<M) : ∃a s b u,(∀h',Ext H h'→load prog h' 137 (aM (mkV k M) (m*4))=some (.agg #[a,s,b,u]))∧bg H (.agg #[a,s,b,u]) (g m):=by
 obtain⟨cs,h1,h2⟩:=t
 obtain⟨a,s,b,u,h3,h4⟩:=h2 m hm
 have hl:=h1.len
 refine⟨a,s,b,u,fun h' e=>?_,h4⟩
 rw[(h1.ext e).sl.Cb (aJ.refl h') (by omega) (by omega) AS sD,h3]
theorem kQ.idx {k:Nat} {g:Nat→Rat} (t:kQ H k M g) {m:Nat} (hm:m<M):indexAddr prog 139 (mkV k M) (KN m)=some (aM (mkV k M) (m*4)):=by
 obtain⟨cs,h1,_⟩:=t
 exact h1.sl.idx An (k:=.i64) hm
theorem kQ.len {k:Nat} {g:Nat→Rat} (t:kQ H k M g) (h':IH):nB prog h' 139 (mkV k M)=some (KN M):=by
 obtain⟨cs,h1,_⟩:=t
 exact h1.sl.len Bz h'
theorem kQ.set {k:Nat} {g:Nat→Rat} (t:kQ H k M g) {m:Nat} (hm:m<M) {x1 x2 x3 x4:Value} {z:Rat} (p:bg H (.agg #[x1,x2,x3,x4]) z) (hc:([x1,x2,x3,x4]:List Value).all aA=true) :
  ∃cs' c,H.ext.get k=some (.cells c 4 none)∧store prog H 137 (aM (mkV k M) (m*4)) (.agg #[x1,x2,x3,x4])=some (H.put k (.cells cs' 4 none))∧kQ (H.put k (.cells cs' 4 none)) k M (fun c=>if c=m then z else g c):=by
 obtain⟨cs,h1,h2⟩:=t
 obtain⟨s1,s2⟩:=h1.set (P:=prog) (t:=137) sD hm (x:=.agg #[x1,x2,x3,x4]) (xs:=[x1,x2,x3,x4]) rfl rfl hc
 have hl:=h1.len
 refine⟨_,cs,h1.got,s1,_,s2,fun c hc=>?_⟩
 by_cases e:c=m
 ·subst e
  simp only[if_true]
  exact kU.set (by omega) (p.A5 h1.got (by decide) _)
 ·simp only[if_neg e]
  exact((h2 c hc).mono fun _ p=>p.A5 h1.got (by decide) _).other (by omega) e
theorem Tab.ext (t:Tab H n0 n1 b N M r q) (e:Ext H H'):Tab H' n0 n1 b N M r q :=
 ⟨t.lo,t.ob.ext e,t.lr,t.inj,fun j hj=>(t.row j hj).ext e⟩
theorem Tab.up {n2:Nat} (t:Tab H n0 n1 b N M r q) (h:n1≤n2):Tab H n0 n2 b N M r q :=
 ⟨⟨t.lo.1,Nat.lt_of_lt_of_le t.lo.2 h⟩,t.ob,fun j hj=>⟨(t.lr j hj).1,Nat.lt_of_lt_of_le (t.lr j hj).2.1 h,(t.lr j hj).2.2⟩,t.inj,t.row⟩
theorem Tab.congr {q':Nat→Nat→Rat} (t:Tab H n0 n1 b N M r q) (h : ∀j m,j<N→m<M→q j m=q' j m):Tab H n0 n1 b N M r q' :=
 ⟨t.lo,t.ob,t.lr,t.inj,fun j hj=>(t.row j hj).congr fun m hm=>h j m hj hm⟩
theorem Tab.put (t:Tab H n0 n1 b N M r q) {j e:Nat} {c:List Value} {f:Option Nat} (hj:H.ext.get j=some (.cells c e f)) (he:e≠1) (hk:j<n0∨n1≤j) (o:bz):Tab (H.put j o) n0 n1 b N M r q:=by
 have hb:=t.lo
 refine⟨t.lo,⟨t.ob.form,t.ob.len,t.ob.size,t.ob.some_,t.ob.old,(ak _ _ (by omega)).trans t.ob.got⟩,t.lr,t.inj,fun i hi=>(t.row i hi).A5 hj he ?_ o⟩
 have:=t.lr i hi
 omega
theorem Tab.ldR (t:Tab H n0 n1 b N M r q) {h':IH} (e:Ext H h') {j:Nat} (hj:j<N):load prog h' 139 (aM (mkV b N) j)=some (mkV (r j) M):=by
 have hl:=t.ob.len
 rw[(t.ob.ext e).sl.ld (aJ.refl h') (by omega) xQ,List.getElem?_map,List.getElem?_range hj]
 rfl
theorem Tab.idx (t:Tab H n0 n1 b N M r q) {j:Nat} (hj:j<N):indexAddr prog 147 (mkV b N) (KN j)=some (aM (mkV b N) j):=by
 have:=t.ob.sl.idx LG (P:=prog) (k:=.i64) hj
 rwa [Nat.mul_one] at this
theorem Tab.len (t:Tab H n0 n1 b N M r q) (h':IH):nB prog h' 147 (mkV b N)=some (KN N) :=
 t.ob.sl.len Ps h'
theorem Tab.set (t:Tab H n0 n1 b N M r q) {j m:Nat} (hj:j<N) (hm:m<M) {x1 x2 x3 x4:Value} {z:Rat} (p:bg H (.agg #[x1,x2,x3,x4]) z) (hc:([x1,x2,x3,x4]:List Value).all aA=true) :
  ∃cs' c,H.ext.get (r j)=some (.cells c 4 none)∧store prog H 137 (aM (mkV (r j) M) (m*4)) (.agg #[x1,x2,x3,x4])=some (H.put (r j) (.cells cs' 4 none))∧Tab (H.put (r j) (.cells cs' 4 none)) n0 n1 b N M r (fun a c=>if a=j∧c=m then z else q a c):=by
 obtain⟨cs',c,g,s1,s2⟩:=(t.row j hj).set hm p hc
 have hr:=t.lr j hj
 refine⟨cs',c,g,s1,t.lo,⟨t.ob.form,t.ob.len,t.ob.size,t.ob.some_,t.ob.old,(ak _ _ (Ne.symm hr.2.2)).trans t.ob.got⟩,t.lr,t.inj,fun i hi=>?_⟩
 by_cases e:i=j
 ·subst e
  exact s2.congr fun m' _=>by
   by_cases d:m'=m
   ·simp[d]
   ·simp[d]
 ·exact((t.row i hi).A5 g (by decide) (fun x=>e (t.inj i j hi hj x)) _).congr fun m' _=>by simp only[if_neg (show ¬(i=j∧m'=m) from fun x=>e x.1)]
end
structure sj (H:IH) (v:Value) (N M:Nat) (rv:Nat→Value) (q:Nat→Nat→Rat):Prop where
 sl:bJ H 1 v N ((List.range N).map rv)
 row : ∀j,j<N→nF bg H (rv j) ((List.range M).map (q j))
section
variable {H H':IH} {v:Value} {N M:Nat} {rv:Nat→Value} {q:Nat→Nat→Rat}
theorem sj.aa (t:sj H v N M rv q) (k:aJ H H'):sj H' v N M rv q:=⟨t.sl.aa k,fun j hj=>(t.row j hj).aa gL k⟩
theorem sj.ldR (t:sj H v N M rv q) {h':IH} (e:Ext H h') {j:Nat} (hj:j<N):load prog h' 139 (aM v j)=some (rv j):=by
 rw[t.sl.ld e.aa (by simp;exact hj) xQ,List.getElem?_map,List.getElem?_range hj]
 rfl
theorem sj.idx (t:sj H v N M rv q) {j:Nat} (hj:j<N):indexAddr prog 147 v (KN j)=some (aM v j):=by
 have:=t.sl.idx LG (P:=prog) (k:=.i64) hj
 rwa [Nat.mul_one] at this
theorem sj.lenR (t:sj H v N M rv q) {j:Nat} (hj:j<N) (h':IH):nB prog h' 139 (rv j)=some (KN M):=by
 obtain⟨cs,s,_,_⟩:=t.row j hj
 have:=s.len Bz (P:=prog) h'
 rwa [List.length_map,List.length_range] at this
theorem sj.idxR (t:sj H v N M rv q) {j m:Nat} (hj:j<N) (hm:m<M):indexAddr prog 139 (rv j) (KN m)=some (aM (rv j) (m*4)):=by
 obtain⟨cs,s,_,_⟩:=t.row j hj
 exact s.idx An (k:=.i64) (by rw[List.length_map,List.length_range];exact hm)
theorem sj.ldK (t:sj H v N M rv q) {j m:Nat} (hj:j<N) (hm:m<M) : ∃a s b u,(∀h',Ext H h'→load prog h' 137 (aM (rv j) (m*4))=some (.agg #[a,s,b,u]))∧bg H (.agg #[a,s,b,u]) (q j m):=by
 obtain⟨a,s,b,u,h1,h2⟩:=(t.row j hj).nc gL (i:=m) (q:=q j m) (by rw[List.getElem?_map,List.getElem?_range hm];rfl) AS sD (P:=prog)
 exact⟨a,s,b,u,fun h' e=>h1 h' e.aa,h2⟩
theorem kQ.el {k:Nat} {g:Nat→Rat} (t:kQ H k M g) (hM:M≤1000):nF bg H (mkV k M) ((List.range M).map g):=by
 obtain⟨cs,h1,h2⟩:=t
 refine⟨cs,by simpa using h1.sl,Ez (by simpa using h1.len) fun j q hj=>?_,by simp;omega⟩
 have hjm:j<M:=by have:=(List.getElem?_eq_some_iff.1 hj).1;simpa using this
 rw[List.getElem?_map,List.getElem?_range hjm] at hj
 cases hj
 exact h2 j hjm
theorem Tab.toR {n0 n1 b:Nat} {r:Nat→Nat} (t:Tab H n0 n1 b N M r q) (hM:M≤1000):sj H (mkV b N) N M (fun j=>mkV (r j) M) q :=
 ⟨t.ob.sl,fun j hj=>(t.row j hj).el hM⟩
end
end Go.Id
