/-
  Counting plans: the plans by the label of the next node; the plan of a number. Counting plans: what depends on sets below 2^n alone; connected sets, computed. Contracts: enumerate. Classes in which a node has a label. Contracts: enumerate. The plan of a number; the number of all plans. Contracts: enumerate.Count, Kth, All: what they return for bounds that fit. Contracts: the drafted problem. The rows' common part: a draft that came in. Contracts: enumerate.Index.
-/
import Derived.Test.YtipnghefdfnlnaaDoorEnumerateAllAj
import Derived.Test.YtipnghefdfnlnaaDoorEnumerateAllAh
import Derived.Test.YtipnghefdfnlnaaDoorEnumerateAllAi
set_option linter.unusedVariables false
set_option linter.unusedSimpArgs false
set_option linter.defProp false
set_option linter.deprecated false
/-! Counting plans: the plans by the label of the next node; the plan of a number. -/
namespace Go.Id
theorem or_halves (a b:Nat):a ||| b=2*(a / 2 ||| b / 2)+max (a % 2) (b % 2):=by
 have h1:(a ||| b) / 2=a / 2 ||| b / 2:=Nat.or_div_two
 have h2:(a ||| b) % 2=max (a % 2) (b % 2):=by
  have:=Nat.or_mod_two_pow (a:=a) (b:=b) (n:=1)
  rw[Nat.pow_one] at this
  rw[this]
  rcases Nat.mod_two_eq_zero_or_one a with h|h<;>rcases Nat.mod_two_eq_zero_or_one b with k|k<;>rw[h,k]<;>rfl
 omega
theorem or_two (t b:Nat):2*t ||| 2*b=2*(t ||| b):=by
 rw[or_halves,show 2*t / 2=t by omega,show 2*b / 2=b by omega,show 2*t % 2=0 by omega,show 2*b % 2=0 by omega];rfl
theorem or_two1 (t b:Nat):2*t+1 ||| 2*b=2*(t ||| b)+1:=by
 rw[or_halves,show(2*t+1) / 2=t by omega,show 2*b / 2=b by omega,show(2*t+1) % 2=1 by omega,show 2*b % 2=0 by omega];rfl
theorem or_one (t:Nat):2*t ||| 1=2*t+1:=by
 rw[or_halves,show 2*t / 2=t by omega,show 2*t % 2=0 by omega,show 1 / 2=0 by omega,Nat.or_zero];rfl
theorem subS_split : ∀(n:Nat) (f:Nat→Nat) (r node:Nat),node<n→r.testBit node=false→subS f (r ||| 2 ^ node) (2 ^ n)=subS (fun t=>f t+f (t ||| 2 ^ node)) r (2 ^ n)
 | 0,_,_,_,h,_=>by omega
 | n+1,f,r,0,_,hb=>by
  have hr:r % 2=0:=by
   rw[Nat.testBit_zero] at hb;simp at hb;omega
  have e1:(r ||| 2 ^ 0) % 2=1:=by
   have:=or_halves r 1
   rw[Nat.pow_zero];omega
  have e2:(r ||| 2 ^ 0) / 2=r / 2:=by
   have:=or_halves r 1
   rw[Nat.pow_zero]
   rw[show 1 / 2=0 by omega,Nat.or_zero] at this
   omega
  rw[Nat.pow_succ,Nat.mul_comm,subS_two,subS_two,if_pos e1,if_neg (by omega),e2]
  refine subS_congr fun t _ _=>?_
  rw[Nat.pow_zero,or_one]
 | n+1,f,r,node+1,h,hb=>by
  have e0:2 ^ (node+1)=2*2 ^ node:=by rw[Nat.pow_succ,Nat.mul_comm]
  have e1:(r ||| 2 ^ (node+1)) % 2=r % 2:=by
   have:=or_halves r (2*2 ^ node)
   rw[e0]
   have h3:=Nat.mod_lt r (show 0<2 by omega)
   rw[show 2*2 ^ node % 2=0 by omega] at this
   omega
  have e2:(r ||| 2 ^ (node+1)) / 2=r / 2 ||| 2 ^ node:=by
   have:=or_halves r (2*2 ^ node)
   rw[e0]
   rw[show 2*2 ^ node / 2=2 ^ node by omega] at this
   have h3:=Nat.mod_lt r (show 0<2 by omega)
   rw[show 2*2 ^ node % 2=0 by omega] at this
   omega
  have hb2:(r / 2).testBit node=false:=by rw[Nat.testBit_div_two];exact hb
  rw[show 2 ^ (n+1)=2*2 ^ n by rw[Nat.pow_succ,Nat.mul_comm],subS_two,subS_two,e1,e2]
  by_cases hr:r % 2=1
  ·rw[if_pos hr,if_pos hr,subS_split n _ _ _ (by omega) hb2]
   refine subS_congr fun t _ _=>?_
   rw[e0,or_two,or_two1];omega
  ·rw[if_neg hr,if_neg hr,subS_split n _ _ _ (by omega) hb2]
   refine subS_congr fun t _ _=>?_
   rw[e0,or_two]
theorem subS_add (f g:Nat→Nat) (m N:Nat):subS (fun t=>f t+g t) m N=subS f m N+subS g m N:=by
 unfold subS
 rw[←sumTo_add]
 refine sumTo_congr fun i _=>?_
 split<;>rfl
theorem subS_zero (m N:Nat):subS (fun _=>0) m N=0:=by
 unfold subS
 rw[sumTo_cut (Nat.zero_le N) fun i _ _=>by simp];rfl
theorem subS_swap (g:Nat→Nat→Nat) (m N:Nat) : ∀L,subS (fun t=>sumTo (g t) L) m N=sumTo (fun l=>subS (fun t=>g t l) m N) L
 | 0=>subS_zero m N
 | L+1=>by
  rw[sumTo,←subS_swap g m N L,←subS_add];rfl
theorem sumTo_shift (f:Nat→Nat) : ∀n,sumTo f (n+1)=f 0+sumTo (fun i=>f (i+1)) n
 | 0=>by simp[sumTo]
 | n+1=>by rw[sumTo,sumTo_shift f n,sumTo];omega
theorem sumTo_if (c:Prop) [Decidable c] (f:Nat→Nat) (n:Nat):(if c then sumTo f n else 0)=sumTo (fun i=>if c then f i else 0) n:=by
 split
 ·rfl
 ·rw[sumTo_cut (Nat.zero_le n) fun i _ _=>rfl];rfl
def lab (cs:List Nat) (node label:Nat):List Nat:=if label=cs.length then cs ++ [2 ^ node] else cs.set label (cs.getD label 0 ||| 2 ^ node)
theorem lab_len (cs:List Nat) (node label:Nat):(lab cs node label).length=if label=cs.length then cs.length+1 else cs.length:=by
 unfold lab;split<;>simp
theorem lab_nil (node:Nat):lab [] node 0 = [2 ^ node]:=rfl
theorem lab_zero (c:Nat) (cs:List Nat) (node:Nat):lab (c :: cs) node 0=(c ||| 2 ^ node) :: cs:=by
 unfold lab;rw[if_neg (by simp)];rfl
theorem lab_succ (c:Nat) (cs:List Nat) (node l:Nat):lab (c :: cs) node (l+1)=c :: lab cs node l:=by
 unfold lab
 by_cases h:l=cs.length
 ·rw[if_pos (by simpa using h),if_pos h];rfl
 ·rw[if_neg (by simpa using h),if_neg h];simp
theorem lab_mem {n:Nat} : ∀{cs:List Nat} {node l:Nat},node<n→(∀c∈cs,c<2 ^ n) → ∀c∈lab cs node l,c<2 ^ n
 | [],node,l,hn,_,c,hc=>by
  have hp:2 ^ node<2 ^ n:=Nat.pow_lt_pow_right (by omega) hn
  unfold lab at hc
  split at hc
  ·simp at hc;omega
  ·simp at hc
 | d :: cs,node,0,hn,hcs,c,hc=>by
  have hp:2 ^ node<2 ^ n:=Nat.pow_lt_pow_right (by omega) hn
  rw[lab_zero] at hc
  rcases List.mem_cons.1 hc with rfl|hc
  ·exact Nat.or_lt_two_pow (hcs d (by simp)) hp
  ·exact hcs c (by simp[hc])
 | d :: cs,node,l+1,hn,hcs,c,hc=>by
  rw[lab_succ] at hc
  rcases List.mem_cons.1 hc with rfl|hc
  ·exact hcs c (by simp)
  ·exact lab_mem (cs:=cs) hn (fun e he=>hcs e (by simp[he])) c hc
theorem after_nil (F:Nat→Bool) (r k:Nat):after F [] r k=ways F k r:=rfl
theorem after_cons (F:Nat→Bool) (c:Nat) (cs:List Nat) (r k:Nat):after F (c :: cs) r k=if cs.length+1≤k then sumFrom (fun t=>if F (c ||| t)=true then after F cs (nclr r t) (k - 1) else 0) r r else 0:=rfl
theorem after_long (F:Nat→Bool) : ∀{cs:List Nat} {r k:Nat},k<cs.length→after F cs r k=0
 | [],_,_,h=>by simp at h
 | c :: cs,r,k,h=>by rw[after_cons,if_neg (by simp at h;omega)]
theorem after_split (F:Nat→Bool) {n:Nat} (hn:n≤64) {node:Nat} (hnode:node<n) : ∀(cs:List Nat) (r k:Nat),r<2 ^ n→(∀j,j≤node→r.testBit j=false) →
  after F cs (r ||| 2 ^ node) k=sumTo (fun l=>after F (lab cs node l) r k) (cs.length+1)
 | [],r,k,hr,hb=>by
  have hp:2 ^ node<2 ^ n:=Nat.pow_lt_pow_right (by omega) hnode
  have hp2:2 ^ n≤2 ^ 64:=Nat.pow_le_pow_right (by omega) hn
  have hR:r ||| 2 ^ node<2 ^ n:=Nat.or_lt_two_pow hr hp
  have hlow:Low (r ||| 2 ^ node) node:=⟨by rw[Nat.testBit_or,Nat.testBit_two_pow_self];simp,fun j hj=>by rw[Nat.testBit_or,hb j (by omega),bit_two_pow];simp;omega⟩
  have e1:lowM (r ||| 2 ^ node)=2 ^ node:=low_bit hlow (by omega)
  have e2:nclr (r ||| 2 ^ node) (2 ^ node)=r:=by
   apply Nat.eq_of_testBit_eq
   intro j
   rw[testBit_nclr,Nat.testBit_or,bit_two_pow]
   by_cases hj:node=j
   ·subst hj;rw[hb node (Nat.le_refl _)];simp
   ·simp[hj]
  rw[show sumTo (fun l=>after F (lab [] node l) r k) ([].length+1)=after F [2 ^ node] r k from by simp[sumTo,lab_nil],after_nil,after_cons]
  cases k with
  | zero =>
   rw[ways,if_neg (by have:=hlow.pos;omega),if_neg (by simp)]
  | succ k =>
   rw[ways,if_neg (by have:=hlow.pos;omega),if_pos (by simp),e1]
   simp only[e2]
   have : ∀t,nclr (nclr (r ||| 2 ^ node) t) (2 ^ node)=nclr r t:=fun t=>by rw[nclr_nclr,e2]
   simp only[this,after_nil,Nat.add_one_sub_one,Nat.or_comm]
 | c :: cs,r,k,hr,hb=>by
  have hp:2 ^ node<2 ^ n:=Nat.pow_lt_pow_right (by omega) hnode
  have hR:r ||| 2 ^ node<2 ^ n:=Nat.or_lt_two_pow hr hp
  have hbn:=hb node (Nat.le_refl _)
  rw[after_cons]
  by_cases hk:cs.length+1≤k
  ·rw[if_pos hk,sumFrom_all _ hR,subS_split n _ _ _ hnode hbn,List.length_cons,sumTo_shift,lab_zero,subS_add,Nat.add_comm]
   congr 1
   ·rw[after_cons,if_pos hk,sumFrom_all _ hr]
    refine subS_congr fun t _ ht=>?_
    have e1:c ||| (t ||| 2 ^ node)=c ||| 2 ^ node ||| t:=by rw[Nat.or_comm t,Nat.or_assoc]
    have e2:nclr (r ||| 2 ^ node) (t ||| 2 ^ node)=nclr r t:=by
     apply Nat.eq_of_testBit_eq
     intro j
     simp only[testBit_nclr,Nat.testBit_or,bit_two_pow]
     by_cases hj:node=j
     ·subst hj;simp[hbn]
     ·simp[hj]
    rw[e1,e2]
   ·have e0 : ∀l,after F (lab (c :: cs) node (l+1)) r k=subS (fun t=>if F (c ||| t)=true then after F (lab cs node l) (nclr r t) (k - 1) else 0) r (2 ^ n):=by
     intro l
     rw[lab_succ,after_cons,sumFrom_all _ hr]
     split
     ·rfl
     ·rename_i h2
      rw[lab_len] at h2
      split at h2
      ·refine((subS_congr (g:=fun _=>0) fun t _ _=>?_).trans (subS_zero _ _)).symm
       rw[after_long F (by rw[lab_len];split<;>omega)]
       simp
      ·omega
    simp only[e0]
    rw[←subS_swap]
    refine subS_congr fun t _ ht=>?_
    rw[←sumTo_if]
    have htn:t.testBit node=false:=by
     have h3:(t &&& r).testBit node=t.testBit node:=by rw[ht]
     rw[Nat.testBit_and,hbn] at h3
     simpa using h3.symm
    have e3:nclr (r ||| 2 ^ node) t=nclr r t ||| 2 ^ node:=by
     apply Nat.eq_of_testBit_eq
     intro j
     simp only[testBit_nclr,Nat.testBit_or,bit_two_pow]
     by_cases hj:node=j
     ·subst hj;simp[htn]
     ·simp[hj]
    rw[e3,after_split F hn hnode cs (nclr r t) (k - 1) (nclr_lt hr) fun j hj=>by rw[testBit_nclr,hb j hj];rfl]
  ·rw[if_neg hk]
   refine(sumTo_cut (Nat.zero_le _) fun l _ _=>?_).symm
   refine after_long F ?_
   rw[lab_len,List.length_cons]
   split<;>omega
def findLab (g:Nat→Nat):Nat→Nat→Nat→Option (Nat×Nat)
 | 0,_,_=>none
 | f+1,l,i=>if i<g l then some (l,i) else findLab g f (l+1) (i - g l)
def above (n node:Nat):Nat:=2 ^ n - 2 ^ (node+1)
def planAt (F:Nat→Bool) (n k:Nat):Nat→Nat→List Nat→Nat→List Nat
 | 0,_,_,_ => []
 | m+1,node,cs,i=>match findLab (fun l=>after F (lab cs node l) (above n node) k) (cs.length+1) 0 i with
  | some (l,j)=>l :: planAt F n k m (node+1) (lab cs node l) j
  | none => []
theorem above_bit {n m:Nat} (h:m≤n) (j:Nat):(2 ^ n - 2 ^ m).testBit j=(decide (m≤j) && decide (j<n)):=by
 have e:2 ^ n - 2 ^ m=2 ^ m*(2 ^ (n - m) - 1):=by
  rw[Nat.mul_sub,←Nat.pow_add,show m+(n - m)=n by omega,Nat.mul_one]
 rw[e,Nat.testBit_two_pow_mul]
 by_cases h1:m≤j
 ·rw[Nat.testBit_two_pow_sub_one]
  have:j - m<n - m↔j<n:=by omega
  simp[h1,this]
 ·simp[h1]
theorem above_or {n node:Nat} (h:node<n):above n node ||| 2 ^ node=2 ^ n - 2 ^ node:=by
 apply Nat.eq_of_testBit_eq
 intro j
 rw[Nat.testBit_or,above,above_bit (by omega),above_bit (by omega),bit_two_pow]
 by_cases h1:node=j
 ·subst h1;simp[h]
 ·have:node+1≤j↔node≤j:=by omega
  simp[h1,this]
theorem above_lt (n node:Nat):above n node<2 ^ n:=by
 have h1:0<2 ^ n:=Nat.pow_pos (by omega)
 have h2:0<2 ^ (node+1):=Nat.pow_pos (by omega)
 unfold above;omega
theorem above_low {n node:Nat} (h:node<n) (j:Nat) (hj:j≤node):(above n node).testBit j=false:=by
 rw[above,above_bit (by omega)];simp;omega
theorem after_labels (F:Nat→Bool) {n:Nat} (hn:n≤64) {node:Nat} (hnode:node<n) (cs:List Nat) (k:Nat):after F cs (2 ^ n - 2 ^ node) k=sumTo (fun l=>after F (lab cs node l) (above n node) k) (cs.length+1):=by
 rw[←above_or hnode]
 exact after_split F hn hnode cs _ _ (above_lt n node) (above_low hnode)
theorem sumTo_add_len (g:Nat→Nat) (l:Nat) : ∀f,sumTo g (l+f)=sumTo g l+sumTo (fun i=>g (l+i)) f
 | 0=>rfl
 | f+1=>by rw[←Nat.add_assoc,sumTo,sumTo_add_len g l f,sumTo];omega
theorem findLab_some (g:Nat→Nat) : ∀(f l i:Nat),i<sumTo (fun j=>g (l+j)) f → ∃m j,findLab g f l i=some (m,j)∧l≤m∧m<l+f∧j<g m∧i=j+sumTo (fun x=>g (l+x)) (m - l)
 | 0,l,i,h=>by simp[sumTo] at h
 | f+1,l,i,h=>by
  unfold findLab
  by_cases hi:i<g l
  ·rw[if_pos hi];exact⟨l,i,rfl,Nat.le_refl _,by omega,hi,by simp[sumTo]⟩
  ·rw[if_neg hi]
   rw[sumTo_shift,Nat.add_zero] at h
   have e:(fun x=>g (l+(x+1)))=fun x=>g (l+1+x):=funext fun x=>by rw[show l+(x+1)=l+1+x by omega]
   rw[e] at h
   obtain⟨m,j,h1,h2,h3,h4,h5⟩:=findLab_some g f (l+1) (i - g l) (by omega)
   refine⟨m,j,h1,by omega,by omega,h4,?_⟩
   rw[show m - l=(m - (l+1))+1 by omega,sumTo_shift,Nat.add_zero,e]
   omega
end Go.Id

/-! Counting plans: what depends on sets below 2^n alone; connected sets, computed. -/
namespace Go.Id
theorem sumFrom_congr {f g:Nat→Nat} {m:Nat} (h : ∀t,t &&& m=t→f t=g t):sumFrom f m m=sumFrom g m m:=by
 rw[sumFrom_all f (Nat.lt_succ_self m),sumFrom_all g (Nat.lt_succ_self m)]
 exact subS_congr fun t _ ht=>h t ht
theorem sub_lt {t m N:Nat} (h:t &&& m=t) (hm:m<N):t<N:=by
 have:t &&& m≤m:=Nat.and_le_right
 omega
theorem ways_congr {F G:Nat→Bool} {n:Nat} (hFG : ∀s,s<2 ^ n→F s=G s) : ∀(k s:Nat),s<2 ^ n→ways F k s=ways G k s
 | 0,s,_=>rfl
 | k+1,s,hs=>by
  rw[ways,ways]
  split
  ·rfl
  ·have hr:nclr s (lowM s)<2 ^ n:=nclr_lt hs
   have hl:lowM s<2 ^ n:=Nat.lt_of_le_of_lt Nat.and_le_left hs
   refine sumFrom_congr fun t ht=>?_
   rw[hFG _ (Nat.or_lt_two_pow (sub_lt ht hr) hl),ways_congr hFG k _ (nclr_lt (nclr_lt hs))]
theorem after_congr {F G:Nat→Bool} {n:Nat} (hFG : ∀s,s<2 ^ n→F s=G s) : ∀(cs:List Nat) (r k:Nat),(∀c∈cs,c<2 ^ n)→r<2 ^ n→after F cs r k=after G cs r k
 | [],r,k,_,hr=>ways_congr hFG k r hr
 | c :: cs,r,k,hc,hr=>by
  rw[after_cons,after_cons]
  split
  ·refine sumFrom_congr fun t ht=>?_
   rw[hFG _ (Nat.or_lt_two_pow (hc c (by simp)) (sub_lt ht hr)),after_congr hFG cs _ _ (fun d hd=>hc d (by simp[hd])) (nclr_lt hr)]
  ·rfl
theorem findLab_congr {g h:Nat→Nat} : ∀(f l i:Nat),(∀x,g x=h x)→findLab g f l i=findLab h f l i
 | 0,_,_,_=>rfl
 | f+1,l,i,e=>by rw[findLab,findLab,e,findLab_congr f _ _ e]
theorem planAt_congr {F G:Nat→Bool} {n:Nat} (hFG : ∀s,s<2 ^ n→F s=G s) (k:Nat) : ∀(m node:Nat) (cs:List Nat) (i:Nat),node+m≤n→(∀c∈cs,c<2 ^ n)→planAt F n k m node cs i=planAt G n k m node cs i
 | 0,_,_,_,_,_=>rfl
 | m+1,node,cs,i,hn,hc=>by
  rw[planAt,planAt,findLab_congr (h:=fun l=>after G (lab cs node l) (above n node) k) _ _ _ fun x=>after_congr hFG _ _ _ (lab_mem (by omega) hc) (above_lt n node)]
  cases hf:findLab (fun l=>after G (lab cs node l) (above n node) k) (cs.length+1) 0 i with
  | none=>rfl
  | some p=>simp only;rw[planAt_congr hFG k m (node+1) _ _ (by omega) (lab_mem (by omega) hc)]
def nextC (adj:Nat→Nat) (set R:Nat):Nat→Nat
 | 0=>R
 | n+1=>if R.testBit n then nextC adj set R n ||| (adj n &&& set) else nextC adj set R n
theorem nextC_bit (adj:Nat→Nat) (set R:Nat) : ∀(n j:Nat),(nextC adj set R n).testBit j=true↔R.testBit j=true ∨ ∃i,i<n∧R.testBit i=true∧(adj i).testBit j=true∧set.testBit j=true
 | 0,j=>by simp[nextC]
 | n+1,j=>by
  unfold nextC
  have ih:=nextC_bit adj set R n j
  split
  ·rename_i h
   rw[Nat.testBit_or,Bool.or_eq_true,ih,Nat.testBit_and,Bool.and_eq_true]
   constructor
   ·rintro((h1|⟨i,h1,h2⟩)|h1)
    ·exact .inl h1
    ·exact .inr ⟨i,by omega,h2⟩
    ·exact .inr ⟨n,by omega,h,h1⟩
   ·rintro(h1|⟨i,h1,h2⟩)
    ·exact .inl (.inl h1)
    ·by_cases hi:i=n
     ·subst hi;exact .inr h2.2
     ·exact .inl (.inr ⟨i,by omega,h2⟩)
  ·rename_i h
   rw[ih]
   constructor
   ·rintro(h1|⟨i,h1,h2⟩)
    ·exact .inl h1
    ·exact .inr ⟨i,by omega,h2⟩
   ·rintro(h1|⟨i,h1,h2⟩)
    ·exact .inl h1
    ·by_cases hi:i=n
     ·subst hi;exact absurd h2.1 h
     ·exact .inr ⟨i,by omega,h2⟩
theorem nextC_next {adj:Nat→Nat} {set R n:Nat} (h:R<2 ^ n):Next adj set R (nextC adj set R n):=⟨fun j=>by
 rw[nextC_bit]
 refine or_congr Iff.rfl ⟨fun⟨i,_,h2⟩=>⟨i,h2⟩,fun⟨i,h2⟩=>⟨i,?_,h2⟩⟩
 refine Nat.lt_of_not_le fun hi=>?_
 have:=Nat.testBit_lt_two_pow (Nat.lt_of_lt_of_le h (Nat.pow_le_pow_right (by omega) hi))
 rw[this] at h2
 exact absurd h2.1 (by simp)⟩
def reachC (adj:Nat→Nat) (set n:Nat):Nat→Nat→Option Nat
 | 0,_=>none
 | f+1,R=>if nextC adj set R n=R then some R else reachC adj set n f (nextC adj set R n)
theorem reachC_flood {adj:Nat→Nat} {set n k:Nat} (hs:set<2 ^ n) : ∀(f R S:Nat),Part adj set k R→reachC adj set n f R=some S→Flood adj set k S
 | 0,_,_,_,h=>by cases h
 | f+1,R,S,hp,h=>by
  have hR:R<2 ^ n:=Nat.lt_of_le_of_lt hp.sub.le hs
  have hn:=nextC_next (adj:=adj) (set:=set) hR
  unfold reachC at h
  split at h
  ·rename_i he
   cases h
   rw[he] at hn
   exact hp.flood hn
  ·exact reachC_flood hs f _ S (hp.next hn).1 h
def lowC (s:Nat):Nat→Option Nat
 | 0=>none
 | n+1=>match lowC s n with
  | some k=>some k
  | none=>if s.testBit n then some n else none
theorem lowC_none (s:Nat) : ∀n,lowC s n=none → ∀j,j<n→s.testBit j=false
 | 0,_,j,h=>by omega
 | n+1,h,j,hj=>by
  unfold lowC at h
  cases hl:lowC s n with
  | some k=>rw[hl] at h;cases h
  | none =>
   rw[hl] at h
   simp only at h
   split at h
   ·cases h
   ·rename_i hb
    by_cases hjn:j=n
    ·subst hjn;simpa using hb
    ·exact lowC_none s n hl j (by omega)
theorem lowC_low (s:Nat) : ∀n k,lowC s n=some k→Low s k
 | 0,_,h=>by cases h
 | n+1,k,h=>by
  unfold lowC at h
  cases hl:lowC s n with
  | some l=>rw[hl] at h;cases h;exact lowC_low s n k hl
  | none =>
   rw[hl] at h
   simp only at h
   split at h
   ·rename_i hb
    cases h
    exact⟨hb,fun j hj=>lowC_none s n hl j hj⟩
   ·cases h
def connC (adj:Nat→Nat) (n set:Nat):Option Bool:=match lowC set n with
 | none=>some false
 | some k=>(reachC adj set n (n+1) (2 ^ k)).map fun R=>R == set
theorem connC_conn {adj:Nat→Nat} {n set:Nat} (hs:set<2 ^ n) {b:Bool} (h:connC adj n set=some b):Conn adj set↔b=true:=by
 unfold connC at h
 cases hl:lowC set n with
 | none =>
  rw[hl] at h;cases h
  constructor
  ·rintro⟨k,hk,_⟩
   by_cases hkn:k<n
   ·have:=lowC_none set n hl k hkn
    rw[hk.1] at this;cases this
   ·have:=Nat.testBit_lt_two_pow (Nat.lt_of_lt_of_le hs (Nat.pow_le_pow_right (n:=2) (by omega) (show n≤k by omega)))
    rw[hk.1] at this;cases this
  ·intro h;cases h
 | some k =>
  rw[hl] at h
  have hlow:=lowC_low set n k hl
  simp only[Option.map_eq_some_iff] at h
  obtain⟨R,h1,h2⟩:=h
  have hF:=reachC_flood hs (n+1) _ R (Part.start hlow.1) h1
  rw[hF.conn hlow,←h2,beq_iff_eq]
end Go.Id

/-! Contracts: enumerate. Classes in which a node has a label. -/
namespace Go.Id
open Go
theorem c64_ok (cs:List Nat):(c64 cs).all cellOK=true:=by
 rw[List.all_eq_true]
 intro x hx
 obtain⟨c,_,rfl⟩:=List.mem_map.1 hx
 rfl
theorem labelled_ok {h:IH} {v:Value} {cs:List Nat} (hv:SlOf h 1 v cs.length (c64 cs)) (hne:v=.slice none 0 0∨0<cs.length) (hl:cs.length≤1000) (hcs : ∀c∈cs,c<18446744073709551616) {node label:Nat} (hn:node<64) (hlab:label≤cs.length) :
  WV Proofs.Tryd.prog (.func (.func 52) #[] #[]) [v,KI node,KI label] h fun r h'=>Ext h h'∧SlOf h' 1 r (lab cs node label).length (c64 (lab cs node label)):=by
 refine enter (nt:=26) (rs:=[.tmp 6]) Proofs.Tryd.func52 rfl rfl rfl (by simp) ?_
 simp -dsimp (maxSteps:=1000000) (disch:=first|omega|(simp only[new_n,put_n];omega)|decide +kernel|(repeat first|rw[new_n]|rw[put_n])) only[wpS,Nat.reduceEqDiff,Nat.reduceAdd]
 refine call (clone64_ok hv hne (c64_ok cs) (by omega)) ?_
 rintro r h1 ⟨hE1,hA1⟩
 have hp:2 ^ node<2 ^ 64:=Nat.pow_lt_pow_right (by omega) (by omega)
 have p0:0≤((2 ^ node:Nat):Int):=Int.natCast_nonneg _
 simp -dsimp (maxSteps:=1000000) (disch:=first|omega|(simp only[new_n,put_n];omega)|decide +kernel|(repeat first|rw[new_n]|rw[put_n])) only[wpS,Nat.reduceEqDiff,hA1.sl.len sl38]
 refine bq_intro ?_ ?_<;>intro hc
 ·simp at hc
  obtain rfl:label=cs.length:=by omega
  obtain⟨r2,h2,hap,hA2,hG2,hE2⟩:=hA1.app1 (P:=Proofs.Tryd.prog) (t:=38) ap38 (x:=.int .u64 0) rfl (by omega) hE1.n hE1 (Nat.le_refl _)
  obtain⟨h3,hst,hA3,hE3,hn3⟩:=hA2.set (P:=Proofs.Tryd.prog) (t:=47) sz47 (i:=cs.length) (x:=K64 (2 ^ node)) (by omega) rfl rfl hE2 (Nat.le_refl _)
  have hi2:=hA2.sl.idx (P:=Proofs.Tryd.prog) es38 (k:=.i64) (j:=cs.length) (by omega)
  have hld:=hA2.sl.ld (Keep.refl _) (c:=cs.length) (by simp[c64]) (P:=Proofs.Tryd.prog) (t:=47) ag47
  rw[Nat.mul_one] at hi2
  have hg:(c64 cs ++ [.int .u64 0])[cs.length]?=some (.int .u64 0):=by simp[c64]
  rw[hg] at hld
  have e1:(0:Nat) ||| 2 ^ node=2 ^ node:=Nat.zero_or _
  simp -dsimp (maxSteps:=1000000) (disch:=first|omega|(simp only[new_n,put_n];omega)|decide +kernel|(repeat first|rw[new_n]|rw[put_n])) only[wpS,wpT,Nat.reduceEqDiff,Nat.reduceLeDiff,Nat.reduceAdd,bs38,ba38_38,hap,hi2,hld,e1,hst]
  have e2:lab cs node cs.length=cs ++ [2 ^ node]:=by simp[lab]
  have e3:c64 (lab cs node cs.length)=(c64 cs ++ [Value.int .u64 0]).set cs.length (K64 (2 ^ node)):=by
   rw[e2,List.set_append,if_neg (by simp[c64])]
   simp[c64]
  refine⟨hE3,?_⟩
  rw[e3,e2,List.length_append]
  exact hA3.sl
 ·simp at hc
  have hlt:label<cs.length:=by omega
  have hgl:(c64 cs)[label]?=some (K64 (cs.getD label 0)):=by simp[c64,hlt]
  have hcl:cs.getD label 0<18446744073709551616:=hcs _ (by simp[hlt])
  obtain⟨h3,hst,hA3,hE3,hn3⟩:=hA1.set (P:=Proofs.Tryd.prog) (t:=47) sz47 (i:=label) (x:=K64 (cs.getD label 0 ||| 2 ^ node)) hlt rfl rfl hE1 (Nat.le_refl _)
  have hi2:=hA1.sl.idx (P:=Proofs.Tryd.prog) es38 (k:=.i64) (j:=label) hlt
  have hld:=hA1.sl.ld (Keep.refl _) (c:=label) (by simp[c64];omega) (P:=Proofs.Tryd.prog) (t:=47) ag47
  rw[Nat.mul_one] at hi2
  rw[hgl] at hld
  simp -dsimp (maxSteps:=1000000) (disch:=first|omega|(simp only[new_n,put_n];omega)|decide +kernel|(repeat first|rw[new_n]|rw[put_n])) only[wpS,wpT,Nat.reduceEqDiff,hi2,hld,hst]
  have e2:lab cs node label=cs.set label (cs.getD label 0 ||| 2 ^ node):=by rw[lab,if_neg (by omega)]
  have e3:c64 (lab cs node label)=(c64 cs).set label (K64 (cs.getD label 0 ||| 2 ^ node)):=by rw[e2,c64,c64,List.map_set]
  refine⟨hE3,?_⟩
  rw[e3,e2,List.length_set]
  exact hA3.sl
end Go.Id

/-! Contracts: enumerate. The plan of a number; the number of all plans. -/
namespace Go.Id
open Go
def IH.cutTo (h:IH) (n:Nat):IH:={ h with n:=n }
theorem ext_cut {h:IH} {n:Nat} (hn:n≤h.n):Ext (h.cutTo n) h:=⟨hn,rfl,fun _ _=>rfl,fun _ _=>rfl⟩
theorem Mem.cut {m:Nat} {a b c:IH} (x:Mem m a b) (e:Ext (b.cutTo a.n) c) (hn:b.n≤c.n):Mem m a c :=
 ⟨Nat.le_trans x.n hn,e.base.trans x.base,fun k hk hm=>(e.get k hk).trans (x.get k hk hm),fun f hf=>(e.fams f hf).trans (x.fams f hf)⟩
theorem Acc.mem {h h':IH} {n0 sz:Nat} {v:Value} {n:Nat} {cs:List Value} (a:Acc h n0 sz v n cs) {m:Nat} (e:Mem m h h') {es:MapL} (hm:h.ext.get m=some (.map es)):Acc h' n0 sz v n cs:=by
 obtain⟨hz,hl,a|⟨k,fam,rfl,hn,h1,h2,h3,h4⟩⟩:=a
 ·exact⟨hz,hl,.inl a⟩
 ·refine⟨hz,hl,.inr ⟨k,fam,rfl,hn,h1,by have:=e.n;omega,?_,?_⟩⟩
  ·rw[e.get k h2 (fun hkm=>by subst hkm;rw[hm] at h3;cases h3)];exact h3
  ·cases fam with
   | none=>trivial
   | some f =>
    obtain⟨a1,a2,rest,a3,a4⟩:=h4
    exact⟨a1,by have:=e.n;omega,rest,by rw[e.fams f a2];exact a3,a4⟩
def i64s (ls:List Nat):List Value:=ls.map fun(l:Nat)=>KI (l:Int)
theorem i64s_len (ls:List Nat):(i64s ls).length=ls.length:=by simp[i64s]
set_option maxHeartbeats 4000000 in
theorem plan_ok {F:Nat→Bool} {n:Nat} (hn:n≤12) (hn0:0<n) {q:FP} {h:IH} {k:Nat} (hk:k≤8) (hf:FieldAt h q n F) {es:MapL} (hm:h.ext.get q.m=some (.map es)) (hM:Memo F es) {i:Nat} (hi:i<after F [] (2 ^ n - 1) k) :
  WV Proofs.Tryd.prog (.func (.func 45) #[] #[]) [ptr (2*q.p) 0,KI k,KI i] h fun r h'=>Mem q.m h h'∧(∃es',h'.ext.get q.m=some (.map es')∧Memo F es')∧SlOf h' 1 r (planAt F n k n 0 [] i).length (i64s (planAt F n k n 0 [] i)):=by
 have hp12:2 ^ n≤2 ^ 12:=Nat.pow_le_pow_right (by omega) hn
 have hsm:=after_small F [] hn hk (s:=2 ^ n - 1) (by have:0<2 ^ n:=Nat.pow_pos (by omega);omega)
 have rp:h.row (2*q.p)=some [KI n,.slice (some ⟨2*q.fb,0,none⟩) (2 ^ n) (2*2 ^ n+1),.func (.func 73) #[] #[ptr (2*q.d) 0,ptr (2*q.x) 0]]:=by rw[row_even];simp only[IH.cells,hf.gp]
 refine enter (nt:=57) (rs:=[.tmp 6]) Proofs.Tryd.func45 rfl rfl rfl (by simp) ?_
 simp -dsimp (maxSteps:=1000000) (disch:=first|omega|(simp only[new_n,put_n];omega)|decide +kernel|(repeat first|rw[new_n]|rw[put_n])) only[wpS,Nat.reduceEqDiff,Nat.reduceAdd,fa95_0,ld3,rp]
 refine loop (fun m fr hh => ∃(node idx:Nat) (cs ls:List Nat) (out v:Value) (es':MapL),node+m=n∧Mem q.m h hh∧hh.ext.get q.m=some (.map es')∧Memo F es'∧Acc hh h.n 1 out ls.length (i64s ls)∧SlOf hh 1 v cs.length (c64 cs)∧(v=.slice none 0 0∨0<cs.length)∧cs.length≤node∧ls.length=node∧(∀c∈cs,c<2 ^ n) ∧
   idx<after F cs (2 ^ n - 2 ^ node) k∧ls ++ planAt F n k m node cs idx=planAt F n k n 0 [] i∧fget fr 0=some (ptr (2*q.p) 0)∧fget fr 1=some (KI k)∧fget fr 2=some (KI idx)∧fget fr 7=some out∧fget fr 8=some v∧fget fr 17=some (KI n)∧fget fr 18=some (KI node)) n
  ?_ ?_
 ·exact⟨0,i,[],[],_,_,es,by omega,Mem.refl _ _,hm,hM,Acc.nil _ _ (sz:=1) (by decide),SlOf.nil _ (sz:=1) (by decide),.inl rfl,Nat.le_refl _,rfl,fun c hc=>by(cases hc),hi,rfl,by simp,by simp,by simp,by simp,by simp,by simp,by simp⟩
 rintro m fr hh ⟨node,idx,cs,ls,out,v,es',hnm,hME,hm',hM',hA,hv,hne,hcl,hll,hcs,hidx,hpl,f0,f1,f2,f7,f8,f17,f18⟩
 simp -dsimp (maxSteps:=1000000) (disch:=first|omega|(simp only[new_n,put_n];omega)|decide +kernel|(repeat first|rw[new_n]|rw[put_n])) only[wpS,f17,f18]
 refine bq_intro ?_ ?_<;>intro hc<;>simp only[decide_eq_true_eq,decide_eq_false_iff_not] at hc
 ·have hnode:node<n:=by omega
  obtain⟨m',rfl⟩ : ∃m',m=m'+1:=⟨m - 1,by omega⟩
  have fh:=hf.mem hME
  have rph:hh.row (2*q.p)=some [KI n,.slice (some ⟨2*q.fb,0,none⟩) (2 ^ n) (2*2 ^ n+1),.func (.func 73) #[] #[ptr (2*q.d) 0,ptr (2*q.x) 0]]:=by rw[row_even];simp only[IH.cells,fh.gp]
  have ea:((2 ^ n:Nat):Int) - ((2 ^ (node+1):Nat):Int)=((above n node:Nat):Int):=by
   have:2 ^ (node+1)≤2 ^ n:=Nat.pow_le_pow_right (by omega) (by omega)
   unfold above;omega
  have en:((node:Int)+1).toNat=node+1:=by omega
  have hal:=above_lt n node
  simp -dsimp (maxSteps:=1000000) (disch:=first|omega|(simp only[new_n,put_n];omega)|decide +kernel|(repeat first|rw[new_n]|rw[put_n])) only[wpS,wpT,Nat.reduceEqDiff,fa95_0,ld3,f0,f18,rph,en,ea]
  have hsplit:=after_labels F (show n≤64 by omega) hnode cs k
  have e64 : ∀c∈cs,c<18446744073709551616:=fun c hc=>by have:=hcs c hc;omega
  have hplan:planAt F n k (m'+1) node cs idx=match findLab (fun l=>after F (lab cs node l) (above n node) k) (cs.length+1) 0 idx with
   | some (l,j)=>l :: planAt F n k m' (node+1) (lab cs node l) j
   | none => []:=rfl
  refine loop (fun d fr h2 => ∃(l j:Nat) (es2:MapL),l+d=cs.length∧j≤idx∧j<sumTo (fun x=>after F (lab cs node (l+x)) (above n node) k) (cs.length+1 - l)∧findLab (fun l=>after F (lab cs node l) (above n node) k) (cs.length+1) 0 idx=findLab (fun l=>after F (lab cs node l) (above n node) k) (cs.length+1 - l) l j ∧
    Mem q.m h h2∧h2.ext.get q.m=some (.map es2)∧Memo F es2∧Acc h2 h.n 1 out ls.length (i64s ls)∧SlOf h2 1 v cs.length (c64 cs) ∧
    fget fr 0=some (ptr (2*q.p) 0)∧fget fr 1=some (KI k)∧fget fr 2=some (KI j)∧fget fr 7=some out∧fget fr 8=some v∧fget fr 9=some (KI node)∧fget fr 10=some (K64 (above n node))∧fget fr 11=some (KI l)∧fget fr 17=some (KI n)∧fget fr 18=some (KI node)) cs.length
   ⟨0,idx,es',by omega,Nat.le_refl _,?_,rfl,hME,hm',hM',hA,hv,by simp[f0],by simp[f1],by simp[f2],by simp[f7],by simp[f8],by simp,by simp,by simp,by simp[f17],by simp[f18]⟩ ?_
  ·rw[hsplit] at hidx
   simpa using hidx
  rintro d fr h2 ⟨l,j,es2,hld,hji,hj,hfl,hM2,hm2,hMm2,hA2,hv2,g0,g1,g2,g7,g8,g9,g10,g11,g17,g18⟩
  have hb1:=after_small F (lab cs node l) hn hk hal
  have hb2:=after_small F cs hn hk (s:=2 ^ n - 2 ^ node) (by have:0<2 ^ node:=Nat.pow_pos (by omega);have:0<2 ^ n:=Nat.pow_pos (by omega);omega)
  have e1:cs.length+1 - l=(cs.length - l)+1:=by omega
  have hfu:findLab (fun l=>after F (lab cs node l) (above n node) k) (cs.length - l+1) l j=if j<after F (lab cs node l) (above n node) k then some (l,j) else findLab (fun l=>after F (lab cs node l) (above n node) k) (cs.length - l) (l+1) (j - after F (lab cs node l) (above n node) k):=rfl
  rw[e1,hfu] at hfl
  rw[e1,sumTo_shift,Nat.add_zero] at hj
  simp -dsimp (maxSteps:=1000000) (disch:=first|omega|(simp only[new_n,put_n];omega)|decide +kernel|(repeat first|rw[new_n]|rw[put_n])) only[wpS,Nat.reduceEqDiff,g8,g9,g11]
  refine call (labelled_ok hv2 hne (by omega) e64 (node:=node) (label:=l) (by omega) (by omega)) ?_
  rintro v3 h3 ⟨hE3,hv3⟩
  have f3:=(hf.mem hM2).mem (hE3.mem _)
  have rp3:h3.row (2*q.p)=some [KI n,.slice (some ⟨2*q.fb,0,none⟩) (2 ^ n) (2*2 ^ n+1),.func (.func 73) #[] #[ptr (2*q.d) 0,ptr (2*q.x) 0]]:=by rw[row_even];simp only[IH.cells,f3.gp]
  have hm3:h3.ext.get q.m=some (.map es2):=by rw[hE3.get _ (hf.mem hM2).lm];exact hm2
  simp -dsimp (maxSteps:=1000000) (disch:=first|omega|(simp only[new_n,put_n];omega)|decide +kernel|(repeat first|rw[new_n]|rw[put_n])) only[wpS,Nat.reduceEqDiff,fa95_2,ld93,g0,g1,g10,rp3]
  refine call (complete_ok hn (lab cs node l) hk f3 hm3 hMm2 hal (lab_mem hnode hcs) hv3 (by rw[lab_len];split<;>omega)) ?_
  rintro _ h4 ⟨rfl,hE4,es4,hm4,hMm4⟩
  simp -dsimp (maxSteps:=1000000) (disch:=first|omega|(simp only[new_n,put_n];omega)|decide +kernel|(repeat first|rw[new_n]|rw[put_n])) only[wpS,Nat.reduceEqDiff,g2]
  refine bq_intro ?_ ?_<;>intro hlt
  ·simp only[decide_eq_true_eq] at hlt
   have hA4:=(hA2.ext hE3).mem hE4 hm3
   have hM4:=(hM2.trans (hE3.mem _)).trans hE4
   obtain⟨out',h5,hap,hA5,hG5,hE5⟩:=hA4.app1 (P:=Proofs.Tryd.prog) (t:=44) ap44 (x:=KI l) rfl (by omega) hM4.n (ext_cut hM4.n) (Nat.le_refl _)
   simp -dsimp (maxSteps:=1000000) (disch:=first|omega|(simp only[new_n,put_n];omega)|decide +kernel|(repeat first|rw[new_n]|rw[put_n])) only[wpS,wpT,Nat.reduceEqDiff,Nat.reduceLeDiff,Nat.reduceAdd,bs44,ba44_44,g7,g11,g18,hap]
   have hlt':j<after F (lab cs node l) (above n node) k:=by omega
   rw[if_pos hlt'] at hfl
   rw[hplan,hfl] at hpl
   have h5m:h5.ext.get q.m=some (.map es4):=hG5.box (f3.mem hE4).lm hm4 fun c e f hh=>by cases hh
   refine⟨m',by omega,node+1,j,lab cs node l,ls ++ [l],out',v3,es4,by omega,hM4.cut hE5 hG5.n,h5m,hMm4,?_,(hv3.keep (hE4.keep hm3)).keep hG5.keep,.inr (by rw[lab_len];split<;>omega),by rw[lab_len];split<;>omega,by simp;omega,lab_mem hnode hcs,hlt',?_,by simp[g0],by simp[g1],by simp[g2],by simp,by simp,by simp[g17],by simp⟩
   ·simpa [i64s] using hA5
   ·rw[←hpl];simp
  ·simp only[decide_eq_false_iff_not] at hlt
   have hlt' : ¬j<after F (lab cs node l) (above n node) k:=by omega
   have ej:(j:Int) - ((after F (lab cs node l) (above n node) k:Nat):Int)=((j - after F (lab cs node l) (above n node) k:Nat):Int):=by omega
   rw[if_neg hlt'] at hfl
   have hA4:=(hA2.ext hE3).mem hE4 hm3
   have hM4:=(hM2.trans (hE3.mem _)).trans hE4
   have hllt:l<cs.length:=by
    refine Nat.lt_of_not_le fun hh=>?_
    rw[show cs.length - l=0 by omega] at hj
    simp only[sumTo,Nat.add_zero] at hj
    exact hlt' hj
   simp -dsimp (maxSteps:=1000000) (disch:=first|omega|(simp only[new_n,put_n];omega)|decide +kernel|(repeat first|rw[new_n]|rw[put_n])) only[wpS,wpT,Nat.reduceEqDiff,g2,g11,ej]
   refine⟨d - 1,by omega,l+1,j - after F (lab cs node l) (above n node) k,es4,by omega,by omega,?_,?_,hM4,hm4,hMm4,hA4,(hv2.keep hE3.keep).keep (hE4.keep hm3),by simp[g0],by simp[g1],by simp,by simp[g7],by simp[g8],by simp[g9],by simp[g10],by simp,by simp[g17],by simp[g18]⟩
   ·have e:(fun x=>after F (lab cs node (l+(x+1))) (above n node) k)=fun x=>after F (lab cs node (l+1+x)) (above n node) k:=funext fun x=>by rw[show l+(x+1)=l+1+x by omega]
    rw[e] at hj
    rw[show cs.length+1 - (l+1)=cs.length - l by omega]
    omega
   ·rw[hfl,show cs.length+1 - (l+1)=cs.length - l by omega]
 ·obtain rfl:node=n:=by omega
  obtain rfl:m=0:=by omega
  simp -dsimp (maxSteps:=1000000) (disch:=first|omega|(simp only[new_n,put_n];omega)|decide +kernel|(repeat first|rw[new_n]|rw[put_n])) only[wpS,wpT,Nat.reduceEqDiff,f7]
  have e:ls=planAt F node k node 0 [] i:=by rw[←hpl];simp[planAt]
  rw[←e]
  exact⟨hME,⟨es',hm',hM'⟩,hA.sl⟩
end Go.Id

/-! Contracts: enumerate.Count, Kth, All: what they return for bounds that fit. -/
namespace Go.Id
open Go
theorem all_fn_ok {F:Nat→Bool} {n:Nat} (hn:n≤12) {q:FP} {h:IH} {k:Nat} (hk:k≤8) (hf:FieldAt h q n F) {es:MapL} (hm:h.ext.get q.m=some (.map es)) (hM:Memo F es) :
  WV Proofs.Tryd.prog (.func (.func 44) #[] #[]) [ptr (2*q.p) 0,KI k] h fun r h'=>r=KI (after F [] (2 ^ n - 1) k)∧Mem q.m h h' ∧ ∃es',h'.ext.get q.m=some (.map es')∧Memo F es':=by
 have hp12:2 ^ n≤2 ^ 12:=Nat.pow_le_pow_right (by omega) hn
 have hp0:0<2 ^ n:=Nat.pow_pos (by omega)
 have q0:0≤((2 ^ n:Nat):Int):=Int.natCast_nonneg _
 have rp:h.row (2*q.p)=some [KI n,.slice (some ⟨2*q.fb,0,none⟩) (2 ^ n) (2*2 ^ n+1),.func (.func 73) #[] #[ptr (2*q.d) 0,ptr (2*q.x) 0]]:=by rw[row_even];simp only[IH.cells,hf.gp]
 have e1:((2 ^ n:Nat):Int) - 1=((2 ^ n - 1:Nat):Int):=by omega
 refine enter (nt:=17) (rs:=[.tmp 4]) Proofs.Tryd.func44 rfl rfl rfl (by simp) ?_
 simp -dsimp (maxSteps:=1000000) (disch:=first|omega|(simp only[new_n,put_n];omega)|decide +kernel|(repeat first|rw[new_n]|rw[put_n])) only[wpS,Nat.reduceEqDiff,Nat.reduceAdd,fa95_2,ld93,fa95_0,ld3,rp,e1]
 refine call (complete_ok hn [] hk hf hm hM (by omega) (fun c hc=>by cases hc) (SlOf.nil _ (sz:=1) (by decide)) (by simp)) ?_
 rintro _ h4 ⟨rfl,hE4,es4,hm4,hMm4⟩
 simp -dsimp (maxSteps:=1000000) (disch:=first|omega|(simp only[new_n,put_n];omega)|decide +kernel|(repeat first|rw[new_n]|rw[put_n])) only[wpS,wpT,Nat.reduceEqDiff]
 exact⟨hE4,es4,hm4,hMm4⟩
theorem memo_nil (F:Nat→Bool):Memo F []:=fun e he=>by cases he
structure ArgsAt (h:IH) (n:Nat) (E:List (Nat×Nat)) (v w:Value) (ws:List Int) (lo hi:Int) (k:Nat):Prop where
 sE:SlOf h 2 v E.length (eCells (castE E))
 sW:SlOf h 1 w ws.length (ws.map KI)
 hhi:In64 hi
 ok:enErr n (castE E) ws lo hi k=0
theorem ArgsAt.keep {h h':IH} {n:Nat} {E:List (Nat×Nat)} {v w:Value} {ws:List Int} {lo hi:Int} {k:Nat} (a:ArgsAt h n E v w ws lo hi k) (e:Keep h h'):ArgsAt h' n E v w ws lo hi k:=⟨a.sE.keep e,a.sW.keep e,a.hhi,a.ok⟩
noncomputable def totalP (n:Nat) (E:List (Nat×Nat)) (ws:List Int) (lo hi:Int) (k:Nat):Nat:=after (fitsB E ws lo hi) [] (2 ^ n - 1) k
theorem count_ok {h:IH} (hB:BaseT h) {n:Nat} {E:List (Nat×Nat)} {v w:Value} {ws:List Int} {lo hi:Int} {k:Nat} (a:ArgsAt h n E v w ws lo hi k) :
  WV Proofs.Tryd.prog (.func (.func 27) #[] #[]) [.agg #[KI n,v],.agg #[w,KI lo,KI hi,KI k]] h fun r h'=>Ext h h'∧r=.tuple #[wideV (totalP n E ws lo hi k),KI 0]:=by
 obtain⟨hG,hn0,hn12,hV,hlen,hwl,hws,hd1,hd2,hlo,hlohi⟩:=enErr_ok a.ok
 have hp12:2 ^ n≤2 ^ 12:=Nat.pow_le_pow_right (by omega) hn12
 have hp0:0<2 ^ n:=Nat.pow_pos (by omega)
 refine enter (nt:=23) (rs:=[.cell 4 58,.tmp 5]) Proofs.Tryd.func27 rfl rfl rfl (by simp) ?_
 simp -dsimp (maxSteps:=1000000) (disch:=first|omega|(simp only[new_n,put_n];omega)|decide +kernel|(repeat first|rw[new_n]|rw[put_n])) only[wpS,wpT,Nat.reduceEqDiff,Nat.reduceLeDiff,Nat.reduceAdd,zc58,ld32,ld35]
 have e0 : ∀o1 o2 o3,Ext h (((h.new o1).new o2).new o3):=fun o1 o2 o3=>(((Ext.refl h).new _).new _).new _
 have a0:=a.keep (e0 (.cells [KI n,v] 0 none) (.cells [w,KI lo,KI hi,KI k] 0 none) (.cells [.int .u64 0,.int .u64 0,.int .u64 0,.int .u64 0,.int .u64 0,.int .u64 0,.int .u64 0,.int .u64 0] 0 none)).keep
 refine call (open_ok (hB.ext (e0 _ _ _)) a0.sE a0.sW a0.hhi a0.ok) ?_
 rintro r h1 ⟨hE1,q,hqm,rfl,hF,hm⟩
 have hqm':h.n≤q.m:=by have:h.n+3≤q.m:=hqm;omega
 have hr1:h1.row (2*(h.n+1))=some [w,KI lo,KI hi,KI k]:=by
  rw[hE1.row (.inr (by simp only[new_n];omega)),row_even];simp only[IH.cells];simp (disch:=first|omega|(simp only[new_n,put_n];omega)|(repeat first|rw[new_n]|rw[put_n])) only[get_new_same,get_new_old]
 simp -dsimp (maxSteps:=1000000) (disch:=first|omega|(simp only[new_n,put_n];omega)|decide +kernel|(repeat first|rw[new_n]|rw[put_n])) only[wpS,wpT,Nat.reduceEqDiff,fa35_3,ld3,hr1]
 refine call (all_fn_ok hn12 (by omega) hF hm (memo_nil _)) ?_
 rintro _ h2 ⟨rfl,hM2,es2,hm2,hMm2⟩
 have hE2:=Mem.ext ((e0 _ _ _).trans hE1) hqm' hM2
 have hsm:=after_small (fitsB E ws lo hi) [] hn12 (show k≤8 by omega) (s:=2 ^ n - 1) (by omega)
 have hg:h2.ext.get (h.n+1+1)=some (.cells [.int .u64 0,.int .u64 0,.int .u64 0,.int .u64 0,.int .u64 0,.int .u64 0,.int .u64 0,.int .u64 0] 0 none):=by
  have h3:h.n+3≤h1.n:=hE1.n
  have h4:h.n+3≤q.m:=hqm
  rw[hM2.get _ (by omega) (by omega),hE1.get _ (by simp only[new_n];omega)];simp (disch:=first|omega|(simp only[new_n,put_n];omega)|(repeat first|rw[new_n]|rw[put_n])) only[get_new_same]
 simp -dsimp (maxSteps:=1000000) (disch:=first|omega|(simp only[new_n,put_n];omega)|decide +kernel|(repeat first|rw[new_n]|rw[put_n])) only[wpS,Nat.reduceEqDiff]
 refine call (wideOf_ok _ ⟨by omega,by omega⟩) ?_
 rintro _ h5 ⟨hE5,rfl⟩
 have hspl : ∀n,IH.splice [.int .u64 0,.int .u64 0,.int .u64 0,.int .u64 0,.int .u64 0,.int .u64 0,.int .u64 0,.int .u64 0] 0 (wdC n)=wdC n:=fun n=>splice_all (by rw[wdC_len];rfl)
 have hg5:h5.ext.get (h.n+1+1)=some (.cells [.int .u64 0,.int .u64 0,.int .u64 0,.int .u64 0,.int .u64 0,.int .u64 0,.int .u64 0,.int .u64 0] 0 none):=by
  have h3:h.n+3≤h1.n:=hE1.n
  have h6:=hM2.n
  rw[hE5.get _ (by omega)];exact hg
 simp -dsimp (maxSteps:=1000000) (disch:=first|omega|(simp only[new_n,put_n];omega)|decide +kernel|(repeat first|rw[new_n]|rw[put_n])) only[wpS,wpT,Nat.reduceEqDiff,Nat.reduceLeDiff,Nat.reduceAdd,st58,ld58,hg5,wdV_form,wdC_len,wdC_all,hspl,wd_take]
 exact⟨(hE2.trans hE5).put (by omega) _,rfl⟩
theorem kth_ok {h:IH} (hB:BaseT h) {n:Nat} {E:List (Nat×Nat)} {v w:Value} {ws:List Int} {lo hi:Int} {k:Nat} (a:ArgsAt h n E v w ws lo hi k) (x:Nat) (hx:x<W8) :
  WV Proofs.Tryd.prog (.func (.func 17) #[] #[]) [.agg #[KI n,v],.agg #[w,KI lo,KI hi,KI k],wdV x] h fun r h'=>Ext h h' ∧
   if 0≤wdI x∧wdI x<totalP n E ws lo hi k then ∃s,r=.tuple #[s,KI 0]∧SlOf h' 1 s (planAt (fitsB E ws lo hi) n k n 0 [] (wdI x).toNat).length (i64s (planAt (fitsB E ws lo hi) n k n 0 [] (wdI x).toNat)) else r=.tuple #[.slice none 0 0,KI 2]:=by
 obtain⟨hG,hn0,hn12,hV,hlen,hwl,hws,hd1,hd2,hlo,hlohi⟩:=enErr_ok a.ok
 have hp12:2 ^ n≤2 ^ 12:=Nat.pow_le_pow_right (by omega) hn12
 have hp0:0<2 ^ n:=Nat.pow_pos (by omega)
 refine enter (nt:=44) (rs:=[.tmp 6,.tmp 7]) Proofs.Tryd.func17 rfl rfl rfl (by simp) ?_
 simp -dsimp (maxSteps:=1000000) (disch:=first|omega|(simp only[new_n,put_n];omega)|decide +kernel|(repeat first|rw[new_n]|rw[put_n])) only[wpS,wpT,Nat.reduceEqDiff,Nat.reduceLeDiff,Nat.reduceAdd,ld32,ld35,wdV_form]
 have e0 : ∀o1 o2 o3,Ext h (((h.new o1).new o2).new o3):=fun o1 o2 o3=>(((Ext.refl h).new _).new _).new _
 have a0:=a.keep (e0 (.cells [KI n,v] 0 none) (.cells [w,KI lo,KI hi,KI k] 0 none) (.cells (wdC x) 0 none)).keep
 refine call (open_ok (hB.ext (e0 _ _ _)) a0.sE a0.sW a0.hhi a0.ok) ?_
 rintro r h1 ⟨hE1,q,hqm,rfl,hF,hm⟩
 have hqm':h.n≤q.m:=by have:h.n+3≤q.m:=hqm;omega
 have hr1:h1.row (2*(h.n+1))=some [w,KI lo,KI hi,KI k]:=by
  rw[hE1.row (.inr (by simp only[new_n];omega)),row_even];simp only[IH.cells];simp (disch:=first|omega|(simp only[new_n,put_n];omega)|(repeat first|rw[new_n]|rw[put_n])) only[get_new_same,get_new_old]
 have hr2:h1.row (2*(h.n+1+1))=some (wdC x):=by
  rw[hE1.row (.inr (by simp only[new_n];omega)),row_even];simp only[IH.cells];simp (disch:=first|omega|(simp only[new_n,put_n];omega)|(repeat first|rw[new_n]|rw[put_n])) only[get_new_same]
 simp -dsimp (maxSteps:=1000000) (disch:=first|omega|(simp only[new_n,put_n];omega)|decide +kernel|(repeat first|rw[new_n]|rw[put_n])) only[wpS,wpT,Nat.reduceEqDiff,Nat.reduceLeDiff,ld58,hr2,wdC_len,wd_take]
 refine call (wideInt_ok x hx) ?_
 rintro _ h2 ⟨hE2,rfl⟩
 have hF2:=hF.mem (hE2.mem _)
 have hm2:h2.ext.get q.m=some (.map []):=by rw[hE2.get _ hF.lm];exact hm
 have h3n:h.n+3≤h1.n:=hE1.n
 have hr3:h2.row (2*(h.n+1))=some [w,KI lo,KI hi,KI k]:=by rw[hE2.row (.inr (by omega))];exact hr1
 have hsm:=after_small (fitsB E ws lo hi) [] hn12 (show k≤8 by omega) (s:=2 ^ n - 1) (by omega)
 have hE3:=((e0 (.cells [KI n,v] 0 none) (.cells [w,KI lo,KI hi,KI k] 0 none) (.cells (wdC x) 0 none)).trans hE1).trans hE2
 unfold totalP
 by_cases hi64:In64 (wdI x)
 ·rw[if_pos hi64]
  by_cases hneg:wdI x<0
  ·simp -dsimp (maxSteps:=1000000) (disch:=first|omega|(simp only[new_n,put_n];omega)|decide +kernel|(repeat first|rw[new_n]|rw[put_n])) only[wpS,wpT,Nat.reduceEqDiff]
   refine⟨hE3,?_⟩
   rw[if_neg (by omega)]
   trivial
  ·simp -dsimp (maxSteps:=1000000) (disch:=first|omega|(simp only[new_n,put_n];omega)|decide +kernel|(repeat first|rw[new_n]|rw[put_n])) only[wpS,wpT,Nat.reduceEqDiff,fa35_3,ld3,hr3]
   refine call (all_fn_ok hn12 (by omega) hF2 hm2 (memo_nil _)) ?_
   rintro _ h4 ⟨rfl,hM4,es4,hm4,hMm4⟩
   have hE4:=Mem.ext hE3 hqm' hM4
   by_cases hge:(after (fitsB E ws lo hi) [] (2 ^ n - 1) k:Int)≤wdI x
   ·simp -dsimp (maxSteps:=1000000) (disch:=first|omega|(simp only[new_n,put_n];omega)|decide +kernel|(repeat first|rw[new_n]|rw[put_n])) only[wpS,wpT,Nat.reduceEqDiff]
    refine⟨hE4,?_⟩
    rw[if_neg (by omega)]
    trivial
   ·have h2n:=hE2.n
    have hq3:h.n+3≤q.m:=hqm
    have hr5:h4.row (2*(h.n+1))=some [w,KI lo,KI hi,KI k]:=by rw[hM4.row (.inr ⟨by omega,by omega⟩)];exact hr3
    simp -dsimp (maxSteps:=1000000) (disch:=first|omega|(simp only[new_n,put_n];omega)|decide +kernel|(repeat first|rw[new_n]|rw[put_n])) only[wpS,wpT,Nat.reduceEqDiff,fa35_3,ld3,hr5]
    obtain⟨i,hi⟩ : ∃i:Nat,wdI x=i:=⟨(wdI x).toNat,by omega⟩
    rw[hi] at hge ⊢
    refine call (plan_ok hn12 hn0 (by omega) (hF2.mem hM4) hm4 hMm4 (by omega)) ?_
    rintro s h5 ⟨hM5,⟨es5,hm5,hMm5⟩,hs⟩
    simp -dsimp (maxSteps:=1000000) (disch:=first|omega|(simp only[new_n,put_n];omega)|decide +kernel|(repeat first|rw[new_n]|rw[put_n])) only[wpS,Nat.reduceEqDiff]
    refine⟨Mem.ext hE4 hqm' hM5,?_⟩
    rw[if_pos (by omega)]
    exact⟨s,rfl,hs⟩
 ·rw[if_neg hi64]
  simp -dsimp (maxSteps:=1000000) (disch:=first|omega|(simp only[new_n,put_n];omega)|decide +kernel|(repeat first|rw[new_n]|rw[put_n])) only[wpS,wpT,Nat.reduceEqDiff]
  refine⟨hE3,?_⟩
  rw[if_neg (by unfold In64 at hi64;omega)]
  trivial
def PlansAt (h:IH) (v:Value) (ps:List (List Nat)):Prop:=∃vs:List Value,SlOf h 1 v ps.length vs ∧ ∀(i:Nat) (p:List Nat),ps[i]?=some p → ∃x,vs[i]?=some x∧SlOf h 1 x p.length (i64s p)
theorem PlansAt.keep {h h':IH} {v:Value} {ps:List (List Nat)} (a:PlansAt h v ps) (e:Keep h h'):PlansAt h' v ps:=by
 obtain⟨vs,h1,h2⟩:=a
 refine⟨vs,h1.keep e,fun i p hp=>?_⟩
 obtain⟨x,h3,h4⟩:=h2 i p hp
 exact⟨x,h3,h4.keep e⟩
noncomputable def plansP (n:Nat) (E:List (Nat×Nat)) (ws:List Int) (lo hi:Int) (k:Nat):List (List Nat):=(List.range (totalP n E ws lo hi k)).map fun i=>planAt (fitsB E ws lo hi) n k n 0 [] i
theorem all_ok {h:IH} (hB:BaseT h) {n:Nat} {E:List (Nat×Nat)} {v w:Value} {ws:List Int} {lo hi:Int} {k:Nat} (a:ArgsAt h n E v w ws lo hi k) :
  WV Proofs.Tryd.prog (.func (.func 16) #[] #[]) [.agg #[KI n,v],.agg #[w,KI lo,KI hi,KI k]] h fun r h'=>Ext h h'∧if totalP n E ws lo hi k≤400 then ∃x,r=.tuple #[x,KI 0]∧PlansAt h' x (plansP n E ws lo hi k) else r=.tuple #[.slice none 0 0,KI 3]:=by
 obtain⟨hG,hn0,hn12,hV,hlen,hwl,hws,hd1,hd2,hlo,hlohi⟩:=enErr_ok a.ok
 have hp12:2 ^ n≤2 ^ 12:=Nat.pow_le_pow_right (by omega) hn12
 have hp0:0<2 ^ n:=Nat.pow_pos (by omega)
 refine enter (nt:=40) (rs:=[.tmp 4,.tmp 5]) Proofs.Tryd.func16 rfl rfl rfl (by simp) ?_
 simp -dsimp (maxSteps:=1000000) (disch:=first|omega|(simp only[new_n,put_n];omega)|decide +kernel|(repeat first|rw[new_n]|rw[put_n])) only[wpS,wpT,Nat.reduceEqDiff,Nat.reduceLeDiff,Nat.reduceAdd,ld32,ld35]
 have e0 : ∀o1 o2,Ext h ((h.new o1).new o2):=fun o1 o2=>((Ext.refl h).new _).new _
 have a0:=a.keep (e0 (.cells [KI n,v] 0 none) (.cells [w,KI lo,KI hi,KI k] 0 none)).keep
 refine call (open_ok (hB.ext (e0 _ _)) a0.sE a0.sW a0.hhi a0.ok) ?_
 rintro r h1 ⟨hE1,q,hqm,rfl,hF,hm⟩
 have h2n:h.n+2≤h1.n:=hE1.n
 have hqm2:h.n+2≤q.m:=hqm
 have hr1:h1.row (2*(h.n+1))=some [w,KI lo,KI hi,KI k]:=by
  rw[hE1.row (.inr (by simp only[new_n];omega)),row_even];simp only[IH.cells];simp (disch:=first|omega|(simp only[new_n,put_n];omega)|(repeat first|rw[new_n]|rw[put_n])) only[get_new_same]
 simp -dsimp (maxSteps:=1000000) (disch:=first|omega|(simp only[new_n,put_n];omega)|decide +kernel|(repeat first|rw[new_n]|rw[put_n])) only[wpS,wpT,Nat.reduceEqDiff,fa35_3,ld3,hr1]
 refine call (all_fn_ok hn12 (by omega) hF hm (memo_nil _)) ?_
 rintro _ h2 ⟨rfl,hM2,es2,hm2,hMm2⟩
 have hsm:=after_small (fitsB E ws lo hi) [] hn12 (show k≤8 by omega) (s:=2 ^ n - 1) (by omega)
 have hE2:=Mem.ext ((e0 _ _).trans hE1) (by omega) hM2
 unfold plansP totalP
 generalize hT:after (fitsB E ws lo hi) [] (2 ^ n - 1) k=T at *
 by_cases hT4:T≤400
 ·have hF2:=hF.mem hM2
  simp -dsimp (maxSteps:=1000000) (disch:=first|omega|(simp only[new_n,put_n];omega)|decide +kernel|(repeat first|rw[new_n]|rw[put_n])) only[wpS,wpT,Nat.reduceEqDiff]
  refine loop (fun m fr hh => ∃(i:Nat) (out:Value) (vs:List Value) (es':MapL),i+m=T∧Mem q.m h2 hh∧hh.ext.get q.m=some (.map es')∧Memo (fitsB E ws lo hi) es'∧Acc hh h2.n 1 out i vs∧(∀j,j<i → ∃x,vs[j]?=some x∧SlOf hh 1 x (planAt (fitsB E ws lo hi) n k n 0 [] j).length (i64s (planAt (fitsB E ws lo hi) n k n 0 [] j))) ∧
    fget fr 3=some (ptr (2*(h.n+1)) 0)∧fget fr 6=some (ptr (2*q.p) 0)∧fget fr 9=some out∧fget fr 26=some (KI T)∧fget fr 27=some (KI i)) T
   ?_ ?_
  ·exact⟨0,_,[],es2,by omega,Mem.refl _ _,hm2,hMm2,Acc.nil _ _ (sz:=1) (by decide),fun j hj=>absurd hj (by omega),by simp,by simp,by simp,by simp,by simp⟩
  rintro m fr hh ⟨i,out,vs,es',him,hMh,hmh,hMmh,hA,hps,f3,f6,f9,f26,f27⟩
  simp -dsimp (maxSteps:=1000000) (disch:=first|omega|(simp only[new_n,put_n];omega)|decide +kernel|(repeat first|rw[new_n]|rw[put_n])) only[wpS,f26,f27]
  refine bq_intro ?_ ?_<;>intro hc<;>simp only[decide_eq_true_eq,decide_eq_false_iff_not] at hc
  ·have h1n:=hM2.n
   have hrh:hh.row (2*(h.n+1))=some [w,KI lo,KI hi,KI k]:=by rw[hMh.row (.inr ⟨by omega,by omega⟩),hM2.row (.inr ⟨by omega,by omega⟩)];exact hr1
   have hFh:=hF2.mem hMh
   simp -dsimp (maxSteps:=1000000) (disch:=first|omega|(simp only[new_n,put_n];omega)|decide +kernel|(repeat first|rw[new_n]|rw[put_n])) only[wpS,wpT,Nat.reduceEqDiff,fa35_3,ld3,f3,f6,f9,f27,hrh]
   refine call (plan_ok hn12 hn0 (by omega) hFh hmh hMmh (i:=i) (by rw[hT];omega)) ?_
   rintro s h5 ⟨hM5,⟨es5,hm5,hMm5⟩,hs⟩
   have hA5:=hA.mem hM5 hmh
   have hMh5:=hMh.trans hM5
   have hvl:vs.length=i:=by have:=hA.2.1;omega
   obtain⟨out',h6,hap,hA6,hG6,hE6⟩:=hA5.app1 (P:=Proofs.Tryd.prog) (t:=42) ap42 (x:=s) hs.cok (by omega) hMh5.n (ext_cut hMh5.n) (Nat.le_refl _)
   have h6m:h6.ext.get q.m=some (.map es5):=hG6.box (hFh.mem hM5).lm hm5 fun c e f hh=>by cases hh
   simp -dsimp (maxSteps:=1000000) (disch:=first|omega|(simp only[new_n,put_n];omega)|decide +kernel|(repeat first|rw[new_n]|rw[put_n])) only[wpS,wpT,Nat.reduceEqDiff,Nat.reduceLeDiff,Nat.reduceAdd,bs42,ba42_42,f27,hap,hs.cells]
   refine⟨m - 1,by omega,i+1,out',vs ++ [s],es5,by omega,hMh5.cut hE6 hG6.n,h6m,hMm5,hA6,?_,by simp[f3],by simp[f6],by simp,by simp[f26],by simp⟩
   intro j hj
   by_cases hji:j=i
   ·subst hji
    exact⟨s,by rw[List.getElem?_append_right (by omega),hvl,Nat.sub_self];rfl,hs.keep hG6.keep⟩
   ·obtain⟨x,h7,h8⟩:=hps j (by omega)
    exact⟨x,by rw[List.getElem?_append_left (by omega)];exact h7,(h8.keep (hM5.keep hmh)).keep hG6.keep⟩
  ·obtain rfl:i=T:=by omega
   simp -dsimp (maxSteps:=1000000) (disch:=first|omega|(simp only[new_n,put_n];omega)|decide +kernel|(repeat first|rw[new_n]|rw[put_n])) only[wpS,wpT,Nat.reduceEqDiff,f9]
   refine⟨Mem.ext hE2 (by omega) hMh,?_⟩
   rw[if_pos hT4]
   refine⟨out,rfl,vs,?_,?_⟩
   ·rw[List.length_map,List.length_range];exact hA.sl
   ·intro j p hp
    rw[List.getElem?_map] at hp
    by_cases hj:j<i
    ·rw[List.getElem?_range hj] at hp
     cases hp
     exact hps j hj
    ·rw[List.getElem?_eq_none (by simpa using hj)] at hp
     cases hp
 ·simp -dsimp (maxSteps:=1000000) (disch:=first|omega|(simp only[new_n,put_n];omega)|decide +kernel|(repeat first|rw[new_n]|rw[put_n])) only[wpS,wpT,Nat.reduceEqDiff]
  refine⟨hE2,?_⟩
  rw[if_neg hT4]
  trivial
end Go.Id

/-! Contracts: the drafted problem. -/
namespace Go.Id
open Go
theorem max_int (P:Program) (h:IH) (ts:Array TypeId) (k:IntKind) (a b:Int):builtin P h .max ts [.int k a,.int k b]=some (.int k (if a<b then b else a),h):=by
 have h1:pureRun P (Builtin.max_ ts 0 #[.int k a,.int k b])=some (.int k (if a<b then b else a)):=by
  unfold Builtin.max_
  simp
  rfl
 show(bif [Value.int k a,Value.int k b].all plain then (pureVal P (Builtin.max_ ts 0 #[.int k a,.int k b])).map (·,h) else none)=_
 simp only[pureVal,h1]
 rfl
structure DraftAt (h:IH) (x:Value):Prop where
 ex : ∃(wd hi less sl ds mn wn:Nat) (mv wv:Value) (ms wcs:List Value),x=.agg #[K8 wd,K8 hi,K16 less,mv,wv,K8 sl,K8 ds]∧SlOf h 2 mv mn ms∧(∀x∈ms,∃i:Nat,x=K8 i∧i<256) ∧
  SlOf h 1 wv wn wcs∧(∀x∈wcs,∃i:Nat,x=K8 i∧i<256)∧wd<256∧hi<256∧less<65536∧sl<256∧ds<256
set_option maxHeartbeats 8000000 in
theorem problemN_ok {h:IH} {x:Value} (hx:DraftAt h x) {M:Nat} (hM : ∀(wd hi:Nat) (less mv wv sl ds:Value),x=.agg #[K8 wd,K8 hi,less,mv,wv,sl,ds]→(1+wd % 3 % 4)*(1+hi % 3)≤M) :
  WV Proofs.Tryd.prog (.func (.func 9) #[] #[]) [x] h fun r h'=>Ext h h' ∧ ∃(n k:Nat) (E:List (Nat×Nat)) (v w:Value) (ws:List Int) (lo hi:Int),r=.tuple #[.agg #[KI n,v],.agg #[w,KI lo,KI hi,KI k]]∧ArgsAt h' n E v w ws lo hi k∧k≤4∧n≤9∧n≤M∧(∀w∈ws,0≤w∧w≤40):=by
 obtain⟨wd,hi,less,sl,ds,mn,wn,mv,wv,ms,wcs,rfl,hm,h8m,hw,h8w,h1,h2,h3,h4,h5⟩:=hx.ex
 refine enter (nt:=76) (rs:=[.cell 2 32,.cell 3 35]) Proofs.Tryd.func9 rfl rfl rfl (by simp) ?_
 have tk:List.take 4 [K8 wd,K8 hi,K16 less,mv,wv,K8 sl,K8 ds] = [K8 wd,K8 hi,K16 less,mv]:=rfl
 have e3:(wd:Int) % 3=((wd % 3:Nat):Int):=by omega
 simp -dsimp (maxSteps:=1000000) (disch:=first|omega|(simp only[new_n,put_n];omega)|decide +kernel|(repeat first|rw[new_n]|rw[put_n])) only[wpS,wpT,Nat.reduceEqDiff,Nat.reduceLeDiff,Nat.reduceAdd,zc32,zc35,fa28_0,ld25,zc25,st25,fa25_0,ld5,st5,hm.cok,List.drop_zero,tk,e3]
 have eT:Ext h ((((((h.new (.cells [K8 wd,K8 hi,K16 less,mv,wv,K8 sl,K8 ds] 0 none)).new (.cells [.int .i64 0,.slice none 0 0] 0 none)).new (.cells [.slice none 0 0,.int .i64 0,.int .i64 0,.int .i64 0] 0 none)).new (.cells [.int .u8 0,.int .u8 0,.int .u16 0,.slice none 0 0] 0 none)).put (h.n+1+1+1) (.cells [K8 wd,K8 hi,K16 less,mv] 0 none)).put (h.n+1+1+1) (.cells [.int .u8 ((wd % 3:Nat):Int),K8 hi,K16 less,mv] 0 none)):=((((((Ext.refl h).new _).new _).new _).new _).put (by omega) _).put (by omega) _
 have nT:((((((h.new (.cells [K8 wd,K8 hi,K16 less,mv,wv,K8 sl,K8 ds] 0 none)).new (.cells [.int .i64 0,.slice none 0 0] 0 none)).new (.cells [.slice none 0 0,.int .i64 0,.int .i64 0,.int .i64 0] 0 none)).new (.cells [.int .u8 0,.int .u8 0,.int .u16 0,.slice none 0 0] 0 none)).put (h.n+1+1+1) (.cells [K8 wd,K8 hi,K16 less,mv] 0 none)).put (h.n+1+1+1) (.cells [.int .u8 ((wd % 3:Nat):Int),K8 hi,K16 less,mv] 0 none)).n=h.n+4:=rfl
 have t0:((((((h.new (.cells [K8 wd,K8 hi,K16 less,mv,wv,K8 sl,K8 ds] 0 none)).new (.cells [.int .i64 0,.slice none 0 0] 0 none)).new (.cells [.slice none 0 0,.int .i64 0,.int .i64 0,.int .i64 0] 0 none)).new (.cells [.int .u8 0,.int .u8 0,.int .u16 0,.slice none 0 0] 0 none)).put (h.n+1+1+1) (.cells [K8 wd,K8 hi,K16 less,mv] 0 none)).put (h.n+1+1+1) (.cells [.int .u8 ((wd % 3:Nat):Int),K8 hi,K16 less,mv] 0 none)).row (2*h.n)=some [K8 wd,K8 hi,K16 less,mv,wv,K8 sl,K8 ds]:=by rw[row_even];simp only[IH.cells];simp (disch:=first|omega|(simp only[new_n,put_n];omega)|(repeat first|rw[new_n]|rw[put_n])) only[get_new_same,get_new_old,get_put_old]
 have t1:((((((h.new (.cells [K8 wd,K8 hi,K16 less,mv,wv,K8 sl,K8 ds] 0 none)).new (.cells [.int .i64 0,.slice none 0 0] 0 none)).new (.cells [.slice none 0 0,.int .i64 0,.int .i64 0,.int .i64 0] 0 none)).new (.cells [.int .u8 0,.int .u8 0,.int .u16 0,.slice none 0 0] 0 none)).put (h.n+1+1+1) (.cells [K8 wd,K8 hi,K16 less,mv] 0 none)).put (h.n+1+1+1) (.cells [.int .u8 ((wd % 3:Nat):Int),K8 hi,K16 less,mv] 0 none)).ext.get (h.n+1)=some (.cells [.int .i64 0,.slice none 0 0] 0 none):=by simp (disch:=first|omega|(simp only[new_n,put_n];omega)|(repeat first|rw[new_n]|rw[put_n])) only[get_new_same,get_new_old,get_put_old]
 have t2:((((((h.new (.cells [K8 wd,K8 hi,K16 less,mv,wv,K8 sl,K8 ds] 0 none)).new (.cells [.int .i64 0,.slice none 0 0] 0 none)).new (.cells [.slice none 0 0,.int .i64 0,.int .i64 0,.int .i64 0] 0 none)).new (.cells [.int .u8 0,.int .u8 0,.int .u16 0,.slice none 0 0] 0 none)).put (h.n+1+1+1) (.cells [K8 wd,K8 hi,K16 less,mv] 0 none)).put (h.n+1+1+1) (.cells [.int .u8 ((wd % 3:Nat):Int),K8 hi,K16 less,mv] 0 none)).ext.get (h.n+2)=some (.cells [.slice none 0 0,.int .i64 0,.int .i64 0,.int .i64 0] 0 none):=by simp (disch:=first|omega|(simp only[new_n,put_n];omega)|(repeat first|rw[new_n]|rw[put_n])) only[get_new_same,get_new_old,get_put_old]
 generalize ((((((h.new (.cells [K8 wd,K8 hi,K16 less,mv,wv,K8 sl,K8 ds] 0 none)).new (.cells [.int .i64 0,.slice none 0 0] 0 none)).new (.cells [.slice none 0 0,.int .i64 0,.int .i64 0,.int .i64 0] 0 none)).new (.cells [.int .u8 0,.int .u8 0,.int .u16 0,.slice none 0 0] 0 none)).put (h.n+1+1+1) (.cells [K8 wd,K8 hi,K16 less,mv] 0 none)).put (h.n+1+1+1) (.cells [.int .u8 ((wd % 3:Nat):Int),K8 hi,K16 less,mv] 0 none))=T at *
 refine call (draftGraph_ok (wd % 3) hi less (hm.ext eT) h8m (by omega) h2 h3) ?_
 rintro _ h1' ⟨hE1,E,v,rfl,hv,hgr⟩
 obtain⟨n,hn⟩ : ∃n,n=(1+wd % 3 % 4)*(1+hi % 3):=⟨_,rfl⟩
 have hn1:1≤n:=by rw[hn];exact Nat.mul_pos (by omega) (by omega)
 have hn2:n≤3*3:=by rw[hn];exact Nat.mul_le_mul (by omega) (by omega)
 have hnM:n≤M:=by rw[hn];exact hM wd hi _ _ _ _ _ rfl
 clear hM
 rw[←hn] at hgr ⊢
 have r0:h1'.row (2*h.n)=some [K8 wd,K8 hi,K16 less,mv,wv,K8 sl,K8 ds]:=by rw[hE1.row (.inr (by omega))];exact t0
 have g1:h1'.ext.get (h.n+1)=some (.cells [.int .i64 0,.slice none 0 0] 0 none):=by rw[hE1.get _ (by omega)];exact t1
 have g2:h1'.ext.get (h.n+2)=some (.cells [.slice none 0 0,.int .i64 0,.int .i64 0,.int .i64 0] 0 none):=by rw[hE1.get _ (by omega)];exact t2
 have hn3:h.n+4≤h1'.n:=by have:=hE1.n;omega
 obtain⟨k,hk⟩ : ∃k,k=1+ds % 4:=⟨_,rfl⟩
 have ek:1+(ds:Int) % 4=(k:Int):=by omega
 simp -dsimp (maxSteps:=1000000) (disch:=first|omega|(simp only[new_n,put_n];omega)|decide +kernel|(repeat first|rw[new_n]|rw[put_n])) only[wpS,wpT,Nat.reduceEqDiff,Nat.reduceLeDiff,Nat.reduceAdd,zc32,zc35,ld5,st32,fa28_3,cv5_3,bv35,pl35_3,st35,hv.cok,r0,ek]
 have eT2:Ext h1' ((h1'.new (.cells [.int .i64 0,.slice none 0 0] 0 none)).put h1'.n (.cells [KI n,v] 0 none)):=((Ext.refl h1').new _).put (Nat.le_refl _) _
 have nT2:((h1'.new (.cells [.int .i64 0,.slice none 0 0] 0 none)).put h1'.n (.cells [KI n,v] 0 none)).n=h1'.n+1:=rfl
 have rg:((h1'.new (.cells [.int .i64 0,.slice none 0 0] 0 none)).put h1'.n (.cells [KI n,v] 0 none)).row (2*h1'.n)=some [KI n,v]:=by rw[row_even];simp only[IH.cells];simp (disch:=first|omega|(simp only[new_n,put_n];omega)|(repeat first|rw[new_n]|rw[put_n])) only[get_put_same]
 generalize ((h1'.new (.cells [.int .i64 0,.slice none 0 0] 0 none)).put h1'.n (.cells [KI n,v] 0 none))=T2 at *
 have eT3:Ext T2 ((T2.new (.cells [.slice none 0 0,.int .i64 0,.int .i64 0,.int .i64 0] 0 none)).put (h1'.n+1) (.cells [.slice none 0 0,.int .i64 0,.int .i64 0,.int .i64 k] 0 none)):=((Ext.refl T2).new _).put (by omega) _
 have gT3:((T2.new (.cells [.slice none 0 0,.int .i64 0,.int .i64 0,.int .i64 0] 0 none)).put (h1'.n+1) (.cells [.slice none 0 0,.int .i64 0,.int .i64 0,.int .i64 k] 0 none)).ext.get (h1'.n+1)=some (.cells [.slice none 0 0,.int .i64 0,.int .i64 0,KI k] 0 none):=get_put_same _ _ rfl
 have nT3:h1'.n+1<((T2.new (.cells [.slice none 0 0,.int .i64 0,.int .i64 0,.int .i64 0] 0 none)).put (h1'.n+1) (.cells [.slice none 0 0,.int .i64 0,.int .i64 0,.int .i64 k] 0 none)).n:=by simp only[new_n,put_n];omega
 generalize ((T2.new (.cells [.slice none 0 0,.int .i64 0,.int .i64 0,.int .i64 0] 0 none)).put (h1'.n+1) (.cells [.slice none 0 0,.int .i64 0,.int .i64 0,.int .i64 k] 0 none))=T3 at *
 have wacc : ∀(x:Int),[KI x] = [x].map KI:=fun _=>rfl
 refine loop (fun m fr hh => ∃(i:Nat) (ws:List Int) (out:Value) (sum:Int),i+m=n∧Ext T2 hh∧h1'.n+1<hh.n∧hh.ext.get (h1'.n+1)=some (.cells [out,.int .i64 0,.int .i64 0,KI k] 0 none)∧Acc hh (h1'.n+2) 1 out ws.length (ws.map KI)∧ws.length=i∧(∀w∈ws,0≤w∧w≤40)∧0≤sum∧sum≤40*i ∧
   fget fr 1=some (ptr (2*h.n) 0)∧fget fr 2=some (ptr (2*(h.n+1)) 0)∧fget fr 3=some (ptr (2*(h.n+1+1)) 0)∧fget fr 5=some (ptr (2*h1'.n) 0)∧fget fr 6=some (ptr (2*(h1'.n+1)) 0)∧fget fr 7=some (KI sum)∧fget fr 8=some (KI i)) n
  ⟨0,[],_,0,by omega,eT3,nT3,gT3,Acc.nil _ _ (sz:=1) (by decide),rfl,(fun w hw=>by cases hw),by omega,by omega,by simp,by simp,by simp,by simp,by simp,by simp,by simp⟩ ?_
 rintro m fr hh ⟨i,ws,out,sum,him,hE,hln,hg,hA,hwl,hws,hs0,hs1,f1,f2,f3,f5,f6,f7,f8⟩
 have hEn:=hE.n
 have rh:hh.row (2*h1'.n)=some [KI n,v]:=by rw[hE.row (.inr (by omega))];exact rg
 have rb:hh.row (2*(h1'.n+1))=some [out,.int .i64 0,.int .i64 0,KI k]:=by rw[row_even];simp only[IH.cells,hg]
 have eh:Ext h hh:=((eT.trans hE1).trans eT2).trans hE
 have rd:hh.row (2*h.n)=some [K8 wd,K8 hi,K16 less,mv,wv,K8 sl,K8 ds]:=by rw[(eT2.trans hE).row (.inr (by omega))];exact r0
 simp -dsimp (maxSteps:=1000000) (disch:=first|omega|(simp only[new_n,put_n];omega)|decide +kernel|(repeat first|rw[new_n]|rw[put_n])) only[wpS,Nat.reduceEqDiff,fa32_0,ld3,f5,f8,rh]
 refine bq_intro ?_ ?_<;>intro hc<;>simp only[decide_eq_true_eq,decide_eq_false_iff_not] at hc
 ·have fin : ∀(fr:Fr) (z:Nat),z≤40 → ∃(v':Value) (h5:IH),append Proofs.Tryd.prog (hh.new (.cells [KI z] 1 none)) 33 out (.slice (some ⟨2*hh.n,0,none⟩) 1 3)=some (v',h5)∧h5.ext.get (h1'.n+1)=some (.cells [out,.int .i64 0,.int .i64 0,KI k] 0 none)∧Ext T2 (h5.put (h1'.n+1) (.cells [v',.int .i64 0,.int .i64 0,KI k] 0 none))∧h1'.n+1<h5.n∧SlOf h5 1 v' (ws.length+1) ((ws ++ [(z:Int)]).map KI) ∧
    Acc (h5.put (h1'.n+1) (.cells [v',.int .i64 0,.int .i64 0,KI k] 0 none)) (h1'.n+2) 1 v' (ws ++ [(z:Int)]).length ((ws ++ [(z:Int)]).map KI):=by
   intro fr z hz
   obtain⟨v',h5,hap,hA5,hG5,hE5⟩:=hA.app1 (P:=Proofs.Tryd.prog) (t:=33) ap33 (x:=KI z) rfl (by omega) (by omega) hE (by omega)
   have g5:h5.ext.get (h1'.n+1)=some (.cells [out,.int .i64 0,.int .i64 0,KI k] 0 none):=hG5.var hln hg
   have h5n:=hG5.n
   have hA6:Acc h5 (h1'.n+2) 1 v' (ws ++ [(z:Int)]).length ((ws ++ [(z:Int)]).map KI):=by simpa using hA5
   refine⟨v',h5,hap,g5,hE5.put (by omega) _,by omega,?_,hA6.put g5 _⟩
   simpa using hA6.sl
  by_cases hwn:0<wn
  ·have hw':=hw.ext eh
   have hwl2:wcs.length=wn:=by have:=hw'.2.1;omega
   have hmod:i % wn<wn:=Nat.mod_lt _ hwn
   obtain⟨x0,hx0⟩ : ∃x,wcs[i % wn]?=some x:=⟨_,List.getElem?_eq_getElem (by omega)⟩
   obtain⟨x1,rfl,hx1⟩:=h8w _ (List.mem_of_getElem? hx0)
   have ix:=hw'.idx (P:=Proofs.Tryd.prog) (t:=26) es26 (k:=.i64) (j:=i % wn) hmod
   have ld:=hw'.ld (Keep.refl _) (c:=i % wn) (by omega) (P:=Proofs.Tryd.prog) (t:=5) ag5
   rw[Nat.mul_one] at ix
   rw[hx0] at ld
   have ei:(i:Int) % (wn:Int)=((i % wn:Nat):Int):=by omega
   have ew:(x1:Int) % 40=((x1 % 40:Nat):Int):=by omega
   obtain⟨v',h5,hap,g5,hE5,h5n,hsl5,hA5⟩:=fin fr (x1 % 40) (by omega)
   have hwn':(0:Int)<wn:=by omega
   simp -dsimp (maxSteps:=1000000) (disch:=first|omega|(simp only[new_n,put_n];omega)|decide +kernel|(repeat first|rw[new_n]|rw[put_n])) only[wpS,wpT,Nat.reduceEqDiff,Nat.reduceLeDiff,Nat.reduceAdd,cv5_3,fa28_1,ld26,fa35_0,ld33,bs33,st33,ba33_33,f1,f6,f7,f8,rd,rb,hw'.len sl26,ei,ix,ld,ew,hap,g5,hsl5.cells,hsl5.cok]
   refine⟨m - 1,by omega,i+1,ws ++ [((x1 % 40:Nat):Int)],v',sum+((x1 % 40:Nat):Int),by omega,hE5,by simp only[put_n];omega,get_put_same _ _ rfl,hA5,by simp;omega,?_,by omega,by omega,by simp[f1],by simp[f2],by simp[f3],by simp[f5],by simp[f6],by simp,by simp⟩
   intro w hw
   rcases List.mem_append.1 hw with hw|hw
   ·exact hws w hw
   ·simp only[List.mem_singleton] at hw;omega
  ·obtain⟨v',h5,hap,g5,hE5,h5n,hsl5,hA5⟩:=fin fr 10 (by omega)
   have hwn' : ¬(0:Int)<wn:=by omega
   have hap':append Proofs.Tryd.prog (hh.new (.cells [.int .i64 10] 1 none)) 33 out (.slice (some ⟨2*hh.n,0,none⟩) 1 3)=some (v',h5):=hap
   simp -dsimp (maxSteps:=1000000) (disch:=first|omega|(simp only[new_n,put_n];omega)|decide +kernel|(repeat first|rw[new_n]|rw[put_n])) only[wpS,wpT,Nat.reduceEqDiff,Nat.reduceLeDiff,Nat.reduceAdd,fa28_1,ld26,fa35_0,ld33,bs33,st33,ba33_33,f1,f6,f7,f8,rd,rb,(hw.ext eh).len sl26,hap',g5,hsl5.cells,hsl5.cok]
   refine⟨m - 1,by omega,i+1,ws ++ [((10:Nat):Int)],v',sum+10,by omega,hE5,by simp only[put_n];omega,get_put_same _ _ rfl,hA5,by simp;omega,?_,by omega,by omega,by simp[f1],by simp[f2],by simp[f3],by simp[f5],by simp[f6],by simp,by simp⟩
   intro w hw
   rcases List.mem_append.1 hw with hw|hw
   ·exact hws w hw
   ·simp only[List.mem_singleton] at hw;omega
 ·obtain rfl:i=n:=by omega
  have hk0:(0:Int)<k:=by omega
  have hq0:0≤sum / (k:Int):=Int.ediv_nonneg hs0 (by omega)
  have hq1:sum / (k:Int)≤sum:=Int.ediv_le_self _ hs0
  have gr1:hh.ext.get (h.n+1)=some (.cells [.int .i64 0,.slice none 0 0] 0 none):=by rw[(eT2.trans hE).get _ (by omega)];exact g1
  have gr2:hh.ext.get (h.n+2)=some (.cells [.slice none 0 0,.int .i64 0,.int .i64 0,.int .i64 0] 0 none):=by rw[(eT2.trans hE).get _ (by omega)];exact g2
  simp -dsimp (maxSteps:=1000000) (disch:=first|omega|(simp only[new_n,put_n];omega)|decide +kernel|(repeat first|rw[new_n]|rw[put_n])) only[wpS,wpT,Nat.reduceEqDiff,Nat.reduceLeDiff,Nat.reduceAdd,ld5,cv5_3,ld3,fa35_3,fa28_2,fa35_1,st3,fa35_2,f1,f6,f7,rd,rb,hg,max_int]
  obtain⟨lo,hlo⟩ : ∃lo,lo=if 0<sum / (k:Int) - (sl:Int) then sum / (k:Int) - (sl:Int) else 0:=⟨_,rfl⟩
  have hlo0:0≤lo:=by rw[hlo];split<;>omega
  have hlo1:lo≤sum / (k:Int):=by rw[hlo];split<;>omega
  obtain⟨hi2,hhi⟩ : ∃hi2,hi2=sum / (k:Int)+1+(sl:Int):=⟨_,rfl⟩
  rw[←hlo,←hhi]
  have hF1:Ext T2 ((hh.put (h1'.n+1) (.cells [out,.int .i64 lo,.int .i64 0,KI k] 0 none)).put (h1'.n+1) (.cells [out,.int .i64 lo,.int .i64 hi2,KI k] 0 none)):=(hE.put (by omega) _).put (by omega) _
  have gF:((hh.put (h1'.n+1) (.cells [out,.int .i64 lo,.int .i64 0,KI k] 0 none)).put (h1'.n+1) (.cells [out,.int .i64 lo,.int .i64 hi2,KI k] 0 none)).row (2*(h1'.n+1))=some [out,KI lo,KI hi2,KI k]:=by rw[row_even];simp only[IH.cells];simp (disch:=first|omega|(simp only[new_n,put_n];omega)|(repeat first|rw[new_n]|rw[put_n])) only[get_put_same]
  have kF:SlOf ((hh.put (h1'.n+1) (.cells [out,.int .i64 lo,.int .i64 0,KI k] 0 none)).put (h1'.n+1) (.cells [out,.int .i64 lo,.int .i64 hi2,KI k] 0 none)) 1 out ws.length (ws.map KI):=(hA.sl.keep ((Keep.refl hh).put hg _)).keep ((Keep.refl _).put (get_put_same _ _ rfl) _)
  have lF:h1'.n+1<((hh.put (h1'.n+1) (.cells [out,.int .i64 lo,.int .i64 0,KI k] 0 none)).put (h1'.n+1) (.cells [out,.int .i64 lo,.int .i64 hi2,KI k] 0 none)).n:=hln
  generalize ((hh.put (h1'.n+1) (.cells [out,.int .i64 lo,.int .i64 0,KI k] 0 none)).put (h1'.n+1) (.cells [out,.int .i64 lo,.int .i64 hi2,KI k] 0 none))=hF at *
  have hFn:=hF1.n
  have rF:hF.row (2*h1'.n)=some [KI i,v]:=by rw[hF1.row (.inr (by omega))];exact rg
  have gr1:hF.ext.get (h.n+1)=some (.cells [.int .i64 0,.slice none 0 0] 0 none):=by rw[(eT2.trans hF1).get _ (by omega)];exact g1
  have gr2:hF.ext.get (h.n+2)=some (.cells [.slice none 0 0,.int .i64 0,.int .i64 0,.int .i64 0] 0 none):=by rw[(eT2.trans hF1).get _ (by omega)];exact g2
  have tk2:List.take 4 (List.drop 0 [out,KI lo,KI hi2,KI k]) = [out,KI lo,KI hi2,KI k]:=rfl
  have tk3:List.take 2 (List.drop 0 [KI i,v]) = [KI i,v]:=rfl
  refine drawn [(1,[3])] (by kernel_rfl) (by kernel_rfl) rfl ?_
  simp -dsimp (maxSteps:=1000000) (disch:=first|omega|(simp only[new_n,put_n];omega)|decide +kernel|(repeat first|rw[new_n]|rw[put_n])) only[wpS,wpT,Nat.reduceEqDiff,Nat.reduceLeDiff,Nat.reduceAdd,st32,st35,ld32,ld35,f2,f3,f5,f6,rF,gF,gr1,gr2,tk2,tk3,hv.cok,hA.sl.cok]
  refine⟨wpSteady_one rfl rfl rfl rfl (steady_load (av:=ptr (2*(h1'.n+1)) 0) (v:=.agg #[out,KI lo,KI hi2,KI k]) ?_ ?_ ?_),?_⟩
  ·simp[f6]
  ·simp -dsimp (maxSteps:=1000000) (disch:=first|omega|(simp only[new_n,put_n];omega)|decide +kernel|(repeat first|rw[new_n]|rw[put_n])) only[wpS,wpT,Nat.reduceLeDiff,Nat.reduceAdd,ld35,gF,tk2]
  ·simp -dsimp (maxSteps:=1000000) (disch:=first|omega|(simp only[new_n,put_n];omega)|decide +kernel|(repeat first|rw[new_n]|rw[put_n])) only[wpS,wpT,Nat.reduceLeDiff,Nat.reduceAdd,ld35,gF,tk2]
  simp -dsimp (maxSteps:=1000000) (disch:=first|omega|(simp only[new_n,put_n];omega)|decide +kernel|(repeat first|rw[new_n]|rw[put_n])) only[wpS,wpT,Nat.reduceEqDiff,Nat.reduceLeDiff,Nat.reduceAdd,ld32,ld35,f2,f3,tk2,tk3]
  have gr3:(hF.put (h.n+1) (.cells [KI i,v] 0 none)).ext.get (h.n+1+1)=some (.cells [.slice none 0 0,.int .i64 0,.int .i64 0,.int .i64 0] 0 none):=by rw[get_put_old _ _ (by omega)];exact gr2
  have kk:Keep hF ((hF.put (h.n+1) (.cells [KI i,v] 0 none)).put (h.n+1+1) (.cells [out,KI lo,KI hi2,KI k] 0 none)):=((Keep.refl hF).put gr1 _).put gr3 _
  refine⟨((((eT.trans hE1).trans eT2).trans hF1).put (by omega) _).put (by omega) _,i,k,E,v,out,ws,lo,hi2,rfl,⟨(hv.keep (eT2.trans hF1).keep).keep kk,kF.keep kk,⟨by omega,by omega⟩,?_⟩,by omega,by omega,hnM,hws⟩
  rw[enErr,if_pos hgr,if_pos (by omega),if_pos ⟨by omega,fun w hw=>by have:=hws w hw;omega,by omega,by omega,by omega,by omega⟩]
end Go.Id

/-! The rows' common part: a draft that came in. -/
namespace Go.Proofs.YtipnghefdfnlnaaDoor
open Go.ChangeShapes Go.WideShapes Go.ChangeAt Go.RowKit Go.Id
theorem c2t:Tryd.prog.cellsOf 121=2:=by kernel_rfl
theorem c7t:Tryd.prog.cellsOf 28=7:=by kernel_rfl
theorem c4t:Tryd.prog.cellsOf 25=4:=by kernel_rfl
theorem c16t:Tryd.prog.cellsOf 22=1:=by kernel_rfl
theorem csl1:Tryd.prog.cellsOf 23=1:=by kernel_rfl
theorem csl2:Tryd.prog.cellsOf 26=1:=by kernel_rfl
section
variable {H:Type} {enc:TypeId×Value→H} {W:World} {base:Nat} {sp:Nat→Bool} {held:Bool}
abbrev IsU8 (y:Value):Prop:=∃i:Nat,y=K8 i∧i<256
theorem u8_of {fuel:Nat} {c:Value} {x:DataW H×List MemPlace} (h:DataW.trod enc Tryd.prog W base sp held fuel 5 [c]=some x):IsU8 c:=by
 obtain⟨i,h1,h2⟩:=trod_nat (m:=255) rfl rfl Tryd.underlying5 h
 cases h1
 exact⟨i,rfl,by omega⟩
theorem u16_of {fuel:Nat} {c:Value} {x:DataW H×List MemPlace} (h:DataW.trod enc Tryd.prog W base sp held fuel 22 [c]=some x) : ∃i:Nat,c=K16 i∧i<65536:=by
 obtain⟨i,h1,h2⟩:=trod_nat (m:=65535) rfl rfl Tryd.underlying22 h
 cases h1
 exact⟨i,rfl,by omega⟩
theorem pair_of {fuel:Nat} {cs:List Value} {x:DataW H×List MemPlace} (h:DataW.trod enc Tryd.prog W base sp held fuel 121 cs=some x) : ∀y∈cs,IsU8 y∧scal y=true:=by
 obtain⟨xs,m,_,_,hl,hn,hel⟩:=DataW.trod_array Tryd.underlying121 h
 rw[c2t] at hl
 obtain⟨x0,hx0⟩ : ∃y,xs[0]?=some y:=⟨_,List.getElem?_eq_getElem (by omega)⟩
 obtain⟨x1,hx1⟩ : ∃y,xs[1]?=some y:=⟨_,List.getElem?_eq_getElem (by omega)⟩
 simp only[c8t,Nat.mul_one] at hel
 have e0:=(hel 0 (by decide)).trans hx0
 have e1:=(hel 1 (by decide)).trans hx1
 match cs,hl with
 | [a,b],_ =>
  obtain⟨i,rfl,hi⟩:=u8_of (c:=a) e0
  obtain⟨j,rfl,hj⟩:=u8_of (c:=b) e1
  intro y hy
  rcases List.mem_cons.1 hy with rfl|hy
  ·exact⟨⟨i,rfl,hi⟩,rfl⟩
  ·rcases List.mem_cons.1 hy with rfl|hy
   ·exact⟨⟨j,rfl,hj⟩,rfl⟩
   ·cases hy
theorem one_of {fuel:Nat} {cs:List Value} {x:DataW H×List MemPlace} (h:DataW.trod enc Tryd.prog W base sp held fuel 5 cs=some x) : ∀y∈cs,IsU8 y∧scal y=true:=by
 obtain⟨i,rfl,h2⟩:=trod_nat (m:=255) rfl rfl Tryd.underlying5 h
 intro y hy
 rcases List.mem_cons.1 hy with rfl|hy
 ·exact⟨⟨i,rfl,by omega⟩,rfl⟩
 ·cases hy
end
theorem len7 {α:Type} : ∀{l:List α},l.length=7 → ∃a b c d e f g,l = [a,b,c,d,e,f,g]
 | [a,b,c,d,e,f,g],_=>⟨a,b,c,d,e,f,g,rfl⟩
structure DraftIn (W:World) (cs:List Value):Prop where
 ex : ∃(wd hi less sl ds mn wn:Nat) (mv wv:Value) (ms wcs:List Value),cs = [K8 wd,K8 hi,K16 less,mv,wv,K8 sl,K8 ds]∧SlArg W 2 mv mn ms∧(∀x∈ms,IsU8 x)∧SlArg W 1 wv wn wcs∧(∀x∈wcs,IsU8 x)∧wd<256∧hi<256∧less<65536∧sl<256∧ds<256
theorem draft_of {H:Type} {enc:TypeId×Value→H} {W:World} {held:Bool} {fuel:Nat} {cs:List Value} {x:DataW H×List MemPlace} (h:DataW.trod enc Tryd.prog W 0 (fun _=>true) held fuel 28 cs=some x):DraftIn W cs:=by
 obtain⟨xs,n,_,_,hl,hn,hf⟩:=DataW.trod_struct Tryd.underlying28 h
 rw[c7t] at hl
 have hn4:xs.length=4:=hn
 obtain⟨x0,hx0⟩ : ∃y,xs[0]?=some y:=⟨_,List.getElem?_eq_getElem (by omega)⟩
 have f0:DataW.trod enc Tryd.prog W 0 (fun _=>true) held n 25 ((cs.drop 0).take (Tryd.prog.cellsOf 25))=some x0:=(hf 0 { name := "Graph",type:=25,offset:=0,embedded:=false,tag := "",pkgPath := "",byteOffset:=0 } rfl).trans hx0
 obtain⟨x1,hx1⟩ : ∃y,xs[1]?=some y:=⟨_,List.getElem?_eq_getElem (by omega)⟩
 have f1:DataW.trod enc Tryd.prog W 0 (fun _=>true) held n 26 ((cs.drop 4).take (Tryd.prog.cellsOf 26))=some x1:=(hf 1 { name := "Weights",type:=26,offset:=4,embedded:=false,tag := "",pkgPath := "",byteOffset:=32 } rfl).trans hx1
 obtain⟨x2,hx2⟩ : ∃y,xs[2]?=some y:=⟨_,List.getElem?_eq_getElem (by omega)⟩
 have f2:DataW.trod enc Tryd.prog W 0 (fun _=>true) held n 5 ((cs.drop 5).take (Tryd.prog.cellsOf 5))=some x2:=(hf 2 { name := "Slack",type:=5,offset:=5,embedded:=false,tag := "",pkgPath := "",byteOffset:=56 } rfl).trans hx2
 obtain⟨x3,hx3⟩ : ∃y,xs[3]?=some y:=⟨_,List.getElem?_eq_getElem (by omega)⟩
 have f3:DataW.trod enc Tryd.prog W 0 (fun _=>true) held n 5 ((cs.drop 6).take (Tryd.prog.cellsOf 5))=some x3:=(hf 3 { name := "Districts",type:=5,offset:=6,embedded:=false,tag := "",pkgPath := "",byteOffset:=57 } rfl).trans hx3
 rw[c4t] at f0
 rw[csl2] at f1
 rw[c8t] at f2 f3
 obtain⟨a,b,c,d,e,f,g,rfl⟩:=len7 hl
 obtain⟨ys,m,_,_,hl2,hn2,hg⟩:=DataW.trod_struct Tryd.underlying25 f0
 have hn5:ys.length=4:=hn2
 obtain⟨y0,hy0⟩ : ∃y,ys[0]?=some y:=⟨_,List.getElem?_eq_getElem (by omega)⟩
 have g0:DataW.trod enc Tryd.prog W 0 (fun _=>true) held m 5 ((([a,b,c,d,e,f,g].drop 0).take 4 |>.drop 0).take (Tryd.prog.cellsOf 5))=some y0:=(hg 0 { name := "Wide",type:=5,offset:=0,embedded:=false,tag := "",pkgPath := "",byteOffset:=0 } rfl).trans hy0
 obtain⟨y1,hy1⟩ : ∃y,ys[1]?=some y:=⟨_,List.getElem?_eq_getElem (by omega)⟩
 have g1:DataW.trod enc Tryd.prog W 0 (fun _=>true) held m 5 ((([a,b,c,d,e,f,g].drop 0).take 4 |>.drop 1).take (Tryd.prog.cellsOf 5))=some y1:=(hg 1 { name := "High",type:=5,offset:=1,embedded:=false,tag := "",pkgPath := "",byteOffset:=1 } rfl).trans hy1
 obtain⟨y2,hy2⟩ : ∃y,ys[2]?=some y:=⟨_,List.getElem?_eq_getElem (by omega)⟩
 have g2:DataW.trod enc Tryd.prog W 0 (fun _=>true) held m 22 ((([a,b,c,d,e,f,g].drop 0).take 4 |>.drop 2).take (Tryd.prog.cellsOf 22))=some y2:=(hg 2 { name := "Less",type:=22,offset:=2,embedded:=false,tag := "",pkgPath := "",byteOffset:=2 } rfl).trans hy2
 obtain⟨y3,hy3⟩ : ∃y,ys[3]?=some y:=⟨_,List.getElem?_eq_getElem (by omega)⟩
 have g3:DataW.trod enc Tryd.prog W 0 (fun _=>true) held m 23 ((([a,b,c,d,e,f,g].drop 0).take 4 |>.drop 3).take (Tryd.prog.cellsOf 23))=some y3:=(hg 3 { name := "More",type:=23,offset:=3,embedded:=false,tag := "",pkgPath := "",byteOffset:=8 } rfl).trans hy3
 rw[c8t] at g0 g1
 rw[c16t] at g2
 rw[csl1] at g3
 obtain⟨wd,rfl,hwd⟩:=u8_of (c:=a) g0
 obtain⟨hi,rfl,hhi⟩:=u8_of (c:=b) g1
 obtain⟨less,rfl,hless⟩:=u16_of (c:=c) g2
 obtain⟨sl,rfl,hsl⟩:=u8_of (c:=f) f2
 obtain⟨ds,rfl,hds⟩:=u8_of (c:=g) f3
 obtain⟨mn,ms,hm,hm8⟩:=slArg_of (v:=d) (R:=IsU8) Tryd.underlying23 c2t (by decide) (fun _ _ _ h=>pair_of h) g3
 obtain⟨wn,wcs,hw,hw8⟩:=slArg_of (v:=e) (R:=IsU8) Tryd.underlying26 c8t (by decide) (fun _ _ _ h=>one_of h) f1
 exact⟨wd,hi,less,sl,ds,mn,wn,d,e,ms,wcs,rfl,hm,hm8,hw,hw8,hwd,hhi,hless,hsl,hds⟩
def glob64 (b:Nat):Option (List Value):=if b=0 then some (tab64.map fun n:Nat=>Value.int .u8 (n:Int)) else none
theorem glob_ok {W:World} (h:laidMetH Tryd.prog laid2 W) (b:Nat) (cs:List Value) (hb:glob64 b=some cs) : ∃c el fz,W.heap[b]?=some (.cells c el fz)∧cs.length≤c.size ∧ ∀(j:Nat) (x:Value),cs[j]?=some x→c[j]?=some x∧scal x=true:=by
 unfold glob64 at hb
 split at hb
 ·rename_i hb1
  subst hb1
  cases hb
  obtain⟨c,el,fz,h1,h2⟩:=table_of h
  refine⟨c,el,fz,h1,by rw[←h2];simp,fun j x hx=>⟨?_,?_⟩⟩
  ·rw[←h2] at hx
   simpa using hx
  ·rw[List.getElem?_map,Option.map_eq_some_iff] at hx
   obtain⟨k,_,rfl⟩:=hx
   rfl
 ·cases hb
theorem baseT_start (l:List (Value×List Value)):BaseT (IH.start (entB glob64 l)):=by
 show entB glob64 l 0=_
 rw[entB,if_pos (by decide)]
 rfl
theorem vrel_int (m:Mp) (k:IntKind) (n:Int):VRel m (.int k n) (.int k n):=.scal rfl
theorem draft_ideal {W:World} {cs:List Value} (d:DraftIn W cs) : ∃(l:List (Value×List Value)) (x:Value),(∀e∈l,∃z n,SlArg W z e.1 n e.2)∧VRel (Mp.startOf (entA l)) x (.agg cs.toArray)∧DraftAt (IH.start (entB glob64 l)) x:=by
 obtain⟨wd,hi,less,sl,ds,mn,wn,mv,wv,ms,wcs,rfl,hm,hm8,hw,hw8,b1,b2,b3,b4,b5⟩:=d.ex
 refine⟨[(mv,ms),(wv,wcs)],.agg #[K8 wd,K8 hi,K16 less,slI 0 mv,slI 1 wv,K8 sl,K8 ds],?_,?_,?_⟩
 ·intro e he
  rcases List.mem_cons.1 he with rfl|he
  ·exact⟨2,mn,hm⟩
  ·rcases List.mem_cons.1 he with rfl|he
   ·exact⟨1,wn,hw⟩
   ·cases he
 ·have r1:VRel (Mp.startOf (entA [(mv,ms),(wv,wcs)])) (slI 0 mv) mv:=hm.rel (entA_get (e:=(mv,ms)) rfl)
  have r2:VRel (Mp.startOf (entA [(mv,ms),(wv,wcs)])) (slI 1 wv) wv:=hw.rel (entA_get (e:=(wv,wcs)) rfl)
  refine .agg rfl fun i v v' h1 h2=>?_
  match i,h1,h2 with
  | 0,h1,h2=>cases h1;cases h2;exact vrel_int _ _ _
  | 1,h1,h2=>cases h1;cases h2;exact vrel_int _ _ _
  | 2,h1,h2=>cases h1;cases h2;exact vrel_int _ _ _
  | 3,h1,h2=>cases h1;cases h2;exact r1
  | 4,h1,h2=>cases h1;cases h2;exact r2
  | 5,h1,h2=>cases h1;cases h2;exact vrel_int _ _ _
  | 6,h1,h2=>cases h1;cases h2;exact vrel_int _ _ _
  | i+7,h1,h2=>simp at h1
 ·exact⟨wd,hi,less,sl,ds,mn,wn,slI 0 mv,slI 1 wv,ms,wcs,rfl,hm.sl fun h=>entB_get (e:=(mv,ms)) (i:=0) rfl h,hm8,hw.sl fun h=>entB_get (e:=(wv,wcs)) (i:=1) rfl h,hw8,b1,b2,b3,b4,b5⟩
end Go.Proofs.YtipnghefdfnlnaaDoor

/-! Contracts: enumerate.Index. -/
namespace Go.Id
open Go
def idxGo (F:Nat→Bool) (n k:Nat):Nat→List Nat→Nat→List Int→Option (Nat×List Nat)
 | _,cs,b,[]=>some (b,cs)
 | node,cs,b,c :: l=>if 0≤c∧c≤cs.length then idxGo F n k (node+1) (lab cs node c.toNat) (b+sumTo (fun l=>after F (lab cs node l) (above n node) k) c.toNat) l else none
def idxV (F:Nat→Bool) (n k:Nat) (p:List Int):Value :=
 if p.length=n then match idxGo F n k 0 [] 0 p with
  | some (b,cs)=>if after F cs 0 k=1 then .tuple #[wideV b,KI 0] else .tuple #[wdV 0,KI 2]
  | none=>.tuple #[wdV 0,KI 2]
 else .tuple #[wdV 0,KI 2]
set_option maxHeartbeats 4000000 in
theorem index_ok {h:IH} (hB:BaseT h) {n:Nat} {E:List (Nat×Nat)} {v w:Value} {ws:List Int} {lo hi:Int} {k:Nat} (a:ArgsAt h n E v w ws lo hi k) {x:Value} {p:List Int} (hx:SlOf h 1 x p.length (p.map KI)) :
  WV Proofs.Tryd.prog (.func (.func 23) #[] #[]) [.agg #[KI n,v],.agg #[w,KI lo,KI hi,KI k],x] h fun r h'=>Ext h h'∧r=idxV (fitsB E ws lo hi) n k p:=by
 obtain⟨hG,hn0,hn12,hV,hlen,hwl,hws,hd1,hd2,hlo,hlohi⟩:=enErr_ok a.ok
 have hp12:2 ^ n≤2 ^ 12:=Nat.pow_le_pow_right (by omega) hn12
 have hp0:0<2 ^ n:=Nat.pow_pos (by omega)
 have hspl : ∀n,IH.splice [.int .u64 0,.int .u64 0,.int .u64 0,.int .u64 0,.int .u64 0,.int .u64 0,.int .u64 0,.int .u64 0] 0 (wdC n)=wdC n:=fun n=>splice_all (by rw[wdC_len];rfl)
 refine enter (nt:=95) (rs:=[.cell 6 58,.tmp 7]) Proofs.Tryd.func23 rfl rfl rfl (by simp) ?_
 simp -dsimp (maxSteps:=1000000) (disch:=first|omega|(simp only[new_n,put_n];omega)|decide +kernel|(repeat first|rw[new_n]|rw[put_n])) only[wpS,wpT,Nat.reduceEqDiff,Nat.reduceLeDiff,Nat.reduceAdd,zc58,ld32,ld35]
 have e0 : ∀o1 o2 o3,Ext h (((h.new o1).new o2).new o3):=fun o1 o2 o3=>(((Ext.refl h).new _).new _).new _
 have a0:=a.keep (e0 (.cells [KI n,v] 0 none) (.cells [w,KI lo,KI hi,KI k] 0 none) (.cells [.int .u64 0,.int .u64 0,.int .u64 0,.int .u64 0,.int .u64 0,.int .u64 0,.int .u64 0,.int .u64 0] 0 none)).keep
 refine call (open_ok (hB.ext (e0 _ _ _)) a0.sE a0.sW a0.hhi a0.ok) ?_
 rintro r h1 ⟨hE1,q,hqm,rfl,hF,hm⟩
 have h3n:h.n+3≤h1.n:=hE1.n
 have hqm3:h.n+3≤q.m:=hqm
 have hr1:h1.row (2*(h.n+1))=some [w,KI lo,KI hi,KI k]:=by
  rw[hE1.row (.inr (by simp only[new_n];omega)),row_even];simp only[IH.cells];simp (disch:=first|omega|(simp only[new_n,put_n];omega)|(repeat first|rw[new_n]|rw[put_n])) only[get_new_same,get_new_old]
 have hg1:h1.ext.get (h.n+2)=some (.cells [.int .u64 0,.int .u64 0,.int .u64 0,.int .u64 0,.int .u64 0,.int .u64 0,.int .u64 0,.int .u64 0] 0 none):=by
  rw[hE1.get _ (by simp only[new_n];omega)];simp (disch:=first|omega|(simp only[new_n,put_n];omega)|(repeat first|rw[new_n]|rw[put_n])) only[get_new_same]
 have hE2:Ext h h1:=(e0 _ _ _).trans hE1
 have hx1:=hx.keep hE2.keep
 have rp:h1.row (2*q.p)=some [KI n,.slice (some ⟨2*q.fb,0,none⟩) (2 ^ n) (2*2 ^ n+1),.func (.func 73) #[] #[ptr (2*q.d) 0,ptr (2*q.x) 0]]:=by rw[row_even];simp only[IH.cells,hF.gp]
 generalize fitsB E ws lo hi=F at *
 unfold idxV
 by_cases hpn:p.length=n
 ·have epn:((p.length:Int) != (n:Int))=false:=by simp;omega
  simp -dsimp (maxSteps:=1000000) (disch:=first|omega|(simp only[new_n,put_n];omega)|decide +kernel|(repeat first|rw[new_n]|rw[put_n])) only[wpS,wpT,Nat.reduceEqDiff,fa95_0,ld3,hx1.len sl44,rp,epn]
  refine loop (fun m fr hh => ∃(node b:Nat) (cs:List Nat) (cv:Value) (es':MapL),node+m=n∧Mem q.m h1 hh∧hh.ext.get q.m=some (.map es')∧Memo F es'∧SlOf hh 1 cv cs.length (c64 cs)∧(cv=.slice none 0 0∨0<cs.length)∧cs.length≤node∧(∀c∈cs,c<2 ^ n)∧b≤node*893353197568 ∧
    idxGo F n k node cs b (p.drop node)=idxGo F n k 0 [] 0 p∧fget fr 4=some (ptr (2*(h.n+1)) 0)∧fget fr 6=some (ptr (2*(h.n+1+1)) 0)∧fget fr 8=some (ptr (2*q.p) 0)∧fget fr 10=some (KI b)∧fget fr 11=some cv∧fget fr 34=some x∧fget fr 35=some (KI p.length)∧fget fr 36=some (KI node)) n
   ?_ ?_
  ·exact⟨0,0,[],_,[],by omega,Mem.refl _ _,hm,memo_nil _,SlOf.nil _ (sz:=1) (by decide),.inl rfl,Nat.le_refl _,fun c hc=>by(cases hc),by omega,rfl,by simp,by simp,by simp,by simp,by simp,by simp,by simp,by simp⟩
  rintro m fr hh ⟨node,b,cs,cv,es',hnm,hMh,hmh,hMmh,hcv,hne,hcl,hcs,hb,hidx,f4,f6,f8,f10,f11,f34,f35,f36⟩
  have hFh:=hF.mem hMh
  have hrh:hh.row (2*(h.n+1))=some [w,KI lo,KI hi,KI k]:=by rw[hMh.row (.inr ⟨by omega,by omega⟩)];exact hr1
  have hgh:hh.ext.get (h.n+2)=some (.cells [.int .u64 0,.int .u64 0,.int .u64 0,.int .u64 0,.int .u64 0,.int .u64 0,.int .u64 0,.int .u64 0] 0 none):=by rw[hMh.get _ (by omega) (by omega)];exact hg1
  have rph:hh.row (2*q.p)=some [KI n,.slice (some ⟨2*q.fb,0,none⟩) (2 ^ n) (2*2 ^ n+1),.func (.func 73) #[] #[ptr (2*q.d) 0,ptr (2*q.x) 0]]:=by rw[row_even];simp only[IH.cells,hFh.gp]
  have hEh:=Mem.ext hE2 (by omega) hMh
  have hxh:=hx.keep hEh.keep
  simp -dsimp (maxSteps:=1000000) (disch:=first|omega|(simp only[new_n,put_n];omega)|decide +kernel|(repeat first|rw[new_n]|rw[put_n])) only[wpS,f35,f36]
  refine bq_intro ?_ ?_<;>intro hc<;>simp only[decide_eq_true_eq,decide_eq_false_iff_not] at hc
  ·have hnode:node<n:=by omega
   obtain⟨c,hpc⟩ : ∃c,p[node]?=some c:=⟨p[node],List.getElem?_eq_getElem (by omega)⟩
   have hdrop:p.drop node=c :: p.drop (node+1):=by
    rw[List.drop_eq_getElem_cons (by omega)]
    have:p[node]=c:=by
     have:=List.getElem?_eq_getElem (l:=p) (i:=node) (by omega)
     rw[this] at hpc;exact Option.some.inj hpc
    rw[this]
   rw[hdrop] at hidx
   have hix:=hxh.idx (P:=Proofs.Tryd.prog) es44 (k:=.i64) (j:=node) (by omega)
   rw[Nat.mul_one] at hix
   have hlx:=hxh.ld (Keep.refl _) (c:=node) (by simp;omega) (P:=Proofs.Tryd.prog) (t:=3) ag3
   rw[List.getElem?_map,hpc] at hlx
   simp only[Option.map_some] at hlx
   by_cases hc0:c<0
   ·simp -dsimp (maxSteps:=1000000) (disch:=first|omega|(simp only[new_n,put_n];omega)|decide +kernel|(repeat first|rw[new_n]|rw[put_n])) only[wpS,wpT,Nat.reduceEqDiff,Nat.reduceLeDiff,Nat.reduceAdd,bv58,st58,ld58,f6,f34,f36,hix,hlx,hgh]
    have hnone:idxGo F n k 0 [] 0 p=none:=by rw[←hidx,idxGo,if_neg (by omega)]
    refine⟨hEh.put (by omega) _,?_⟩
    rw[if_pos hpn,hnone]
    rfl
   ·by_cases hc1:(cs.length:Int)<c
    ·simp -dsimp (maxSteps:=1000000) (disch:=first|omega|(simp only[new_n,put_n];omega)|decide +kernel|(repeat first|rw[new_n]|rw[put_n])) only[wpS,wpT,Nat.reduceEqDiff,Nat.reduceLeDiff,Nat.reduceAdd,bv58,st58,ld58,f6,f11,f34,f36,hix,hlx,hgh,hcv.len sl38]
     have hnone:idxGo F n k 0 [] 0 p=none:=by rw[←hidx,idxGo,if_neg (by omega)]
     refine⟨hEh.put (by omega) _,?_⟩
     rw[if_pos hpn,hnone]
     rfl
    ·have ea:((2 ^ n:Nat):Int) - ((2 ^ (node+1):Nat):Int)=((above n node:Nat):Int):=by
      have:2 ^ (node+1)≤2 ^ n:=Nat.pow_le_pow_right (by omega) (by omega)
      unfold above;omega
     have en:((node:Int)+1).toNat=node+1:=by omega
     have hal:=above_lt n node
     simp -dsimp (maxSteps:=1000000) (disch:=first|omega|(simp only[new_n,put_n];omega)|decide +kernel|(repeat first|rw[new_n]|rw[put_n])) only[wpS,wpT,Nat.reduceEqDiff,fa95_0,ld3,f8,f11,f34,f36,hix,hlx,hcv.len sl38,rph,ea,en]
     obtain⟨cn,rfl⟩ : ∃cn:Nat,c=cn:=⟨c.toNat,by omega⟩
     rw[idxGo,if_pos (by omega),Int.toNat_natCast] at hidx
     have e64 : ∀c∈cs,c<18446744073709551616:=fun c hc=>by have:=hcs c hc;omega
     refine loop (fun d fr h2 => ∃(l b2:Nat) (es2:MapL),l+d=cn∧b2=b+sumTo (fun l=>after F (lab cs node l) (above n node) k) l∧b2≤b+l*68719476736∧Mem q.m h1 h2∧h2.ext.get q.m=some (.map es2)∧Memo F es2∧SlOf h2 1 cv cs.length (c64 cs) ∧
       fget fr 4=some (ptr (2*(h.n+1)) 0)∧fget fr 6=some (ptr (2*(h.n+1+1)) 0)∧fget fr 8=some (ptr (2*q.p) 0)∧fget fr 10=some (KI b2)∧fget fr 11=some cv∧fget fr 12=some (KI node)∧fget fr 13=some (KI cn)∧fget fr 14=some (K64 (above n node))∧fget fr 34=some x∧fget fr 35=some (KI p.length)∧fget fr 36=some (KI node)∧fget fr 59=some (KI cn)∧fget fr 60=some (KI l)) cn
      ?_ ?_
     ·exact⟨0,b,es',by omega,rfl,by omega,hMh,hmh,hMmh,hcv,by simp[f4],by simp[f6],by simp[f8],by simp[f10],by simp[f11],by simp,by simp,by simp,by simp[f34],by simp[f35],by simp[f36],by simp,by simp⟩
     rintro d fr h2 ⟨l,b2,es2,hld,hb2,hb2l,hM2,hm2,hMm2,hcv2,g4,g6,g8,g10,g11,g12,g13,g14,g34,g35,g36,g59,g60⟩
     have hF2:=hF.mem hM2
     have hr2:h2.row (2*(h.n+1))=some [w,KI lo,KI hi,KI k]:=by rw[hM2.row (.inr ⟨by omega,by omega⟩)];exact hr1
     have rp2:h2.row (2*q.p)=some [KI n,.slice (some ⟨2*q.fb,0,none⟩) (2 ^ n) (2*2 ^ n+1),.func (.func 73) #[] #[ptr (2*q.d) 0,ptr (2*q.x) 0]]:=by rw[row_even];simp only[IH.cells,hF2.gp]
     simp -dsimp (maxSteps:=1000000) (disch:=first|omega|(simp only[new_n,put_n];omega)|decide +kernel|(repeat first|rw[new_n]|rw[put_n])) only[wpS,g59,g60]
     refine bq_intro ?_ ?_<;>intro hc2<;>simp only[decide_eq_true_eq,decide_eq_false_iff_not] at hc2
     ·have hb1:=after_small F (lab cs node l) hn12 (show k≤8 by omega) hal
      simp -dsimp (maxSteps:=1000000) (disch:=first|omega|(simp only[new_n,put_n];omega)|decide +kernel|(repeat first|rw[new_n]|rw[put_n])) only[wpS,wpT,Nat.reduceEqDiff,g60]
      refine drawn [(4,[12]),(11,[8])] (by kernel_rfl) (by kernel_rfl) rfl ?_
      simp -dsimp (maxSteps:=1000000) (disch:=first|omega|(simp only[new_n,put_n];omega)|decide +kernel|(repeat first|rw[new_n]|rw[put_n])) only[wpS,Nat.reduceEqDiff,fa95_2,ld93,g8,g10,g11,g12,rp2]
      refine call (labelled_ok hcv2 hne (by omega) e64 (node:=node) (label:=l) (by omega) (by omega)) ?_
      rintro v3 h3 ⟨hE3,hv3⟩
      have hF3:=hF2.mem (hE3.mem _)
      have h2n:=hM2.n
      have h3n:=hE3.n
      have hm3:h3.ext.get q.m=some (.map es2):=by rw[hE3.get _ hF2.lm];exact hm2
      have hr3:h3.row (2*(h.n+1))=some [w,KI lo,KI hi,KI k]:=by rw[hE3.row (.inr (by omega))];exact hr2
      simp -dsimp (maxSteps:=1000000) (disch:=first|omega|(simp only[new_n,put_n];omega)|decide +kernel|(repeat first|rw[new_n]|rw[put_n])) only[wpS,Nat.reduceEqDiff,ld3,fa35_3,g4,g14,hr3]
      refine call (complete_ok hn12 (lab cs node l) (by omega) hF3 hm3 hMm2 hal (lab_mem hnode hcs) hv3 (by rw[lab_len];split<;>omega)) ?_
      rintro _ h4 ⟨rfl,hE4,es4,hm4,hMm4⟩
      have eb:(b2:Int)+((after F (lab cs node l) (above n node) k:Nat):Int)=((b2+after F (lab cs node l) (above n node) k:Nat):Int):=by omega
      simp -dsimp (maxSteps:=1000000) (disch:=first|omega|(simp only[new_n,put_n];omega)|decide +kernel|(repeat first|rw[new_n]|rw[put_n])) only[wpS,Nat.reduceEqDiff,eb]
      have rp3:h3.row (2*q.p)=some [KI n,.slice (some ⟨2*q.fb,0,none⟩) (2 ^ n) (2*2 ^ n+1),.func (.func 73) #[] #[ptr (2*q.d) 0,ptr (2*q.x) 0]]:=by rw[row_even];simp only[IH.cells,hF3.gp]
      refine⟨wpSteady_cons (wpSteady_one rfl rfl rfl rfl (steady_load (av:=ptr (2*q.p) 2) (v:=compV q) rfl ?_ ?_)) (wpSteady_one rfl rfl rfl rfl (steady_load (av:=ptr (2*(h.n+1)) 3) (v:=KI k) rfl ?_ ?_)),?_⟩
      ·simp -dsimp (maxSteps:=1000000) (disch:=first|omega|(simp only[new_n,put_n];omega)|decide +kernel|(repeat first|rw[new_n]|rw[put_n])) only[wpS,ld93,rp2]
       rfl
      ·simp -dsimp (maxSteps:=1000000) (disch:=first|omega|(simp only[new_n,put_n];omega)|decide +kernel|(repeat first|rw[new_n]|rw[put_n])) only[wpS,ld93,rp3]
       rfl
      ·simp -dsimp (maxSteps:=1000000) (disch:=first|omega|(simp only[new_n,put_n];omega)|decide +kernel|(repeat first|rw[new_n]|rw[put_n])) only[wpS,ld3,hr3]
      ·simp -dsimp (maxSteps:=1000000) (disch:=first|omega|(simp only[new_n,put_n];omega)|decide +kernel|(repeat first|rw[new_n]|rw[put_n])) only[wpS,ld3,hr2]
      simp -dsimp (maxSteps:=1000000) (disch:=first|omega|(simp only[new_n,put_n];omega)|decide +kernel|(repeat first|rw[new_n]|rw[put_n])) only[wpS,wpT,Nat.reduceEqDiff,Nat.reduceAdd,g60]
      refine⟨d - 1,by omega,l+1,b2+after F (lab cs node l) (above n node) k,es4,by omega,?_,by omega,(hM2.trans (hE3.mem _)).trans hE4,hm4,hMm4,(hcv2.keep hE3.keep).keep (hE4.keep hm3),by simp[g4],by simp[g6],by simp[g8],by simp,by simp[g11],by simp[g12],by simp[g13],by simp[g14],by simp[g34],by simp[g35],by simp[g36],by simp[g59],by simp⟩
      rw[sumTo,hb2,Nat.add_assoc]
     ·obtain rfl:l=cn:=by omega
      simp -dsimp (maxSteps:=1000000) (disch:=first|omega|(simp only[new_n,put_n];omega)|decide +kernel|(repeat first|rw[new_n]|rw[put_n])) only[wpS,wpT,Nat.reduceEqDiff,g11,g12,g13]
      refine call (labelled_ok hcv2 hne (by omega) e64 (node:=node) (label:=l) (by omega) (by omega)) ?_
      rintro v3 h3 ⟨hE3,hv3⟩
      have hm3:h3.ext.get q.m=some (.map es2):=by rw[hE3.get _ hF2.lm];exact hm2
      simp -dsimp (maxSteps:=1000000) (disch:=first|omega|(simp only[new_n,put_n];omega)|decide +kernel|(repeat first|rw[new_n]|rw[put_n])) only[wpS,Nat.reduceEqDiff,g36]
      rw[←hb2] at hidx
      refine⟨m - 1,by omega,node+1,b2,lab cs node l,v3,es2,by omega,hM2.trans (hE3.mem _),hm3,hMm2,hv3,.inr (by rw[lab_len];split<;>omega),by rw[lab_len];split<;>omega,lab_mem hnode hcs,?_,hidx,by simp[g4],by simp[g6],by simp[g8],by simp[g10],by simp,by simp[g34],by simp[g35],by simp⟩
      have:l*68719476736≤12*68719476736:=Nat.mul_le_mul_right _ (by omega)
      omega
  ·obtain rfl:node=n:=by omega
   simp -dsimp (maxSteps:=1000000) (disch:=first|omega|(simp only[new_n,put_n];omega)|decide +kernel|(repeat first|rw[new_n]|rw[put_n])) only[wpS,wpT,Nat.reduceEqDiff,ld3,fa95_2,ld93,fa35_3,f4,f8,f11,rph,hrh]
   rw[List.drop_of_length_le (by omega),idxGo] at hidx
   refine call (complete_ok hn12 cs (by omega) hFh hmh hMmh (Nat.pow_pos (by omega)) hcs hcv (by omega)) ?_
   rintro _ h4 ⟨rfl,hE4,es4,hm4,hMm4⟩
   have hhn:=hMh.n
   have hg4:h4.ext.get (h.n+2)=some (.cells [.int .u64 0,.int .u64 0,.int .u64 0,.int .u64 0,.int .u64 0,.int .u64 0,.int .u64 0,.int .u64 0] 0 none):=by rw[hE4.get _ (by omega) (by omega)];exact hgh
   have hE5:=Mem.ext hEh (by omega) hE4
   by_cases h1c:after F cs 0 k=1
   ·rw[h1c]
    simp -dsimp (maxSteps:=1000000) (disch:=first|omega|(simp only[new_n,put_n];omega)|decide +kernel|(repeat first|rw[new_n]|rw[put_n])) only[wpS,wpT,Nat.reduceEqDiff,f10]
    refine call (wideOf_ok (b:Int) ⟨by omega,by omega⟩) ?_
    rintro _ h6 ⟨hE6,rfl⟩
    have h4n:=hE4.n
    have hg6:h6.ext.get (h.n+2)=some (.cells [.int .u64 0,.int .u64 0,.int .u64 0,.int .u64 0,.int .u64 0,.int .u64 0,.int .u64 0,.int .u64 0] 0 none):=by rw[hE6.get _ (by omega)];exact hg4
    simp -dsimp (maxSteps:=1000000) (disch:=first|omega|(simp only[new_n,put_n];omega)|decide +kernel|(repeat first|rw[new_n]|rw[put_n])) only[wpS,wpT,Nat.reduceEqDiff,Nat.reduceLeDiff,Nat.reduceAdd,st58,ld58,f6,hg6,wdV_form,wdC_len,wdC_all,hspl,wd_take]
    refine⟨(hE5.trans hE6).put (by omega) _,?_⟩
    rw[if_pos hpn,←hidx]
    simp only[h1c,if_true]
    rfl
   ·have ec:(((after F cs 0 k:Nat):Int) != 1)=true:=by simp;omega
    simp -dsimp (maxSteps:=1000000) (disch:=first|omega|(simp only[new_n,put_n];omega)|decide +kernel|(repeat first|rw[new_n]|rw[put_n])) only[wpS,wpT,Nat.reduceEqDiff,Nat.reduceLeDiff,Nat.reduceAdd,bv58,st58,ld58,f6,hg4,ec]
    refine⟨hE5.put (by omega) _,?_⟩
    rw[if_pos hpn,←hidx]
    simp only[h1c,if_false]
    rfl
 ·have epn:((p.length:Int) != (n:Int))=true:=by simp;omega
  simp -dsimp (maxSteps:=1000000) (disch:=first|omega|(simp only[new_n,put_n];omega)|decide +kernel|(repeat first|rw[new_n]|rw[put_n])) only[wpS,wpT,Nat.reduceEqDiff,Nat.reduceLeDiff,Nat.reduceAdd,bv58,st58,fa95_0,ld3,ld58,hx1.len sl44,rp,epn,hg1]
  refine⟨hE2.put (by omega) _,?_⟩
  rw[if_neg hpn]
  rfl
end Go.Id
