/-
  The ideal machine: a region whose order is open: what is known of the memory while some of
-/
import Derived.Test.YtnnmjocmapilaaaGreatOutlierValidAg
import Derived.Orders
set_option linter.unusedVariables false
set_option linter.unusedSimpArgs false
set_option linter.defProp false
set_option linter.deprecated false
namespace Go.Id
open Go Go.RowKit
theorem Ba {P:Program} {fr:Fr} {o:Op} {h h':IH} {v:Value} (hk:cB o=.alloc) (hi:iop P fr o h=some (v,h')) : ∃obj,h'=h.new obj∧obj.lone=true:=by
 cases o<;>simp only[cB,reduceCtorEq] at hk<;>simp only[iop] at hi
 case alloc t=>obtain⟨z,_,e⟩:=Option.map_eq_some_iff.1 hi;cases e;exact⟨_,rfl,rfl⟩
 case box t x=>obtain⟨z,_,e⟩:=Option.map_eq_some_iff.1 hi;cases e;exact⟨_,rfl,rfl⟩
 case buildSlice t len parts =>
  split at hi
  ·unfold Id.buildSlice at hi;simp only[cond_eq_ite] at hi;repeat' (split at hi)
   all_goals first|(cases hi;done)|(cases hi;exact⟨_,rfl,rfl⟩)
  ·cases hi
 case makeMap t r =>
  repeat' (split at hi)
  all_goals first|(cases hi;done)|(cases hi;exact⟨_,rfl,rfl⟩)
 case makeSlice t l c =>
  split at hi
  ·unfold Id.makeSlice at hi;simp only[cond_eq_ite] at hi;repeat' (split at hi)
   all_goals first|(cases hi;done)|(cases hi;exact⟨_,rfl,rfl⟩)
  ·cases hi
 case call c=>cases hc:c.callee with
  | builtin b=>cases b<;>simp_all
  | value f=>simp_all
  | invoke r n=>simp_all
theorem eG {E:Env} {call:a8} {fr:Fr} {o:Op} {h:IH} (hk:cB o≠.chain):cU E call fr o h=iop E.P fr o h:=by
 unfold cU
 split
 ·rename_i c
  split
  ·rename_i f hc;simp[cB,hc] at hk
  ·rfl
 ·rfl
structure Text (E:Env) (call:a8) (nt:Nat) (ops:Array Oper) (FA:Nat→Fr) (HA:Nat→IH):Prop where
 mono:dj call
 step : ∀i o,ops[i]?=some o→cS E call nt ops.toList o (FA i) (HA i)=some (FA (i+1),HA (i+1))
def ec (ops:Array Oper) (FA:Nat→Fr) (i:Nat):Prop:=∃o,ops[i]?=some o∧cB o.op=.alloc∧bA ops.toList o (FA i)=some true
def cN (ops:Array Oper) (i:Nat):Prop:=∃o,ops[i]?=some o∧cB o.op=.chain
section
variable {E:Env} {call:a8} {nt:Nat} {ops:Array Oper} {FA:Nat→Fr} {HA:Nat→IH}
theorem Text.nle (T:Text E call nt ops FA HA) : ∀(j i:Nat),i≤j→j≤ops.size→(HA i).n≤(HA j).n
 | 0,i,h1,_=>by
  have e:i=0:=by omega
  rw[e]
  exact Nat.le_refl _
 | j+1,i,h1,h2=>by
  by_cases e:i=j+1
  ·subst e;exact Nat.le_refl _
  ·have ho:ops[j]?=some ops[j]:=Array.getElem?_eq_getElem (by omega)
   exact Nat.le_trans (T.nle j i (by omega) (by omega)) (y7 T.mono (T.step j _ ho))
theorem Text.alloc (T:Text E call nt ops FA HA) {i:Nat} (h:ec ops FA i) : ∃obj,HA (i+1)=(HA i).new obj∧obj.lone=true:=by
 obtain⟨o,ho,hk,hw⟩:=h
 have hs:=T.step i o ho
 unfold cS at hs
 rw[hw] at hs
 simp only at hs
 split at hs
 ·rename_i v h2 bw
  obtain⟨a,_,e⟩:=Option.map_eq_some_iff.1 hs
  rw[eG (by rw[hk];simp)] at bw
  obtain⟨obj,h3,h4⟩:=Ba hk bw
  have e2:h2=HA (i+1):=(Prod.mk.inj e).2
  exact⟨obj,by rw[←e2,h3],h4⟩
 ·cases hs
theorem Text.same (T:Text E call nt ops FA HA) {i:Nat} {o:Oper} (ho:ops[i]?=some o) (hc : ¬cN ops i) (ha : ¬ec ops FA i):HA (i+1)=HA i:=by
 have hs:=T.step i o ho
 unfold cS at hs
 split at hs
 ·rename_i hw
  split at hs
  ·rename_i v h2 bw
   obtain⟨a,_,e⟩:=Option.map_eq_some_iff.1 hs
   have e2:h2=HA (i+1):=(Prod.mk.inj e).2
   have hk:cB o.op≠.chain:=fun e=>hc ⟨o,ho,e⟩
   rw[eG hk] at bw
   rw[←e2]
   cases hkk:cB o.op with
   | pure=>exact(z7 hkk bw).1
   | load=>exact z8 hkk bw
   | alloc=>exact absurd ⟨o,ho,hkk,hw⟩ ha
   | chain=>exact absurd hkk hk
  ·cases hs
 ·obtain⟨a,_,e⟩:=Option.map_eq_some_iff.1 hs
  exact(Prod.mk.inj e).2.symm
 ·cases hs
theorem kO {i:Nat} (h:cN ops i) : ¬ec ops FA i:=by
 rintro⟨o,ho,hk,_⟩
 obtain⟨o',ho',hk'⟩:=h
 rw[ho] at ho';cases ho';rw[hk] at hk';cases hk'
end
structure mE (ops:Array Oper) (FA:Nat→Fr) (HA:Nat→IH) (B:Nat) (w0:World) (m0:Mp) (wi:World) (D:Nat→Prop) (a:Nat) (m:Mp) (w:World):Prop where
 rel:Rel B w0 m (HA a) w
 none_ : ∀i,i<ops.size→ec ops FA i → ¬D i→m (2*(HA i).n)=none
 Iw : ∀i,i<a→i<ops.size→ec ops FA i → ¬D i→(∃obj,HA (i+1)=(HA i).new obj∧(HA a).ext.get (HA i).n=some obj) ∧ ∀f st,(HA a).bT.get f=some st→(HA i).n∉st
 extra : ∀i,a≤i→i<ops.size→ec ops FA i→D i → ∃obj r,HA (i+1)=(HA i).new obj∧m (2*(HA i).n)=some (r,0)∧fQ m w r 0 (m.ez (2*(HA i).n)) obj
 inj : ∀k k' r s s',(HA a).n≤k→k<(HA ops.size).n→k'<(HA ops.size).n→k≠k'→m (2*k)=some (r,s)→m (2*k')≠some (r,s')
 fresh : ∀k,(HA a).n≤k→k<(HA ops.size).n→m (2*k)=none ∨ ∃i,a≤i∧i<ops.size∧ec ops FA i∧D i∧k=(HA i).n
 le:m0.le m
 new : ∀b,m b≠m0 b → ∃k,b=2*k∧(HA 0).n≤k∧k<(HA ops.size).n
 base:(HA a).base=(HA 0).base
 frame : ∀r,r<wi.heap.size→(∀k s,k<(HA 0).n→m0 (2*k)≠some (r,s))→w.heap[r]?=wi.heap[r]?
 idle : ∀k,k<(HA 0).n→m0 (2*k)=none→(HA a).ext.get k=(HA 0).ext.get k
 size:wi.heap.size≤w.heap.size
 img : ∀k r s,(HA 0).n≤k→k<(HA ops.size).n→m (2*k)=some (r,s)→wi.heap.size≤r ∨ ∃k0 s0,k0<(HA 0).n∧m0 (2*k0)=some (r,s0)
 mT : ∀k,k<(HA 0).n→m0 (2*k)=none→(∀f st,(HA 0).bT.get f=some st→k∉st) → ∀f st,(HA a).bT.get f=some st→k∉st
section
variable {E:Env} {call:a8} {nt:Nat} {ops:Array Oper} {FA:Nat→Fr} {HA:Nat→IH} {B:Nat} {w0:World} {m0:Mp} {wi:World} {D:Nat→Prop} {a:Nat} {m:Mp} {w:World}
theorem mE.old (I:mE ops FA HA B w0 m0 wi D a m w) {k:Nat} (hk:k<(HA 0).n):m (2*k)=m0 (2*k):=by
 apply Classical.byContradiction;intro hne
 obtain⟨k',e,h1,_⟩:=I.new _ hne
 omega
theorem mE.go (T:Text E call nt ops FA HA) (I:mE ops FA HA B w0 m0 wi D a m w) {c:Nat} (hac:a≤c) (hc:c≤ops.size) (hno : ∀i,a≤i→i<c → ¬ec ops FA i) {m':Mp} {w':World} (R:Rel B w0 m' (HA c) w') (S:Step m (HA a) w m' (HA c) w') :
  mE ops FA HA B w0 m0 wi D c m' w':=by
 have nac:(HA a).n≤(HA c).n:=S.n
 have n0a:(HA 0).n≤(HA a).n:=T.nle a 0 (Nat.zero_le _) (Nat.le_trans hac hc)
 have ncN:(HA c).n≤(HA ops.size).n:=T.nle _ _ hc (Nat.le_refl _)
 have dW : ∀k,(k<(HA a).n∨(HA c).n≤k)→m' (2*k)=m (2*k):=by
  intro k hk
  apply Classical.byContradiction;intro hne
  obtain⟨k',e,h1,h2⟩:=S.new _ hne
  omega
 have low : ∀i,i<ops.size→ec ops FA i→(HA i).n<(HA a).n∨(HA c).n≤(HA i).n:=by
  intro i hi ha
  by_cases h1:i<a
  ·obtain⟨obj,e,_⟩:=T.alloc ha
   have h2:(HA (i+1)).n≤(HA a).n:=T.nle a (i+1) h1 (by omega)
   rw[e] at h2
   have:((HA i).new obj).n=(HA i).n+1:=rfl
   left;omega
  ·right
   by_cases h2:i<c
   ·exact absurd ha (hno i (by omega) h2)
   ·exact T.nle i c (by omega) (by omega)
 refine⟨R,?_,?_,?_,?_,?_,Mp.le_trans I.le S.le,?_,S.base.trans I.base,?_,?_,Nat.le_trans I.size S.size,?_,?_⟩
 ·intro i hi ha hd;rw[dW _ (low i hi ha)];exact I.none_ i hi ha hd
 ·intro i hic hi ha hd
  have hia:i<a:=by
   rcases Nat.lt_or_ge i a with h|h
   ·exact h
   ·exact absurd ha (hno i h hic)
  obtain⟨⟨obj,e,hg⟩,hst⟩:=I.Iw i hia hi ha hd
  have hlt:(HA i).n<(HA a).n:=by
   have h2:(HA (i+1)).n≤(HA a).n:=T.nle a (i+1) hia (by omega)
   rw[e] at h2
   have:((HA i).new obj).n=(HA i).n+1:=rfl
   omega
  have hm:=I.none_ i hi ha hd
  exact⟨⟨obj,e,by rw[S.idle _ hlt hm];exact hg⟩,S.mT _ hlt hm hst⟩
 ·intro i hic hi ha hd
  obtain⟨obj,r,e,hm,ho⟩:=I.extra i (by omega) hi ha hd
  obtain⟨h1,h2⟩:=S.le _ _ hm
  refine⟨obj,r,e,h1,ho.mono S.le ?_ h2⟩
  refine S.frame r (I.rel.even _ _ _ hm).2 ?_
  intro k s hk hmk
  have hge:(HA a).n≤(HA i).n:=T.nle i a (by omega) (by omega)
  have hlt:(HA i).n<(HA ops.size).n:=by
   have h2:(HA (i+1)).n≤(HA ops.size).n:=T.nle _ (i+1) hi (Nat.le_refl _)
   rw[e] at h2
   have:((HA i).new obj).n=(HA i).n+1:=rfl
   omega
  exact I.inj _ k r 0 s hge hlt (by omega) (by omega) hm hmk
 ·intro k k' r s s' hk hkN W3 hne hm hm'
  rw[dW k (.inr hk)] at hm
  by_cases h1:k'<(HA a).n∨(HA c).n≤k'
  ·rw[dW k' h1] at hm'
   exact I.inj k k' r s s' (by omega) hkN W3 hne hm hm'
  ·rcases S.img k' r s' (by omega) (by omega) hm' with e|⟨k0,s0,e1,e2⟩
   ·have:=(I.rel.even k r s hm).2;omega
   ·exact I.inj k k0 r s s0 (by omega) hkN (by omega) (by omega) hm e2
 ·intro k hk hkN
  rw[dW k (.inr hk)]
  rcases I.fresh k (by omega) hkN with e|⟨i,h1,h2,h3,h4,h5⟩
  ·exact .inl e
  ·refine .inr ⟨i,?_,h2,h3,h4,h5⟩
   rcases Nat.lt_or_ge i c with h|h
   ·exact absurd h3 (hno i h1 h)
   ·exact h
 ·intro b hb
  by_cases h1:m' b=m b
  ·rw[h1] at hb;exact I.new b hb
  ·obtain⟨k,e,h2,h3⟩:=S.new b h1
   exact⟨k,e,by omega,by omega⟩
 ·intro r hr hk
  rw[S.frame r (Nat.lt_of_lt_of_le hr I.size) ?_,I.frame r hr hk]
  intro k s hka hmk
  by_cases h1:k<(HA 0).n
  ·rw[I.old h1] at hmk;exact hk k s h1 hmk
  ·rcases I.img k r s (by omega) (by omega) hmk with e|⟨k0,s0,e1,e2⟩
   ·omega
   ·exact hk k0 s0 e1 e2
 ·intro k hk hm
  rw[S.idle k (by omega) (by rw[I.old hk,hm]),I.idle k hk hm]
 ·intro k r s hk hkN hm
  by_cases h1:k<(HA a).n∨(HA c).n≤k
  ·rw[dW k h1] at hm;exact I.img k r s hk hkN hm
  ·rcases S.img k r s (by omega) (by omega) hm with e|⟨k0,s0,e1,e2⟩
   ·exact .inl (Nat.le_trans I.size e)
   ·by_cases h2:k0<(HA 0).n
    ·rw[I.old h2] at e2;exact .inr ⟨k0,s0,h2,e2⟩
    ·exact I.img k0 r s0 (by omega) (by omega) e2
 ·intro k hk hm hst
  exact S.mT k (by omega) (by rw[I.old hk,hm]) (I.mT k hk hm hst)
theorem mE.next (T:Text E call nt ops FA HA) (I:mE ops FA HA B w0 m0 wi D a m w) (ha:a<ops.size) (hc : ¬cN ops a):mE ops FA HA B w0 m0 wi D (a+1) m w:=by
 have ho:ops[a]?=some ops[a]:=Array.getElem?_eq_getElem ha
 by_cases hal:ec ops FA a
 ·obtain⟨obj,e,hl⟩:=T.alloc hal
  have hn1:(HA (a+1)).n=(HA a).n+1:=by rw[e];rfl
  have hN:(HA (a+1)).n≤(HA ops.size).n:=T.nle _ _ ha (Nat.le_refl _)
  have n0a:(HA 0).n≤(HA a).n:=T.nle a 0 (Nat.zero_le _) (by omega)
  have cC : ∀k,(HA (a+1)).ext.get k=if k=(HA a).n then some obj else (HA a).ext.get k:=fun k=>by rw[e];exact Tr.bK _ _ _ _
  have DT:(HA (a+1)).bT=(HA a).bT:=by rw[e];rfl
  have Zz : ∀i,i<a→ec ops FA i→(HA i).n<(HA a).n:=by
   intro i hia h3
   obtain⟨wh,e',_⟩:=T.alloc h3
   have h2:(HA (i+1)).n≤(HA a).n:=T.nle a (i+1) hia (by omega)
   rw[e'] at h2
   have:((HA i).new wh).n=(HA i).n+1:=rfl
   omega
  have oc:m (2*(HA a).n)=none ∨ ∃r,m (2*(HA a).n)=some (r,0)∧fQ m w r 0 (m.ez (2*(HA a).n)) obj ∧ ∀k s,k<(HA a).n→m (2*k)≠some (r,s):=by
   by_cases hd:D a
   ·obtain⟨wh,r,e',hm,hO⟩:=I.extra a (Nat.le_refl _) ha hal hd
    have:wh=obj:=by
     rw[e] at e'
     have h1:=cC (HA a).n
     rw[if_pos rfl,e] at h1
     have h2:((HA a).new wh).ext.get (HA a).n=some wh:=by show((HA a).ext.set (HA a).n wh).get (HA a).n=_;rw[Tr.bK,if_pos rfl]
     rw[←e',h1] at h2;cases h2;rfl
    subst this
    exact .inr ⟨r,hm,hO,fun k s hk hmk=>I.inj (HA a).n k r 0 s (Nat.le_refl _) (by omega) (by omega) (by omega) hm hmk⟩
   ·exact .inl (I.none_ a ha hal hd)
  refine⟨by rw[e];exact I.rel.XQ obj hl oc,I.none_,?_,?_,?_,?_,I.le,I.new,by rw[e];exact I.base,I.frame,?_,I.size,I.img,?_⟩
  ·intro i hi1 hi h3 hd
   by_cases hia:i=a
   ·subst hia
    exact⟨⟨obj,e,by rw[cC,if_pos rfl]⟩,fun f st hf=>by rw[DT] at hf;have:=(I.rel.cY f st hf).2.1;intro hx;have:=this _ hx;omega⟩
   ·obtain⟨⟨wh,e',hg⟩,hst⟩:=I.Iw i (by omega) hi h3 hd
    have hlt:=Zz i (by omega) h3
    exact⟨⟨wh,e',by rw[cC,if_neg (by omega)];exact hg⟩,by rw[DT];exact hst⟩
  ·intro i hi1 hi h3 hd;exact I.extra i (by omega) hi h3 hd
  ·intro k k' r s s' hk;exact I.inj k k' r s s' (by omega)
  ·intro k hk hkN
   rcases I.fresh k (by omega) hkN with h|⟨i,h1,h2,h3,h4,h5⟩
   ·exact .inl h
   ·refine .inr ⟨i,?_,h2,h3,h4,h5⟩
    rcases Nat.lt_or_ge a i with h|h
    ·exact h
    ·obtain rfl:i=a:=by omega
     omega
  ·intro k hk hm;rw[cC,if_neg (by omega)];exact I.idle k hk hm
  ·intro k hk hm hst;rw[DT];exact I.mT k hk hm hst
 ·have e:=T.same ho hc hal
  refine⟨by rw[e];exact I.rel,I.none_,?_,?_,?_,?_,I.le,I.new,by rw[e];exact I.base,I.frame,by rw[e];exact I.idle,I.size,I.img,by rw[e];exact I.mT⟩
  ·intro i hi1 hi h3 hd
   have:i≠a:=fun h=>hal (h▸h3)
   rw[e];exact I.Iw i (by omega) hi h3 hd
  ·intro i hi1 hi h3 hd;exact I.extra i (by omega) hi h3 hd
  ·rw[e];exact I.inj
  ·rw[e];intro k hk hkN
   rcases I.fresh k hk hkN with h|⟨i,h1,h2,h3,h4,h5⟩
   ·exact .inl h
   ·refine .inr ⟨i,?_,h2,h3,h4,h5⟩
    have:i≠a:=fun h=>hal (h▸h3)
    omega
theorem mE.make (T:Text E call nt ops FA HA) (I:mE ops FA HA B w0 m0 wi D a m w) (hae:a≤ops.size) {i:Nat} (hi:i<ops.size) (hal:ec ops FA i) (hd : ¬D i) {obj:bz} (e:HA (i+1)=(HA i).new obj) (hl:obj.lone=true) {O:Obj} {z:Nat×Nat}
  (hO:fQ m (w.alloc O) w.heap.size 0 z obj):mE ops FA HA B w0 m0 wi (fun j=>D j∨j=i) a (m.upd (2*(HA i).n) (w.heap.size,0) z) (w.alloc O):=by
 have hm:=I.none_ i hi hal hd
 have hle:m.le (m.upd (2*(HA i).n) (w.heap.size,0) z):=Mp.zX hm
 have hne : ∀k,k≠(HA i).n→(m.upd (2*(HA i).n) (w.heap.size,0) z) (2*k)=m (2*k):=fun k hk=>Mp.bR _ _ _ (by omega)
 have dW : ∀r,r<w.heap.size→(w.alloc O).heap[r]?=w.heap[r]?:=fun r hr=>by rw[heap_alloc,if_neg (by omega)]
 have hidN:(HA i).n<(HA ops.size).n:=by
  have h2:(HA (i+1)).n≤(HA ops.size).n:=T.nle _ (i+1) hi (Nat.le_refl _)
  rw[e] at h2
  have:((HA i).new obj).n=(HA i).n+1:=rfl
  omega
 have h0i:(HA 0).n≤(HA i).n:=T.nle i 0 (Nat.zero_le _) (by omega)
 have hids : ∀j,j<ops.size→ec ops FA j→j≠i→(HA j).n≠(HA i).n:=by
  intro j hj h3 hji
  rcases Nat.lt_or_gt_of_ne hji with h|h
  ·obtain⟨wh,e',_⟩:=T.alloc h3
   have h2:(HA (j+1)).n≤(HA i).n:=T.nle i (j+1) h (by omega)
   rw[e'] at h2
   have:((HA j).new wh).n=(HA j).n+1:=rfl
   omega
  ·have h2:(HA (i+1)).n≤(HA j).n:=T.nle j (i+1) h (by omega)
   rw[e] at h2
   have:((HA i).new obj).n=(HA i).n+1:=rfl
   omega
 refine⟨?_,?_,?_,?_,?_,?_,Mp.le_trans I.le hle,?_,I.base,?_,I.idle,by rw[size_alloc];have:=I.size;omega,?_,I.mT⟩
 ·refine I.rel.YQ (HA i).n O z hm ?_ ?_
  ·intro o hg
   by_cases hia:i<a
   ·obtain⟨⟨wh,e',hg'⟩,_⟩:=I.Iw i hia hi hal hd
    rw[hg'] at hg;cases hg
    have:o=obj:=by
     rw[e] at e'
     have h1:((HA i).new obj).ext.get (HA i).n=some obj:=by show((HA i).ext.set (HA i).n obj).get (HA i).n=_;rw[Tr.bK,if_pos rfl]
     have h2:((HA i).new o).ext.get (HA i).n=some o:=by show((HA i).ext.set (HA i).n o).get (HA i).n=_;rw[Tr.bK,if_pos rfl]
     rw[←e',h1] at h2;cases h2;rfl
    subst this
    exact⟨hl,hO⟩
   ·have:(HA a).n≤(HA i).n:=T.nle i a (by omega) (by omega)
    rw[I.rel.dom _ this] at hg;cases hg
  ·intro f st hf
   by_cases hia:i<a
   ·exact(I.Iw i hia hi hal hd).2 f st hf
   ·have:(HA a).n≤(HA i).n:=T.nle i a (by omega) (by omega)
    intro hx;have:=(I.rel.cY f st hf).2.1 _ hx;omega
 ·intro j hj h3 hdj
  have hji:j≠i:=fun e=>hdj (.inr e)
  rw[hne _ (hids j hj h3 hji)]
  exact I.none_ j hj h3 (fun h=>hdj (.inl h))
 ·intro j hja hj h3 hdj
  exact I.Iw j hja hj h3 (fun h=>hdj (.inl h))
 ·intro j hja hj h3 hdj
  by_cases hji:j=i
  ·subst hji
   exact⟨obj,w.heap.size,e,Mp.bh _ _ _ _,hO.mono hle rfl (Mp.lz _ _ _ _)⟩
  ·obtain⟨wh,r,e',hmr,hO'⟩:=I.extra j hja hj h3 (hdj.resolve_right hji)
   obtain⟨h1,h2⟩:=hle _ _ hmr
   exact⟨wh,r,e',h1,hO'.mono hle (dW r (I.rel.even _ _ _ hmr).2) h2⟩
 ·intro k k' r s s' hk hkN W3 hkk h1 h2
  by_cases c1:k=(HA i).n
  ·subst c1
   rw[Mp.bh] at h1;cases h1
   rw[hne _ (fun e=>hkk e.symm)] at h2
   have:=(I.rel.even _ _ _ h2).2;omega
  ·rw[hne _ c1] at h1
   by_cases c2:k'=(HA i).n
   ·subst c2
    rw[Mp.bh] at h2;cases h2
    have:=(I.rel.even _ _ _ h1).2;omega
   ·rw[hne _ c2] at h2
    exact I.inj k k' r s s' hk hkN W3 hkk h1 h2
 ·intro k hk hkN
  by_cases c1:k=(HA i).n
  ·subst c1
   have hia:a≤i:=by
    rcases Nat.lt_or_ge i a with h|h
    ·have h2:(HA (i+1)).n≤(HA a).n:=T.nle a (i+1) h hae
     rw[e] at h2
     have:((HA i).new obj).n=(HA i).n+1:=rfl
     omega
    ·exact h
   exact .inr ⟨i,hia,hi,hal,.inr rfl,rfl⟩
  ·rw[hne _ c1]
   rcases I.fresh k hk hkN with h|⟨j,h1,h2,h3,h4,h5⟩
   ·exact .inl h
   ·exact .inr ⟨j,h1,h2,h3,.inl h4,h5⟩
 ·intro b hb
  by_cases h1:b=2*(HA i).n
  ·exact⟨_,h1,h0i,hidN⟩
  ·rw[Mp.bR _ _ _ h1] at hb;exact I.new b hb
 ·intro r hr hk
  rw[dW r (Nat.lt_of_lt_of_le hr I.size)];exact I.frame r hr hk
 ·intro k r s hk hkN h1
  by_cases c1:k=(HA i).n
  ·subst c1
   rw[Mp.bh] at h1;cases h1
   exact .inl I.size
  ·rw[hne _ c1] at h1;exact I.img k r s hk hkN h1
end
structure Ordered (ops:Array Oper):Prop where
 Un : ∀j y,ops[j]?=some y → ∀e∈y.after,Region.binds .any e=true→e.on<j
 pair : ∀i j x y,i<j→ops[i]?=some x→ops[j]?=some y→fe ops.toList j i=true∨(xM ops.toList x y=false ∧ ¬(cB x.op=.chain∧cB y.op=.chain))
theorem Dz {ops:Array Oper} (h:lh ops.toList=true):Ordered ops:=by
 unfold lh at h
 simp only[List.all_eq_true,List.mem_range] at h
 have size : ∀j y,ops[j]?=some y→j<ops.toList.length:=by
  intro j y hj
  have:=(Array.getElem?_eq_some_iff.1 hj).1
  simpa using this
 refine⟨fun j y hj e he hb=>?_,fun i j x y hij hi hj=>?_⟩
 ·have:=h j (size j y hj)
  have hj':ops.toList[j]?=some y:=by simpa using hj
  simp only[hj',Bool.and_eq_true,List.all_eq_true] at this
  have h1:=this.1.1 e (by simpa using he)
  simpa [hb] using h1
 ·have:=h j (size j y hj)
  have hj':ops.toList[j]?=some y:=by simpa using hj
  have hi':ops.toList[i]?=some x:=by simpa using hi
  simp only[hj',Bool.and_eq_true,List.all_eq_true] at this
  have h1:=this.2 i (by simpa using hij)
  simp only[hi',Bool.or_eq_true,Bool.not_eq_true',Bool.or_eq_false_iff,Bool.and_eq_false_iff,beq_eq_false_iff_ne] at h1
  rcases h1 with h1|h1
  ·exact .inl h1
  ·refine .inr ⟨h1.1,fun hk=>?_⟩
   rcases h1.2 with h2|h2
   ·exact h2 hk.1
   ·exact h2 hk.2
section
variable {ops:Array Oper} {x y:Oper} {d:Nat}
theorem Hf (h1:x.dst=some d) (h2:y.dst=some d):xM ops.toList x y=true:=by simp[xM,h1,h2]
theorem RS (h1:x.dst=some d) (h2:d∈reads ops.toList y):xM ops.toList x y=true:=by simp[xM,h1,h2]
theorem RT (h1:y.dst=some d) (h2:d∈reads ops.toList x):xM ops.toList x y=true:=by simp[xM,h1,h2]
end
section
variable {E:Env} {call:a8} {nt:Nat} {ops:Array Oper} {FA:Nat→Fr} {HA:Nat→IH}
theorem Text.put (T:Text E call nt ops FA HA) {i:Nat} {o:Oper} (ho:ops[i]?=some o) : ∃v,mC nt (FA i) o.dst v=some (FA (i+1)) ∧
  ((bA ops.toList o (FA i)=some true∧cU E call (FA i) o.op (HA i)=some (v,HA (i+1)))∨(bA ops.toList o (FA i)=some false∧v=undef)):=by
 have hs:=T.step i o ho
 unfold cS at hs
 split at hs
 ·rename_i hw
  split at hs
  ·rename_i v h2 bw
   obtain⟨a,h1,e⟩:=Option.map_eq_some_iff.1 hs
   cases e
   exact⟨v,h1,.inl ⟨hw,bw⟩⟩
  ·cases hs
 ·rename_i hw
  obtain⟨a,h1,e⟩:=Option.map_eq_some_iff.1 hs
  exact⟨undef,by rw[h1];exact congrArg some (Prod.mk.inj e).1,.inr ⟨hw,rfl⟩⟩
 ·cases hs
theorem Cp {fr fr':Fr} {dst:Option Tmp} {v:Value} (h:mC nt fr dst v=some fr') (t:Nat):ab fr' t=if dst=some t then some v else ab fr t:=by
 unfold mC at h
 cases dst with
 | none=>cases h;simp
 | some d =>
  simp only[cond_eq_ite,Nat.blt_eq] at h
  split at h
  ·cases h
   simp only[ab,cond_eq_ite,beq_iff_eq,Option.some.injEq]
  ·cases h
theorem Text.keeps (T:Text E call nt ops FA HA) {t p:Nat} : ∀(q:Nat),p≤q→q≤ops.size→(∀j o,p≤j→j<q→ops[j]?=some o→o.dst≠some t)→ab (FA q) t=ab (FA p) t:=by
 intro q
 induction q with
 | zero =>
  intro h _ _
  have e:p=0:=by omega
  rw[e]
 | succ q ih =>
  intro hpq hn hw
  by_cases hq:p=q+1
  ·rw[hq]
  have ho:ops[q]?=some ops[q]:=Array.getElem?_eq_getElem (by omega)
  obtain⟨v,hp,_⟩:=T.put ho
  rw[Cp hp t,if_neg (hw q _ (by omega) (by omega) ho)]
  exact ih (by omega) (by omega) (fun j o h1 h2=>hw j o h1 (by omega))
end
structure yc (nt:Nat) (ops:Array Oper) (FA:Nat→Fr) (HA:Nat→IH) (B:Nat) (w0:World) (m0:Mp) (wi:World) (D:Nat→Prop) (m:Mp) (w:World) (tmps:Array Value):Prop where
 closed : ∀j i,D j→fe ops.toList j i=true→D i
 slots : ∀t,∃p,p≤ops.size∧(∀j o,ops[j]?=some o→o.dst=some t→(D j↔j<p)) ∧ ∀v,ab (FA p) t=some v → ∃v',tmps[t]?=some v'∧aD m v v'
 chain : ∃a,a≤ops.size∧(∀j,cN ops j→(D j↔j<a))∧(a=ops.size∨cN ops a)∧mE ops FA HA B w0 m0 wi D a m w
 size:nt≤tmps.size
section
variable {E:Env} {call:a8} {nt:Nat} {ops:Array Oper} {FA:Nat→Fr} {HA:Nat→IH} {B:Nat} {w0:World} {m0:Mp} {wi:World} {D:Nat→Prop} {a:Nat} {m:Mp} {w:World} {tmps:Array Value}
theorem mE.norm (T:Text E call nt ops FA HA) : ∀(n a:Nat),ops.size - a≤n→a≤ops.size→mE ops FA HA B w0 m0 wi D a m w→(∀j,cN ops j→(D j↔j<a)) →
  ∃a,a≤ops.size∧(∀j,cN ops j→(D j↔j<a))∧(a=ops.size∨cN ops a)∧mE ops FA HA B w0 m0 wi D a m w
 | 0,a,h1,h2,I,hc=>⟨a,h2,hc,.inl (by omega),I⟩
 | n+1,a,h1,h2,I,hc=>by
  by_cases h3:a=ops.size
  ·exact⟨a,h2,hc,.inl h3,I⟩
  ·by_cases h4:cN ops a
   ·exact⟨a,h2,hc,.inr h4,I⟩
   ·refine mE.norm T n (a+1) (by omega) (by omega) (I.next T (by omega) h4) fun j hj=>?_
    rw[hc j hj]
    constructor
    ·intro h;omega
    ·intro h
     rcases Nat.lt_or_ge j a with h5|h5
     ·exact h5
     ·exact absurd (show cN ops a from(show j=a by omega)▸hj) h4
theorem yc.known (T:Text E call nt ops FA HA) (O:Ordered ops) (I:yc nt ops FA HA B w0 m0 wi D m w tmps) {i:Nat} {o:Oper} (ho:ops[i]?=some o) (hd : ¬D i) (hb : ∀k,fe ops.toList i k=true→D k) :
  dG m (dV (FA i) (reads ops.toList o)) tmps:=by
 intro t v hv
 rw[gh] at hv
 by_cases hr:t∈Id.reads ops.toList o
 ·rw[if_pos hr] at hv
  obtain⟨p,hp,hw,jJ⟩:=I.slots t
  have hin:i<ops.size:=(Array.getElem?_eq_some_iff.1 ho).1
  have lo : ∀j x,ops[j]?=some x→x.dst=some t→j<i→D j:=by
   intro j x hj hx hji
   rcases O.pair j i x o hji hj ho with h|h
   ·exact hb j h
   ·rw[RS hx hr] at h;exact absurd h.1 (by simp)
  have hi : ∀j x,ops[j]?=some x→x.dst=some t→i<j → ¬D j:=by
   intro j x hj hx hji hdj
   rcases O.pair i j o x hji ho hj with h|h
   ·exact hd (I.closed j i hdj h)
   ·rw[RT hx hr] at h;exact absurd h.1 (by simp)
  have e:ab (FA i) t=ab (FA p) t:=by
   rcases Nat.le_total p i with hpi|hpi
   ·refine T.keeps i hpi (by omega) fun j x h1 h2 hj hx=>?_
    have:=(hw j x hj hx).1 (lo j x hj hx h2)
    omega
   ·refine(T.keeps p hpi hp fun j x h1 h2 hj hx=>?_).symm
    have hdj:=(hw j x hj hx).2 h2
    rcases Nat.lt_or_ge i j with h3|h3
    ·exact hi j x hj hx h3 hdj
    ·obtain rfl:i=j:=by omega
     exact hd hdj
  rw[e] at hv
  exact jJ v hv
 ·rw[if_neg hr] at hv;cases hv
theorem yc.put (O:Ordered ops) (I:yc nt ops FA HA B w0 m0 wi D m w tmps) {i:Nat} {o:Oper} (ho:ops[i]?=some o) (hd : ¬D i) (hb : ∀k,fe ops.toList i k=true→D k)
  {v v':Value} (hp:mC nt (FA i) o.dst v=some (FA (i+1))) {m':Mp} (hm:m.le m') (hv:aD m' v v') :
  (∀t,∃p,p≤ops.size∧(∀j x,ops[j]?=some x→x.dst=some t→((D j∨j=i)↔j<p)) ∧ ∀v,ab (FA p) t=some v → ∃v1,(ns tmps o.dst v')[t]?=some v1∧aD m' v v1)∧nt≤(ns tmps o.dst v').size:=by
 have hin:i<ops.size:=(Array.getElem?_eq_some_iff.1 ho).1
 have hd2 : ∀d,o.dst=some d→d<nt:=by
  intro d hd
  unfold mC at hp
  simp only[hd,cond_eq_ite,Nat.blt_eq] at hp
  split at hp
  ·assumption
  ·cases hp
 refine⟨fun t=>?_,by cases h:o.dst<;>simpa [ns] using I.size⟩
 by_cases ht:o.dst=some t
 ·refine⟨i+1,by omega,fun j x hj hx=>?_,fun u hu=>?_⟩
  ·constructor
   ·rintro(h|h)
    ·rcases Nat.lt_or_ge i j with h3|h3
     ·rcases O.pair i j o x h3 ho hj with h4|h4
      ·exact absurd (I.closed j i h h4) hd
      ·rw[Hf ht hx] at h4;exact absurd h4.1 (by simp)
     ·omega
    ·omega
   ·intro h
    by_cases h3:j=i
    ·exact .inr h3
    ·rcases O.pair j i x o (by omega) hj ho with h4|h4
     ·exact .inl (hb j h4)
     ·rw[Hf hx ht] at h4;exact absurd h4.1 (by simp)
  ·rw[Cp hp t,if_pos ht] at hu
   cases hu
   have hlt:t<tmps.size:=Nat.lt_of_lt_of_le (hd2 t ht) I.size
   exact⟨v',by simp[ns,ht,hlt],hv⟩
 ·obtain⟨p,h1,h2,h3⟩:=I.slots t
  refine⟨p,h1,fun j x hj hx=>?_,fun u hu=>?_⟩
  ·rw[←h2 j x hj hx]
   constructor
   ·rintro(h|h)
    ·exact h
    ·subst h;rw[ho] at hj;cases hj;exact absurd hx ht
   ·exact .inl
  ·obtain⟨u',h4,h5⟩:=h3 u hu
   refine⟨u',?_,h5.mono hm⟩
   unfold ns
   cases hdst:o.dst with
   | none=>exact h4
   | some d=>simp only;rw[Array.getElem?_setIfInBounds_ne (by rintro rfl;exact ht hdst)];exact h4
def JO (E:Env) (ops:Array Oper) (FA:Nat→Fr) (HA:Nat→IH):Prop :=
 ∀i o,ops[i]?=some o→cB o.op=.load→bA ops.toList o (FA i)=some true → ∀p,p≤ops.size→(p=ops.size∨cN ops p) →
  (∀k,cN ops k→k<p→fe ops.toList k i=false)→(∀k,cN ops k→p≤k→fe ops.toList i k=false) →
  ∀v h',iop E.P (FA i) o.op (HA i)=some (v,h') → ∃h2,iop E.P (FA i) o.op (HA p)=some (v,h2)
theorem yc.op (fG:kj E.P call) (T:Text E call nt ops FA HA) (O:Ordered ops) (S:JO E ops FA HA) (I:yc nt ops FA HA B w0 m0 wi D m w tmps) {i:Nat} {o:Oper} (ho:ops[i]?=some o) (hd : ¬D i)
  (hb : ∀k,fe ops.toList i k=true→D k) (b:Frame) (rest:List Nat) (k:List Item) (ds:List Deferred) (cs:List Frame) :
  ∃m' w' bF,Steps E.P (lone (on b tmps (.inRegion ops (i :: rest) :: k) ds) cs w) (lone (on b bF (.inRegion ops rest :: k) ds) cs w')∧yc nt ops FA HA B w0 m0 wi (fun j=>D j∨j=i) m' w' bF:=by
 have hin:i<ops.size:=(Array.getElem?_eq_some_iff.1 ho).1
 have hf:=I.known T O ho hd hb
 obtain⟨v,jn,mV⟩:=T.put ho
 obtain⟨a,hae,hch,hat,H⟩:=I.chain
 have Uc : ∀j i',(D j∨j=i)→fe ops.toList j i'=true→D i'∨i'=i:=by
  rintro j i' (h|rfl) hbf
  ·exact .inl (I.closed j i' h hbf)
  ·exact .inl (hb i' hbf)
 have mk : ∀{m':Mp} {w':World} {v':Value} {c:Nat},m.le m'→aD m' v v'→c≤ops.size→(∀j,cN ops j→((D j∨j=i)↔j<c))→mE ops FA HA B w0 m0 wi (fun j=>D j∨j=i) c m' w' →
   yc nt ops FA HA B w0 m0 wi (fun j=>D j∨j=i) m' w' (ns tmps o.dst v'):=by
  intro m' w' v' c hle hv hc1 hc2 H'
  obtain⟨h1,h2⟩:=I.put O ho hd hb jn hle hv
  exact⟨Uc,h1,H'.norm T _ c (Nat.le_refl _) hc1 hc2,h2⟩
 have add : ∀{c:Nat} {m':Mp} {w':World},¬ec ops FA i→mE ops FA HA B w0 m0 wi D c m' w'→mE ops FA HA B w0 m0 wi (fun j=>D j∨j=i) c m' w':=by
  intro c m' w' hal H'
  have back : ∀j,ec ops FA j→(D j∨j=i)→D j:=by
   rintro j h1 (h2|rfl)
   ·exact h2
   ·exact absurd h1 hal
  refine⟨H'.rel,fun j h1 h2 h3=>H'.none_ j h1 h2 (fun h=>h3 (.inl h)),fun j h0 h1 h2 h3=>H'.Iw j h0 h1 h2 (fun h=>h3 (.inl h)),fun j h0 h1 h2 h3=>H'.extra j h0 h1 h2 (back j h2 h3),H'.inj,fun q h1 h2=>?_,H'.le,H'.new,H'.base,H'.frame,H'.idle,H'.size,H'.img,H'.mT⟩
  rcases H'.fresh q h1 h2 with h|⟨j,h3,h4,h5,h6,h7⟩
  ·exact .inl h
  ·exact .inr ⟨j,h3,h4,h5,.inl h6,h7⟩
 have JB : ¬cN ops i → ∀j,cN ops j→((D j∨j=i)↔j<a):=by
  intro hnc j hj
  rw[←hch j hj]
  constructor
  ·rintro(h|rfl)
   ·exact h
   ·exact absurd hj hnc
  ·exact .inl
 rcases mV with⟨hw,bw⟩|⟨hw,rfl⟩
 ·have hwk:bA ops.toList o (dV (FA i) (reads ops.toList o))=some true:=by rw[w9];exact hw
  have hcg : ∀h,cU E call (dV (FA i) (reads ops.toList o)) o.op h=cU E call (FA i) o.op h:=fun h=>FE (Ga _ _ _) h
  have YI : ∀x:Nat,eo m x x:=fun x k h1 h2=>by omega
  have quiet:cB o.op≠.chain→cB o.op≠.alloc→cU E call (FA i) o.op (HA a)=some (v,HA a) →
    ∃m' w' bF,Steps E.P (lone (on b tmps (.inRegion ops (i :: rest) :: k) ds) cs w) (lone (on b bF (.inRegion ops rest :: k) ds) cs w')∧yc nt ops FA HA B w0 m0 wi (fun j=>D j∨j=i) m' w' bF:=by
   intro hk1 hk2 hr
   have hnc : ¬cN ops i:=by rintro⟨o',h1,h2⟩;rw[ho] at h1;cases h1;exact hk1 h2
   have hna : ¬ec ops FA i:=by rintro⟨o',h1,h2,_⟩;rw[ho] at h1;cases h1;exact hk2 h2
   obtain⟨v',m',w',hS,hv,R',S'⟩:=HZ fG ho hwk (by rw[hcg];exact hr) H.rel hf (YI _) b rest k ds cs
   exact⟨m',w',_,hS,mk S'.le hv hae (JB hnc) (add hna (H.go T (Nat.le_refl _) hae (fun j h1 h2=>by omega) R' S'))⟩
  cases hk:cB o.op with
  | pure =>
   rw[eG (by rw[hk];simp)] at bw
   exact quiet (by rw[hk];simp) (by rw[hk];simp) (by rw[eG (by rw[hk];simp)];exact(z7 hk bw).2 _)
  | load =>
   rw[eG (by rw[hk];simp)] at bw
   refine quiet (by rw[hk];simp) (by rw[hk];simp) ?_
   rw[eG (by rw[hk];simp)]
   obtain⟨h2,e⟩:=S i o ho hk hw a hae hat (fun q hq hqa=>by
     have hdq:=(hch q hq).2 hqa
     cases hbf:fe ops.toList q i with
     | false=>rfl
     | true=>exact absurd (I.closed q i hdq hbf) hd)
    (fun q hq hqa=>by
     cases hbf:fe ops.toList i q with
     | false=>rfl
     | true=>have:=(hch q hq).1 (hb q hbf);omega) v _ bw
   rw[e,z8 hk e]
  | alloc =>
   rw[eG (by rw[hk];simp)] at bw
   have hal:ec ops FA i:=⟨o,ho,hk,hw⟩
   have hnc : ¬cN ops i:=by rintro⟨o',h1,h2⟩;rw[ho] at h1;cases h1;rw[hk] at h2;cases h2
   have hrk:iop E.P (dV (FA i) (reads ops.toList o)) o.op (HA i)=some (v,HA (i+1)):=by rw[wA (Ga _ _ _)];exact bw
   obtain⟨obj,e,hl,Ob,v',z,hr,hO,hv⟩:=NP (rJ H.rel hf) o hk hrk w
   have hnd : ∀c,o.op≠.defer c:=by intro c hc;rw[hc] at hk;simp[cB] at hk
   have hst:=qk (b:=b) (k:=k) (ds:=ds) (cs:=cs) (rest:=rest) ho (oH hf hwk) hnd hr
   have H':=H.make T hae hin hal hd e hl hO
   exact⟨_,_,_,.one hst,mk (Mp.zX (H.none_ i hin hal hd)) (hv _ (Mp.bh _ _ _ _)) hae (JB hnc) H'⟩
  | chain =>
   have hci:cN ops i:=⟨o,ho,hk⟩
   have hai:a≤i:=by
    rcases Nat.lt_or_ge i a with h|h
    ·exact absurd ((hch i hci).2 h) hd
    ·exact h
   have hca:cN ops a:=by
    rcases hat with h|h
    ·omega
    ·exact h
   obtain rfl:a=i:=by
    rcases Nat.lt_or_ge a i with h|h
    ·obtain⟨x,hx,hkx⟩:=hca
     rcases O.pair a i x o h hx ho with h1|h1
     ·have:=(hch a ⟨x,hx,hkx⟩).1 (hb a h1);omega
     ·exact absurd ⟨hkx,hk⟩ h1.2
    ·omega
   have hfr:eo m (HA a).n (HA (a+1)).n:=by
    intro q h1 h2
    have hN:(HA (a+1)).n≤(HA ops.size).n:=T.nle _ _ hin (Nat.le_refl _)
    rcases H.fresh q h1 (by omega) with h|⟨j,h3,h4,h5,h6,h7⟩
    ·exact h
    ·exfalso
     have hja:j≠a:=by rintro rfl;exact kO hca h5
     have:=T.nle j (a+1) (by omega) (by omega)
     omega
   obtain⟨v',m',w',hS,hv,R',S'⟩:=HZ fG ho hwk (by rw[hcg];exact bw) H.rel hf hfr b rest k ds cs
   refine⟨m',w',_,hS,mk S'.le hv hin ?_ (add (kO hca) (H.go T (Nat.le_succ _) hin (fun j h1 h2=>?_) R' S'))⟩
   ·intro j hj
    rw[hch j hj]
    omega
   ·obtain rfl:j=a:=by omega
    exact kO hca
 ·-- left out
  have hwk:bA ops.toList o (dV (FA i) (reads ops.toList o))=some false:=by rw[w9];exact hw
  have hna : ¬ec ops FA i:=by rintro⟨o',h1,_,h2⟩;rw[ho] at h1;cases h1;rw[hw] at h2;cases h2
  have hst:=Pn (P:=E.P) (b:=b) (k:=k) (ds:=ds) (cs:=cs) (rest:=rest) (w:=w) ho (oH hf hwk)
  by_cases hci:cN ops i
  ·have hai:a≤i:=by
    rcases Nat.lt_or_ge i a with h|h
    ·exact absurd ((hch i hci).2 h) hd
    ·exact h
   have hca:cN ops a:=by
    rcases hat with h|h
    ·omega
    ·exact h
   obtain rfl:a=i:=by
    rcases Nat.lt_or_ge a i with h|h
    ·obtain⟨x,hx,hkx⟩:=hca
     obtain⟨o',ho',hk⟩:=hci
     rw[ho] at ho';cases ho'
     rcases O.pair a i x o h hx ho with h1|h1
     ·have:=(hch a ⟨x,hx,hkx⟩).1 (hb a h1);omega
     ·exact absurd ⟨hkx,hk⟩ h1.2
    ·omega
   have e:HA (a+1)=HA a:=by
    have hs:=T.step a o ho
    unfold cS at hs
    rw[hw] at hs
    obtain⟨_,_,e⟩:=Option.map_eq_some_iff.1 hs
    exact(Prod.mk.inj e).2.symm
   refine⟨m,w,_,.one hst,mk (Mp.le_refl m) (aD.undef m) hin ?_ (add hna (H.go T (Nat.le_succ _) hin (fun j h1 h2=>?_) (by rw[e];exact H.rel) (by rw[e];exact Step.refl _ _ _)))⟩
   ·intro j hj
    rw[hch j hj]
    omega
   ·obtain rfl:j=a:=by omega
    exact hna
  ·exact⟨m,w,_,.one hst,mk (Mp.le_refl m) (aD.undef m) hae (JB hci) (add hna H)⟩
end
end Go.Id
