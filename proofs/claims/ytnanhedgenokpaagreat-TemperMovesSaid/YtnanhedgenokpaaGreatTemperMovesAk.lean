/-
  The ideal machine: a region whose order is open gives, in whatever order, what it gives in the order of the text. The ideal machine: a region whose order is open, whole.
-/
import Derived.Test.YtnanhedgenokpaaGreatTemperMovesAj
import Derived.Orders
set_option linter.unusedVariables false
set_option linter.unusedSimpArgs false
set_option linter.defProp false
set_option linter.deprecated false
namespace Go.Id
open Go Go.RowKit
structure Ordered (ops:Array Oper):Prop where
 Ok : ∀j y,ops[j]?=some y → ∀e∈y.after,Region.binds .any e=true→e.on<j
 pair : ∀i j x y,i<j→ops[i]?=some x→ops[j]?=some y→eV ops.toList j i=true∨(uM ops.toList x y=false ∧ ¬(cw x.op=.chain∧cw y.op=.chain))
theorem Bc {ops:Array Oper} (h:ni ops.toList=true):Ordered ops:=by
 unfold ni at h
 simp only[List.all_eq_true,List.mem_range] at h
 have size : ∀j y,ops[j]?=some y→j<ops.toList.length:=by
  intro j y hj
  have:=(Array.getElem?_eq_some_iff.1 hj).1
  simpa using this
 refine⟨fun j y hj e he hb=>?_,fun i j x y hij hi hj=>?_⟩
 ·have:=h j (size j y hj)
  have hj':ops.toList[j]?=some y:=by simpa using hj
  simp only[hj',Bool.and_eq_true,List.all_eq_true] at this
  have h1:=this.1.1 e (by simpa using he)
  simpa [hb] using h1
 ·have:=h j (size j y hj)
  have hj':ops.toList[j]?=some y:=by simpa using hj
  have hi':ops.toList[i]?=some x:=by simpa using hi
  simp only[hj',Bool.and_eq_true,List.all_eq_true] at this
  have h1:=this.2 i (by simpa using hij)
  simp only[hi',Bool.or_eq_true,Bool.not_eq_true',Bool.or_eq_false_iff,Bool.and_eq_false_iff,beq_eq_false_iff_ne] at h1
  rcases h1 with h1|h1
  ·exact .inl h1
  ·refine .inr ⟨h1.1,fun hk=>?_⟩
   rcases h1.2 with h2|h2
   ·exact h2 hk.1
   ·exact h2 hk.2
section
variable {ops:Array Oper} {x y:Oper} {d:Nat}
theorem DP (h1:x.dst=some d) (h2:y.dst=some d):uM ops.toList x y=true:=by simp[uM,h1,h2]
theorem Mh (h1:x.dst=some d) (h2:d∈reads ops.toList y):uM ops.toList x y=true:=by simp[uM,h1,h2]
theorem Mi (h1:y.dst=some d) (h2:d∈reads ops.toList x):uM ops.toList x y=true:=by simp[uM,h1,h2]
end
section
variable {E:Env} {call:bK} {nt:Nat} {ops:Array Oper} {FA:Nat→Fr} {HA:Nat→IH}
theorem Text.put (T:Text E call nt ops FA HA) {i:Nat} {o:Oper} (ho:ops[i]?=some o) : ∃v,nU nt (FA i) o.dst v=some (FA (i+1)) ∧
  ((bQ ops.toList o (FA i)=some true∧fg E call (FA i) o.op (HA i)=some (v,HA (i+1)))∨(bQ ops.toList o (FA i)=some false∧v=undef)):=by
 have hs:=T.step i o ho
 unfold dR at hs
 split at hs
 ·rename_i hw
  split at hs
  ·rename_i v h2 bf
   obtain⟨a,h1,e⟩:=Option.map_eq_some_iff.1 hs
   cases e
   exact⟨v,h1,.inl ⟨hw,bf⟩⟩
  ·cases hs
 ·rename_i hw
  obtain⟨a,h1,e⟩:=Option.map_eq_some_iff.1 hs
  exact⟨undef,by rw[h1];exact congrArg some (Prod.mk.inj e).1,.inr ⟨hw,rfl⟩⟩
 ·cases hs
theorem zZ {fr fr':Fr} {dst:Option Tmp} {v:Value} (h:nU nt fr dst v=some fr') (t:Nat):ah fr' t=if dst=some t then some v else ah fr t:=by
 unfold nU at h
 cases dst with
 | none=>cases h;simp
 | some d =>
  simp only[cond_eq_ite,Nat.blt_eq] at h
  split at h
  ·cases h
   simp only[ah,cond_eq_ite,beq_iff_eq,Option.some.injEq]
  ·cases h
theorem Text.keeps (T:Text E call nt ops FA HA) {t p:Nat} : ∀(q:Nat),p≤q→q≤ops.size→(∀j o,p≤j→j<q→ops[j]?=some o→o.dst≠some t)→ah (FA q) t=ah (FA p) t:=by
 intro q
 induction q with
 | zero =>
  intro h _ _
  have e:p=0:=by omega
  rw[e]
 | succ q ih =>
  intro hpq hn hw
  by_cases hq:p=q+1
  ·rw[hq]
  have ho:ops[q]?=some ops[q]:=Array.getElem?_eq_getElem (by omega)
  obtain⟨v,hp,_⟩:=T.put ho
  rw[zZ hp t,if_neg (hw q _ (by omega) (by omega) ho)]
  exact ih (by omega) (by omega) (fun j o h1 h2=>hw j o h1 (by omega))
end
structure vg (nt:Nat) (ops:Array Oper) (FA:Nat→Fr) (HA:Nat→IH) (B:Nat) (w0:World) (m0:Mp) (wi:World) (D:Nat→Prop) (m:Mp) (w:World) (tmps:Array Value):Prop where
 closed : ∀j i,D j→eV ops.toList j i=true→D i
 slots : ∀t,∃p,p≤ops.size∧(∀j o,ops[j]?=some o→o.dst=some t→(D j↔j<p)) ∧ ∀v,ah (FA p) t=some v → ∃v',tmps[t]?=some v'∧aB m v v'
 chain : ∃a,a≤ops.size∧(∀j,cJ ops j→(D j↔j<a))∧(a=ops.size∨cJ ops a)∧lO ops FA HA B w0 m0 wi D a m w
 size:nt≤tmps.size
section
variable {E:Env} {call:bK} {nt:Nat} {ops:Array Oper} {FA:Nat→Fr} {HA:Nat→IH} {B:Nat} {w0:World} {m0:Mp} {wi:World} {D:Nat→Prop} {a:Nat} {m:Mp} {w:World} {tmps:Array Value}
theorem lO.norm (T:Text E call nt ops FA HA) : ∀(n a:Nat),ops.size - a≤n→a≤ops.size→lO ops FA HA B w0 m0 wi D a m w→(∀j,cJ ops j→(D j↔j<a)) →
  ∃a,a≤ops.size∧(∀j,cJ ops j→(D j↔j<a))∧(a=ops.size∨cJ ops a)∧lO ops FA HA B w0 m0 wi D a m w
 | 0,a,h1,h2,I,hc=>⟨a,h2,hc,.inl (by omega),I⟩
 | n+1,a,h1,h2,I,hc=>by
  by_cases h3:a=ops.size
  ·exact⟨a,h2,hc,.inl h3,I⟩
  ·by_cases h4:cJ ops a
   ·exact⟨a,h2,hc,.inr h4,I⟩
   ·refine lO.norm T n (a+1) (by omega) (by omega) (I.next T (by omega) h4) fun j hj=>?_
    rw[hc j hj]
    constructor
    ·intro h;omega
    ·intro h
     rcases Nat.lt_or_ge j a with h5|h5
     ·exact h5
     ·exact absurd (show cJ ops a from(show j=a by omega)▸hj) h4
theorem vg.known (T:Text E call nt ops FA HA) (O:Ordered ops) (I:vg nt ops FA HA B w0 m0 wi D m w tmps) {i:Nat} {o:Oper} (ho:ops[i]?=some o) (hd : ¬D i) (hb : ∀k,eV ops.toList i k=true→D k) :
  dJ m (ft (FA i) (reads ops.toList o)) tmps:=by
 intro t v hv
 rw[fO] at hv
 by_cases hr:t∈Id.reads ops.toList o
 ·rw[if_pos hr] at hv
  obtain⟨p,hp,hw,iz⟩:=I.slots t
  have hin:i<ops.size:=(Array.getElem?_eq_some_iff.1 ho).1
  have lo : ∀j x,ops[j]?=some x→x.dst=some t→j<i→D j:=by
   intro j x hj hx hji
   rcases O.pair j i x o hji hj ho with h|h
   ·exact hb j h
   ·rw[Mh hx hr] at h;exact absurd h.1 (by simp)
  have hi : ∀j x,ops[j]?=some x→x.dst=some t→i<j → ¬D j:=by
   intro j x hj hx hji hdj
   rcases O.pair i j o x hji ho hj with h|h
   ·exact hd (I.closed j i hdj h)
   ·rw[Mi hx hr] at h;exact absurd h.1 (by simp)
  have e:ah (FA i) t=ah (FA p) t:=by
   rcases Nat.le_total p i with hpi|hpi
   ·refine T.keeps i hpi (by omega) fun j x h1 h2 hj hx=>?_
    have:=(hw j x hj hx).1 (lo j x hj hx h2)
    omega
   ·refine(T.keeps p hpi hp fun j x h1 h2 hj hx=>?_).symm
    have hdj:=(hw j x hj hx).2 h2
    rcases Nat.lt_or_ge i j with h3|h3
    ·exact hi j x hj hx h3 hdj
    ·obtain rfl:i=j:=by omega
     exact hd hdj
  rw[e] at hv
  exact iz v hv
 ·rw[if_neg hr] at hv;cases hv
theorem vg.put (O:Ordered ops) (I:vg nt ops FA HA B w0 m0 wi D m w tmps) {i:Nat} {o:Oper} (ho:ops[i]?=some o) (hd : ¬D i) (hb : ∀k,eV ops.toList i k=true→D k)
  {v v':Value} (hp:nU nt (FA i) o.dst v=some (FA (i+1))) {m':Mp} (hm:m.le m') (hv:aB m' v v') :
  (∀t,∃p,p≤ops.size∧(∀j x,ops[j]?=some x→x.dst=some t→((D j∨j=i)↔j<p)) ∧ ∀v,ah (FA p) t=some v → ∃v1,(mc tmps o.dst v')[t]?=some v1∧aB m' v v1)∧nt≤(mc tmps o.dst v').size:=by
 have hin:i<ops.size:=(Array.getElem?_eq_some_iff.1 ho).1
 have hd2 : ∀d,o.dst=some d→d<nt:=by
  intro d hd
  unfold nU at hp
  simp only[hd,cond_eq_ite,Nat.blt_eq] at hp
  split at hp
  ·assumption
  ·cases hp
 refine⟨fun t=>?_,by cases h:o.dst<;>simpa [mc] using I.size⟩
 by_cases ht:o.dst=some t
 ·refine⟨i+1,by omega,fun j x hj hx=>?_,fun u hu=>?_⟩
  ·constructor
   ·rintro(h|h)
    ·rcases Nat.lt_or_ge i j with h3|h3
     ·rcases O.pair i j o x h3 ho hj with h4|h4
      ·exact absurd (I.closed j i h h4) hd
      ·rw[DP ht hx] at h4;exact absurd h4.1 (by simp)
     ·omega
    ·omega
   ·intro h
    by_cases h3:j=i
    ·exact .inr h3
    ·rcases O.pair j i x o (by omega) hj ho with h4|h4
     ·exact .inl (hb j h4)
     ·rw[DP hx ht] at h4;exact absurd h4.1 (by simp)
  ·rw[zZ hp t,if_pos ht] at hu
   cases hu
   have hlt:t<tmps.size:=Nat.lt_of_lt_of_le (hd2 t ht) I.size
   exact⟨v',by simp[mc,ht,hlt],hv⟩
 ·obtain⟨p,h1,h2,h3⟩:=I.slots t
  refine⟨p,h1,fun j x hj hx=>?_,fun u hu=>?_⟩
  ·rw[←h2 j x hj hx]
   constructor
   ·rintro(h|h)
    ·exact h
    ·subst h;rw[ho] at hj;cases hj;exact absurd hx ht
   ·exact .inl
  ·obtain⟨u',h4,h5⟩:=h3 u hu
   refine⟨u',?_,h5.mono hm⟩
   unfold mc
   cases UH:o.dst with
   | none=>exact h4
   | some d=>simp only;rw[Array.getElem?_setIfInBounds_ne (by rintro rfl;exact ht UH)];exact h4
def FZ (E:Env) (ops:Array Oper) (FA:Nat→Fr) (HA:Nat→IH):Prop :=
 ∀i o,ops[i]?=some o→cw o.op=.load→bQ ops.toList o (FA i)=some true → ∀p,p≤ops.size→(p=ops.size∨cJ ops p) →
  (∀k,cJ ops k→k<p→eV ops.toList k i=false)→(∀k,cJ ops k→p≤k→eV ops.toList i k=false) →
  ∀v h',iop E.P (FA i) o.op (HA i)=some (v,h') → ∃h2,iop E.P (FA i) o.op (HA p)=some (v,h2)
theorem vg.op (fC:jP E.P call) (T:Text E call nt ops FA HA) (O:Ordered ops) (S:FZ E ops FA HA) (I:vg nt ops FA HA B w0 m0 wi D m w tmps) {i:Nat} {o:Oper} (ho:ops[i]?=some o) (hd : ¬D i)
  (hb : ∀k,eV ops.toList i k=true→D k) (b:Frame) (rest:List Nat) (k:List Item) (ds:List Deferred) (cs:List Frame) :
  ∃m' w' bt,Steps E.P (lone (on b tmps (.inRegion ops (i :: rest) :: k) ds) cs w) (lone (on b bt (.inRegion ops rest :: k) ds) cs w')∧vg nt ops FA HA B w0 m0 wi (fun j=>D j∨j=i) m' w' bt:=by
 have hin:i<ops.size:=(Array.getElem?_eq_some_iff.1 ho).1
 have hf:=I.known T O ho hd hb
 obtain⟨v,iV,qo⟩:=T.put ho
 obtain⟨a,hae,hch,hat,H⟩:=I.chain
 have N4 : ∀j i',(D j∨j=i)→eV ops.toList j i'=true→D i'∨i'=i:=by
  rintro j i' (h|rfl) hbf
  ·exact .inl (I.closed j i' h hbf)
  ·exact .inl (hb i' hbf)
 have mk : ∀{m':Mp} {w':World} {v':Value} {c:Nat},m.le m'→aB m' v v'→c≤ops.size→(∀j,cJ ops j→((D j∨j=i)↔j<c))→lO ops FA HA B w0 m0 wi (fun j=>D j∨j=i) c m' w' →
   vg nt ops FA HA B w0 m0 wi (fun j=>D j∨j=i) m' w' (mc tmps o.dst v'):=by
  intro m' w' v' c hle hv hc1 hc2 H'
  obtain⟨h1,h2⟩:=I.put O ho hd hb iV hle hv
  exact⟨N4,h1,H'.norm T _ c (Nat.le_refl _) hc1 hc2,h2⟩
 have add : ∀{c:Nat} {m':Mp} {w':World},¬dW ops FA i→lO ops FA HA B w0 m0 wi D c m' w'→lO ops FA HA B w0 m0 wi (fun j=>D j∨j=i) c m' w':=by
  intro c m' w' hal H'
  have back : ∀j,dW ops FA j→(D j∨j=i)→D j:=by
   rintro j h1 (h2|rfl)
   ·exact h2
   ·exact absurd h1 hal
  refine⟨H'.rel,fun j h1 h2 h3=>H'.none_ j h1 h2 (fun h=>h3 (.inl h)),fun j h0 h1 h2 h3=>H'.ER j h0 h1 h2 (fun h=>h3 (.inl h)),fun j h0 h1 h2 h3=>H'.extra j h0 h1 h2 (back j h2 h3),H'.inj,fun q h1 h2=>?_,H'.le,H'.new,H'.base,H'.frame,H'.idle,H'.size,H'.img,H'.mD⟩
  rcases H'.fresh q h1 h2 with h|⟨j,h3,h4,h5,h6,h7⟩
  ·exact .inl h
  ·exact .inr ⟨j,h3,h4,h5,.inl h6,h7⟩
 have FI : ¬cJ ops i → ∀j,cJ ops j→((D j∨j=i)↔j<a):=by
  intro hnc j hj
  rw[←hch j hj]
  constructor
  ·rintro(h|rfl)
   ·exact h
   ·exact absurd hj hnc
  ·exact .inl
 rcases qo with⟨hw,bf⟩|⟨hw,rfl⟩
 ·have hwk:bQ ops.toList o (ft (FA i) (reads ops.toList o))=some true:=by rw[ue];exact hw
  have hcg : ∀h,fg E call (ft (FA i) (reads ops.toList o)) o.op h=fg E call (FA i) o.op h:=fun h=>CE (CS _ _ _) h
  have RD : ∀x:Nat,fy m x x:=fun x k h1 h2=>by omega
  have quiet:cw o.op≠.chain→cw o.op≠.alloc→fg E call (FA i) o.op (HA a)=some (v,HA a) →
    ∃m' w' bt,Steps E.P (lone (on b tmps (.inRegion ops (i :: rest) :: k) ds) cs w) (lone (on b bt (.inRegion ops rest :: k) ds) cs w')∧vg nt ops FA HA B w0 m0 wi (fun j=>D j∨j=i) m' w' bt:=by
   intro hk1 hk2 hr
   have hnc : ¬cJ ops i:=by rintro⟨o',h1,h2⟩;rw[ho] at h1;cases h1;exact hk1 h2
   have hna : ¬dW ops FA i:=by rintro⟨o',h1,h2,_⟩;rw[ho] at h1;cases h1;exact hk2 h2
   obtain⟨v',m',w',hS,hv,R',S'⟩:=Ey fC ho hwk (by rw[hcg];exact hr) H.rel hf (RD _) b rest k ds cs
   exact⟨m',w',_,hS,mk S'.le hv hae (FI hnc) (add hna (H.go T (Nat.le_refl _) hae (fun j h1 h2=>by omega) R' S'))⟩
  cases hk:cw o.op with
  | pure =>
   rw[eE (by rw[hk];simp)] at bf
   exact quiet (by rw[hk];simp) (by rw[hk];simp) (by rw[eE (by rw[hk];simp)];exact(xo hk bf).2 _)
  | load =>
   rw[eE (by rw[hk];simp)] at bf
   refine quiet (by rw[hk];simp) (by rw[hk];simp) ?_
   rw[eE (by rw[hk];simp)]
   obtain⟨h2,e⟩:=S i o ho hk hw a hae hat (fun q hq hqa=>by
     have hdq:=(hch q hq).2 hqa
     cases hbf:eV ops.toList q i with
     | false=>rfl
     | true=>exact absurd (I.closed q i hdq hbf) hd)
    (fun q hq hqa=>by
     cases hbf:eV ops.toList i q with
     | false=>rfl
     | true=>have:=(hch q hq).1 (hb q hbf);omega) v _ bf
   rw[e,xp hk e]
  | alloc =>
   rw[eE (by rw[hk];simp)] at bf
   have hal:dW ops FA i:=⟨o,ho,hk,hw⟩
   have hnc : ¬cJ ops i:=by rintro⟨o',h1,h2⟩;rw[ho] at h1;cases h1;rw[hk] at h2;cases h2
   have hrk:iop E.P (ft (FA i) (reads ops.toList o)) o.op (HA i)=some (v,HA (i+1)):=by rw[tP (CS _ _ _)];exact bf
   obtain⟨obj,e,hl,Ob,v',z,hr,hO,hv⟩:=IN (pC H.rel hf) o hk hrk w
   have hnd : ∀c,o.op≠.defer c:=by intro c hc;rw[hc] at hk;simp[cw] at hk
   have hst:=oo (b:=b) (k:=k) (ds:=ds) (cs:=cs) (rest:=rest) ho (mQ hf hwk) hnd hr
   have H':=H.make T hae hin hal hd e hl hO
   exact⟨_,_,_,.one hst,mk (Mp.xh (H.none_ i hin hal hd)) (hv _ (Mp.aW _ _ _ _)) hae (FI hnc) H'⟩
  | chain =>
   have hci:cJ ops i:=⟨o,ho,hk⟩
   have hai:a≤i:=by
    rcases Nat.lt_or_ge i a with h|h
    ·exact absurd ((hch i hci).2 h) hd
    ·exact h
   have hca:cJ ops a:=by
    rcases hat with h|h
    ·omega
    ·exact h
   obtain rfl:a=i:=by
    rcases Nat.lt_or_ge a i with h|h
    ·obtain⟨x,hx,hkx⟩:=hca
     rcases O.pair a i x o h hx ho with h1|h1
     ·have:=(hch a ⟨x,hx,hkx⟩).1 (hb a h1);omega
     ·exact absurd ⟨hkx,hk⟩ h1.2
    ·omega
   have hfr:fy m (HA a).n (HA (a+1)).n:=by
    intro q h1 h2
    have hN:(HA (a+1)).n≤(HA ops.size).n:=T.nle _ _ hin (Nat.le_refl _)
    rcases H.fresh q h1 (by omega) with h|⟨j,h3,h4,h5,h6,h7⟩
    ·exact h
    ·exfalso
     have hja:j≠a:=by rintro rfl;exact kC hca h5
     have:=T.nle j (a+1) (by omega) (by omega)
     omega
   obtain⟨v',m',w',hS,hv,R',S'⟩:=Ey fC ho hwk (by rw[hcg];exact bf) H.rel hf hfr b rest k ds cs
   refine⟨m',w',_,hS,mk S'.le hv hin ?_ (add (kC hca) (H.go T (Nat.le_succ _) hin (fun j h1 h2=>?_) R' S'))⟩
   ·intro j hj
    rw[hch j hj]
    omega
   ·obtain rfl:j=a:=by omega
    exact kC hca
 ·-- left out
  have hwk:bQ ops.toList o (ft (FA i) (reads ops.toList o))=some false:=by rw[ue];exact hw
  have hna : ¬dW ops FA i:=by rintro⟨o',h1,_,h2⟩;rw[ho] at h1;cases h1;rw[hw] at h2;cases h2
  have hst:=JV (P:=E.P) (b:=b) (k:=k) (ds:=ds) (cs:=cs) (rest:=rest) (w:=w) ho (mQ hf hwk)
  by_cases hci:cJ ops i
  ·have hai:a≤i:=by
    rcases Nat.lt_or_ge i a with h|h
    ·exact absurd ((hch i hci).2 h) hd
    ·exact h
   have hca:cJ ops a:=by
    rcases hat with h|h
    ·omega
    ·exact h
   obtain rfl:a=i:=by
    rcases Nat.lt_or_ge a i with h|h
    ·obtain⟨x,hx,hkx⟩:=hca
     obtain⟨o',ho',hk⟩:=hci
     rw[ho] at ho';cases ho'
     rcases O.pair a i x o h hx ho with h1|h1
     ·have:=(hch a ⟨x,hx,hkx⟩).1 (hb a h1);omega
     ·exact absurd ⟨hkx,hk⟩ h1.2
    ·omega
   have e:HA (a+1)=HA a:=by
    have hs:=T.step a o ho
    unfold dR at hs
    rw[hw] at hs
    obtain⟨_,_,e⟩:=Option.map_eq_some_iff.1 hs
    exact(Prod.mk.inj e).2.symm
   refine⟨m,w,_,.one hst,mk (Mp.le_refl m) (aB.undef m) hin ?_ (add hna (H.go T (Nat.le_succ _) hin (fun j h1 h2=>?_) (by rw[e];exact H.rel) (by rw[e];exact Step.refl _ _ _)))⟩
   ·intro j hj
    rw[hch j hj]
    omega
   ·obtain rfl:j=a:=by omega
    exact hna
  ·exact⟨m,w,_,.one hst,mk (Mp.le_refl m) (aB.undef m) hae (FI hci) (add hna H)⟩
end
end Go.Id

namespace Go.Id
open Go Go.RowKit
theorem Cs {E:Env} {ops:Array Oper} {tr:List (Fr×IH)} {FA:Nat→Fr} {HA:Nat→IH} (hs:steady E.P ops.toList tr (yI ops.toList)=true) (htr : ∀i,i≤ops.size→tr[i]?=some (FA i,HA i)) :
  FZ E ops FA HA:=by
 intro i o ho hk hw p hp Uw h1 h2 v h' hv
 have hin:i<ops.size:=(Array.getElem?_eq_some_iff.1 ho).1
 have ho':ops.toList[i]?=some o:=by simpa using ho
 unfold steady at hs
 rw[List.all_eq_true] at hs
 have hch : ∀q,q∈(List.range ops.toList.length).filter (fun k=>match ops.toList[k]? with|some o=>cw o.op == .chain|none=>false)↔cJ ops q:=by
  intro q
  rw[List.mem_filter]
  constructor
  ·rintro⟨_,hq⟩
   cases hx:ops.toList[q]? with
   | none=>simp[hx] at hq
   | some x=>simp only[hx,beq_iff_eq] at hq;exact⟨x,by simpa using hx,hq⟩
  ·rintro⟨x,hx,hq⟩
   have:=(Array.getElem?_eq_some_iff.1 hx).1
   have hx':ops.toList[q]?=some x:=by simpa using hx
   exact⟨by simpa using this,by rw[hx'];simp[hq]⟩
 have hm:=hs (i,_) (by
  unfold yI
  rw[List.mem_filterMap]
  refine⟨i,by simpa using hin,?_⟩
  simp only[ho',hk,beq_self_eq_true,cond_true]
  rfl)
 simp only[ho',htr i (Nat.le_of_lt hin),hw] at hm
 rw[List.all_eq_true] at hm
 have hpm:=hm p (by
  rw[List.mem_filter,List.mem_append]
  refine⟨?_,?_⟩
  ·rcases Uw with rfl|h
   ·right;simp
   ·left;exact(hch p).2 h
  ·rw[List.all_eq_true]
   intro q hq
   have hcq:=(hch q).1 hq
   cases hb:Nat.blt q p with
   | true =>
    have:=h1 q hcq (by simpa using hb)
    unfold eV at this
    rw[cond_true,this];rfl
   | false =>
    have:=h2 q hcq (by
     rcases Nat.lt_or_ge q p with h|h
     ·have:Nat.blt q p=true:=by simpa [Nat.blt_eq] using h
      rw[this] at hb;cases hb
     ·exact h)
    unfold eV at this
    rw[cond_false,this];rfl)
 simp only[htr p hp] at hpm
 unfold gT at hpm
 rw[hv] at hpm
 split at hpm
 ·rename_i h3 h4
  rename_i v1 _ v2 _
  cases h3
  rw[QG hpm]
  exact⟨_,h4⟩
 ·cases hpm
theorem lO.first {E:Env} {call:bK} {nt:Nat} {ops:Array Oper} {FA:Nat→Fr} {HA:Nat→IH} {B:Nat} {w0:World} {m:Mp} {w:World} (T:Text E call nt ops FA HA) (R:Rel B w0 m (HA 0) w) (hf:fy m (HA 0).n (HA ops.size).n) :
  lO ops FA HA B w0 m w (fun _=>False) 0 m w:=by
 refine⟨R,?_,fun i h=>by omega,fun i _ _ _ h=>h.elim,?_,fun k h1 h2=>.inl (hf k h1 h2),Mp.le_refl m,fun b h=>absurd rfl h,rfl,fun _ _ _=>rfl,fun _ _ _=>rfl,Nat.le_refl _,?_,fun _ _ _ h=>h⟩
 ·intro i hi hal _
  obtain⟨obj,e,_⟩:=T.alloc hal
  have h2:(HA (i+1)).n≤(HA ops.size).n:=T.nle _ (i+1) hi (Nat.le_refl _)
  rw[e] at h2
  have:((HA i).new obj).n=(HA i).n+1:=rfl
  exact hf _ (T.nle i 0 (Nat.zero_le _) (by omega)) (by omega)
 ·intro k k' r s s' h1 h2 h3 h4 h5
  rw[hf k h1 h2] at h5;cases h5
 ·intro k r s h1 h2 h3
  rw[hf k h1 h2] at h3;cases h3
section
variable {E:Env} {call:bK} {nt:Nat} {ops:Array Oper} {FA:Nat→Fr} {HA:Nat→IH} {B:Nat} {w0:World} {m0:Mp} {wi:World}
theorem yY (O:Ordered ops) {listed:Array Bool} (hcl : ∀j i,listed[j]?=some true→eV ops.toList j i=true→listed[i]?=some true) {i:Nat} {o:Oper} (ho:ops[i]?=some o)
  (dC : ∀e∈o.after,Region.binds .any e=true→listed[e.on]?=some true) : ∀k,eV ops.toList i k=true→listed[k]?=some true:=by
 intro k hb
 have ho':ops.toList[i]?=some o:=by simpa using ho
 obtain⟨e,he,hbe,h⟩:=(DV ho' (O.Ok i o ho)).1 hb
 have h1:=dC e he hbe
 rcases h with h|h
 ·rw[←h];exact h1
 ·exact hcl _ _ h1 h
theorem GI (fC:jP E.P call) (T:Text E call nt ops FA HA) (O:Ordered ops) (S:FZ E ops FA HA) (b:Frame) (k:List Item) (ds:List Deferred) (cs:List Frame) :
  ∀(fuel t:Nat) (listed:Array Bool) (U:List Nat) (m:Mp) (w:World) (tmps:Array Value),listed.size=ops.size→(∀j,j∈U↔j<ops.size∧listed[j]?≠some true)→U.Nodup→U.length≤fuel →
   vg nt ops FA HA B w0 m0 wi (fun j=>listed[j]?=some true) m w tmps →
   ∃m' w' bt,Steps E.P (lone (on b tmps (.inRegion ops (Region.linearise.go .any ops fuel t listed []) :: k) ds) cs w) (lone (on b bt (.inRegion ops [] :: k) ds) cs w')∧vg nt ops FA HA B w0 m0 wi (fun j=>j<ops.size) m' w' bt
 | 0,t,listed,U,m,w,tmps,hsz,hU,hnd,hlen,I=>by
  have hU0:U = []:=List.eq_nil_of_length_eq_zero (by omega)
  subst hU0
  have e:(fun j=>listed[j]?=some true)=fun j=>j<ops.size:=by
   funext j;apply propext
   constructor
   ·intro h
    have:=(Array.getElem?_eq_some_iff.1 h).1
    omega
   ·intro h
    apply Classical.byContradiction;intro hn
    exact absurd ((hU j).2 ⟨h,hn⟩) (by simp)
  rw[e] at I
  exact⟨m,w,tmps,by simp only[Region.linearise.go,List.reverse_nil];exact .refl _ _,I⟩
 | fuel+1,t,listed,U,m,w,tmps,hsz,hU,hnd,hlen,I=>by
  have get : ∀{j},j<ops.size → ∀d,(listed.getD j d=true↔listed[j]?=some true):=by
   intro j hj d
   rw[Array.getD_eq_getD_getElem?,Array.getElem?_eq_getElem (by omega)]
   simp
  have mem_ready : ∀i,i∈Region.ready .any ops listed↔i<ops.size∧listed[i]?≠some true ∧ ∃o,ops[i]?=some o ∧ ∀e∈o.after,Region.binds .any e=true→listed[e.on]?=some true:=by
   intro i
   unfold Region.ready
   rw[List.mem_filter,List.mem_range]
   constructor
   ·rintro⟨h1,h2⟩
    simp only[Bool.and_eq_true,Bool.not_eq_true'] at h2
    refine⟨h1,fun h=>?_,?_⟩
    ·have:=(get h1 true).2 h;rw[this] at h2;cases h2.1
    ·cases ho:ops[i]? with
     | none=>rw[ho] at h2;simp at h2
     | some o =>
      refine⟨o,rfl,fun e he hb=>?_⟩
      rw[ho] at h2
      simp only[Option.map_some,Option.getD_some,Array.all_eq_true',Bool.or_eq_true,Bool.not_eq_true'] at h2
      rcases h2.2 e he with h3|h3
      ·rw[hb] at h3;cases h3
      ·have hlt:=O.Ok i o ho e he hb
       exact(get (by omega) false).1 h3
   ·rintro⟨h1,h2,o,ho,h3⟩
    refine⟨h1,?_⟩
    simp only[Bool.and_eq_true,Bool.not_eq_true']
    constructor
    ·cases hg:listed.getD i true with
     | false=>rfl
     | true=>exact absurd ((get h1 true).1 hg) h2
    ·rw[ho]
     simp only[Option.map_some,Option.getD_some,Array.all_eq_true',Bool.or_eq_true,Bool.not_eq_true']
     intro e he
     cases hb:Region.binds .any e with
     | false=>exact .inl rfl
     | true =>
      have hlt:=O.Ok i o ho e he hb
      exact .inr ((get (by omega) false).2 (h3 e he hb))
  rw[show Region.linearise.go .any ops (fuel+1) t listed []=(match (Region.ready .any ops listed)[t % (Region.ready .any ops listed).length]? with
   | some i=>Region.linearise.go .any ops fuel (t / (Region.ready .any ops listed).length) (listed.setIfInBounds i true) [i]
   | none => [].reverse) from rfl]
  cases hi:(Region.ready .any ops listed)[t % (Region.ready .any ops listed).length]? with
  | none =>
   have Qo:Region.ready .any ops listed = []:=by
    cases hr:Region.ready .any ops listed with
    | nil=>rfl
    | cons x xs =>
     rw[hr] at hi
     have hlt:t % (x :: xs).length<(x :: xs).length:=Nat.mod_lt _ (by simp)
     rw[List.getElem?_eq_getElem hlt] at hi;cases hi
   have dC : ∀j,j<ops.size→listed[j]?=some true:=by
    intro j
    induction j using Nat.strongRecOn with
    | ind j ih =>
     intro hj
     apply Classical.byContradiction;intro hn
     have:j∈Region.ready .any ops listed:=(mem_ready j).2 ⟨hj,hn,ops[j],Array.getElem?_eq_getElem hj,fun e he hb=>by
      have hlt:=O.Ok j _ (Array.getElem?_eq_getElem hj) e he hb
      exact ih e.on hlt (by omega)⟩
     rw[Qo] at this;cases this
   have e:(fun j=>listed[j]?=some true)=fun j=>j<ops.size:=by
    funext j;apply propext
    constructor
    ·intro h
     have:=(Array.getElem?_eq_some_iff.1 h).1
     omega
    ·exact dC j
   rw[e] at I
   exact⟨m,w,tmps,.refl _ _,I⟩
  | some i =>
   simp only
   obtain⟨h1,h2,o,ho,h3⟩:=(mem_ready i).1 (List.mem_of_getElem? hi)
   rw[linearise_go_acc,List.reverse_singleton,List.singleton_append]
   obtain⟨m1,w1,dP,hS1,I1⟩:=I.op fC T O S ho h2 (yY O I.closed ho h3) b (Region.linearise.go .any ops fuel (t / (Region.ready .any ops listed).length) (listed.setIfInBounds i true) []) k ds cs
   have Fl : ∀j,(listed.setIfInBounds i true)[j]?=some true↔listed[j]?=some true∨j=i:=by
    intro j
    rw[Array.getElem?_setIfInBounds]
    by_cases hji:i=j
    ·subst hji;simp[hsz,h1]
    ·rw[if_neg hji]
     constructor
     ·exact .inl
     ·rintro(h|h)
      ·exact h
      ·exact absurd h.symm hji
   have e:(fun j=>listed[j]?=some true∨j=i)=fun j=>(listed.setIfInBounds i true)[j]?=some true:=by
    funext j;exact propext (Fl j).symm
   rw[e] at I1
   have hiU:i∈U:=(hU i).2 ⟨h1,h2⟩
   obtain⟨m',w',bt,hS,I'⟩:=GI fC T O S b k ds cs fuel (t / (Region.ready .any ops listed).length) (listed.setIfInBounds i true) (U.erase i) m1 w1 dP (by simpa using hsz)
    (fun j=>by
     rw[hnd.mem_erase_iff,hU j]
     constructor
     ·rintro⟨a,b,c⟩
      refine⟨b,fun h=>?_⟩
      rcases(Fl j).1 h with h|h
      ·exact c h
      ·exact a h
     ·rintro⟨a,b⟩
      exact⟨fun h=>b ((Fl j).2 (.inr h)),a,fun h=>b ((Fl j).2 (.inl h))⟩)
    (hnd.erase i) (by rw[List.length_erase_of_mem hiU];omega) I1
   exact⟨m',w',bt,hS1.trans hS,I'⟩
end
theorem HX {E:Env} {call:bK} (fC:jP E.P call) (cy:dv call) (Qq:E.P.follows .mixedOrders=true) {nt:Nat} {ops:Array Oper} {fr fr':Fr} {h h':IH} (hr:jS E call nt ops.toList fr h=some (fr',h'))
  {B:Nat} {w0:World} {m:Mp} {w:World} (R:Rel B w0 m h w) {tmps:Array Value} (hf:dJ m fr tmps) (hn:nt≤tmps.size) (hfr:fy m h.n h'.n) (b:Frame) (k:List Item) (ds:List Deferred) (cs:List Frame) (id:Nat) :
  h.n≤h'.n ∧ ∃m' w' bt,Steps E.P (lone (on b tmps (.code (.region id ops true) :: k) ds) cs w) (lone (on b bt k ds) cs w')∧dJ m' fr' bt∧nt≤bt.size∧Rel B w0 m' h' w'∧Step m h w m' h' w':=by
 unfold jS at hr
 cases htr:trace E call nt ops.toList ops.toList fr h with
 | none=>rw[htr] at hr;cases hr
 | some tr =>
  rw[htr] at hr
  simp only[cond_eq_ite,Bool.and_eq_true] at hr
  by_cases hc:ni ops.toList=true∧steady E.P ops.toList tr (yI ops.toList)=true
  ·rw[if_pos hc] at hr
   have O:=Bc hc.1
   obtain⟨hlen,h0,Se⟩:=mR ops.toList fr h tr htr
   have Le:tr.length=ops.size+1:=by simpa using hlen
   let FA:Nat→Fr:=fun i=>((tr[i]?).map (·.1)).getD fr
   let HA:Nat→IH:=fun i=>((tr[i]?).map (·.2)).getD h
   have KZ : ∀i,i≤ops.size→tr[i]?=some (FA i,HA i):=by
    intro i hi
    have:tr[i]?=some tr[i]:=List.getElem?_eq_getElem (by omega)
    simp only[FA,HA,this,Option.map_some,Option.getD_some]
   have T:Text E call nt ops FA HA:=by
    refine⟨cy,fun i o ho=>?_⟩
    obtain⟨fr1,h1,fr2,h2,e1,e2,e3⟩:=Se i o (by simpa using ho)
    have hin:i<ops.size:=(Array.getElem?_eq_some_iff.1 ho).1
    rw[KZ i (by omega)] at e1;rw[KZ (i+1) (by omega)] at e2
    cases e1;cases e2;exact e3
   have S:=Cs (E:=E) hc.2 KZ
   have e0:FA 0=fr∧HA 0=h:=by
    have:=KZ 0 (Nat.zero_le _)
    rw[h0] at this;exact⟨(Prod.mk.inj (Option.some.inj this)).1.symm,(Prod.mk.inj (Option.some.inj this)).2.symm⟩
   have en:FA ops.size=fr'∧HA ops.size=h':=by
    have:=KZ ops.size (Nat.le_refl _)
    simp only[Array.length_toList] at hr
    rw[hr] at this;exact⟨(Prod.mk.inj (Option.some.inj this)).1.symm,(Prod.mk.inj (Option.some.inj this)).2.symm⟩
   have R1:Rel B w0 m (HA 0) { w with drawn:=w.drawn+1 }:=by rw[e0.2];exact R.congr rfl (jE R.below _)
   have Qp:h.n≤h'.n:=by have:=T.nle ops.size 0 (Nat.zero_le _) (Nat.le_refl _);rw[e0.2,en.2] at this;exact this
   have H0:=lO.first T R1 (by rw[e0.2,en.2];exact hfr)
   have I0:vg nt ops FA HA B w0 m { w with drawn:=w.drawn+1 } (fun j:Nat=>(Array.replicate ops.size false)[j]?=some true) m { w with drawn:=w.drawn+1 } tmps:=by
    have e:(fun j:Nat=>(Array.replicate ops.size false)[j]?=some true)=fun _=>False:=by
     funext j;apply propext
     rw[Array.getElem?_replicate]
     constructor
     ·intro h;split at h
      ·cases h
      ·cases h
     ·exact False.elim
    rw[e]
    refine⟨fun _ _ h=>h.elim,fun t=>⟨0,Nat.zero_le _,fun j o _ _=>by simp,fun v hv=>by rw[e0.1] at hv;exact hf t v hv⟩,?_,hn⟩
    exact H0.norm T _ 0 (Nat.le_refl _) (Nat.zero_le _) (fun j _=>by simp)
   obtain⟨m',w',bt,hS,I'⟩:=GI fC T O S b k ds cs ops.size (w.tape w.drawn (.order b.fn id)) (Array.replicate ops.size false) (List.range ops.size) m { w with drawn:=w.drawn+1 } tmps (by simp)
    (fun j=>by
     rw[List.mem_range,Array.getElem?_replicate]
     constructor
     ·intro h;refine⟨h,?_⟩;rw[if_pos h];simp
     ·exact fun h=>h.1)
    List.nodup_range (by simp) I0
   obtain⟨a,h1,h2,h3,H⟩:=I'.chain
   have ha:a=ops.size:=by
    rcases h3 with h|h
    ·exact h
    ·have hlt:a<ops.size:=by
      obtain⟨o,ho,_⟩:=h
      exact(Array.getElem?_eq_some_iff.1 ho).1
     have:=(h2 a h).1 hlt;omega
   subst ha
   refine⟨Qp,m',w',bt,?_,?_,I'.size,by rw[←en.2];exact H.rel,?_⟩
   ·refine .head wu ?_
    have:Region.schedule (E.P.follows .mixedOrders) ops (w.tape w.drawn (.order b.fn id))=Region.linearise.go .any ops ops.size (w.tape w.drawn (.order b.fn id)) (Array.replicate ops.size false) []:=by
     rw[Qq];simp only[Region.schedule,Bool.true_or,if_true,Region.linearise]
    rw[this]
    exact hS.trans (.one ma)
   ·intro t v hv
    obtain⟨p,hp,hw,iz⟩:=I'.slots t
    have:ah (FA ops.size) t=ah (FA p) t:=T.keeps ops.size hp (Nat.le_refl _) fun j o h4 h5 h6 h7=>by
     have:=(hw j o h6 h7).1 h5;omega
    rw[←en.1,this] at hv
    exact iz v hv
   ·refine Step.congr (w1:={ w with drawn:=w.drawn+1 }) ?_ rfl
    rw[←e0.2,←en.2]
    exact⟨H.le,H.new,T.nle _ _ (Nat.zero_le _) (Nat.le_refl _),H.base,H.frame,H.idle,H.size,H.img,H.mD⟩
  ·rw[if_neg hc] at hr;cases hr
end Go.Id
