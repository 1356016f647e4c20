/-
  The ideal machine: a region whose order is open gives, in whatever order, what it gives in
-/
import Derived.Test.YtnnmjocmapilaaaGreatOutlierRisesAe
import Derived.Orders
import Derived.RangeFuncIn
import Derived.RangeFuncRecord
set_option linter.unusedVariables false
set_option linter.unusedSimpArgs false
set_option linter.defProp false
set_option linter.deprecated false
namespace Go.Id
open Go Go.RowKit
structure Ordered (ops:Array Oper):Prop where
 VG : ∀j y,ops[j]?=some y → ∀e∈y.after,Region.binds .any e=true→e.on<j
 pair : ∀i j x y,i<j→ops[i]?=some x→ops[j]?=some y→fl ops.toList j i=true∨(yx ops.toList x y=false ∧ ¬(cL x.op=.chain∧cL y.op=.chain))
def EK {ops:Array Oper} (h:lU ops.toList=true):Ordered ops:=by
 unfold lU at h
 simp only[List.all_eq_true,List.mem_range] at h
 have size : ∀j y,ops[j]?=some y→j<ops.toList.length:=by
  intro j y hj
  have:=(Array.getElem?_eq_some_iff.1 hj).1
  simpa using this
 refine⟨fun j y hj e he hb=>?_,fun i j x y hij hi hj=>?_⟩
 ·have:=h j (size j y hj)
  have hj':ops.toList[j]?=some y:=by simpa using hj
  simp only[hj',Bool.and_eq_true,List.all_eq_true] at this
  have h1:=this.1.1 e (by simpa using he)
  simpa [hb] using h1
 ·have:=h j (size j y hj)
  have hj':ops.toList[j]?=some y:=by simpa using hj
  have hi':ops.toList[i]?=some x:=by simpa using hi
  simp only[hj',Bool.and_eq_true,List.all_eq_true] at this
  have h1:=this.2 i (by simpa using hij)
  simp only[hi',Bool.or_eq_true,Bool.not_eq_true',Bool.or_eq_false_iff,Bool.and_eq_false_iff,beq_eq_false_iff_ne] at h1
  rcases h1 with h1|h1
  ·exact .inl h1
  ·refine .inr ⟨h1.1,fun hk=>?_⟩
   rcases h1.2 with h2|h2
   ·exact h2 hk.1
   ·exact h2 hk.2
section
variable {ops:Array Oper} {x y:Oper} {d:Nat}
theorem Iz (h1:x.dst=some d) (h2:y.dst=some d):yx ops.toList x y=true:=by simp[yx,h1,h2]
theorem Tk (h1:x.dst=some d) (h2:d∈reads ops.toList y):yx ops.toList x y=true:=by simp[yx,h1,h2]
theorem Tl (h1:y.dst=some d) (h2:d∈reads ops.toList x):yx ops.toList x y=true:=by simp[yx,h1,h2]
end
section
variable {E:Env} {call:bU} {nt:Nat} {ops:Array Oper} {FA:Nat→Fr} {HA:Nat→IH}
def Text.put (T:Text E call nt ops FA HA) {i:Nat} {o:Oper} (ho:ops[i]?=some o) : ∃v,nh nt (FA i) o.dst v=some (FA (i+1)) ∧
  ((bE ops.toList o (FA i)=some true∧dh E call (FA i) o.op (HA i)=some (v,HA (i+1)))∨(bE ops.toList o (FA i)=some false∧v=undef)):=by
 have hs:=T.step i o ho
 unfold de at hs
 split at hs
 ·rename_i hw
  split at hs
  ·rename_i v h2 bD
   obtain⟨a,h1,e⟩:=Option.map_eq_some_iff.1 hs
   cases e
   exact⟨v,h1,.inl ⟨hw,bD⟩⟩
  ·cases hs
 ·rename_i hw
  obtain⟨a,h1,e⟩:=Option.map_eq_some_iff.1 hs
  exact⟨undef,by rw[h1];exact congrArg some (Prod.mk.inj e).1,.inr ⟨hw,rfl⟩⟩
 ·cases hs
theorem Dk {fr fr':Fr} {dst:Option Tmp} {v:Value} (h:nh nt fr dst v=some fr') (t:Nat):ab fr' t=if dst=some t then some v else ab fr t:=by
 unfold nh at h
 cases dst with
 | none=>cases h;simp
 | some d =>
  simp only[cond_eq_ite,Nat.blt_eq] at h
  split at h
  ·cases h
   simp only[ab,cond_eq_ite,beq_iff_eq,Option.some.injEq]
  ·cases h
def Text.keeps (T:Text E call nt ops FA HA) {t p:Nat} : ∀(q:Nat),p≤q→q≤ops.size→(∀j o,p≤j→j<q→ops[j]?=some o→o.dst≠some t)→ab (FA q) t=ab (FA p) t:=by
 intro q
 induction q with
 | zero =>
  intro h _ _
  have e:p=0:=by omega
  rw[e]
 | succ q ih =>
  intro hpq hn hw
  by_cases hq:p=q+1
  ·rw[hq]
  have ho:ops[q]?=some ops[q]:=Array.getElem?_eq_getElem (by omega)
  obtain⟨v,hp,_⟩:=T.put ho
  rw[Dk hp t,if_neg (hw q _ (by omega) (by omega) ho)]
  exact ih (by omega) (by omega) (fun j o h1 h2=>hw j o h1 (by omega))
end
structure yP (nt:Nat) (ops:Array Oper) (FA:Nat→Fr) (HA:Nat→IH) (B:Nat) (w0:World) (m0:Mp) (wi:World) (D:Nat→Prop) (m:Mp) (w:World) (tmps:Array Value):Prop where
 closed : ∀j i,D j→fl ops.toList j i=true→D i
 slots : ∀t,∃p,p≤ops.size∧(∀j o,ops[j]?=some o→o.dst=some t→(D j↔j<p)) ∧ ∀v,ab (FA p) t=some v → ∃v',tmps[t]?=some v'∧aG m v v'
 chain : ∃a,a≤ops.size∧(∀j,cY ops j→(D j↔j<a))∧(a=ops.size∨cY ops a)∧nj ops FA HA B w0 m0 wi D a m w
 size:nt≤tmps.size
section
variable {E:Env} {call:bU} {nt:Nat} {ops:Array Oper} {FA:Nat→Fr} {HA:Nat→IH} {B:Nat} {w0:World} {m0:Mp} {wi:World} {D:Nat→Prop} {a:Nat} {m:Mp} {w:World} {tmps:Array Value}
def nj.norm (T:Text E call nt ops FA HA) : ∀(n a:Nat),ops.size - a≤n→a≤ops.size→nj ops FA HA B w0 m0 wi D a m w→(∀j,cY ops j→(D j↔j<a)) →
  ∃a,a≤ops.size∧(∀j,cY ops j→(D j↔j<a))∧(a=ops.size∨cY ops a)∧nj ops FA HA B w0 m0 wi D a m w
 | 0,a,h1,h2,I,hc=>⟨a,h2,hc,.inl (by omega),I⟩
 | n+1,a,h1,h2,I,hc=>by
  by_cases h3:a=ops.size
  ·exact⟨a,h2,hc,.inl h3,I⟩
  ·by_cases h4:cY ops a
   ·exact⟨a,h2,hc,.inr h4,I⟩
   ·refine nj.norm T n (a+1) (by omega) (by omega) (I.next T (by omega) h4) fun j hj=>?_
    rw[hc j hj]
    constructor
    ·intro h;omega
    ·intro h
     rcases Nat.lt_or_ge j a with h5|h5
     ·exact h5
     ·exact absurd (show cY ops a from(show j=a by omega)▸hj) h4
variable {o:Oper}{i:Nat}
def yP.known (T:Text E call nt ops FA HA) (O:Ordered ops) (I:yP nt ops FA HA B w0 m0 wi D m w tmps) (ho:ops[i]?=some o) (hd : ¬D i) (hb : ∀k,fl ops.toList i k=true→D k) :
  dP m (eh (FA i) (reads ops.toList o)) tmps:=by
 intro t v hv
 rw[gE] at hv
 by_cases hr:t∈Id.reads ops.toList o
 ·rw[if_pos hr] at hv
  obtain⟨p,hp,hw,jY⟩:=I.slots t
  have hin:i<ops.size:=(Array.getElem?_eq_some_iff.1 ho).1
  have lo : ∀j x,ops[j]?=some x→x.dst=some t→j<i→D j:=by
   intro j x hj hx hji
   rcases O.pair j i x o hji hj ho with h|h
   ·exact hb j h
   ·rw[Tk hx hr] at h;exact absurd h.1 (by simp)
  have hi : ∀j x,ops[j]?=some x→x.dst=some t→i<j → ¬D j:=by
   intro j x hj hx hji hdj
   rcases O.pair i j o x hji ho hj with h|h
   ·exact hd (I.closed j i hdj h)
   ·rw[Tl hx hr] at h;exact absurd h.1 (by simp)
  have e:ab (FA i) t=ab (FA p) t:=by
   rcases Nat.le_total p i with hpi|hpi
   ·refine T.keeps i hpi (by omega) fun j x h1 h2 hj hx=>?_
    have:=(hw j x hj hx).1 (lo j x hj hx h2)
    omega
   ·refine(T.keeps p hpi hp fun j x h1 h2 hj hx=>?_).symm
    have hdj:=(hw j x hj hx).2 h2
    rcases Nat.lt_or_ge i j with h3|h3
    ·exact hi j x hj hx h3 hdj
    ·obtain rfl:i=j:=by omega
     exact hd hdj
  rw[e] at hv
  exact jY v hv
 ·rw[if_neg hr] at hv;cases hv
def yP.put (O:Ordered ops) (I:yP nt ops FA HA B w0 m0 wi D m w tmps) (ho:ops[i]?=some o) (hd : ¬D i) (hb : ∀k,fl ops.toList i k=true→D k)
  {v v':Value} (hp:nh nt (FA i) o.dst v=some (FA (i+1))) {m':Mp} (hm:m.le m') (hv:aG m' v v') :
  (∀t,∃p,p≤ops.size∧(∀j x,ops[j]?=some x→x.dst=some t→((D j∨j=i)↔j<p)) ∧ ∀v,ab (FA p) t=some v → ∃v1,(oc tmps o.dst v')[t]?=some v1∧aG m' v v1)∧nt≤(oc tmps o.dst v').size:=by
 have hin:i<ops.size:=(Array.getElem?_eq_some_iff.1 ho).1
 have hd2 : ∀d,o.dst=some d→d<nt:=by
  intro d hd
  unfold nh at hp
  simp only[hd,cond_eq_ite,Nat.blt_eq] at hp
  split at hp
  ·assumption
  ·cases hp
 refine⟨fun t=>?_,by cases h:o.dst<;>simpa [oc] using I.size⟩
 by_cases ht:o.dst=some t
 ·refine⟨i+1,by omega,fun j x hj hx=>?_,fun u hu=>?_⟩
  ·constructor
   ·rintro(h|h)
    ·rcases Nat.lt_or_ge i j with h3|h3
     ·rcases O.pair i j o x h3 ho hj with h4|h4
      ·exact absurd (I.closed j i h h4) hd
      ·rw[Iz ht hx] at h4;exact absurd h4.1 (by simp)
     ·omega
    ·omega
   ·intro h
    by_cases h3:j=i
    ·exact .inr h3
    ·rcases O.pair j i x o (by omega) hj ho with h4|h4
     ·exact .inl (hb j h4)
     ·rw[Iz hx ht] at h4;exact absurd h4.1 (by simp)
  ·rw[Dk hp t,if_pos ht] at hu
   cases hu
   have hlt:t<tmps.size:=Nat.lt_of_lt_of_le (hd2 t ht) I.size
   exact⟨v',by simp[oc,ht,hlt],hv⟩
 ·obtain⟨p,h1,h2,h3⟩:=I.slots t
  refine⟨p,h1,fun j x hj hx=>?_,fun u hu=>?_⟩
  ·rw[←h2 j x hj hx]
   constructor
   ·rintro(h|h)
    ·exact h
    ·subst h;rw[ho] at hj;cases hj;exact absurd hx ht
   ·exact .inl
  ·obtain⟨u',h4,h5⟩:=h3 u hu
   refine⟨u',?_,h5.mono hm⟩
   unfold oc
   cases hdst:o.dst with
   | none=>exact h4
   | some d=>simp only;rw[Array.getElem?_setIfInBounds_ne (by rintro rfl;exact ht hdst)];exact h4
def K3 (E:Env) (ops:Array Oper) (FA:Nat→Fr) (HA:Nat→IH):Prop :=
 ∀i o,ops[i]?=some o→cL o.op=.load→bE ops.toList o (FA i)=some true → ∀p,p≤ops.size→(p=ops.size∨cY ops p) →
  (∀k,cY ops k→k<p→fl ops.toList k i=false)→(∀k,cY ops k→p≤k→fl ops.toList i k=false) →
  ∀v h',iop E.P (FA i) o.op (HA i)=some (v,h') → ∃h2,iop E.P (FA i) o.op (HA p)=some (v,h2)
def yP.op (fP:kP E.P call) (T:Text E call nt ops FA HA) (O:Ordered ops) (S:K3 E ops FA HA) (I:yP nt ops FA HA B w0 m0 wi D m w tmps) (ho:ops[i]?=some o) (hd : ¬D i)
  (hb : ∀k,fl ops.toList i k=true→D k) (b:Frame) (rest:List Nat) (k:List Item) (ds:List Deferred) (cs:List Frame) :
  ∃m' w' bQ,Steps E.P (lone (on b tmps (.inRegion ops (i :: rest) :: k) ds) cs w) (lone (on b bQ (.inRegion ops rest :: k) ds) cs w')∧yP nt ops FA HA B w0 m0 wi (fun j=>D j∨j=i) m' w' bQ:=by
 have hin:i<ops.size:=(Array.getElem?_eq_some_iff.1 ho).1
 have hf:=I.known T O ho hd hb
 obtain⟨v,jE,nL⟩:=T.put ho
 obtain⟨a,hae,hch,hat,H⟩:=I.chain
 have Vx : ∀j i',(D j∨j=i)→fl ops.toList j i'=true→D i'∨i'=i:=by
  rintro j i' (h|rfl) hbf
  ·exact .inl (I.closed j i' h hbf)
  ·exact .inl (hb i' hbf)
 have mk : ∀{m':Mp} {w':World} {v':Value} {c:Nat},m.le m'→aG m' v v'→c≤ops.size→(∀j,cY ops j→((D j∨j=i)↔j<c))→nj ops FA HA B w0 m0 wi (fun j=>D j∨j=i) c m' w' →
   yP nt ops FA HA B w0 m0 wi (fun j=>D j∨j=i) m' w' (oc tmps o.dst v'):=by
  intro m' w' v' c hle hv hc1 hc2 H'
  obtain⟨h1,h2⟩:=I.put O ho hd hb jE hle hv
  exact⟨Vx,h1,H'.norm T _ c (Nat.le_refl _) hc1 hc2,h2⟩
 have add : ∀{c:Nat} {m':Mp} {w':World},¬eE ops FA i→nj ops FA HA B w0 m0 wi D c m' w'→nj ops FA HA B w0 m0 wi (fun j=>D j∨j=i) c m' w':=by
  intro c m' w' hal H'
  have back : ∀j,eE ops FA j→(D j∨j=i)→D j:=by
   rintro j h1 (h2|rfl)
   ·exact h2
   ·exact absurd h1 hal
  refine⟨H'.rel,fun j h1 h2 h3=>H'.none_ j h1 h2 (fun h=>h3 (.inl h)),fun j h0 h1 h2 h3=>H'.JH j h0 h1 h2 (fun h=>h3 (.inl h)),fun j h0 h1 h2 h3=>H'.extra j h0 h1 h2 (back j h2 h3),H'.inj,fun q h1 h2=>?_,H'.le,H'.new,H'.base,H'.frame,H'.idle,H'.size,H'.img,H'.nJ⟩
  rcases H'.fresh q h1 h2 with h|⟨j,h3,h4,h5,h6,h7⟩
  ·exact .inl h
  ·exact .inr ⟨j,h3,h4,h5,.inl h6,h7⟩
 have KK : ¬cY ops i → ∀j,cY ops j→((D j∨j=i)↔j<a):=by
  intro hnc j hj
  rw[←hch j hj]
  constructor
  ·rintro(h|rfl)
   ·exact h
   ·exact absurd hj hnc
  ·exact .inl
 rcases nL with⟨hw,bD⟩|⟨hw,rfl⟩
 ·have hwk:bE ops.toList o (eh (FA i) (reads ops.toList o))=some true:=by rw[xM];exact hw
  have hcg : ∀h,dh E call (eh (FA i) (reads ops.toList o)) o.op h=dh E call (FA i) o.op h:=fun h=>G5 (Hq _ _ _) h
  have ZaS : ∀x:Nat,eH m x x:=fun x k h1 h2=>by omega
  have quiet:cL o.op≠.chain→cL o.op≠.alloc→dh E call (FA i) o.op (HA a)=some (v,HA a) →
    ∃m' w' bQ,Steps E.P (lone (on b tmps (.inRegion ops (i :: rest) :: k) ds) cs w) (lone (on b bQ (.inRegion ops rest :: k) ds) cs w')∧yP nt ops FA HA B w0 m0 wi (fun j=>D j∨j=i) m' w' bQ:=by
   intro hk1 hk2 hr
   have hnc : ¬cY ops i:=by rintro⟨o',h1,h2⟩;rw[ho] at h1;cases h1;exact hk1 h2
   have hna : ¬eE ops FA i:=by rintro⟨o',h1,h2,_⟩;rw[ho] at h1;cases h1;exact hk2 h2
   obtain⟨v',m',w',hS,hv,R',S'⟩:=Jo fP ho hwk (by rw[hcg];exact hr) H.rel hf (ZaS _) b rest k ds cs
   exact⟨m',w',_,hS,mk S'.le hv hae (KK hnc) (add hna (H.go T (Nat.le_refl _) hae (fun j h1 h2=>by omega) R' S'))⟩
  cases hk:cL o.op with
  | pure =>
   rw[fc (by rw[hk];simp)] at bD
   exact quiet (by rw[hk];simp) (by rw[hk];simp) (by rw[fc (by rw[hk];simp)];exact(AR hk bD).2 _)
  | load =>
   rw[fc (by rw[hk];simp)] at bD
   refine quiet (by rw[hk];simp) (by rw[hk];simp) ?_
   rw[fc (by rw[hk];simp)]
   obtain⟨h2,e⟩:=S i o ho hk hw a hae hat (fun q hq hqa=>by
     have hdq:=(hch q hq).2 hqa
     cases hbf:fl ops.toList q i with
     | false=>rfl
     | true=>exact absurd (I.closed q i hdq hbf) hd)
    (fun q hq hqa=>by
     cases hbf:fl ops.toList i q with
     | false=>rfl
     | true=>have:=(hch q hq).1 (hb q hbf);omega) v _ bD
   rw[e,AS hk e]
  | alloc =>
   rw[fc (by rw[hk];simp)] at bD
   have hal:eE ops FA i:=⟨o,ho,hk,hw⟩
   have hnc : ¬cY ops i:=by rintro⟨o',h1,h2⟩;rw[ho] at h1;cases h1;rw[hk] at h2;cases h2
   have hrk:iop E.P (eh (FA i) (reads ops.toList o)) o.op (HA i)=some (v,HA (i+1)):=by rw[xg (Hq _ _ _)];exact bD
   obtain⟨obj,e,hl,Ob,v',z,hr,hO,hv⟩:=Pb (sJ H.rel hf) o hk hrk w
   have hnd : ∀c,o.op≠.defer c:=by intro c hc;rw[hc] at hk;simp[cL] at hk
   have hst:=qO (b:=b) (k:=k) (ds:=ds) (cs:=cs) (rest:=rest) ho (pe hf hwk) hnd hr
   have H':=H.make T hae hin hal hd e hl hO
   exact⟨_,_,_,.one hst,mk (Mp.AM (H.none_ i hin hal hd)) (hv _ (Mp.bj _ _ _ _)) hae (KK hnc) H'⟩
  | chain =>
   have hci:cY ops i:=⟨o,ho,hk⟩
   have hai:a≤i:=by
    rcases Nat.lt_or_ge i a with h|h
    ·exact absurd ((hch i hci).2 h) hd
    ·exact h
   have hca:cY ops a:=by
    rcases hat with h|h
    ·omega
    ·exact h
   obtain rfl:a=i:=by
    rcases Nat.lt_or_ge a i with h|h
    ·obtain⟨x,hx,hkx⟩:=hca
     rcases O.pair a i x o h hx ho with h1|h1
     ·have:=(hch a ⟨x,hx,hkx⟩).1 (hb a h1);omega
     ·exact absurd ⟨hkx,hk⟩ h1.2
    ·omega
   have hfr:eH m (HA a).n (HA (a+1)).n:=by
    intro q h1 h2
    have hN:(HA (a+1)).n≤(HA ops.size).n:=T.nle _ _ hin (Nat.le_refl _)
    rcases H.fresh q h1 (by omega) with h|⟨j,h3,h4,h5,h6,h7⟩
    ·exact h
    ·exfalso
     have hja:j≠a:=by rintro rfl;exact lu hca h5
     have:=T.nle j (a+1) (by omega) (by omega)
     omega
   obtain⟨v',m',w',hS,hv,R',S'⟩:=Jo fP ho hwk (by rw[hcg];exact bD) H.rel hf hfr b rest k ds cs
   refine⟨m',w',_,hS,mk S'.le hv hin ?_ (add (lu hca) (H.go T (Nat.le_succ _) hin (fun j h1 h2=>?_) R' S'))⟩
   ·intro j hj
    rw[hch j hj]
    omega
   ·obtain rfl:j=a:=by omega
    exact lu hca
 ·-- left out
  have hwk:bE ops.toList o (eh (FA i) (reads ops.toList o))=some false:=by rw[xM];exact hw
  have hna : ¬eE ops FA i:=by rintro⟨o',h1,_,h2⟩;rw[ho] at h1;cases h1;rw[hw] at h2;cases h2
  have hst:=QA (P:=E.P) (b:=b) (k:=k) (ds:=ds) (cs:=cs) (rest:=rest) (w:=w) ho (pe hf hwk)
  by_cases hci:cY ops i
  ·have hai:a≤i:=by
    rcases Nat.lt_or_ge i a with h|h
    ·exact absurd ((hch i hci).2 h) hd
    ·exact h
   have hca:cY ops a:=by
    rcases hat with h|h
    ·omega
    ·exact h
   obtain rfl:a=i:=by
    rcases Nat.lt_or_ge a i with h|h
    ·obtain⟨x,hx,hkx⟩:=hca
     obtain⟨o',ho',hk⟩:=hci
     rw[ho] at ho';cases ho'
     rcases O.pair a i x o h hx ho with h1|h1
     ·have:=(hch a ⟨x,hx,hkx⟩).1 (hb a h1);omega
     ·exact absurd ⟨hkx,hk⟩ h1.2
    ·omega
   have e:HA (a+1)=HA a:=by
    have hs:=T.step a o ho
    unfold de at hs
    rw[hw] at hs
    obtain⟨_,_,e⟩:=Option.map_eq_some_iff.1 hs
    exact(Prod.mk.inj e).2.symm
   refine⟨m,w,_,.one hst,mk (Mp.le_refl m) (aG.undef m) hin ?_ (add hna (H.go T (Nat.le_succ _) hin (fun j h1 h2=>?_) (by rw[e];exact H.rel) (by rw[e];exact Step.refl _ _ _)))⟩
   ·intro j hj
    rw[hch j hj]
    omega
   ·obtain rfl:j=a:=by omega
    exact hna
  ·exact⟨m,w,_,.one hst,mk (Mp.le_refl m) (aG.undef m) hae (KK hci) (add hna H)⟩
end
variable {FA:Nat→Fr}{HA:Nat→IH}{E:Env}{ops:Array Oper}
def GM {tr:List (Fr×IH)} (hs:steady E.P ops.toList tr (yJ ops.toList)=true) (htr : ∀i,i≤ops.size→tr[i]?=some (FA i,HA i)) :
  K3 E ops FA HA:=by
 intro i o ho hk hw p hp hpat h1 h2 v h' hv
 have hin:i<ops.size:=(Array.getElem?_eq_some_iff.1 ho).1
 have ho':ops.toList[i]?=some o:=by simpa using ho
 unfold steady at hs
 rw[List.all_eq_true] at hs
 have hch : ∀q,q∈(List.range ops.toList.length).filter (fun k=>match ops.toList[k]? with|some o=>cL o.op == .chain|none=>false)↔cY ops q:=by
  intro q
  rw[List.mem_filter]
  constructor
  ·rintro⟨_,hq⟩
   cases hx:ops.toList[q]? with
   | none=>simp[hx] at hq
   | some x=>simp only[hx,beq_iff_eq] at hq;exact⟨x,by simpa using hx,hq⟩
  ·rintro⟨x,hx,hq⟩
   have:=(Array.getElem?_eq_some_iff.1 hx).1
   have hx':ops.toList[q]?=some x:=by simpa using hx
   exact⟨by simpa using this,by rw[hx'];simp[hq]⟩
 have hm:=hs (i,_) (by
  unfold yJ
  rw[List.mem_filterMap]
  refine⟨i,by simpa using hin,?_⟩
  simp only[ho',hk,beq_self_eq_true,cond_true]
  rfl)
 simp only[ho',htr i (Nat.le_of_lt hin),hw] at hm
 rw[List.all_eq_true] at hm
 have hpm:=hm p (by
  rw[List.mem_filter,List.mem_append]
  refine⟨?_,?_⟩
  ·rcases hpat with rfl|h
   ·right;simp
   ·left;exact(hch p).2 h
  ·rw[List.all_eq_true]
   intro q hq
   have hcq:=(hch q).1 hq
   cases hb:Nat.blt q p with
   | true =>
    have:=h1 q hcq (by simpa using hb)
    unfold fl at this
    rw[cond_true,this];rfl
   | false =>
    have:=h2 q hcq (by
     rcases Nat.lt_or_ge q p with h|h
     ·have:Nat.blt q p=true:=by simpa [Nat.blt_eq] using h
      rw[this] at hb;cases hb
     ·exact h)
    unfold fl at this
    rw[cond_false,this];rfl)
 simp only[htr p hp] at hpm
 unfold gP at hpm
 rw[hv] at hpm
 split at hpm
 ·rename_i h3 h4
  rename_i v1 _ v2 _
  cases h3
  rw[Y9 hpm]
  exact⟨_,h4⟩
 ·cases hpm
def nj.first {call:bU} {nt:Nat} {B:Nat} {w0:World} {m:Mp} {w:World} (T:Text E call nt ops FA HA) (R:Rel B w0 m (HA 0) w) (hf:eH m (HA 0).n (HA ops.size).n) :
  nj ops FA HA B w0 m w (fun _=>False) 0 m w:=by
 refine⟨R,?_,fun i h=>by omega,fun i _ _ _ h=>h.elim,?_,fun k h1 h2=>.inl (hf k h1 h2),Mp.le_refl m,fun b h=>absurd rfl h,rfl,fun _ _ _=>rfl,fun _ _ _=>rfl,Nat.le_refl _,?_,fun _ _ _ h=>h⟩
 ·intro i hi hal _
  obtain⟨obj,e,_⟩:=T.alloc hal
  have h2:(HA (i+1)).n≤(HA ops.size).n:=T.nle _ (i+1) hi (Nat.le_refl _)
  rw[e] at h2
  have:((HA i).new obj).n=(HA i).n+1:=rfl
  exact hf _ (T.nle i 0 (Nat.zero_le _) (by omega)) (by omega)
 ·intro k k' r s s' h1 h2 h3 h4 h5
  rw[hf k h1 h2] at h5;cases h5
 ·intro k r s h1 h2 h3
  rw[hf k h1 h2] at h3;cases h3
section
variable {E:Env} {call:bU} {nt:Nat} {ops:Array Oper} {FA:Nat→Fr} {HA:Nat→IH} {B:Nat} {w0:World} {m0:Mp} {wi:World}
def Cg (O:Ordered ops) {listed:Array Bool} (hcl : ∀j i,listed[j]?=some true→fl ops.toList j i=true→listed[i]?=some true) {i:Nat} {o:Oper} (ho:ops[i]?=some o)
  (eF : ∀e∈o.after,Region.binds .any e=true→listed[e.on]?=some true) : ∀k,fl ops.toList i k=true→listed[k]?=some true:=by
 intro k hb
 have ho':ops.toList[i]?=some o:=by simpa using ho
 obtain⟨e,he,hbe,h⟩:=(IJ ho' (O.VG i o ho)).1 hb
 have h1:=eF e he hbe
 rcases h with h|h
 ·rw[←h];exact h1
 ·exact hcl _ _ h1 h
def Ms (fP:kP E.P call) (T:Text E call nt ops FA HA) (O:Ordered ops) (S:K3 E ops FA HA) (b:Frame) (k:List Item) (ds:List Deferred) (cs:List Frame) :
  ∀(fuel t:Nat) (listed:Array Bool) (U:List Nat) (m:Mp) (w:World) (tmps:Array Value),listed.size=ops.size→(∀j,j∈U↔j<ops.size∧listed[j]?≠some true)→U.Nodup→U.length≤fuel →
   yP nt ops FA HA B w0 m0 wi (fun j=>listed[j]?=some true) m w tmps →
   ∃m' w' bQ,Steps E.P (lone (on b tmps (.inRegion ops (Region.linearise.go .any ops fuel t listed []) :: k) ds) cs w) (lone (on b bQ (.inRegion ops [] :: k) ds) cs w')∧yP nt ops FA HA B w0 m0 wi (fun j=>j<ops.size) m' w' bQ
 | 0,t,listed,U,m,w,tmps,hsz,hU,hnd,hlen,I=>by
  have hU0:U = []:=List.eq_nil_of_length_eq_zero (by omega)
  subst hU0
  have e:(fun j=>listed[j]?=some true)=fun j=>j<ops.size:=by
   funext j;apply propext
   constructor
   ·intro h
    have:=(Array.getElem?_eq_some_iff.1 h).1
    omega
   ·intro h
    apply Classical.byContradiction;intro hn
    exact absurd ((hU j).2 ⟨h,hn⟩) (by simp)
  rw[e] at I
  exact⟨m,w,tmps,by simp only[Region.linearise.go,List.reverse_nil];exact .refl _ _,I⟩
 | fuel+1,t,listed,U,m,w,tmps,hsz,hU,hnd,hlen,I=>by
  have get : ∀{j},j<ops.size → ∀d,(listed.getD j d=true↔listed[j]?=some true):=by
   intro j hj d
   rw[Array.getD_eq_getD_getElem?,Array.getElem?_eq_getElem (by omega)]
   simp
  have mem_ready : ∀i,i∈Region.ready .any ops listed↔i<ops.size∧listed[i]?≠some true ∧ ∃o,ops[i]?=some o ∧ ∀e∈o.after,Region.binds .any e=true→listed[e.on]?=some true:=by
   intro i
   unfold Region.ready
   rw[List.mem_filter,List.mem_range]
   constructor
   ·rintro⟨h1,h2⟩
    simp only[Bool.and_eq_true,Bool.not_eq_true'] at h2
    refine⟨h1,fun h=>?_,?_⟩
    ·have:=(get h1 true).2 h;rw[this] at h2;cases h2.1
    ·cases ho:ops[i]? with
     | none=>rw[ho] at h2;simp at h2
     | some o =>
      refine⟨o,rfl,fun e he hb=>?_⟩
      rw[ho] at h2
      simp only[Option.map_some,Option.getD_some,Array.all_eq_true',Bool.or_eq_true,Bool.not_eq_true'] at h2
      rcases h2.2 e he with h3|h3
      ·rw[hb] at h3;cases h3
      ·have hlt:=O.VG i o ho e he hb
       exact(get (by omega) false).1 h3
   ·rintro⟨h1,h2,o,ho,h3⟩
    refine⟨h1,?_⟩
    simp only[Bool.and_eq_true,Bool.not_eq_true']
    constructor
    ·cases hg:listed.getD i true with
     | false=>rfl
     | true=>exact absurd ((get h1 true).1 hg) h2
    ·rw[ho]
     simp only[Option.map_some,Option.getD_some,Array.all_eq_true',Bool.or_eq_true,Bool.not_eq_true']
     intro e he
     cases hb:Region.binds .any e with
     | false=>exact .inl rfl
     | true =>
      have hlt:=O.VG i o ho e he hb
      exact .inr ((get (by omega) false).2 (h3 e he hb))
  rw[show Region.linearise.go .any ops (fuel+1) t listed []=(match (Region.ready .any ops listed)[t % (Region.ready .any ops listed).length]? with
   | some i=>Region.linearise.go .any ops fuel (t / (Region.ready .any ops listed).length) (listed.setIfInBounds i true) [i]
   | none => [].reverse) from rfl]
  cases hi:(Region.ready .any ops listed)[t % (Region.ready .any ops listed).length]? with
  | none =>
   have YK:Region.ready .any ops listed = []:=by
    cases hr:Region.ready .any ops listed with
    | nil=>rfl
    | cons x xs =>
     rw[hr] at hi
     have hlt:t % (x :: xs).length<(x :: xs).length:=Nat.mod_lt _ (by simp)
     rw[List.getElem?_eq_getElem hlt] at hi;cases hi
   have eF : ∀j,j<ops.size→listed[j]?=some true:=by
    intro j
    induction j using Nat.strongRecOn with
    | ind j ih =>
     intro hj
     apply Classical.byContradiction;intro hn
     have:j∈Region.ready .any ops listed:=(mem_ready j).2 ⟨hj,hn,ops[j],Array.getElem?_eq_getElem hj,fun e he hb=>by
      have hlt:=O.VG j _ (Array.getElem?_eq_getElem hj) e he hb
      exact ih e.on hlt (by omega)⟩
     rw[YK] at this;cases this
   have e:(fun j=>listed[j]?=some true)=fun j=>j<ops.size:=by
    funext j;apply propext
    constructor
    ·intro h
     have:=(Array.getElem?_eq_some_iff.1 h).1
     omega
    ·exact eF j
   rw[e] at I
   exact⟨m,w,tmps,.refl _ _,I⟩
  | some i =>
   simp only
   obtain⟨h1,h2,o,ho,h3⟩:=(mem_ready i).1 (List.mem_of_getElem? hi)
   rw[linearise_go_acc,List.reverse_singleton,List.singleton_append]
   obtain⟨m1,w1,cN,hS1,I1⟩:=I.op fP T O S ho h2 (Cg O I.closed ho h3) b (Region.linearise.go .any ops fuel (t / (Region.ready .any ops listed).length) (listed.setIfInBounds i true) []) k ds cs
   have Ke : ∀j,(listed.setIfInBounds i true)[j]?=some true↔listed[j]?=some true∨j=i:=by
    intro j
    rw[Array.getElem?_setIfInBounds]
    by_cases hji:i=j
    ·subst hji;simp[hsz,h1]
    ·rw[if_neg hji]
     constructor
     ·exact .inl
     ·rintro(h|h)
      ·exact h
      ·exact absurd h.symm hji
   have e:(fun j=>listed[j]?=some true∨j=i)=fun j=>(listed.setIfInBounds i true)[j]?=some true:=by
    funext j;exact propext (Ke j).symm
   rw[e] at I1
   have hiU:i∈U:=(hU i).2 ⟨h1,h2⟩
   obtain⟨m',w',bQ,hS,I'⟩:=Ms fP T O S b k ds cs fuel (t / (Region.ready .any ops listed).length) (listed.setIfInBounds i true) (U.erase i) m1 w1 cN (by simpa using hsz)
    (fun j=>by
     rw[hnd.mem_erase_iff,hU j]
     constructor
     ·rintro⟨a,b,c⟩
      refine⟨b,fun h=>?_⟩
      rcases(Ke j).1 h with h|h
      ·exact c h
      ·exact a h
     ·rintro⟨a,b⟩
      exact⟨fun h=>b ((Ke j).2 (.inr h)),a,fun h=>b ((Ke j).2 (.inl h))⟩)
    (hnd.erase i) (by rw[List.length_erase_of_mem hiU];omega) I1
   exact⟨m',w',bQ,hS1.trans hS,I'⟩
end
def N9 {E:Env} {call:bU} (fP:kP E.P call) (cP:dE call) (YM:E.P.follows .mixedOrders=true) {nt:Nat} {ops:Array Oper} {fr fr':Fr} {h h':IH} (hr:gV E call nt ops.toList fr h=some (fr',h'))
  {B:Nat} {w0:World} {m:Mp} {w:World} (R:Rel B w0 m h w) {tmps:Array Value} (hf:dP m fr tmps) (hn:nt≤tmps.size) (hfr:eH m h.n h'.n) (b:Frame) (k:List Item) (ds:List Deferred) (cs:List Frame) (id:Nat) :
  h.n≤h'.n ∧ ∃m' w' bQ,Steps E.P (lone (on b tmps (.code (.region id ops true) :: k) ds) cs w) (lone (on b bQ k ds) cs w')∧dP m' fr' bQ∧nt≤bQ.size∧Rel B w0 m' h' w'∧Step m h w m' h' w':=by
 unfold gV at hr
 cases htr:trace E call nt ops.toList ops.toList fr h with
 | none=>rw[htr] at hr;cases hr
 | some tr =>
  rw[htr] at hr
  simp only[cond_eq_ite,Bool.and_eq_true] at hr
  by_cases hc:lU ops.toList=true∧steady E.P ops.toList tr (yJ ops.toList)=true
  ·rw[if_pos hc] at hr
   have O:=EK hc.1
   obtain⟨hlen,h0,Zbu⟩:=pg ops.toList fr h tr htr
   have MW:tr.length=ops.size+1:=by simpa using hlen
   let FA:Nat→Fr:=fun i=>((tr[i]?).map (·.1)).getD fr
   let HA:Nat→IH:=fun i=>((tr[i]?).map (·.2)).getD h
   have R6 : ∀i,i≤ops.size→tr[i]?=some (FA i,HA i):=by
    intro i hi
    have:tr[i]?=some tr[i]:=List.getElem?_eq_getElem (by omega)
    simp only[FA,HA,this,Option.map_some,Option.getD_some]
   have T:Text E call nt ops FA HA:=by
    refine⟨cP,fun i o ho=>?_⟩
    obtain⟨fr1,h1,fr2,h2,e1,e2,e3⟩:=Zbu i o (by simpa using ho)
    have hin:i<ops.size:=(Array.getElem?_eq_some_iff.1 ho).1
    rw[R6 i (by omega)] at e1;rw[R6 (i+1) (by omega)] at e2
    cases e1;cases e2;exact e3
   have S:=GM (E:=E) hc.2 R6
   have e0:FA 0=fr∧HA 0=h:=by
    have:=R6 0 (Nat.zero_le _)
    rw[h0] at this;exact⟨(Prod.mk.inj (Option.some.inj this)).1.symm,(Prod.mk.inj (Option.some.inj this)).2.symm⟩
   have en:FA ops.size=fr'∧HA ops.size=h':=by
    have:=R6 ops.size (Nat.le_refl _)
    simp only[Array.length_toList] at hr
    rw[hr] at this;exact⟨(Prod.mk.inj (Option.some.inj this)).1.symm,(Prod.mk.inj (Option.some.inj this)).2.symm⟩
   have R1:Rel B w0 m (HA 0) { w with drawn:=w.drawn+1 }:=by rw[e0.2];exact R.congr rfl (kj R.below _)
   have YL:h.n≤h'.n:=by have:=T.nle ops.size 0 (Nat.zero_le _) (Nat.le_refl _);rw[e0.2,en.2] at this;exact this
   have H0:=nj.first T R1 (by rw[e0.2,en.2];exact hfr)
   have I0:yP nt ops FA HA B w0 m { w with drawn:=w.drawn+1 } (fun j:Nat=>(Array.replicate ops.size false)[j]?=some true) m { w with drawn:=w.drawn+1 } tmps:=by
    have e:(fun j:Nat=>(Array.replicate ops.size false)[j]?=some true)=fun _=>False:=by
     funext j;apply propext
     rw[Array.getElem?_replicate]
     constructor
     ·intro h;split at h
      ·cases h
      ·cases h
     ·exact False.elim
    rw[e]
    refine⟨fun _ _ h=>h.elim,fun t=>⟨0,Nat.zero_le _,fun j o _ _=>by simp,fun v hv=>by rw[e0.1] at hv;exact hf t v hv⟩,?_,hn⟩
    exact H0.norm T _ 0 (Nat.le_refl _) (Nat.zero_le _) (fun j _=>by simp)
   obtain⟨m',w',bQ,hS,I'⟩:=Ms fP T O S b k ds cs ops.size (w.tape w.drawn (.order b.fn id)) (Array.replicate ops.size false) (List.range ops.size) m { w with drawn:=w.drawn+1 } tmps (by simp)
    (fun j=>by
     rw[List.mem_range,Array.getElem?_replicate]
     constructor
     ·intro h;refine⟨h,?_⟩;rw[if_pos h];simp
     ·exact fun h=>h.1)
    List.nodup_range (by simp) I0
   obtain⟨a,h1,h2,h3,H⟩:=I'.chain
   have ha:a=ops.size:=by
    rcases h3 with h|h
    ·exact h
    ·have hlt:a<ops.size:=by
      obtain⟨o,ho,_⟩:=h
      exact(Array.getElem?_eq_some_iff.1 ho).1
     have:=(h2 a h).1 hlt;omega
   subst ha
   refine⟨YL,m',w',bQ,?_,?_,I'.size,by rw[←en.2];exact H.rel,?_⟩
   ·refine .head zX ?_
    have:Region.schedule (E.P.follows .mixedOrders) ops (w.tape w.drawn (.order b.fn id))=Region.linearise.go .any ops ops.size (w.tape w.drawn (.order b.fn id)) (Array.replicate ops.size false) []:=by
     rw[YM];simp only[Region.schedule,Bool.true_or,if_true,Region.linearise]
    rw[this]
    exact hS.trans (.one nY)
   ·intro t v hv
    obtain⟨p,hp,hw,jY⟩:=I'.slots t
    have:ab (FA ops.size) t=ab (FA p) t:=T.keeps ops.size hp (Nat.le_refl _) fun j o h4 h5 h6 h7=>by
     have:=(hw j o h6 h7).1 h5;omega
    rw[←en.1,this] at hv
    exact jY v hv
   ·refine Step.congr (w1:={ w with drawn:=w.drawn+1 }) ?_ rfl
    rw[←e0.2,←en.2]
    exact⟨H.le,H.new,T.nle _ _ (Nat.zero_le _) (Nat.le_refl _),H.base,H.frame,H.idle,H.size,H.img,H.nJ⟩
  ·rw[if_neg hc] at hr;cases hr
variable {call:bU}{nt:Nat}{E:Env}{ops:List Oper}
def Lv (hc:dE call) : ∀(l:List Oper) (fr:Fr) (h:IH) (tr:List (Fr×IH)),trace E call nt ops l fr h=some tr → ∀x∈tr,h.n≤x.2.n
 | [],fr,h,tr,ht=>by simp only[trace] at ht;cases ht;simp
 | o :: l,fr,h,tr,ht=>by
  rw[trace] at ht
  split at ht
  ·rename_i fr' h' hs
   obtain⟨tr',h1,rfl⟩:=Option.map_eq_some_iff.1 ht
   intro x hx
   rcases List.mem_cons.1 hx with rfl|hx
   ·exact Nat.le_refl _
   ·exact Nat.le_trans (zU hc hs) (Lv hc l fr' h' tr' h1 x hx)
  ·cases ht
variable {h:IH}{fr':Fr}{h':IH}{fr:Fr}
def Js (hc:dE call) (hr:gV E call nt ops fr h=some (fr',h')):h.n≤h'.n:=by
 unfold gV at hr
 cases ht:trace E call nt ops ops fr h with
 | none=>rw[ht] at hr;cases hr
 | some tr =>
  rw[ht] at hr
  simp only[cond_eq_ite] at hr
  split at hr
  ·exact Lv hc _ _ _ _ ht _ (List.mem_of_getElem? hr)
  ·cases hr
def EW {b:Fr→IH→Out} (hb : ∀fr h e fr' h',b fr h=some (e,fr',h')→h.n≤h'.n) : ∀(n:Nat) (fr:Fr) (h:IH) (e:bN) (fr':Fr) (h':IH),mJ b n fr h=some (e,fr',h')→h.n≤h'.n
 | 0,fr,h,e,fr',h',hr=>by simp[mJ] at hr
 | n+1,fr,h,e,fr',h',hr=>by
  rw[mJ] at hr
  split at hr
  ·rename_i fr1 h1 hb1;exact Nat.le_trans (hb _ _ _ _ _ hb1) (EW hb n _ _ _ _ _ hr)
  ·rename_i hb1;cases hr;exact hb _ _ _ _ _ hb1
  ·rename_i hb1;cases hr;exact hb _ _ _ _ _ hb1
  ·cases hr
variable {f:Operand}{e:bN}{rd:Option Nat}{fn:FuncId}{b:Code}{ps:List Nat}{a:Code}
def xY (hr:kG E call fn nt rd f ps a b fr h=some (e,fr',h')) :
  pF h rd=true∧fr'=fr ∧ ∃fv v h1 r,opd fr f=some fv∧call fv [.func (.yield (2*h.n)) #[] #[]] (h.new (.loop { state:=.ready,pending:=none,fn,nt,fr,params:=ps,assign:=a,body:=b }))=some (v,h1) ∧
   fx h1 h.n=some r∧r.state≠.busy∧uC r.pending=some e∧h' = { h1 with ext:=h1.ext.set h.n .dead }:=by
 unfold kG at hr
 simp only[cond_eq_ite] at hr
 by_cases hro:pF h rd=true
 ·simp only[hro,if_true] at hr
  split at hr
  ·cases hr
  ·rename_i fv hfv
   split at hr
   ·cases hr
   ·rename_i v h1 fP
    split at hr
    ·cases hr
    ·rename_i r hl
     split at hr
     ·cases hr
     ·rename_i hb
      split at hr
      ·cases hr
      ·rename_i e' he
       cases hr
       exact⟨hro,rfl,fv,v,h1,r,hfv,fP,hl,fun h=>hb (by rw[h];rfl),he,rfl⟩
 ·simp[hro] at hr
def Ou (hc:dE call) (hr:kG E call fn nt rd f ps a b fr h=some (e,fr',h')):h.n≤h'.n:=by
 obtain⟨_,_,fv,v,h1,r,_,h2,_,_,_,rfl⟩:=xY hr
 have:=hc _ _ _ _ _ h2
 have e : ∀o,(h.new o).n=h.n+1:=fun _=>rfl
 rw[e] at this
 show h.n≤h1.n
 omega
def rK:Code→Option (Nat×Nat×Nat×Nat×Code)
 | .seq (.region id ops draw) rest=>(rA ops.toList draw).map fun p=>(id,p.1,p.2.1,p.2.2,rest)
 | _=>none
variable {n:Nat}
theorem Bf (b:Code) (fr:Fr) (h:IH):evC E call fn nt rd n (.loop b) fr h =
  match rK b with
  | some p=>sL (evC E call fn nt rd n p.2.2.2.2) (hP E fn p.1) nt p.2.1 p.2.2.1 p.2.2.2.1 fr h
  | none=>mJ (evC E call fn nt rd n b) n fr h:=by
 cases b with
 | seq x y =>
  cases x with
  | region id ops draw =>
   simp only[evC,rK]
   cases rA ops.toList draw with
   | none=>rfl
   | some p=>obtain⟨a,b,c⟩:=p;rfl
  | _=>rfl
 | _=>rfl
def LI {motive:Code→Prop} (h : ∀c,(∀c',SizeOf.sizeOf c'<SizeOf.sizeOf c→motive c')→motive c) (c:Code):motive c :=
 (measure (SizeOf.sizeOf:Code→Nat)).wf.induction (C:=motive) c h
def ye {p:Nat×Nat×Nat×Nat×Code} (h:rK b=some p):SizeOf.sizeOf p.2.2.2.2<SizeOf.sizeOf b:=by
 unfold rK at h
 split at h
 ·obtain⟨q,_,rfl⟩:=Option.map_eq_some_iff.1 h
  simp
  omega
 ·cases h
def mS {g:Nat→Option (Nat×Value)} (hg : ∀s x,g s=some x→x.1=s) : ∀(l:List Nat) (t:Nat) (v:Value),ab (l.filterMap g) t=some v→g t=some (t,v)
 | [],t,v,h=>by simp[ab] at h
 | a :: l,t,v,h=>by
  cases ha:g a with
  | none=>rw[List.filterMap_cons_none ha] at h;exact mS hg l t v h
  | some x =>
   obtain⟨s,u⟩:=x
   obtain rfl:s=a:=hg a _ ha
   rw[List.filterMap_cons_some ha] at h
   simp only[ab,cond_eq_ite,beq_iff_eq] at h
   by_cases e:s=t
   ·subst e;simp at h;subst h;exact ha
   ·rw[if_neg e] at h;exact mS hg l t v h
def Iw {R:List Nat→Out} (hc:common nt n R=some (e,fr',h')) : ∀l:List Nat,l.Perm (List.range n) → ∃fr,R l=some (e,fr,h') ∧ ∀t v,ab fr' t=some v→ab fr t=some v:=by
 unfold common at hc
 split at hc
 case isFalse=>cases hc
 rename_i c
 cases hc
 intro l hl
 obtain⟨fr,hR⟩:=c.choose_spec l hl
 refine⟨fr,hR,fun t v hv=>?_⟩
 have:=mS (by
  intro s x hx
  split at hx
  ·cases hx;rfl
  ·cases hx) _ _ _ hv
 split at this
 ·rename_i d
  cases this
  exact d.choose_spec l hl _ _ _ hR
 ·cases this
variable {rest:Fr→IH→Out}{more nx it:Nat}{hd:Fr→Fr}
def nC (hr : ∀fr h e fr' h',rest fr h=some (e,fr',h')→h.n≤h'.n) {kb k:Nat} {es:List (Value×Value)} :
  ∀(l seen:List Nat) (fr:Fr) (h:IH) (e:bN) (fr':Fr) (h':IH),eX rest hd nt it nx more kb k es l seen fr h=some (e,fr',h')→h.n≤h'.n
 | [],seen,fr,h,e,fr',h',hx=>by
  unfold eX at hx
  split at hx
  case isFalse=>cases hx
  split at hx
  ·cases hx
  ·split at hx
   ·cases hx
   ·exact hr _ _ _ _ _ hx
 | i :: l,seen,fr,h,e,fr',h',hx=>by
  unfold eX at hx
  split at hx
  case isFalse=>cases hx
  split at hx
  ·cases hx
  ·split at hx
   ·cases hx
   ·split at hx
    ·rename_i hy
     have q:=hr _ _ _ _ _ hy;exact Nat.le_trans q (nC hr l _ _ _ _ _ _ hx)
    ·have q:=hr _ _ _ _ _ hx;exact q
def vI (hx:sL rest hd nt it nx more fr h=some (e,fr',h')) :
  ∃kb k since seen last es,ab (hd fr) it=some (ptr (2*kb) 0)∧h.ext.get kb=some (.iter k since seen last)∧mapOf h k=some es ∧
   ∀l:List Nat,l.Perm (List.range es.length) → ∃frl hl,eX rest hd nt it nx more kb k es l [] fr h=some (e,frl,hl)∧(∃k0 a0 b0 c0,hl.ext.get kb=some (.iter k0 a0 b0 c0))∧h' = { hl with ext:=hl.ext.set kb .dead } ∧ ∀t v,ab fr' t=some v→ab frl t=some v:=by
 unfold sL at hx
 split at hx
 case h_2=>cases hx
 rename_i b hb
 simp only[cond_eq_ite,beq_iff_eq] at hx
 split at hx
 ·cases hx
 ·rename_i mP
  split at hx
  case h_2=>cases hx
  rename_i k since seen last hit
  split at hx
  case h_2=>cases hx
  rename_i es hes
  refine⟨b / 2,k,since,seen,last,es,by rw[hb,show 2*(b / 2)=b from by omega];rfl,hit,hes,fun l hl=>?_⟩
  obtain⟨frl,h1,h2⟩:=Iw hx l hl
  rw[if_pos hl] at h1
  unfold HX at h1
  split at h1
  ·cases h1
  ·rename_i p h3
   split at h1
   ·rename_i k0 a0 b0 c0 hg
    cases h1
    exact⟨_,_,h3,⟨k0,a0,b0,c0,hg⟩,rfl,h2⟩
   ·cases h1
def OY (hr : ∀fr h e fr' h',rest fr h=some (e,fr',h')→h.n≤h'.n) (hx:sL rest hd nt it nx more fr h=some (e,fr',h')):h.n≤h'.n:=by
 obtain⟨kb,k,since,seen,last,es,_,_,_,ha⟩:=vI hx
 obtain⟨frl,hl,h1,_,rfl,_⟩:=ha _ (List.Perm.refl _)
 exact show h.n≤hl.n from nC hr _ _ _ _ _ _ _ h1
def tM (hc:dE call) : ∀(c:Code) (fr:Fr) (h:IH) (e:bN) (fr':Fr) (h':IH),evC E call fn nt rd n c fr h=some (e,fr',h')→h.n≤h'.n:=by
 intro c
 induction c using LI with
 | h c IH =>
 cases c with
 | skip=>intro fr h e fr' h' hr;simp only[evC] at hr;cases hr;exact Nat.le_refl _
 | label l=>intro fr h e fr' h' hr;simp only[evC] at hr;cases hr;exact Nat.le_refl _
 | region id ops draw =>
  intro fr h e fr' h' hr
  simp only[evC] at hr
  split at hr
  ·rename_i fr1 h1 hx
   cases hr
   cases draw with
   | true=>exact Js hc hx
   | false=>exact Ad hc _ _ _ _ _ hx
  ·cases hr
 | seq a b =>
  have iha:=IH a (by simp<;>omega)
  have ihb:=IH b (by simp<;>omega)
  intro fr h e fr' h' hr
  simp only[evC] at hr
  split at hr
  ·rename_i fr1 h1 hx;exact Nat.le_trans (iha _ _ _ _ _ hx) (ihb _ _ _ _ _ hr)
  ·rename_i hx;cases hr;exact iha _ _ _ _ _ hx
  ·rename_i hx;cases hr;exact iha _ _ _ _ _ hx
  ·cases hr
 | cond x a b =>
  have iha:=IH a (by simp<;>omega)
  have ihb:=IH b (by simp<;>omega)
  intro fr h e fr' h' hr
  simp only[evC] at hr
  split at hr
  ·exact iha _ _ _ _ _ hr
  ·exact ihb _ _ _ _ _ hr
  ·cases hr
 | block id b =>
  have ih:=IH b (by simp<;>omega)
  intro fr h e fr' h' hr
  simp only[evC,cond_eq_ite] at hr
  split at hr
  ·rename_i hx
   split at hr<;>(cases hr;exact ih _ _ _ _ _ hx)
  ·rename_i hx;cases hr;exact ih _ _ _ _ _ hx
  ·rename_i hx;cases hr;exact ih _ _ _ _ _ hx
  ·cases hr
 | loop b =>
  have ih:=IH b (by simp<;>omega)
  intro fr h e fr' h' hr
  rw[Bf] at hr
  split at hr
  ·rename_i p hp
   exact OY (IH _ (Nat.lt_trans (ye hp) (by simp<;>omega))) hr
  ·exact EW (fun fr h e fr' h' hx=>ih fr h e fr' h' hx) n _ _ _ _ _ hr
 | scope b=>have ih:=IH b (by simp<;>omega);intro fr h e fr' h' hr;simp only[evC] at hr;exact ih _ _ _ _ _ hr
 | rangeFunc f ps a b=>intro fr h e fr' h' hr;simp only[evC] at hr;exact Ou hc hr
 | exit i=>intro fr h e fr' h' hr;simp only[evC] at hr;cases hr;exact Nat.le_refl _
 | ret=>intro fr h e fr' h' hr;simp only[evC] at hr;cases hr;exact Nat.le_refl _
 | goto i=>intro fr h e fr' h' hr;simp only[evC] at hr;cases hr
 | refuse i=>intro fr h e fr' h' hr;simp only[evC] at hr;cases hr
variable {m:Mp}{w' w0 w:World}{B:Nat}
def Rel.aa (R:Rel B w0 m h w) (hb:Below B w0 w') (hs:w.heap.size≤w'.heap.size)
  (hk : ∀r,(r<B ∨ ∃k s,k<h.n∧m (2*k)=some (r,s))→w'.heap[r]?=w.heap[r]?):Rel B w0 m h w':=by
 refine⟨hb,Nat.le_trans R.size hs,fun b cs hx=>?_,R.odd,fun k r s hm=>⟨(R.even k r s hm).1,Nat.lt_of_lt_of_le (R.even k r s hm).2 hs⟩,R.dom,fun k o r s ho hm=>?_,R.own,R.du,R.fam,R.long,R.whole⟩
 ·obtain⟨r0,s0,m0,a,c,el,fz,d,e⟩:=R.base b cs hx
  exact⟨r0,s0,m0,a,c,el,fz,by rw[hk r0 (.inl a)];exact d,e⟩
 ·have hkn:k<h.n:=by
   rcases Nat.lt_or_ge k h.n with e|e
   ·exact e
   ·rw[R.dom k e] at ho;cases ho
  exact(R.obj k o r s ho hm).mono (Mp.le_refl m) (hk r (.inr ⟨k,s,hkn,hm⟩)) rfl
def Rel.ghost (R:Rel B w0 m h w) (O:Obj):Rel B w0 m h (w.alloc O)∧Step m h w m h (w.alloc O):=by
 have hold : ∀r,r<w.heap.size→(w.alloc O).heap[r]?=w.heap[r]?:=fun r hr=>by rw[heap_alloc,if_neg (by omega)]
 refine⟨R.aa (nQ R.below R.size O) (by rw[size_alloc];omega) ?_,⟨Mp.le_refl m,fun b hb=>absurd rfl hb,Nat.le_refl _,rfl,fun r hr _=>hold r hr,fun _ _ _=>rfl,by rw[size_alloc];omega,fun k r s a b=>by omega,fun _ _ _ h=>h⟩⟩
 rintro r (hr|⟨k,s,_,hm⟩)
 ·exact hold r (Nat.lt_of_lt_of_le hr R.size)
 ·exact hold r (R.even k r s hm).2
def oj (r:Nat):Deferred:={ target:=.collected r,args:=#[] }
def lg (z:Nat) (m:Mp) (h:IH) (w:World) (ds:List Deferred):Prop :=
 ∃rs:List Nat,ds=rs.map oj∧rs.Nodup ∧ ∀r∈rs,z≤r∧w.heap[r]?=some (.deferred (some [])) ∧ ∀k s,k<h.n→m (2*k)≠some (r,s)
theorem Fk {r:Nat} {o:Obj} (h:w.heap[r]?=some o):r<w.heap.size:=(Array.getElem?_eq_some_iff.1 h).1
variable {ds:List Deferred}{z:Nat}
def lg.step {m':Mp} (d:lg z m h w ds) (s:Step m h w m' h' w'):lg z m' h' w' ds:=by
 obtain⟨rs,h1,h2,h3⟩:=d
 refine⟨rs,h1,h2,fun r hr=>?_⟩
 obtain⟨a,b,c⟩:=h3 r hr
 refine⟨a,by rw[s.frame r (Fk b) c];exact b,fun k x hk hm=>?_⟩
 by_cases hkn:k<h.n
 ·rw[s.old hkn] at hm;exact c k x hkn hm
 ·rcases s.img k r x (by omega) hk hm with e|⟨k0,s0,e1,e2⟩
  ·have:=Fk b;omega
  ·exact c k0 s0 e1 e2
def lg.nil (z:Nat) (m:Mp) (h:IH) (w:World):lg z m h w []:=⟨[],rfl,List.nodup_nil,by simp⟩
def lg.push (d:lg z m h w ds) (R:Rel B w0 m h w) (hz:z≤w.heap.size):lg z m h (w.alloc (.deferred (some []))) (oj w.heap.size :: ds):=by
 obtain⟨rs,h1,h2,h3⟩:=d.step (R.ghost (.deferred (some []))).2
 refine⟨w.heap.size :: rs,by rw[h1];rfl,List.nodup_cons.2 ⟨fun hm=>?_,h2⟩,fun r hr=>?_⟩
 ·obtain⟨rs',e1,e2,e3⟩:=d
  have:rs'=rs:=by
   have e:=e1.symm.trans h1
   have inj : ∀a b,oj a=oj b→a=b:=by intro a b h;simp[oj] at h;exact h
   exact List.map_inj_right (fun a b=>inj a b) |>.1 e
  subst this
  have:=Fk (e3 _ hm).2.1
  omega
 ·rcases List.mem_cons.1 hr with rfl|hr
  ·refine⟨hz,by rw[heap_alloc,if_pos rfl],fun k s _ hm=>?_⟩
   have:=(R.even k _ s hm).2;omega
  ·exact h3 r hr
def qT (P:Program) (w:World) {n:Nat} (hn:0<n) : ∃i d,i<n∧(choose (.mapNext n)).run P w=.ok i { w with drawn:=d }:=by
 simp only[choose,Sem.run]
 by_cases h:(Question.mapNext n).forced=true
 ·rw[if_pos h];exact⟨0,w.drawn,hn,rfl⟩
 ·rw[if_neg h];exact⟨_,_,Nat.mod_lt _ hn,rfl⟩
variable {r:Nat}{w:World}
def yI (P:Program) {a:Option Nat} {b d:Nat} {c:Array Nat} (h:w.heap[r]?=some (.mapIter a b c d)) (o:Obj):(Go.setObj r o).run P w=.ok () (World.put w r o):=by
 simp only[Go.setObj,Sem.run,h];rfl
variable {c:Array MapEntry}{m:Mp}{es:List (Value×Value)}
def FO (h:rX m es c) {e:MapEntry} (he:e∈c):e.born<es.length∧c[e.born]?=some e:=by
 obtain⟨i,hi,rfl⟩:=Array.mem_iff_getElem.1 he
 have:=h.born i c[i] (Array.getElem?_eq_getElem hi)
 rw[this]
 exact⟨by have:=h.1;omega,Array.getElem?_eq_getElem hi⟩
def QU (P:Program) (hcm:rX m es c) {rm:Nat} {seen:List Nat}
  (hit:w.heap[r]?=some (.mapIter (some rm) es.length seen.toArray es.length)) (B5:w.heap[rm]?=some (.map c es.length)) (t:TypeId) :
  ((∀i,i<es.length→i∈seen) ∧ ∃d,(Instr.next (.pointer (some ⟨r,0,none⟩)) false t).run P w=.ok (.tuple #[.bool false]) { w with drawn:=d }) ∨
  ∃i e' d,i∉seen∧c[i]?=some e'∧(Instr.next (.pointer (some ⟨r,0,none⟩)) false t).run P w=.ok (.tuple #[.bool true,e'.key,e'.val]) (World.put { w with drawn:=d } r (.mapIter (some rm) es.length (seen.toArray.push i) es.length)):=by
 have oR:(!seen.toArray.isEmpty && !c.isEmpty && c.all fun e=>decide (e.born ≥ es.length))=false:=by
  cases hc:c.isEmpty with
  | true=>simp
  | false =>
   have vO:0<c.size:=by
    rcases Nat.eq_zero_or_pos c.size with h|h
    ·rw[Array.isEmpty_iff_size_eq_zero.2 h] at hc;cases hc
    ·exact h
   have hb:=hcm.born 0 c[0] (Array.getElem?_eq_getElem vO)
   have:(c.all fun e=>decide (e.born ≥ es.length))=false:=by
    rw[Bool.eq_false_iff]
    intro eF
    have:=Array.all_eq_true.1 eF 0 vO
    rw[hb] at this
    have h1:=of_decide_eq_true this
    have:=hcm.1
    omega
   rw[this];simp
 obtain⟨left,Sd⟩ : ∃l,l=c.filter fun e => !seen.toArray.contains e.born:=⟨_,rfl⟩
 have Kg : ∀e∈left,e∈c∧e.born∉seen:=by
  intro e he
  rw[Sd,Array.mem_filter] at he
  exact⟨he.1,by simpa using he.2⟩
 have hold:(left.filter fun e=>decide (e.born<es.length))=left:=by
  rw[Array.filter_eq_self]
  intro e he
  simpa using (FO hcm (Kg e he).1).1
 have yM:(left.filter fun e=>decide (e.born ≥ es.length)) = #[]:=by
  rw[Array.filter_eq_empty_iff]
  intro e he
  have:=(FO hcm (Kg e he).1).1
  simp;omega
 have bD : ∀i d,i<((if left.isEmpty then #[none] else #[]) ++ (left ++ #[]).map some:Array (Option MapEntry)).size →
   (choose (.mapNext ((if left.isEmpty then #[none] else #[]) ++ (left ++ #[]).map some:Array (Option MapEntry)).size)).run P w=.ok i { w with drawn:=d } →
   (Instr.next (.pointer (some ⟨r,0,none⟩)) false t).run P w=(match ((if left.isEmpty then #[none] else #[]) ++ (left ++ #[]).map some:Array (Option MapEntry))[i]? with
    | some (some e)=>.ok (.tuple #[.bool true,e.key,e.val]) (World.put { w with drawn:=d } r (.mapIter (some rm) es.length (seen.toArray.push e.born) es.length))
    | some none=>.ok (.tuple #[.bool false]) { w with drawn:=d }
    | none=>(stuck "Next: no such candidate" : Sem Value).run P { w with drawn:=d }):=by
  intro i d hi hch
  have hit2:({ w with drawn:=d }:World).heap[r]?=some (.mapIter (some rm) es.length seen.toArray es.length):=hit
  simp only[Instr.next,Sem.run_bind,qf P hit,Result.andThen_ok,run_getObj_map P B5,oR,Bool.false_eq_true,if_false,←Sd,hold,yM,hch]
  generalize ((if left.isEmpty then #[none] else #[]) ++ (left ++ #[]).map some:Array (Option MapEntry))[i]?=y
  cases y with
  | none=>rfl
  | some y=>cases y with
   | none=>rfl
   | some e =>
    simp only[Sem.run_bind,yI P hit2,Result.andThen_ok,Sem.run_pure]
 by_cases hem:left.isEmpty=true
 ·left
  have hl0:left = #[]:=by simpa using hem
  refine⟨fun i hi=>?_,?_⟩
  ·apply Classical.byContradiction
   intro hns
   have hic:i<c.size:=by have:=hcm.1;omega
   have hb:=hcm.born i c[i] (Array.getElem?_eq_getElem hic)
   have:c[i]∈left:=by
    rw[Sd,Array.mem_filter]
    exact⟨Array.getElem_mem hic,by rw[hb];simpa using hns⟩
   rw[hl0] at this
   simp at this
  ·obtain⟨i,d,hi,hch⟩:=qT P w (n:=((if left.isEmpty then #[none] else #[]) ++ (left ++ #[]).map some:Array (Option MapEntry)).size) (by simp[hl0])
   refine⟨d,?_⟩
   rw[bD i d hi hch]
   simp only[hl0] at hi ⊢
   simp at hi
   subst hi
   simp
 ·right
  have hne:left.isEmpty=false:=by simpa using hem
  have WY:((if left.isEmpty then #[none] else #[]) ++ (left ++ #[]).map some:Array (Option MapEntry))=left.map some:=by simp[hne]
  have vO:0<left.size:=by
   rcases Nat.eq_zero_or_pos left.size with h|h
   ·rw[Array.isEmpty_iff_size_eq_zero.2 h] at hne;cases hne
   ·exact h
  obtain⟨i,d,hi,hch⟩:=qT P w (n:=((if left.isEmpty then #[none] else #[]) ++ (left ++ #[]).map some:Array (Option MapEntry)).size) (by rw[WY];simpa using vO)
  have hr:=bD i d hi hch
  rw[WY] at hr hi
  have hil:i<left.size:=by simpa using hi
  have hgi:(left.map some)[i]?=some (some left[i]):=by simp[hil]
  rw[hgi] at hr
  obtain⟨h1,h2⟩:=Kg left[i] (Array.getElem_mem hil)
  obtain⟨_,h3⟩:=FO hcm h1
  exact⟨left[i].born,left[i],d,h2,h3,hr⟩
theorem Rf {o:Obj} (h:w.heap[r]?=some o):World.put w r o=w:=by
 have hr:r<w.heap.size:=by
  rcases Nat.lt_or_ge r w.heap.size with h'|h'
  ·exact h'
  ·rw[Array.getElem?_eq_none h'] at h;cases h
 have he:w.heap[r]=o:=by rw[Array.getElem?_eq_getElem hr] at h;exact Option.some.inj h
 subst he
 show { w with heap:=w.heap.setIfInBounds r w.heap[r] }=w
 rw[Array.setIfInBounds_def,dif_pos hr,Array.set_getElem_self]
end Go.Id
