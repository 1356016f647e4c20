/-
  The ideal machine: a region whose order is open gives, in whatever order, what it gives in the order of the text. The ideal machine: a region whose order is open, whole. The ideal machine: code. First: numbers only grow; memory that no ideal object stands for. The ideal machine: code, on the model's machine. The ideal machine: calls, on the model's machine. The ideal machine: rounds of loops over functions; all calls. What the whole layer is for: 'ideal_calls'. The ideal machine: from a start, to what a row asks.
-/
import Derived.Test.YthbkinefgmfgeaaGreatDiagnoseMovesAc
import Derived.Orders
import Derived.RangeFuncIn
import Derived.RangeFuncRecord
import Derived.Laws.Externs
import Derived.KernelRfl
import Derived.RowKit3
set_option linter.unusedVariables false
set_option linter.unusedSimpArgs false
set_option linter.defProp false
set_option linter.deprecated false
/-! The ideal machine: a region whose order is open gives, in whatever order, what it gives in the order of the text. -/
namespace Go.Id
open Go Go.RowKit
structure Ordered (ops:Array Oper):Prop where
 edge : ∀j y,ops[j]?=some y → ∀e∈y.after,Region.binds .any e=true→e.on<j
 pair : ∀i j x y,i<j→ops[i]?=some x→ops[j]?=some y→beforeB ops.toList j i=true∨(clash ops.toList x y=false ∧ ¬(kindOf x.op=.chain∧kindOf y.op=.chain))
theorem orderOK_spec {ops:Array Oper} (h:orderOK ops.toList=true):Ordered ops:=by
 unfold orderOK at h
 simp only[List.all_eq_true,List.mem_range] at h
 have size : ∀j y,ops[j]?=some y→j<ops.toList.length:=by
  intro j y hj
  have:=(Array.getElem?_eq_some_iff.1 hj).1
  simpa using this
 refine⟨fun j y hj e he hb=>?_,fun i j x y hij hi hj=>?_⟩
 ·have:=h j (size j y hj)
  have hj':ops.toList[j]?=some y:=by simpa using hj
  simp only[hj',Bool.and_eq_true,List.all_eq_true] at this
  have h1:=this.1.1 e (by simpa using he)
  simpa [hb] using h1
 ·have:=h j (size j y hj)
  have hj':ops.toList[j]?=some y:=by simpa using hj
  have hi':ops.toList[i]?=some x:=by simpa using hi
  simp only[hj',Bool.and_eq_true,List.all_eq_true] at this
  have h1:=this.2 i (by simpa using hij)
  simp only[hi',Bool.or_eq_true,Bool.not_eq_true',Bool.or_eq_false_iff,Bool.and_eq_false_iff,beq_eq_false_iff_ne] at h1
  rcases h1 with h1|h1
  ·exact .inl h1
  ·refine .inr ⟨h1.1,fun hk=>?_⟩
   rcases h1.2 with h2|h2
   ·exact h2 hk.1
   ·exact h2 hk.2
section
variable {ops:Array Oper} {x y:Oper} {d:Nat}
theorem clash_ww (h1:x.dst=some d) (h2:y.dst=some d):clash ops.toList x y=true:=by simp[clash,h1,h2]
theorem clash_wr (h1:x.dst=some d) (h2:d∈reads ops.toList y):clash ops.toList x y=true:=by simp[clash,h1,h2]
theorem clash_rw (h1:y.dst=some d) (h2:d∈reads ops.toList x):clash ops.toList x y=true:=by simp[clash,h1,h2]
end
section
variable {E:Env} {call:CallV} {nt:Nat} {ops:Array Oper} {FA:Nat→Fr} {HA:Nat→IH}
theorem Text.put (T:Text E call nt ops FA HA) {i:Nat} {o:Oper} (ho:ops[i]?=some o) : ∃v,fput nt (FA i) o.dst v=some (FA (i+1)) ∧
  ((wantedI ops.toList o (FA i)=some true∧runOp E call (FA i) o.op (HA i)=some (v,HA (i+1)))∨(wantedI ops.toList o (FA i)=some false∧v=undef)):=by
 have hs:=T.step i o ho
 unfold stepOp at hs
 split at hs
 ·rename_i hw
  split at hs
  ·rename_i v h2 hrun
   obtain⟨a,h1,e⟩:=Option.map_eq_some_iff.1 hs
   cases e
   exact⟨v,h1,.inl ⟨hw,hrun⟩⟩
  ·cases hs
 ·rename_i hw
  obtain⟨a,h1,e⟩:=Option.map_eq_some_iff.1 hs
  exact⟨undef,by rw[h1];exact congrArg some (Prod.mk.inj e).1,.inr ⟨hw,rfl⟩⟩
 ·cases hs
theorem fget_fput {fr fr':Fr} {dst:Option Tmp} {v:Value} (h:fput nt fr dst v=some fr') (t:Nat):fget fr' t=if dst=some t then some v else fget fr t:=by
 unfold fput at h
 cases dst with
 | none=>cases h;simp
 | some d =>
  simp only[cond_eq_ite,Nat.blt_eq] at h
  split at h
  ·cases h
   simp only[fget,cond_eq_ite,beq_iff_eq,Option.some.injEq]
  ·cases h
theorem Text.keeps (T:Text E call nt ops FA HA) {t p:Nat} : ∀(q:Nat),p≤q→q≤ops.size→(∀j o,p≤j→j<q→ops[j]?=some o→o.dst≠some t)→fget (FA q) t=fget (FA p) t:=by
 intro q
 induction q with
 | zero =>
  intro h _ _
  have e:p=0:=by omega
  rw[e]
 | succ q ih =>
  intro hpq hn hw
  by_cases hq:p=q+1
  ·rw[hq]
  have ho:ops[q]?=some ops[q]:=Array.getElem?_eq_getElem (by omega)
  obtain⟨v,hp,_⟩:=T.put ho
  rw[fget_fput hp t,if_neg (hw q _ (by omega) (by omega) ho)]
  exact ih (by omega) (by omega) (fun j o h1 h2=>hw j o h1 (by omega))
end
structure OInv (nt:Nat) (ops:Array Oper) (FA:Nat→Fr) (HA:Nat→IH) (B:Nat) (w0:World) (m0:Mp) (wi:World) (D:Nat→Prop) (m:Mp) (w:World) (tmps:Array Value):Prop where
 closed : ∀j i,D j→beforeB ops.toList j i=true→D i
 slots : ∀t,∃p,p≤ops.size∧(∀j o,ops[j]?=some o→o.dst=some t→(D j↔j<p)) ∧ ∀v,fget (FA p) t=some v → ∃v',tmps[t]?=some v'∧VRel m v v'
 chain : ∃a,a≤ops.size∧(∀j,ChainAt ops j→(D j↔j<a))∧(a=ops.size∨ChainAt ops a)∧HInv ops FA HA B w0 m0 wi D a m w
 size:nt≤tmps.size
section
variable {E:Env} {call:CallV} {nt:Nat} {ops:Array Oper} {FA:Nat→Fr} {HA:Nat→IH} {B:Nat} {w0:World} {m0:Mp} {wi:World} {D:Nat→Prop} {a:Nat} {m:Mp} {w:World} {tmps:Array Value}
theorem HInv.norm (T:Text E call nt ops FA HA) : ∀(n a:Nat),ops.size - a≤n→a≤ops.size→HInv ops FA HA B w0 m0 wi D a m w→(∀j,ChainAt ops j→(D j↔j<a)) →
  ∃a,a≤ops.size∧(∀j,ChainAt ops j→(D j↔j<a))∧(a=ops.size∨ChainAt ops a)∧HInv ops FA HA B w0 m0 wi D a m w
 | 0,a,h1,h2,I,hc=>⟨a,h2,hc,.inl (by omega),I⟩
 | n+1,a,h1,h2,I,hc=>by
  by_cases h3:a=ops.size
  ·exact⟨a,h2,hc,.inl h3,I⟩
  ·by_cases h4:ChainAt ops a
   ·exact⟨a,h2,hc,.inr h4,I⟩
   ·refine HInv.norm T n (a+1) (by omega) (by omega) (I.next T (by omega) h4) fun j hj=>?_
    rw[hc j hj]
    constructor
    ·intro h;omega
    ·intro h
     rcases Nat.lt_or_ge j a with h5|h5
     ·exact h5
     ·exact absurd (show ChainAt ops a from(show j=a by omega)▸hj) h4
theorem OInv.known (T:Text E call nt ops FA HA) (O:Ordered ops) (I:OInv nt ops FA HA B w0 m0 wi D m w tmps) {i:Nat} {o:Oper} (ho:ops[i]?=some o) (hd : ¬D i) (hb : ∀k,beforeB ops.toList i k=true→D k) :
  FrRel m (keepOnly (FA i) (reads ops.toList o)) tmps:=by
 intro t v hv
 rw[fget_keepOnly] at hv
 by_cases hr:t∈Id.reads ops.toList o
 ·rw[if_pos hr] at hv
  obtain⟨p,hp,hw,hrel⟩:=I.slots t
  have hin:i<ops.size:=(Array.getElem?_eq_some_iff.1 ho).1
  have lo : ∀j x,ops[j]?=some x→x.dst=some t→j<i→D j:=by
   intro j x hj hx hji
   rcases O.pair j i x o hji hj ho with h|h
   ·exact hb j h
   ·rw[clash_wr hx hr] at h;exact absurd h.1 (by simp)
  have hi : ∀j x,ops[j]?=some x→x.dst=some t→i<j → ¬D j:=by
   intro j x hj hx hji hdj
   rcases O.pair i j o x hji ho hj with h|h
   ·exact hd (I.closed j i hdj h)
   ·rw[clash_rw hx hr] at h;exact absurd h.1 (by simp)
  have e:fget (FA i) t=fget (FA p) t:=by
   rcases Nat.le_total p i with hpi|hpi
   ·refine T.keeps i hpi (by omega) fun j x h1 h2 hj hx=>?_
    have:=(hw j x hj hx).1 (lo j x hj hx h2)
    omega
   ·refine(T.keeps p hpi hp fun j x h1 h2 hj hx=>?_).symm
    have hdj:=(hw j x hj hx).2 h2
    rcases Nat.lt_or_ge i j with h3|h3
    ·exact hi j x hj hx h3 hdj
    ·obtain rfl:i=j:=by omega
     exact hd hdj
  rw[e] at hv
  exact hrel v hv
 ·rw[if_neg hr] at hv;cases hv
theorem OInv.put (O:Ordered ops) (I:OInv nt ops FA HA B w0 m0 wi D m w tmps) {i:Nat} {o:Oper} (ho:ops[i]?=some o) (hd : ¬D i) (hb : ∀k,beforeB ops.toList i k=true→D k)
  {v v':Value} (hp:fput nt (FA i) o.dst v=some (FA (i+1))) {m':Mp} (hm:m.le m') (hv:VRel m' v v') :
  (∀t,∃p,p≤ops.size∧(∀j x,ops[j]?=some x→x.dst=some t→((D j∨j=i)↔j<p)) ∧ ∀v,fget (FA p) t=some v → ∃v1,(putT tmps o.dst v')[t]?=some v1∧VRel m' v v1)∧nt≤(putT tmps o.dst v').size:=by
 have hin:i<ops.size:=(Array.getElem?_eq_some_iff.1 ho).1
 have hd2 : ∀d,o.dst=some d→d<nt:=by
  intro d hd
  unfold fput at hp
  simp only[hd,cond_eq_ite,Nat.blt_eq] at hp
  split at hp
  ·assumption
  ·cases hp
 refine⟨fun t=>?_,by cases h:o.dst<;>simpa [putT] using I.size⟩
 by_cases ht:o.dst=some t
 ·refine⟨i+1,by omega,fun j x hj hx=>?_,fun u hu=>?_⟩
  ·constructor
   ·rintro(h|h)
    ·rcases Nat.lt_or_ge i j with h3|h3
     ·rcases O.pair i j o x h3 ho hj with h4|h4
      ·exact absurd (I.closed j i h h4) hd
      ·rw[clash_ww ht hx] at h4;exact absurd h4.1 (by simp)
     ·omega
    ·omega
   ·intro h
    by_cases h3:j=i
    ·exact .inr h3
    ·rcases O.pair j i x o (by omega) hj ho with h4|h4
     ·exact .inl (hb j h4)
     ·rw[clash_ww hx ht] at h4;exact absurd h4.1 (by simp)
  ·rw[fget_fput hp t,if_pos ht] at hu
   cases hu
   have hlt:t<tmps.size:=Nat.lt_of_lt_of_le (hd2 t ht) I.size
   exact⟨v',by simp[putT,ht,hlt],hv⟩
 ·obtain⟨p,h1,h2,h3⟩:=I.slots t
  refine⟨p,h1,fun j x hj hx=>?_,fun u hu=>?_⟩
  ·rw[←h2 j x hj hx]
   constructor
   ·rintro(h|h)
    ·exact h
    ·subst h;rw[ho] at hj;cases hj;exact absurd hx ht
   ·exact .inl
  ·obtain⟨u',h4,h5⟩:=h3 u hu
   refine⟨u',?_,h5.mono hm⟩
   unfold putT
   cases hdst:o.dst with
   | none=>exact h4
   | some d=>simp only;rw[Array.getElem?_setIfInBounds_ne (by rintro rfl;exact ht hdst)];exact h4
def Steady (E:Env) (ops:Array Oper) (FA:Nat→Fr) (HA:Nat→IH):Prop :=
 ∀i o,ops[i]?=some o→kindOf o.op=.load→wantedI ops.toList o (FA i)=some true → ∀p,p≤ops.size→(p=ops.size∨ChainAt ops p) →
  (∀k,ChainAt ops k→k<p→beforeB ops.toList k i=false)→(∀k,ChainAt ops k→p≤k→beforeB ops.toList i k=false) →
  ∀v h',iop E.P (FA i) o.op (HA i)=some (v,h') → ∃h2,iop E.P (FA i) o.op (HA p)=some (v,h2)
theorem OInv.op (hcall:CallSim E.P call) (T:Text E call nt ops FA HA) (O:Ordered ops) (S:Steady E ops FA HA) (I:OInv nt ops FA HA B w0 m0 wi D m w tmps) {i:Nat} {o:Oper} (ho:ops[i]?=some o) (hd : ¬D i)
  (hb : ∀k,beforeB ops.toList i k=true→D k) (b:Frame) (rest:List Nat) (k:List Item) (ds:List Deferred) (cs:List Frame) :
  ∃m' w' tmps',Steps E.P (lone (on b tmps (.inRegion ops (i :: rest) :: k) ds) cs w) (lone (on b tmps' (.inRegion ops rest :: k) ds) cs w')∧OInv nt ops FA HA B w0 m0 wi (fun j=>D j∨j=i) m' w' tmps':=by
 have hin:i<ops.size:=(Array.getElem?_eq_some_iff.1 ho).1
 have hf:=I.known T O ho hd hb
 obtain⟨v,hput,hcase⟩:=T.put ho
 obtain⟨a,hae,hch,hat,H⟩:=I.chain
 have hclosed : ∀j i',(D j∨j=i)→beforeB ops.toList j i'=true→D i'∨i'=i:=by
  rintro j i' (h|rfl) hbf
  ·exact .inl (I.closed j i' h hbf)
  ·exact .inl (hb i' hbf)
 have mk : ∀{m':Mp} {w':World} {v':Value} {c:Nat},m.le m'→VRel m' v v'→c≤ops.size→(∀j,ChainAt ops j→((D j∨j=i)↔j<c))→HInv ops FA HA B w0 m0 wi (fun j=>D j∨j=i) c m' w' →
   OInv nt ops FA HA B w0 m0 wi (fun j=>D j∨j=i) m' w' (putT tmps o.dst v'):=by
  intro m' w' v' c hle hv hc1 hc2 H'
  obtain⟨h1,h2⟩:=I.put O ho hd hb hput hle hv
  exact⟨hclosed,h1,H'.norm T _ c (Nat.le_refl _) hc1 hc2,h2⟩
 have add : ∀{c:Nat} {m':Mp} {w':World},¬AllocAt ops FA i→HInv ops FA HA B w0 m0 wi D c m' w'→HInv ops FA HA B w0 m0 wi (fun j=>D j∨j=i) c m' w':=by
  intro c m' w' hal H'
  have back : ∀j,AllocAt ops FA j→(D j∨j=i)→D j:=by
   rintro j h1 (h2|rfl)
   ·exact h2
   ·exact absurd h1 hal
  refine⟨H'.rel,fun j h1 h2 h3=>H'.none_ j h1 h2 (fun h=>h3 (.inl h)),fun j h0 h1 h2 h3=>H'.pend j h0 h1 h2 (fun h=>h3 (.inl h)),fun j h0 h1 h2 h3=>H'.extra j h0 h1 h2 (back j h2 h3),H'.inj,fun q h1 h2=>?_,H'.le,H'.new,H'.base,H'.frame,H'.idle,H'.size,H'.img,H'.idleF⟩
  rcases H'.fresh q h1 h2 with h|⟨j,h3,h4,h5,h6,h7⟩
  ·exact .inl h
  ·exact .inr ⟨j,h3,h4,h5,.inl h6,h7⟩
 have chsame : ¬ChainAt ops i → ∀j,ChainAt ops j→((D j∨j=i)↔j<a):=by
  intro hnc j hj
  rw[←hch j hj]
  constructor
  ·rintro(h|rfl)
   ·exact h
   ·exact absurd hj hnc
  ·exact .inl
 rcases hcase with⟨hw,hrun⟩|⟨hw,rfl⟩
 ·have hwk:wantedI ops.toList o (keepOnly (FA i) (reads ops.toList o))=some true:=by rw[wanted_keep];exact hw
  have hcg : ∀h,runOp E call (keepOnly (FA i) (reads ops.toList o)) o.op h=runOp E call (FA i) o.op h:=fun h=>runOp_congr (opd_keep _ _ _) h
  have none0 : ∀x:Nat,Fresh m x x:=fun x k h1 h2=>by omega
  have quiet:kindOf o.op≠.chain→kindOf o.op≠.alloc→runOp E call (FA i) o.op (HA a)=some (v,HA a) →
    ∃m' w' tmps',Steps E.P (lone (on b tmps (.inRegion ops (i :: rest) :: k) ds) cs w) (lone (on b tmps' (.inRegion ops rest :: k) ds) cs w')∧OInv nt ops FA HA B w0 m0 wi (fun j=>D j∨j=i) m' w' tmps':=by
   intro hk1 hk2 hr
   have hnc : ¬ChainAt ops i:=by rintro⟨o',h1,h2⟩;rw[ho] at h1;cases h1;exact hk1 h2
   have hna : ¬AllocAt ops FA i:=by rintro⟨o',h1,h2,_⟩;rw[ho] at h1;cases h1;exact hk2 h2
   obtain⟨v',m',w',hS,hv,R',S'⟩:=sim_op hcall ho hwk (by rw[hcg];exact hr) H.rel hf (none0 _) b rest k ds cs
   exact⟨m',w',_,hS,mk S'.le hv hae (chsame hnc) (add hna (H.go T (Nat.le_refl _) hae (fun j h1 h2=>by omega) R' S'))⟩
  cases hk:kindOf o.op with
  | pure =>
   rw[runOp_plain (by rw[hk];simp)] at hrun
   exact quiet (by rw[hk];simp) (by rw[hk];simp) (by rw[runOp_plain (by rw[hk];simp)];exact(iop_pure hk hrun).2 _)
  | load =>
   rw[runOp_plain (by rw[hk];simp)] at hrun
   refine quiet (by rw[hk];simp) (by rw[hk];simp) ?_
   rw[runOp_plain (by rw[hk];simp)]
   obtain⟨h2,e⟩:=S i o ho hk hw a hae hat (fun q hq hqa=>by
     have hdq:=(hch q hq).2 hqa
     cases hbf:beforeB ops.toList q i with
     | false=>rfl
     | true=>exact absurd (I.closed q i hdq hbf) hd)
    (fun q hq hqa=>by
     cases hbf:beforeB ops.toList i q with
     | false=>rfl
     | true=>have:=(hch q hq).1 (hb q hbf);omega) v _ hrun
   rw[e,iop_load hk e]
  | alloc =>
   rw[runOp_plain (by rw[hk];simp)] at hrun
   have hal:AllocAt ops FA i:=⟨o,ho,hk,hw⟩
   have hnc : ¬ChainAt ops i:=by rintro⟨o',h1,h2⟩;rw[ho] at h1;cases h1;rw[hk] at h2;cases h2
   have hrk:iop E.P (keepOnly (FA i) (reads ops.toList o)) o.op (HA i)=some (v,HA (i+1)):=by rw[iop_congr (opd_keep _ _ _)];exact hrun
   obtain⟨obj,e,hl,Ob,v',z,hr,hO,hv⟩:=iop_alloc (opd_evalT H.rel hf) o hk hrk w
   have hnd : ∀c,o.op≠.defer c:=by intro c hc;rw[hc] at hk;simp[kindOf] at hk
   have hst:=st_value (b:=b) (k:=k) (ds:=ds) (cs:=cs) (rest:=rest) ho (wanted_rel hf hwk) hnd hr
   have H':=H.make T hae hin hal hd e hl hO
   exact⟨_,_,_,.one hst,mk (Mp.le_upd (H.none_ i hin hal hd)) (hv _ (Mp.upd_self _ _ _ _)) hae (chsame hnc) H'⟩
  | chain =>
   have hci:ChainAt ops i:=⟨o,ho,hk⟩
   have hai:a≤i:=by
    rcases Nat.lt_or_ge i a with h|h
    ·exact absurd ((hch i hci).2 h) hd
    ·exact h
   have hca:ChainAt ops a:=by
    rcases hat with h|h
    ·omega
    ·exact h
   obtain rfl:a=i:=by
    rcases Nat.lt_or_ge a i with h|h
    ·obtain⟨x,hx,hkx⟩:=hca
     rcases O.pair a i x o h hx ho with h1|h1
     ·have:=(hch a ⟨x,hx,hkx⟩).1 (hb a h1);omega
     ·exact absurd ⟨hkx,hk⟩ h1.2
    ·omega
   have hfr:Fresh m (HA a).n (HA (a+1)).n:=by
    intro q h1 h2
    have hN:(HA (a+1)).n≤(HA ops.size).n:=T.nle _ _ hin (Nat.le_refl _)
    rcases H.fresh q h1 (by omega) with h|⟨j,h3,h4,h5,h6,h7⟩
    ·exact h
    ·exfalso
     have hja:j≠a:=by rintro rfl;exact chain_not_alloc hca h5
     have:=T.nle j (a+1) (by omega) (by omega)
     omega
   obtain⟨v',m',w',hS,hv,R',S'⟩:=sim_op hcall ho hwk (by rw[hcg];exact hrun) H.rel hf hfr b rest k ds cs
   refine⟨m',w',_,hS,mk S'.le hv hin ?_ (add (chain_not_alloc hca) (H.go T (Nat.le_succ _) hin (fun j h1 h2=>?_) R' S'))⟩
   ·intro j hj
    rw[hch j hj]
    omega
   ·obtain rfl:j=a:=by omega
    exact chain_not_alloc hca
 ·-- left out
  have hwk:wantedI ops.toList o (keepOnly (FA i) (reads ops.toList o))=some false:=by rw[wanted_keep];exact hw
  have hna : ¬AllocAt ops FA i:=by rintro⟨o',h1,_,h2⟩;rw[ho] at h1;cases h1;rw[hw] at h2;cases h2
  have hst:=st_off (P:=E.P) (b:=b) (k:=k) (ds:=ds) (cs:=cs) (rest:=rest) (w:=w) ho (wanted_rel hf hwk)
  by_cases hci:ChainAt ops i
  ·have hai:a≤i:=by
    rcases Nat.lt_or_ge i a with h|h
    ·exact absurd ((hch i hci).2 h) hd
    ·exact h
   have hca:ChainAt ops a:=by
    rcases hat with h|h
    ·omega
    ·exact h
   obtain rfl:a=i:=by
    rcases Nat.lt_or_ge a i with h|h
    ·obtain⟨x,hx,hkx⟩:=hca
     obtain⟨o',ho',hk⟩:=hci
     rw[ho] at ho';cases ho'
     rcases O.pair a i x o h hx ho with h1|h1
     ·have:=(hch a ⟨x,hx,hkx⟩).1 (hb a h1);omega
     ·exact absurd ⟨hkx,hk⟩ h1.2
    ·omega
   have e:HA (a+1)=HA a:=by
    have hs:=T.step a o ho
    unfold stepOp at hs
    rw[hw] at hs
    obtain⟨_,_,e⟩:=Option.map_eq_some_iff.1 hs
    exact(Prod.mk.inj e).2.symm
   refine⟨m,w,_,.one hst,mk (Mp.le_refl m) (VRel.undef m) hin ?_ (add hna (H.go T (Nat.le_succ _) hin (fun j h1 h2=>?_) (by rw[e];exact H.rel) (by rw[e];exact Step.refl _ _ _)))⟩
   ·intro j hj
    rw[hch j hj]
    omega
   ·obtain rfl:j=a:=by omega
    exact hna
  ·exact⟨m,w,_,.one hst,mk (Mp.le_refl m) (VRel.undef m) hae (chsame hci) (add hna H)⟩
end
end Go.Id

/-! The ideal machine: a region whose order is open, whole. -/
namespace Go.Id
open Go Go.RowKit
theorem steady_spec {E:Env} {ops:Array Oper} {tr:List (Fr×IH)} {FA:Nat→Fr} {HA:Nat→IH} (hs:steady E.P ops.toList tr (plan ops.toList)=true) (htr : ∀i,i≤ops.size→tr[i]?=some (FA i,HA i)) :
  Steady E ops FA HA:=by
 intro i o ho hk hw p hp hpat h1 h2 v h' hv
 have hin:i<ops.size:=(Array.getElem?_eq_some_iff.1 ho).1
 have ho':ops.toList[i]?=some o:=by simpa using ho
 unfold steady at hs
 rw[List.all_eq_true] at hs
 have hch : ∀q,q∈(List.range ops.toList.length).filter (fun k=>match ops.toList[k]? with|some o=>kindOf o.op == .chain|none=>false)↔ChainAt ops q:=by
  intro q
  rw[List.mem_filter]
  constructor
  ·rintro⟨_,hq⟩
   cases hx:ops.toList[q]? with
   | none=>simp[hx] at hq
   | some x=>simp only[hx,beq_iff_eq] at hq;exact⟨x,by simpa using hx,hq⟩
  ·rintro⟨x,hx,hq⟩
   have:=(Array.getElem?_eq_some_iff.1 hx).1
   have hx':ops.toList[q]?=some x:=by simpa using hx
   exact⟨by simpa using this,by rw[hx'];simp[hq]⟩
 have hm:=hs (i,_) (by
  unfold plan
  rw[List.mem_filterMap]
  refine⟨i,by simpa using hin,?_⟩
  simp only[ho',hk,beq_self_eq_true,cond_true]
  rfl)
 simp only[ho',htr i (Nat.le_of_lt hin),hw] at hm
 rw[List.all_eq_true] at hm
 have hpm:=hm p (by
  rw[List.mem_filter,List.mem_append]
  refine⟨?_,?_⟩
  ·rcases hpat with rfl|h
   ·right;simp
   ·left;exact(hch p).2 h
  ·rw[List.all_eq_true]
   intro q hq
   have hcq:=(hch q).1 hq
   cases hb:Nat.blt q p with
   | true =>
    have:=h1 q hcq (by simpa using hb)
    unfold beforeB at this
    rw[cond_true,this];rfl
   | false =>
    have:=h2 q hcq (by
     rcases Nat.lt_or_ge q p with h|h
     ·have:Nat.blt q p=true:=by simpa [Nat.blt_eq] using h
      rw[this] at hb;cases hb
     ·exact h)
    unfold beforeB at this
    rw[cond_false,this];rfl)
 simp only[htr p hp] at hpm
 unfold steadyAt at hpm
 rw[hv] at hpm
 split at hpm
 ·rename_i h3 h4
  rename_i v1 _ v2 _
  cases h3
  rw[eqV_eq hpm]
  exact⟨_,h4⟩
 ·cases hpm
theorem HInv.first {E:Env} {call:CallV} {nt:Nat} {ops:Array Oper} {FA:Nat→Fr} {HA:Nat→IH} {B:Nat} {w0:World} {m:Mp} {w:World} (T:Text E call nt ops FA HA) (R:Rel B w0 m (HA 0) w) (hf:Fresh m (HA 0).n (HA ops.size).n) :
  HInv ops FA HA B w0 m w (fun _=>False) 0 m w:=by
 refine⟨R,?_,fun i h=>by omega,fun i _ _ _ h=>h.elim,?_,fun k h1 h2=>.inl (hf k h1 h2),Mp.le_refl m,fun b h=>absurd rfl h,rfl,fun _ _ _=>rfl,fun _ _ _=>rfl,Nat.le_refl _,?_,fun _ _ _ h=>h⟩
 ·intro i hi hal _
  obtain⟨obj,e,_⟩:=T.alloc hal
  have h2:(HA (i+1)).n≤(HA ops.size).n:=T.nle _ (i+1) hi (Nat.le_refl _)
  rw[e] at h2
  have:((HA i).new obj).n=(HA i).n+1:=rfl
  exact hf _ (T.nle i 0 (Nat.zero_le _) (by omega)) (by omega)
 ·intro k k' r s s' h1 h2 h3 h4 h5
  rw[hf k h1 h2] at h5;cases h5
 ·intro k r s h1 h2 h3
  rw[hf k h1 h2] at h3;cases h3
section
variable {E:Env} {call:CallV} {nt:Nat} {ops:Array Oper} {FA:Nat→Fr} {HA:Nat→IH} {B:Nat} {w0:World} {m0:Mp} {wi:World}
theorem beforeB_ready (O:Ordered ops) {listed:Array Bool} (hcl : ∀j i,listed[j]?=some true→beforeB ops.toList j i=true→listed[i]?=some true) {i:Nat} {o:Oper} (ho:ops[i]?=some o)
  (hall : ∀e∈o.after,Region.binds .any e=true→listed[e.on]?=some true) : ∀k,beforeB ops.toList i k=true→listed[k]?=some true:=by
 intro k hb
 have ho':ops.toList[i]?=some o:=by simpa using ho
 obtain⟨e,he,hbe,h⟩:=(beforeB_iff ho' (O.edge i o ho)).1 hb
 have h1:=hall e he hbe
 rcases h with h|h
 ·rw[←h];exact h1
 ·exact hcl _ _ h1 h
theorem open_go (hcall:CallSim E.P call) (T:Text E call nt ops FA HA) (O:Ordered ops) (S:Steady E ops FA HA) (b:Frame) (k:List Item) (ds:List Deferred) (cs:List Frame) :
  ∀(fuel t:Nat) (listed:Array Bool) (U:List Nat) (m:Mp) (w:World) (tmps:Array Value),listed.size=ops.size→(∀j,j∈U↔j<ops.size∧listed[j]?≠some true)→U.Nodup→U.length≤fuel →
   OInv nt ops FA HA B w0 m0 wi (fun j=>listed[j]?=some true) m w tmps →
   ∃m' w' tmps',Steps E.P (lone (on b tmps (.inRegion ops (Region.linearise.go .any ops fuel t listed []) :: k) ds) cs w) (lone (on b tmps' (.inRegion ops [] :: k) ds) cs w')∧OInv nt ops FA HA B w0 m0 wi (fun j=>j<ops.size) m' w' tmps'
 | 0,t,listed,U,m,w,tmps,hsz,hU,hnd,hlen,I=>by
  have hU0:U = []:=List.eq_nil_of_length_eq_zero (by omega)
  subst hU0
  have e:(fun j=>listed[j]?=some true)=fun j=>j<ops.size:=by
   funext j;apply propext
   constructor
   ·intro h
    have:=(Array.getElem?_eq_some_iff.1 h).1
    omega
   ·intro h
    apply Classical.byContradiction;intro hn
    exact absurd ((hU j).2 ⟨h,hn⟩) (by simp)
  rw[e] at I
  exact⟨m,w,tmps,by simp only[Region.linearise.go,List.reverse_nil];exact .refl _ _,I⟩
 | fuel+1,t,listed,U,m,w,tmps,hsz,hU,hnd,hlen,I=>by
  have get : ∀{j},j<ops.size → ∀d,(listed.getD j d=true↔listed[j]?=some true):=by
   intro j hj d
   rw[Array.getD_eq_getD_getElem?,Array.getElem?_eq_getElem (by omega)]
   simp
  have mem_ready : ∀i,i∈Region.ready .any ops listed↔i<ops.size∧listed[i]?≠some true ∧ ∃o,ops[i]?=some o ∧ ∀e∈o.after,Region.binds .any e=true→listed[e.on]?=some true:=by
   intro i
   unfold Region.ready
   rw[List.mem_filter,List.mem_range]
   constructor
   ·rintro⟨h1,h2⟩
    simp only[Bool.and_eq_true,Bool.not_eq_true'] at h2
    refine⟨h1,fun h=>?_,?_⟩
    ·have:=(get h1 true).2 h;rw[this] at h2;cases h2.1
    ·cases ho:ops[i]? with
     | none=>rw[ho] at h2;simp at h2
     | some o =>
      refine⟨o,rfl,fun e he hb=>?_⟩
      rw[ho] at h2
      simp only[Option.map_some,Option.getD_some,Array.all_eq_true',Bool.or_eq_true,Bool.not_eq_true'] at h2
      rcases h2.2 e he with h3|h3
      ·rw[hb] at h3;cases h3
      ·have hlt:=O.edge i o ho e he hb
       exact(get (by omega) false).1 h3
   ·rintro⟨h1,h2,o,ho,h3⟩
    refine⟨h1,?_⟩
    simp only[Bool.and_eq_true,Bool.not_eq_true']
    constructor
    ·cases hg:listed.getD i true with
     | false=>rfl
     | true=>exact absurd ((get h1 true).1 hg) h2
    ·rw[ho]
     simp only[Option.map_some,Option.getD_some,Array.all_eq_true',Bool.or_eq_true,Bool.not_eq_true']
     intro e he
     cases hb:Region.binds .any e with
     | false=>exact .inl rfl
     | true =>
      have hlt:=O.edge i o ho e he hb
      exact .inr ((get (by omega) false).2 (h3 e he hb))
  rw[show Region.linearise.go .any ops (fuel+1) t listed []=(match (Region.ready .any ops listed)[t % (Region.ready .any ops listed).length]? with
   | some i=>Region.linearise.go .any ops fuel (t / (Region.ready .any ops listed).length) (listed.setIfInBounds i true) [i]
   | none => [].reverse) from rfl]
  cases hi:(Region.ready .any ops listed)[t % (Region.ready .any ops listed).length]? with
  | none =>
   have hnil:Region.ready .any ops listed = []:=by
    cases hr:Region.ready .any ops listed with
    | nil=>rfl
    | cons x xs =>
     rw[hr] at hi
     have hlt:t % (x :: xs).length<(x :: xs).length:=Nat.mod_lt _ (by simp)
     rw[List.getElem?_eq_getElem hlt] at hi;cases hi
   have hall : ∀j,j<ops.size→listed[j]?=some true:=by
    intro j
    induction j using Nat.strongRecOn with
    | ind j ih =>
     intro hj
     apply Classical.byContradiction;intro hn
     have:j∈Region.ready .any ops listed:=(mem_ready j).2 ⟨hj,hn,ops[j],Array.getElem?_eq_getElem hj,fun e he hb=>by
      have hlt:=O.edge j _ (Array.getElem?_eq_getElem hj) e he hb
      exact ih e.on hlt (by omega)⟩
     rw[hnil] at this;cases this
   have e:(fun j=>listed[j]?=some true)=fun j=>j<ops.size:=by
    funext j;apply propext
    constructor
    ·intro h
     have:=(Array.getElem?_eq_some_iff.1 h).1
     omega
    ·exact hall j
   rw[e] at I
   exact⟨m,w,tmps,.refl _ _,I⟩
  | some i =>
   simp only
   obtain⟨h1,h2,o,ho,h3⟩:=(mem_ready i).1 (List.mem_of_getElem? hi)
   rw[linearise_go_acc,List.reverse_singleton,List.singleton_append]
   obtain⟨m1,w1,tmps1,hS1,I1⟩:=I.op hcall T O S ho h2 (beforeB_ready O I.closed ho h3) b (Region.linearise.go .any ops fuel (t / (Region.ready .any ops listed).length) (listed.setIfInBounds i true) []) k ds cs
   have hset : ∀j,(listed.setIfInBounds i true)[j]?=some true↔listed[j]?=some true∨j=i:=by
    intro j
    rw[Array.getElem?_setIfInBounds]
    by_cases hji:i=j
    ·subst hji;simp[hsz,h1]
    ·rw[if_neg hji]
     constructor
     ·exact .inl
     ·rintro(h|h)
      ·exact h
      ·exact absurd h.symm hji
   have e:(fun j=>listed[j]?=some true∨j=i)=fun j=>(listed.setIfInBounds i true)[j]?=some true:=by
    funext j;exact propext (hset j).symm
   rw[e] at I1
   have hiU:i∈U:=(hU i).2 ⟨h1,h2⟩
   obtain⟨m',w',tmps',hS,I'⟩:=open_go hcall T O S b k ds cs fuel (t / (Region.ready .any ops listed).length) (listed.setIfInBounds i true) (U.erase i) m1 w1 tmps1 (by simpa using hsz)
    (fun j=>by
     rw[hnd.mem_erase_iff,hU j]
     constructor
     ·rintro⟨a,b,c⟩
      refine⟨b,fun h=>?_⟩
      rcases(hset j).1 h with h|h
      ·exact c h
      ·exact a h
     ·rintro⟨a,b⟩
      exact⟨fun h=>b ((hset j).2 (.inr h)),a,fun h=>b ((hset j).2 (.inl h))⟩)
    (hnd.erase i) (by rw[List.length_erase_of_mem hiU];omega) I1
   exact⟨m',w',tmps',hS1.trans hS,I'⟩
end
theorem sim_drawn {E:Env} {call:CallV} (hcall:CallSim E.P call) (hmono:CallMono call) (hmix:E.P.follows .mixedOrders=true) {nt:Nat} {ops:Array Oper} {fr fr':Fr} {h h':IH} (hr:runDrawn E call nt ops.toList fr h=some (fr',h'))
  {B:Nat} {w0:World} {m:Mp} {w:World} (R:Rel B w0 m h w) {tmps:Array Value} (hf:FrRel m fr tmps) (hn:nt≤tmps.size) (hfr:Fresh m h.n h'.n) (b:Frame) (k:List Item) (ds:List Deferred) (cs:List Frame) (id:Nat) :
  h.n≤h'.n ∧ ∃m' w' tmps',Steps E.P (lone (on b tmps (.code (.region id ops true) :: k) ds) cs w) (lone (on b tmps' k ds) cs w')∧FrRel m' fr' tmps'∧nt≤tmps'.size∧Rel B w0 m' h' w'∧Step m h w m' h' w':=by
 unfold runDrawn at hr
 cases htr:trace E call nt ops.toList ops.toList fr h with
 | none=>rw[htr] at hr;cases hr
 | some tr =>
  rw[htr] at hr
  simp only[cond_eq_ite,Bool.and_eq_true] at hr
  by_cases hc:orderOK ops.toList=true∧steady E.P ops.toList tr (plan ops.toList)=true
  ·rw[if_pos hc] at hr
   have O:=orderOK_spec hc.1
   obtain⟨hlen,h0,hstep⟩:=trace_spec ops.toList fr h tr htr
   have hlen':tr.length=ops.size+1:=by simpa using hlen
   let FA:Nat→Fr:=fun i=>((tr[i]?).map (·.1)).getD fr
   let HA:Nat→IH:=fun i=>((tr[i]?).map (·.2)).getD h
   have htrA : ∀i,i≤ops.size→tr[i]?=some (FA i,HA i):=by
    intro i hi
    have:tr[i]?=some tr[i]:=List.getElem?_eq_getElem (by omega)
    simp only[FA,HA,this,Option.map_some,Option.getD_some]
   have T:Text E call nt ops FA HA:=by
    refine⟨hmono,fun i o ho=>?_⟩
    obtain⟨fr1,h1,fr2,h2,e1,e2,e3⟩:=hstep i o (by simpa using ho)
    have hin:i<ops.size:=(Array.getElem?_eq_some_iff.1 ho).1
    rw[htrA i (by omega)] at e1;rw[htrA (i+1) (by omega)] at e2
    cases e1;cases e2;exact e3
   have S:=steady_spec (E:=E) hc.2 htrA
   have e0:FA 0=fr∧HA 0=h:=by
    have:=htrA 0 (Nat.zero_le _)
    rw[h0] at this;exact⟨(Prod.mk.inj (Option.some.inj this)).1.symm,(Prod.mk.inj (Option.some.inj this)).2.symm⟩
   have en:FA ops.size=fr'∧HA ops.size=h':=by
    have:=htrA ops.size (Nat.le_refl _)
    simp only[Array.length_toList] at hr
    rw[hr] at this;exact⟨(Prod.mk.inj (Option.some.inj this)).1.symm,(Prod.mk.inj (Option.some.inj this)).2.symm⟩
   have R1:Rel B w0 m (HA 0) { w with drawn:=w.drawn+1 }:=by rw[e0.2];exact R.congr rfl (below_drew R.below _)
   have hmono':h.n≤h'.n:=by have:=T.nle ops.size 0 (Nat.zero_le _) (Nat.le_refl _);rw[e0.2,en.2] at this;exact this
   have H0:=HInv.first T R1 (by rw[e0.2,en.2];exact hfr)
   have I0:OInv nt ops FA HA B w0 m { w with drawn:=w.drawn+1 } (fun j:Nat=>(Array.replicate ops.size false)[j]?=some true) m { w with drawn:=w.drawn+1 } tmps:=by
    have e:(fun j:Nat=>(Array.replicate ops.size false)[j]?=some true)=fun _=>False:=by
     funext j;apply propext
     rw[Array.getElem?_replicate]
     constructor
     ·intro h;split at h
      ·cases h
      ·cases h
     ·exact False.elim
    rw[e]
    refine⟨fun _ _ h=>h.elim,fun t=>⟨0,Nat.zero_le _,fun j o _ _=>by simp,fun v hv=>by rw[e0.1] at hv;exact hf t v hv⟩,?_,hn⟩
    exact H0.norm T _ 0 (Nat.le_refl _) (Nat.zero_le _) (fun j _=>by simp)
   obtain⟨m',w',tmps',hS,I'⟩:=open_go hcall T O S b k ds cs ops.size (w.tape w.drawn (.order b.fn id)) (Array.replicate ops.size false) (List.range ops.size) m { w with drawn:=w.drawn+1 } tmps (by simp)
    (fun j=>by
     rw[List.mem_range,Array.getElem?_replicate]
     constructor
     ·intro h;refine⟨h,?_⟩;rw[if_pos h];simp
     ·exact fun h=>h.1)
    List.nodup_range (by simp) I0
   obtain⟨a,h1,h2,h3,H⟩:=I'.chain
   have ha:a=ops.size:=by
    rcases h3 with h|h
    ·exact h
    ·have hlt:a<ops.size:=by
      obtain⟨o,ho,_⟩:=h
      exact(Array.getElem?_eq_some_iff.1 ho).1
     have:=(h2 a h).1 hlt;omega
   subst ha
   refine⟨hmono',m',w',tmps',?_,?_,I'.size,by rw[←en.2];exact H.rel,?_⟩
   ·refine .head st_region_draw ?_
    have:Region.schedule (E.P.follows .mixedOrders) ops (w.tape w.drawn (.order b.fn id))=Region.linearise.go .any ops ops.size (w.tape w.drawn (.order b.fn id)) (Array.replicate ops.size false) []:=by
     rw[hmix];simp only[Region.schedule,Bool.true_or,if_true,Region.linearise]
    rw[this]
    exact hS.trans (.one st_region_end)
   ·intro t v hv
    obtain⟨p,hp,hw,hrel⟩:=I'.slots t
    have:fget (FA ops.size) t=fget (FA p) t:=T.keeps ops.size hp (Nat.le_refl _) fun j o h4 h5 h6 h7=>by
     have:=(hw j o h6 h7).1 h5;omega
    rw[←en.1,this] at hv
    exact hrel v hv
   ·refine Step.congr (w1:={ w with drawn:=w.drawn+1 }) ?_ rfl
    rw[←e0.2,←en.2]
    exact⟨H.le,H.new,T.nle _ _ (Nat.zero_le _) (Nat.le_refl _),H.base,H.frame,H.idle,H.size,H.img,H.idleF⟩
  ·rw[if_neg hc] at hr;cases hr
end Go.Id

/-! The ideal machine: code. First: numbers only grow; memory that no ideal object stands for. -/
namespace Go.Id
open Go Go.RowKit
theorem trace_n {E:Env} {call:CallV} (hc:CallMono call) {nt:Nat} {ops:List Oper} : ∀(l:List Oper) (fr:Fr) (h:IH) (tr:List (Fr×IH)),trace E call nt ops l fr h=some tr → ∀x∈tr,h.n≤x.2.n
 | [],fr,h,tr,ht=>by simp only[trace] at ht;cases ht;simp
 | o :: l,fr,h,tr,ht=>by
  rw[trace] at ht
  split at ht
  ·rename_i fr' h' hs
   obtain⟨tr',h1,rfl⟩:=Option.map_eq_some_iff.1 ht
   intro x hx
   rcases List.mem_cons.1 hx with rfl|hx
   ·exact Nat.le_refl _
   ·exact Nat.le_trans (stepOp_n hc hs) (trace_n hc l fr' h' tr' h1 x hx)
  ·cases ht
theorem runDrawn_n {E:Env} {call:CallV} (hc:CallMono call) {nt:Nat} {ops:List Oper} {fr fr':Fr} {h h':IH} (hr:runDrawn E call nt ops fr h=some (fr',h')):h.n≤h'.n:=by
 unfold runDrawn at hr
 cases ht:trace E call nt ops ops fr h with
 | none=>rw[ht] at hr;cases hr
 | some tr =>
  rw[ht] at hr
  simp only[cond_eq_ite] at hr
  split at hr
  ·exact trace_n hc _ _ _ _ ht _ (List.mem_of_getElem? hr)
  ·cases hr
theorem loopN_n {b:Fr→IH→Out} (hb : ∀fr h e fr' h',b fr h=some (e,fr',h')→h.n≤h'.n) : ∀(n:Nat) (fr:Fr) (h:IH) (e:IExit) (fr':Fr) (h':IH),loopN b n fr h=some (e,fr',h')→h.n≤h'.n
 | 0,fr,h,e,fr',h',hr=>by simp[loopN] at hr
 | n+1,fr,h,e,fr',h',hr=>by
  rw[loopN] at hr
  split at hr
  ·rename_i fr1 h1 hb1;exact Nat.le_trans (hb _ _ _ _ _ hb1) (loopN_n hb n _ _ _ _ _ hr)
  ·rename_i hb1;cases hr;exact hb _ _ _ _ _ hb1
  ·rename_i hb1;cases hr;exact hb _ _ _ _ _ hb1
  ·cases hr
theorem rangeFn_inv {E:Env} {call:CallV} {fn:FuncId} {nt:Nat} {rd:Option Nat} {f:Operand} {ps:List Nat} {a b:Code} {fr fr':Fr} {h h':IH} {e:IExit} (hr:rangeFn E call fn nt rd f ps a b fr h=some (e,fr',h')) :
  roundOK h rd=true∧fr'=fr ∧ ∃fv v h1 r,opd fr f=some fv∧call fv [.func (.yield (2*h.n)) #[] #[]] (h.new (.loop { state:=.ready,pending:=none,fn,nt,fr,params:=ps,assign:=a,body:=b }))=some (v,h1) ∧
   loopOf h1 h.n=some r∧r.state≠.busy∧exitOf r.pending=some e∧h' = { h1 with ext:=h1.ext.set h.n .dead }:=by
 unfold rangeFn at hr
 simp only[cond_eq_ite] at hr
 by_cases hro:roundOK h rd=true
 ·simp only[hro,if_true] at hr
  split at hr
  ·cases hr
  ·rename_i fv hfv
   split at hr
   ·cases hr
   ·rename_i v h1 hcall
    split at hr
    ·cases hr
    ·rename_i r hl
     split at hr
     ·cases hr
     ·rename_i hb
      split at hr
      ·cases hr
      ·rename_i e' he
       cases hr
       exact⟨hro,rfl,fv,v,h1,r,hfv,hcall,hl,fun h=>hb (by rw[h];rfl),he,rfl⟩
 ·simp[hro] at hr
theorem rangeFn_n {E:Env} {call:CallV} (hc:CallMono call) {fn:FuncId} {nt:Nat} {rd:Option Nat} {f:Operand} {ps:List Nat} {a b:Code} {fr fr':Fr} {h h':IH} {e:IExit} (hr:rangeFn E call fn nt rd f ps a b fr h=some (e,fr',h')):h.n≤h'.n:=by
 obtain⟨_,_,fv,v,h1,r,_,h2,_,_,_,rfl⟩:=rangeFn_inv hr
 have:=hc _ _ _ _ _ h2
 have e : ∀o,(h.new o).n=h.n+1:=fun _=>rfl
 rw[e] at this
 show h.n≤h1.n
 omega
theorem evC_n {E:Env} {call:CallV} (hc:CallMono call) {fn:FuncId} {nt:Nat} {rd:Option Nat} {n:Nat} : ∀(c:Code) (fr:Fr) (h:IH) (e:IExit) (fr':Fr) (h':IH),evC E call fn nt rd n c fr h=some (e,fr',h')→h.n≤h'.n:=by
 intro c
 induction c with
 | skip=>intro fr h e fr' h' hr;simp only[evC] at hr;cases hr;exact Nat.le_refl _
 | label l=>intro fr h e fr' h' hr;simp only[evC] at hr;cases hr;exact Nat.le_refl _
 | region id ops draw =>
  intro fr h e fr' h' hr
  simp only[evC] at hr
  split at hr
  ·rename_i fr1 h1 hx
   cases hr
   cases draw with
   | true=>exact runDrawn_n hc hx
   | false=>exact runOps_n hc _ _ _ _ _ hx
  ·cases hr
 | seq a b iha ihb =>
  intro fr h e fr' h' hr
  simp only[evC] at hr
  split at hr
  ·rename_i fr1 h1 hx;exact Nat.le_trans (iha _ _ _ _ _ hx) (ihb _ _ _ _ _ hr)
  ·rename_i hx;cases hr;exact iha _ _ _ _ _ hx
  ·rename_i hx;cases hr;exact iha _ _ _ _ _ hx
  ·cases hr
 | cond x a b iha ihb =>
  intro fr h e fr' h' hr
  simp only[evC] at hr
  split at hr
  ·exact iha _ _ _ _ _ hr
  ·exact ihb _ _ _ _ _ hr
  ·cases hr
 | block id b ih =>
  intro fr h e fr' h' hr
  simp only[evC,cond_eq_ite] at hr
  split at hr
  ·rename_i hx
   split at hr<;>(cases hr;exact ih _ _ _ _ _ hx)
  ·rename_i hx;cases hr;exact ih _ _ _ _ _ hx
  ·rename_i hx;cases hr;exact ih _ _ _ _ _ hx
  ·cases hr
 | loop b ih=>intro fr h e fr' h' hr;simp only[evC] at hr;exact loopN_n (fun fr h e fr' h' hx=>ih fr h e fr' h' hx) n _ _ _ _ _ hr
 | scope b ih=>intro fr h e fr' h' hr;simp only[evC] at hr;exact ih _ _ _ _ _ hr
 | rangeFunc f ps a b _ _=>intro fr h e fr' h' hr;simp only[evC] at hr;exact rangeFn_n hc hr
 | exit i=>intro fr h e fr' h' hr;simp only[evC] at hr;cases hr;exact Nat.le_refl _
 | ret=>intro fr h e fr' h' hr;simp only[evC] at hr;cases hr;exact Nat.le_refl _
 | goto i=>intro fr h e fr' h' hr;simp only[evC] at hr;cases hr
 | refuse i=>intro fr h e fr' h' hr;simp only[evC] at hr;cases hr
theorem Rel.keep {B:Nat} {w0:World} {m:Mp} {h:IH} {w w':World} (R:Rel B w0 m h w) (hb:Below B w0 w') (hs:w.heap.size≤w'.heap.size)
  (hk : ∀r,(r<B ∨ ∃k s,k<h.n∧m (2*k)=some (r,s))→w'.heap[r]?=w.heap[r]?):Rel B w0 m h w':=by
 refine⟨hb,Nat.le_trans R.size hs,fun b cs hx=>?_,R.odd,fun k r s hm=>⟨(R.even k r s hm).1,Nat.lt_of_lt_of_le (R.even k r s hm).2 hs⟩,R.dom,fun k o r s ho hm=>?_,R.own,R.famdom,R.fam,R.long,R.whole⟩
 ·obtain⟨r0,s0,m0,a,c,el,fz,d,e⟩:=R.base b cs hx
  exact⟨r0,s0,m0,a,c,el,fz,by rw[hk r0 (.inl a)];exact d,e⟩
 ·have hkn:k<h.n:=by
   rcases Nat.lt_or_ge k h.n with e|e
   ·exact e
   ·rw[R.dom k e] at ho;cases ho
  exact(R.obj k o r s ho hm).mono (Mp.le_refl m) (hk r (.inr ⟨k,s,hkn,hm⟩)) rfl
theorem Rel.ghost {B:Nat} {w0:World} {m:Mp} {h:IH} {w:World} (R:Rel B w0 m h w) (O:Obj):Rel B w0 m h (w.alloc O)∧Step m h w m h (w.alloc O):=by
 have hold : ∀r,r<w.heap.size→(w.alloc O).heap[r]?=w.heap[r]?:=fun r hr=>by rw[heap_alloc,if_neg (by omega)]
 refine⟨R.keep (below_alloc R.below R.size O) (by rw[size_alloc];omega) ?_,⟨Mp.le_refl m,fun b hb=>absurd rfl hb,Nat.le_refl _,rfl,fun r hr _=>hold r hr,fun _ _ _=>rfl,by rw[size_alloc];omega,fun k r s a b=>by omega,fun _ _ _ h=>h⟩⟩
 rintro r (hr|⟨k,s,_,hm⟩)
 ·exact hold r (Nat.lt_of_lt_of_le hr R.size)
 ·exact hold r (R.even k r s hm).2
def markOf (r:Nat):Deferred:={ target:=.collected r,args:=#[] }
def DefOK (z:Nat) (m:Mp) (h:IH) (w:World) (ds:List Deferred):Prop :=
 ∃rs:List Nat,ds=rs.map markOf∧rs.Nodup ∧ ∀r∈rs,z≤r∧w.heap[r]?=some (.deferred (some [])) ∧ ∀k s,k<h.n→m (2*k)≠some (r,s)
theorem heap_lt {w:World} {r:Nat} {o:Obj} (h:w.heap[r]?=some o):r<w.heap.size:=(Array.getElem?_eq_some_iff.1 h).1
theorem DefOK.step {z:Nat} {m m':Mp} {h h':IH} {w w':World} {ds:List Deferred} (d:DefOK z m h w ds) (s:Step m h w m' h' w'):DefOK z m' h' w' ds:=by
 obtain⟨rs,h1,h2,h3⟩:=d
 refine⟨rs,h1,h2,fun r hr=>?_⟩
 obtain⟨a,b,c⟩:=h3 r hr
 refine⟨a,by rw[s.frame r (heap_lt b) c];exact b,fun k x hk hm=>?_⟩
 by_cases hkn:k<h.n
 ·rw[s.old hkn] at hm;exact c k x hkn hm
 ·rcases s.img k r x (by omega) hk hm with e|⟨k0,s0,e1,e2⟩
  ·have:=heap_lt b;omega
  ·exact c k0 s0 e1 e2
theorem DefOK.nil (z:Nat) (m:Mp) (h:IH) (w:World):DefOK z m h w []:=⟨[],rfl,List.nodup_nil,by simp⟩
theorem DefOK.push {B:Nat} {w0:World} {z:Nat} {m:Mp} {h:IH} {w:World} {ds:List Deferred} (d:DefOK z m h w ds) (R:Rel B w0 m h w) (hz:z≤w.heap.size):DefOK z m h (w.alloc (.deferred (some []))) (markOf w.heap.size :: ds):=by
 obtain⟨rs,h1,h2,h3⟩:=d.step (R.ghost (.deferred (some []))).2
 refine⟨w.heap.size :: rs,by rw[h1];rfl,List.nodup_cons.2 ⟨fun hm=>?_,h2⟩,fun r hr=>?_⟩
 ·obtain⟨rs',e1,e2,e3⟩:=d
  have:rs'=rs:=by
   have e:=e1.symm.trans h1
   have inj : ∀a b,markOf a=markOf b→a=b:=by intro a b h;simp[markOf] at h;exact h
   exact List.map_inj_right (fun a b=>inj a b) |>.1 e
  subst this
  have:=heap_lt (e3 _ hm).2.1
  omega
 ·rcases List.mem_cons.1 hr with rfl|hr
  ·refine⟨hz,by rw[heap_alloc,if_pos rfl],fun k s _ hm=>?_⟩
   have:=(R.even k _ s hm).2;omega
  ·exact h3 r hr
end Go.Id

/-! The ideal machine: code, on the model's machine. -/
namespace Go.Id
open Go Go.RowKit
def LandsAt:IExit→List Item→List Item→Prop
 | .normal,k,k'=>k'=k
 | .exit i,k,k' => ∃k1,k'=.code (.exit i) :: k1∧exitTo i k1=exitTo i k
 | .ret,_,k' => ∃k1,k'=.code .ret :: k1
def FrameOK (b:Frame) (rd:Option Nat) (m:Mp):Prop:=(b.roundOf=none∧rd=none) ∨ ∃l r s,rd=some l∧b.roundOf=some r∧m (2*l)=some (r,s)
theorem FrameOK.mono {b:Frame} {rd:Option Nat} {m m':Mp} (h:FrameOK b rd m) (hm:m.le m'):FrameOK b rd m':=by
 rcases h with h|⟨l,r,s,h1,h2,h3⟩
 ·exact .inl h
 ·exact .inr ⟨l,r,s,h1,h2,(hm _ _ h3).1⟩
def Ran (E:Env) (b:Frame) (B:Nat) (w0:World) (z:Nat) (nt:Nat) (cs:List Frame) (m:Mp) (h:IH) (w:World) (k0:List Item) (M:Machine) (e:IExit) (fr':Fr) (h':IH):Prop :=
 ∃m' w' tmps' ds' k',Steps E.P M (lone (on b tmps' k' ds') cs w')∧LandsAt e k0 k'∧FrRel m' fr' tmps'∧nt≤tmps'.size∧Rel B w0 m' h' w'∧Step m h w m' h' w'∧DefOK z m' h' w' ds'
def SimCode (E:Env) (run:Fr→IH→Out) (b:Frame) (rd:Option Nat) (B:Nat) (w0:World) (z nt:Nat) (cs:List Frame) (c:Code):Prop :=
 ∀(fr:Fr) (h:IH) (e:IExit) (fr':Fr) (h':IH),run fr h=some (e,fr',h') → ∀(m:Mp) (w:World) (tmps:Array Value) (k:List Item) (ds:List Deferred),
  Rel B w0 m h w→FrRel m fr tmps→nt≤tmps.size→Fresh m h.n h'.n→FrameOK b rd m→DefOK z m h w ds→z≤w.heap.size →
  Ran E b B w0 z nt cs m h w k (lone (on b tmps (.code c :: k) ds) cs w) e fr' h'
theorem Ran.first {E:Env} {b:Frame} {B:Nat} {w0:World} {z:Nat} {nt:Nat} {cs:List Frame} {m:Mp} {h:IH} {w:World} {k0:List Item} {M M1:Machine} {e:IExit} {fr':Fr} {h':IH}
  (hs:Steps E.P M M1) (r:Ran E b B w0 z nt cs m h w k0 M1 e fr' h'):Ran E b B w0 z nt cs m h w k0 M e fr' h':=by
 obtain⟨m',w',tmps',ds',k',h1,h2⟩:=r
 exact⟨m',w',tmps',ds',k',hs.trans h1,h2⟩
theorem Ran.step {E:Env} {b:Frame} {B:Nat} {w0:World} {z:Nat} {nt:Nat} {cs:List Frame} {m m1:Mp} {h h1:IH} {w w1:World} {k0:List Item} {M:Machine} {e:IExit} {fr':Fr} {h':IH}
  (s:Step m h w m1 h1 w1) (r:Ran E b B w0 z nt cs m1 h1 w1 k0 M e fr' h'):Ran E b B w0 z nt cs m h w k0 M e fr' h':=by
 obtain⟨m',w',tmps',ds',k',a1,a2,a3,a4,a5,a6,a7⟩:=r
 exact⟨m',w',tmps',ds',k',a1,a2,a3,a4,a5,s.trans a6,a7⟩
section
variable {E:Env} {call:CallV} {b:Frame} {rd:Option Nat} {B:Nat} {w0:World} {z nt:Nat} {cs:List Frame}
theorem LandsAt.out {e:IExit} {k k1 k':List Item} (h:LandsAt e k1 k') (hn:e≠.normal) (hx : ∀i,e=.exit i→exitTo i k1=exitTo i k):LandsAt e k k':=by
 cases e with
 | normal=>exact absurd rfl hn
 | exit i=>obtain⟨k2,a,c⟩:=h;exact⟨k2,a,c.trans (hx i rfl)⟩
 | ret=>exact h
theorem Ran.out {m:Mp} {h:IH} {w:World} {k k1:List Item} {M:Machine} {e:IExit} {fr':Fr} {h':IH} (r:Ran E b B w0 z nt cs m h w k1 M e fr' h') (hn:e≠.normal) (hx : ∀i,e=.exit i→exitTo i k1=exitTo i k) :
  Ran E b B w0 z nt cs m h w k M e fr' h':=by
 obtain⟨m',w',tmps',ds',k',a1,a2,a3⟩:=r
 exact⟨m',w',tmps',ds',k',a1,a2.out hn hx,a3⟩
theorem sim_loop {run:Fr→IH→Out} {c:Code} (hmono : ∀fr h e fr' h',run fr h=some (e,fr',h')→h.n≤h'.n) (ih:SimCode E run b rd B w0 z nt cs c) : ∀(n:Nat) (fr:Fr) (h:IH) (e:IExit) (fr':Fr) (h':IH),loopN run n fr h=some (e,fr',h') →
  ∀(m:Mp) (w:World) (tmps:Array Value) (k:List Item) (ds:List Deferred),Rel B w0 m h w→FrRel m fr tmps→nt≤tmps.size→Fresh m h.n h'.n→FrameOK b rd m→DefOK z m h w ds→z≤w.heap.size →
   Ran E b B w0 z nt cs m h w k (lone (on b tmps (.code c :: .inLoop c :: k) ds) cs w) e fr' h'
 | 0,fr,h,e,fr',h',hr,m,w,tmps,k,ds,_,_,_,_,_,_,_=>by simp[loopN] at hr
 | n+1,fr,h,e,fr',h',hr,m,w,tmps,k,ds,R,hf,ht,hfr,hfo,hd,hz=>by
  rw[loopN] at hr
  split at hr
  ·rename_i fr1 h1 hx
   have n1:=hmono _ _ _ _ _ hx
   have n2:=loopN_n hmono n _ _ _ _ _ hr
   obtain⟨m1,w1,tmps1,ds1,k1,a1,a2,a3,a4,a5,a6,a7⟩:=ih fr h .normal fr1 h1 hx m w tmps (.inLoop c :: k) ds R hf ht (hfr.sub (Nat.le_refl _) n2) hfo hd hz
   obtain rfl:k1=_:=a2
   refine .first (a1.trans (.one st_inLoop)) (.step a6 ?_)
   exact sim_loop hmono ih n fr1 h1 e fr' h' hr m1 w1 tmps1 k ds1 a5 a3 a4 (a6.fresh hfr) (hfo.mono a6.le) a7 (Nat.le_trans hz a6.size)
  ·rename_i i fr1 h1 hx
   cases hr
   exact(ih fr h _ _ _ hx m w tmps (.inLoop c :: k) ds R hf ht hfr hfo hd hz).out (by simp) (fun i _=>rfl)
  ·rename_i fr1 h1 hx
   cases hr
   exact(ih fr h _ _ _ hx m w tmps (.inLoop c :: k) ds R hf ht hfr hfo hd hz).out (by simp) (fun i _=>rfl)
  ·cases hr
theorem FrRel.head {m:Mp} {fr:Fr} {tmps:Array Value} (hf:FrRel m fr tmps) (fn:FuncId) (id:Nat):FrRel m (headFr E fn id fr) tmps:=by
 unfold headFr
 split
 ·intro t v hv
  rw[fget_keepOnly] at hv
  split at hv
  ·exact hf t v hv
  ·cases hv
 ·exact hf
theorem loopOf_get {h:IH} {l:Nat} {r:ILoop} (hl:loopOf h l=some r):h.ext.get l=some (.loop r):=by
 unfold loopOf at hl
 split at hl
 ·rename_i r' hg;cases hl;exact hg
 ·cases hl
theorem LoopRel.jump {m:Mp} {l:ILoop} {l':Loop} (h:LoopRel m l l') {e:IExit} (he:exitOf l.pending=some e):(e=.normal∧l'.pending=none)∨(∃i,e=.exit i∧l'.pending=some (.exit i))∨(e=.ret∧l'.pending=some .ret):=by
 rw[h.pending]
 unfold exitOf at he
 split at he<;>first|(cases he;done)|skip
 ·rename_i hp;cases he;exact .inl ⟨rfl,hp⟩
 ·rename_i i hp;cases he;exact .inr (.inl ⟨i,rfl,hp⟩)
 ·rename_i hp;cases he;exact .inr (.inr ⟨rfl,hp⟩)
theorem sim_rangeFn (hcall:CallSim E.P call) (hmono:CallMono call) {f:Operand} {ps:Array Tmp} {a c:Code}:SimCode E (fun fr h=>rangeFn E call b.fn nt rd f ps.toList a c fr h) b rd B w0 z nt cs (.rangeFunc f ps a c):=by
 intro fr h e fr' h' hr m w tmps k ds R hf ht hfr hfo hd hz
 obtain⟨hro,rfl,fv,v,h1,r,hfv,hc,hl,hb,he,rfl⟩:=rangeFn_inv hr
 have hn1:(h.new (.loop { state:=.ready,pending:=none,fn:=b.fn,nt,fr:=fr',params:=ps.toList,assign:=a,body:=c })).n≤h1.n:=hmono _ _ _ _ _ hc
 have hnew:(h.new (.loop { state:=.ready,pending:=none,fn:=b.fn,nt,fr:=fr',params:=ps.toList,assign:=a,body:=c })).n=h.n+1:=rfl
 have hfr':Fresh m h.n h1.n:=hfr
 have laid : ∃wm mark dfs,(Instr.enterLoop b.fn tmps ps a c b.roundOf).run E.P w=.ok (wm.heap.size,mark) (wm.alloc (.loop { state:=.ready,pending:=none,fn:=b.fn,tmps,params:=ps,assign:=a,body:=c,defers:=dfs })) ∧
   Rel B w0 m h wm∧Step m h w m h wm∧DefOK z m h wm (mark ++ ds):=by
  rcases hfo with⟨h2,rfl⟩|⟨l,lr,s,rfl,h3,h4⟩
  ·have g:=R.ghost (.deferred (some []))
   refine⟨w.alloc (.deferred (some [])),[markOf w.heap.size],w.heap.size,?_,g.1,g.2,hd.push R hz⟩
   rw[h2,run_enterLoop_outer,size_alloc];rfl
  ·simp only[roundOK,Option.isSome_iff_exists] at hro
   obtain⟨rl,hrl⟩:=hro
   have hobj:=R.obj _ _ _ _ (loopOf_get hrl) h4
   obtain⟨rfl,l',hl',hrel⟩:=hobj
   refine⟨w,[],l'.defers,?_,R,Step.refl _ _ _,hd⟩
   rw[h3]
   simp only[Instr.enterLoop,Sem.run_bind,run_getLoop hl',Result.andThen_ok,Sem.run_pure,run_newObj_alloc]
 obtain⟨wm,mark,dfs,hent,Rm,Sm,Dm⟩:=laid
 have hm0:m (2*h.n)=none:=hfr' h.n (Nat.le_refl _) (by omega)
 obtain⟨R1,S1⟩:=Rm.new (.loop { state:=.ready,pending:=none,fn:=b.fn,nt,fr:=fr',params:=ps.toList,assign:=a,body:=c })
  (.loop { state:=.ready,pending:=none,fn:=b.fn,tmps,params:=ps,assign:=a,body:=c,defers:=dfs }) (0,0) hm0
  ⟨rfl,_,by rw[heap_alloc,if_pos rfl],⟨rfl,rfl,rfl,hf,ht,rfl,rfl,rfl⟩⟩ rfl
 have S01:=Sm.trans S1
 have Dm1:=Dm.step S1
 have hρ:=opd_evalT Rm hf
 have hyield:VRel (m.upd (2*h.n) (wm.heap.size,0) (0,0)) (.func (.yield (2*h.n)) #[] #[]) (.func (.yield wm.heap.size) #[] #[]) :=
  VRel.func_mk ⟨0,Mp.upd_self _ _ _ _⟩ (.nil _) (.nil _)
 obtain⟨nx,hinv,halt⟩:=hcall fv _ _ h1 v hc B w0 _ _ (evalT tmps f) #[.func (.yield wm.heap.size) #[] #[]] R1 ((hρ f fv hfv).mono S1.le) (.cons hyield (.nil _)) (S01.fresh hfr')
 obtain⟨fr0,hfr0,hrun⟩:=halt.resolve_left (by rintro⟨_,_,_,_,hint⟩;obtain⟨k,n,e⟩:=hint _ (List.mem_singleton.2 rfl);cases e)
 obtain⟨v',m2,w2,hv,R2,S2,hsteps⟩:=hrun (on b tmps (.inRangeFunc wm.heap.size :: k) (mark ++ ds)) cs
 have hev:(on b tmps (.inRangeFunc wm.heap.size :: k) (mark ++ ds)).eval=evalT tmps:=eval_on _ _ _ _
 have st1:step E.P (lone (on b tmps (.code (.rangeFunc f ps a c) :: k) ds) cs w)=.next (lone fr0 (on b tmps (.inRangeFunc wm.heap.size :: k) (mark ++ ds) :: cs) (wm.alloc (.loop { state:=.ready,pending:=none,fn:=b.fn,tmps,params:=ps,assign:=a,body:=c,defers:=dfs }))):=by
  have hres:(do let d ←resolve (on b tmps (.inRangeFunc wm.heap.size :: k) (mark ++ ds)).eval { callee:=.value f,args:=#[.const (.func (.yield wm.heap.size) #[] #[])],argTypes:=#[] } 0;invoke d.target d.args:Sem Next).run E.P
    (wm.alloc (.loop { state:=.ready,pending:=none,fn:=b.fn,tmps,params:=ps,assign:=a,body:=c,defers:=dfs }))=.ok nx (wm.alloc (.loop { state:=.ready,pending:=none,fn:=b.fn,tmps,params:=ps,assign:=a,body:=c,defers:=dfs })):=by
   rw[hev,show resolve (evalT tmps) { callee:=.value f,args:=#[.const (.func (.yield wm.heap.size) #[] #[])],argTypes:=#[] } 0=Deferred.ofValue (evalT tmps f) #[.func (.yield wm.heap.size) #[] #[]] from by simp[resolve,evalT]]
   exact hinv
  simp only[on] at hres
  refine step_lone_go ?_
  rcases hfr0 with⟨f',as,rfl,rfl⟩|⟨l,f',ts,a',c',rfl,rfl⟩
  ·simp[stepG,stepG.exec,on,Sem.runT_eq,hent,GStep.bare_after,stepG.apply,hres]
  ·simp[stepG,stepG.exec,on,Sem.runT_eq,hent,GStep.bare_after,stepG.apply,hres]
 have hfin:(on b tmps (.inRangeFunc wm.heap.size :: k) (mark ++ ds)).finish v'=on b tmps (.endRangeFunc wm.heap.size :: k) (mark ++ ds):=rfl
 rw[hfin] at hsteps
 have hm2:m2 (2*h.n)=some (wm.heap.size,0):=(S2.le _ _ (Mp.upd_self _ _ _ _)).1
 obtain⟨_,l',hl',hrel⟩:=R2.obj _ _ _ _ (loopOf_get hl) hm2
 have hend:(Instr.endLoop wm.heap.size).run E.P w2=.ok l'.pending (w2.putObj wm.heap.size (.loop { l' with state:=.exhausted })):=run_endLoop hl' (by rw[hrel.state];exact hb)
 obtain⟨R3,S3⟩:=R2.setObj (o1:=.dead) (o':=.loop { l' with state:=.exhausted }) (loopOf_get hl) rfl rfl hm2 rfl (fun _ _ _=>trivial)
 have st2:step E.P (lone (on b tmps (.endRangeFunc wm.heap.size :: k) (mark ++ ds)) cs w2)=.next (lone (on b tmps ((l'.pending.map Item.code).toList ++ k) (mark ++ ds)) cs (w2.putObj wm.heap.size (.loop { l' with state:=.exhausted }))) :=
  stepR_endRangeFunc (b:=b) (a:={ tmps:=tmps,defers:=mark ++ ds }) hend
 refine⟨m2,_,tmps,mark ++ ds,_,(Steps.one st1).trans (hsteps.trans (.one st2)),?_,hf.mono (S01.trans S2).le,ht,R3,(S01.trans S2).trans S3,(Dm1.step S2).step S3⟩
 rcases hrel.jump he with⟨rfl,hp⟩|⟨i,rfl,hp⟩|⟨rfl,hp⟩
 ·rw[hp];rfl
 ·rw[hp];exact⟨k,rfl,rfl⟩
 ·rw[hp];exact⟨k,rfl⟩
theorem sim_code (hcall:CallSim E.P call) (hmono:CallMono call) (hmix:E.P.follows .mixedOrders=true) (n:Nat) : ∀(c:Code),SimCode E (evC E call b.fn nt rd n c) b rd B w0 z nt cs c:=by
 intro c
 induction c with
 | skip =>
  intro fr h e fr' h' hr m w tmps k ds R hf ht hfr hfo hd hz
  simp only[evC] at hr;cases hr
  exact⟨m,w,tmps,ds,k,.one st_skip,rfl,hf,ht,R,Step.refl _ _ _,hd⟩
 | label l =>
  intro fr h e fr' h' hr m w tmps k ds R hf ht hfr hfo hd hz
  simp only[evC] at hr;cases hr
  exact⟨m,w,tmps,ds,k,.one st_label,rfl,hf,ht,R,Step.refl _ _ _,hd⟩
 | region id ops draw =>
  intro fr h e fr' h' hr m w tmps k ds R hf ht hfr hfo hd hz
  simp only[evC] at hr
  split at hr
  ·rename_i fr1 h1 hx
   cases hr
   cases draw with
   | true =>
    rw[cond_true] at hx
    obtain⟨_,m',w',tmps',a1,a2,a3,a4,a5⟩:=sim_drawn hcall hmono hmix hx R (hf.head b.fn id) ht hfr b k ds cs id
    exact⟨m',w',tmps',ds,k,a1,rfl,a2,a3,a4,a5,hd.step a5⟩
   | false =>
    rw[cond_false] at hx
    obtain⟨m',w',tmps',a1,a2,a3,a4,a5⟩:=sim_ops hcall hmono b k ds cs ops.toList 0 _ _ _ _ m w tmps rfl hx R (hf.head b.fn id) ht hfr
    rw[←List.range_eq_range',Array.length_toList] at a1
    exact⟨m',w',tmps',ds,k,.head st_region a1,rfl,a2,a3,a4,a5,hd.step a5⟩
  ·cases hr
 | seq x y ihx ihy =>
  intro fr h e fr' h' hr m w tmps k ds R hf ht hfr hfo hd hz
  simp only[evC] at hr
  split at hr
  ·rename_i fr1 h1 hx
   have n1:=evC_n hmono _ _ _ _ _ _ hx
   have n2:=evC_n hmono _ _ _ _ _ _ hr
   obtain⟨m1,w1,tmps1,ds1,k1,a1,a2,a3,a4,a5,a6,a7⟩:=ihx fr h .normal fr1 h1 hx m w tmps (.code y :: k) ds R hf ht (hfr.sub (Nat.le_refl _) n2) hfo hd hz
   obtain rfl:k1=_:=a2
   refine .first (.head st_seq a1) (.step a6 ?_)
   exact ihy fr1 h1 e fr' h' hr m1 w1 tmps1 k ds1 a5 a3 a4 (a6.fresh hfr) (hfo.mono a6.le) a7 (Nat.le_trans hz a6.size)
  ·rename_i hx
   cases hr
   exact .first (.one st_seq) ((ihx fr h _ _ _ hx m w tmps (.code y :: k) ds R hf ht hfr hfo hd hz).out (by simp) (fun i _=>rfl))
  ·rename_i hx
   cases hr
   exact .first (.one st_seq) ((ihx fr h _ _ _ hx m w tmps (.code y :: k) ds R hf ht hfr hfo hd hz).out (by simp) (fun i _=>rfl))
  ·cases hr
 | cond x a c iha ihc =>
  intro fr h e fr' h' hr m w tmps k ds R hf ht hfr hfo hd hz
  simp only[evC] at hr
  have hρ:=opd_evalT R hf
  split at hr
  ·rename_i hx
   have hv:=(hρ x _ hx).scal_eq rfl
   exact .first (.one (st_cond hv)) (iha fr h _ _ _ hr m w tmps k ds R hf ht hfr hfo hd hz)
  ·rename_i hx
   have hv:=(hρ x _ hx).scal_eq rfl
   exact .first (.one (st_cond hv)) (ihc fr h _ _ _ hr m w tmps k ds R hf ht hfr hfo hd hz)
  ·cases hr
 | block id c ih =>
  intro fr h e fr' h' hr m w tmps k ds R hf ht hfr hfo hd hz
  simp only[evC,cond_eq_ite] at hr
  split at hr
  ·rename_i i fr1 h1 hx
   split at hr
   ·rename_i hi
    have hi':i=id:=by simpa using hi
    subst hi'
    cases hr
    obtain⟨m1,w1,tmps1,ds1,k1,a1,a2,a3⟩:=ih fr h _ _ _ hx m w tmps (.inBlock i :: k) ds R hf ht hfr hfo hd hz
    obtain⟨k2,rfl,hk2⟩:=a2
    exact⟨m1,w1,tmps1,ds1,k,.head st_block (a1.trans (.one (st_exit (by rw[hk2];simp[exitTo])))),rfl,a3⟩
   ·rename_i hi
    cases hr
    refine .first (.one st_block) ((ih fr h _ _ _ hx m w tmps (.inBlock id :: k) ds R hf ht hfr hfo hd hz).out (by simp) (fun j hj=>?_))
    cases hj
    have:(id == i)=false:=by
     simp only[beq_eq_false_iff_ne,ne_eq];rintro rfl;simp at hi
    simp[exitTo,this]
  ·rename_i fr1 h1 hx
   cases hr
   obtain⟨m1,w1,tmps1,ds1,k1,a1,a2,a3⟩:=ih fr h _ _ _ hx m w tmps (.inBlock id :: k) ds R hf ht hfr hfo hd hz
   obtain rfl:k1=_:=a2
   exact⟨m1,w1,tmps1,ds1,k,.head st_block (a1.trans (.one st_inBlock)),rfl,a3⟩
  ·rename_i fr1 h1 hx
   cases hr
   exact .first (.one st_block) ((ih fr h _ _ _ hx m w tmps (.inBlock id :: k) ds R hf ht hfr hfo hd hz).out (by simp) (fun j hj=>by cases hj))
  ·cases hr
 | loop c ih =>
  intro fr h e fr' h' hr m w tmps k ds R hf ht hfr hfo hd hz
  simp only[evC] at hr
  exact .first (.one st_loop) (sim_loop (fun fr h e fr' h' hx=>evC_n hmono c fr h e fr' h' hx) ih n fr h e fr' h' hr m w tmps k ds R hf ht hfr hfo hd hz)
 | scope c ih =>
  intro fr h e fr' h' hr m w tmps k ds R hf ht hfr hfo hd hz
  simp only[evC] at hr
  obtain⟨m1,w1,tmps1,ds1,k1,a1,a2,a3⟩:=ih fr h _ _ _ hr m w tmps (.inScope c :: k) ds R hf ht hfr hfo hd hz
  cases e with
  | normal =>
   obtain rfl:k1=_:=a2
   exact⟨m1,w1,tmps1,ds1,k,.head st_scope (a1.trans (.one st_inScope)),rfl,a3⟩
  | exit i=>exact⟨m1,w1,tmps1,ds1,k1,.head st_scope a1,a2.out (by simp) (fun j _=>rfl),a3⟩
  | ret=>exact⟨m1,w1,tmps1,ds1,k1,.head st_scope a1,a2,a3⟩
 | rangeFunc f ps a c _ _ =>
  intro fr h e fr' h' hr
  simp only[evC] at hr
  exact sim_rangeFn hcall hmono fr h e fr' h' hr
 | exit i =>
  intro fr h e fr' h' hr m w tmps k ds R hf ht hfr hfo hd hz
  simp only[evC] at hr;cases hr
  exact⟨m,w,tmps,ds,_,.refl _ _,⟨k,rfl,rfl⟩,hf,ht,R,Step.refl _ _ _,hd⟩
 | ret =>
  intro fr h e fr' h' hr m w tmps k ds R hf ht hfr hfo hd hz
  simp only[evC] at hr;cases hr
  exact⟨m,w,tmps,ds,_,.refl _ _,⟨k,rfl⟩,hf,ht,R,Step.refl _ _ _,hd⟩
 | goto i=>intro fr h e fr' h' hr;simp only[evC] at hr;cases hr
 | refuse i=>intro fr h e fr' h' hr;simp only[evC] at hr;cases hr
end
end Go.Id

/-! The ideal machine: calls, on the model's machine. -/
namespace Go.Id
open Go Go.RowKit
theorem unwind_marks {P:Program} {B:Nat} {w0:World} {m:Mp} {h:IH} {z:Nat} (hB:B≤z) : ∀(rs:List Nat) (fr:Frame) (cs:List Frame) (w:World),fr.mode=.returning→fr.defers=rs.map markOf→rs.Nodup →
  (∀r∈rs,z≤r∧w.heap[r]?=some (.deferred (some [])) ∧ ∀k s,k<h.n→m (2*k)≠some (r,s))→Rel B w0 m h w →
  ∃w',Steps P (lone fr cs w) (lone { fr with defers:=[] } cs w')∧Rel B w0 m h w'∧w'.heap.size=w.heap.size ∧ ∀r,r∉rs→w'.heap[r]?=w.heap[r]?
 | [],fr,cs,w,hm,hd,_,_,R=>by
  have:({ fr with defers:=[] }:Frame)=fr:=by cases fr;simp at hd;subst hd;rfl
  exact⟨w,by rw[this];exact .refl _ _,R,rfl,fun _ _=>rfl⟩
 | r :: rs,fr,cs,w,hm,hd,hn,hr,R=>by
  obtain⟨a1,a2,a3⟩:=hr r (by simp)
  have hst:=step_collected (P:=P) (fr:=fr) (cs:=cs) (d:=markOf r) (r:=r) (ds:=rs.map markOf) (by rw[hm];simp) (by rw[hd];rfl) rfl (run_takeDeferred a2)
  have hother : ∀r',r'≠r→(w.putObj r (.deferred none)).heap[r']?=w.heap[r']?:=fun r' h'=>World.putObj_heap_other h'
  have R1:Rel B w0 m h (w.putObj r (.deferred none)):=by
   refine R.keep (below_put R.below (by omega) _) (by simp) ?_
   rintro r' (h1|⟨k,s,h1,h2⟩)
   ·exact hother r' (by omega)
   ·exact hother r' (by rintro rfl;exact a3 k s h1 h2)
  obtain⟨w',b1,b2,b3,b4⟩:=unwind_marks hB rs { fr with defers:=[] ++ rs.map markOf } cs (w.putObj r (.deferred none)) hm rfl (List.nodup_cons.1 hn).2 (fun r' h'=>by
   obtain⟨c1,c2,c3⟩:=hr r' (by simp[h'])
   exact⟨c1,by rw[hother r' (by rintro rfl;exact(List.nodup_cons.1 hn).1 h')];exact c2,c3⟩) R1
  refine⟨w',.head hst b1,b2,by rw[b3];simp,fun r' h'=>?_⟩
  rw[b4 r' (fun h=>h' (by simp[h])),hother r' (fun h=>h' (by simp[h]))]
def resSem (tmps:Array Value):ResultVar→Sem Value
 | .tmp t=>pure (tmps.getD t undef)
 | .cell a t=>do loadVar t (←Go.asAddr (tmps.getD a undef))
theorem results_eq (fn:Func) (tmps:Array Value):results fn tmps=(do let vs ←fn.results.mapM (resSem tmps);pure (if h:vs.size=1 then vs[0] else .tuple vs)):=by
 unfold results
 congr 1
theorem resultOf_run {P:Program} {B:Nat} {w0:World} {m:Mp} {h:IH} {w:World} (R:Rel B w0 m h w) {fr:Fr} {tmps:Array Value} (hf:FrRel m fr tmps) {rv:ResultVar} {v:Value} (hr:resultOf P fr h rv=some v) :
  ∃v',(resSem tmps rv).run P w=.ok v' w∧VRel m v v':=by
 cases rv with
 | tmp t =>
  obtain⟨v',h1,h2⟩:=hf t v hr
  exact⟨v',by simp[resSem,Array.getD_eq_getD_getElem?,h1,Sem.run_pure],h2⟩
 | cell a t =>
  simp only[resultOf] at hr
  split at hr
  ·rename_i va hva
   obtain⟨va',h1,h2⟩:=hf a va hva
   obtain⟨v',h3,h4⟩:=R.load hr h2
   refine⟨v',?_,h4⟩
   have hp : ∃b o,va=.pointer (some ⟨b,o,none⟩):=by
    unfold Id.load at hr
    cases hA:Id.asAddr va with
    | none=>simp[hA] at hr
    | some bo=>unfold Id.asAddr at hA;split at hA<;>simp_all
   obtain⟨b,o,rfl⟩:=hp
   obtain⟨r,s,_,rfl⟩:=h2.ptr_inv
   simp only[resSem,Array.getD_eq_getD_getElem?,h1,Option.getD_some]
   simpa [Instr.loadAt,Instr.sureAddr,Go.asAddr,Sem.run_bind,Sem.run_pure] using h3
  ·cases hr
theorem resultsOf_run {P:Program} {B:Nat} {w0:World} {m:Mp} {h:IH} {w:World} (R:Rel B w0 m h w) {fr:Fr} {tmps:Array Value} (hf:FrRel m fr tmps) : ∀(l:List ResultVar) (vs:List Value),resultsOf P fr h l=some vs →
  ∃vs',(l.mapM (resSem tmps)).run P w=.ok vs' w∧LRel m vs vs'
 | [],vs,hr=>by simp only[resultsOf] at hr;cases hr;exact⟨[],by simp[Sem.run_pure],.nil m⟩
 | rv :: l,vs,hr=>by
  rw[resultsOf] at hr
  split at hr
  ·rename_i v vs1 h1 h2
   cases hr
   obtain⟨v',a1,a2⟩:=resultOf_run R hf h1
   obtain⟨vs',b1,b2⟩:=resultsOf_run R hf l vs1 h2
   refine⟨v' :: vs',?_,.cons a2 b2⟩
   rw[List.mapM_cons]
   simp only[Sem.run_bind,Sem.run_pure]
   rw[a1]
   simp only[Result.andThen_ok]
   rw[b1]
   simp only[Result.andThen_ok]
  ·cases hr
theorem single_rel {m:Mp} {vs vs':List Value} (h:LRel m vs vs'):VRel m (single vs) (if h:vs'.toArray.size=1 then vs'.toArray[0] else .tuple vs'.toArray):=by
 have hl:=h.1
 match vs,vs',h,hl with
 | [],[],h,_=>exact VRel.tuple_iff h
 | [v],[v'],h,_=>exact h.2 0 v v' rfl rfl
 | v :: u :: vs,v' :: u' :: vs',h,_ =>
  have : ¬(v' :: u' :: vs').toArray.size=1:=by simp
  rw[dif_neg this]
  exact VRel.tuple_iff h
theorem results_run {P:Program} {B:Nat} {w0:World} {m:Mp} {h:IH} {w:World} (R:Rel B w0 m h w) {fr:Fr} {tmps:Array Value} (hf:FrRel m fr tmps) {fn:Func} {vs:List Value} (hr:resultsOf P fr h fn.results.toList=some vs) :
  ∃v',(results fn tmps).run P w=.ok v' w∧VRel m (single vs) v':=by
 obtain⟨vs',h1,h2⟩:=resultsOf_run R hf _ _ hr
 refine⟨_,?_,single_rel h2⟩
 rw[results_eq,Sem.run_bind,Array.mapM_eq_mapM_toList,map_eq_pure_bind,Sem.run_bind,h1]
 simp only[Result.andThen_ok,Sem.run_pure]
def CallsTo (P:Program) (f:FuncId) (args:Array Value) (B:Nat) (w0:World) (m:Mp) (h:IH) (w:World) (v:Value) (h':IH):Prop :=
 Calls P f args w fun e w' => ∃v' m',e=.returned v'∧VRel m' v v'∧Rel B w0 m' h' w'∧Step m h w m' h' w'
structure Sound (E:Env):Prop where
 mixed:E.P.follows .mixedOrders=true
 names : ∀(f:FuncId) (fn:Func),E.P.funcs[f]?=some fn→fn.body.isSome=true→(fn.name == "runtime.NumGoroutine")=false
 origin : ∀(f:FuncId) (fn:Func),E.P.funcs[f]?=some fn→fn.body=none → ∀{args:List Value} {v:Value},carryI fn.name args=some v→fn.origin=fn.name∨fn.origin = ""
 intrN : ∀f g,E.intr f=some g → ∀args h v h',g args h=some (v,h')→h.n≤h'.n
 intr : ∀f g,E.intr f=some g→(∃fn,E.P.funcs[f]?=some fn∧fn.body.isSome=true) ∧ ∀args h v h',g args h=some (v,h') → ∀(B:Nat) (w0:World) (m:Mp) (w:World) (args':Array Value),
  Rel B w0 m h w→LRel m args args'.toList→Fresh m h.n h'.n→CallsTo E.P f args' B w0 m h w v h'
theorem fget_enterFr : ∀(l:List Value) (i t:Nat),fget (enterFr i l) t=if i≤t then l[t - i]? else none
 | [],i,t=>by simp[enterFr,fget]
 | v :: l,i,t=>by
  simp only[enterFr,fget,cond_eq_ite,beq_iff_eq,fget_enterFr l (i+1) t]
  by_cases h1:i=t
  ·subst h1;simp
  ·by_cases h2:i≤t
   ·rw[if_neg h1,if_pos h2,if_pos (by omega),show t - i=(t - (i+1))+1 from by omega,List.getElem?_cons_succ]
   ·rw[if_neg h1,if_neg h2,if_neg (by omega)]
theorem callFn_n {E:Env} (S:Sound E) {call:CallV} (hmono:CallMono call) {n:Nat} {f:FuncId} {args:List Value} {h h':IH} {v:Value} (hr:callFn E call n f args h=some (v,h')):h.n≤h'.n:=by
 unfold callFn at hr
 split at hr
 ·rename_i g hg;exact S.intrN _ _ hg _ _ _ _ hr
 ·split at hr
  ·cases hr
  ·split at hr
   ·obtain⟨vs,_,e⟩:=Option.map_eq_some_iff.1 hr
    cases e
    exact Nat.le_refl _
   ·simp only[cond_eq_ite] at hr
    split at hr
    ·split at hr
     ·cases hr
     ·rename_i fr1 h1 _ hx
      obtain⟨vs,_,e⟩:=Option.map_eq_some_iff.1 hr
      cases e
      exact evC_n hmono _ _ _ _ _ _ hx
     ·cases hr
    ·cases hr
theorem callFn_sim {E:Env} (S:Sound E) {call:CallV} (hcall:CallSim E.P call) (hmono:CallMono call) {n:Nat} {f:FuncId} {args:List Value} {h h':IH} {v:Value} (hr:callFn E call n f args h=some (v,h'))
  {B:Nat} {w0:World} {m:Mp} {w:World} {args':Array Value} (R:Rel B w0 m h w) (hargs:LRel m args args'.toList) (hfr:Fresh m h.n h'.n) :
  ((∃fn,E.P.funcs[f]?=some fn∧fn.body.isSome=true)∧CallsTo E.P f args' B w0 m h w v h')∨(∃fn,E.P.funcs[f]?=some fn∧fn.body=none∧h'=h∧carryI fn.name args=some v):=by
 unfold callFn at hr
 split at hr
 ·rename_i g hg
  obtain⟨h1,h2⟩:=S.intr f g hg
  exact .inl ⟨h1,h2 args h v h' hr B w0 m w args' R hargs hfr⟩
 ·split at hr
  ·cases hr
  ·rename_i fn hfn
   split at hr
   ·rename_i hbn
    obtain⟨vs,hv,e⟩:=Option.map_eq_some_iff.1 hr
    cases e
    exact .inr ⟨fn,hfn,hbn,rfl,hv⟩
   ·rename_i c hc
    refine .inl ⟨⟨fn,hfn,by rw[hc];rfl⟩,?_⟩
    simp only[cond_eq_ite] at hr
    split at hr
    ·rename_i hlen
     have hlen':args.length≤fn.ntmps:=by simpa using hlen
     have hsz:args'.size=args.length:=by rw[hargs.1];simp
     split at hr
     ·cases hr
     ·rename_i e fr1 h1 hne hx
      obtain⟨vs,hvs,he⟩:=Option.map_eq_some_iff.1 hr
      cases he
      intro cs
      let b:Frame:={ fn:=f,tmps:=#[],todo:=[],defers:=[],mode:=.run,kind:=.normal,roundOf:=none }
      let tmps:Array Value:=args' ++ Array.replicate (fn.ntmps - args'.size) undef
      have hen:Frame.enter E.P f args' .normal=on b tmps [.code c] []:=by
       simp[Frame.enter,hfn,hc,on,b,tmps]
      have htmps:FrRel m (enterFr 0 args) tmps:=by
       intro t u hu
       rw[fget_enterFr] at hu
       simp only[Nat.zero_le,if_true,Nat.sub_zero] at hu
       obtain⟨u',h2,h3⟩:=hargs.get hu
       have h4:args'[t]?=some u':=by simpa using h2
       refine⟨u',?_,h3⟩
       have:=(Array.getElem?_eq_some_iff.1 h4).1
       rw[Array.getElem?_append_left this,h4]
      have htsz:fn.ntmps≤tmps.size:=by simp[tmps];omega
      obtain⟨m1,w1,tmps1,ds1,k1,a1,a2,a3,a4,a5,a6,a7⟩:=sim_code (b:=b) (rd:=none) (z:=w.heap.size) (cs:=cs) hcall hmono S.mixed n c _ _ _ _ _ hx m w tmps [] [] R htmps htsz hfr (.inl ⟨rfl,rfl⟩) (DefOK.nil _ _ _ _) (Nat.le_refl _)
      obtain⟨rs,d1,d2,d3⟩:=a7
      have hleave : ∃todo,step E.P (lone (on b tmps1 k1 ds1) cs w1)=.next (lone { on b tmps1 todo ds1 with mode:=.returning } cs w1):=by
       cases e with
       | normal=>obtain rfl:k1=_:=a2;exact⟨_,stepR_end (b:=b) (a:=⟨tmps1,ds1⟩) rfl⟩
       | exit i=>exact absurd rfl (hne i)
       | ret=>obtain⟨k2,rfl⟩:=a2;exact⟨_,stepR_ret (b:=b) (a:=⟨tmps1,ds1⟩) rfl⟩
      obtain⟨todo,hleave⟩:=hleave
      obtain⟨w2,b1,b2,b3,b4⟩:=unwind_marks (P:=E.P) R.size rs { on b tmps1 todo ds1 with mode:=.returning } cs w1 rfl d1 d2 d3 a5
      obtain⟨v',r1,r2⟩:=results_run b2 a3 hvs
      refine⟨.returned v',w2,{ on b tmps1 todo ds1 with mode:=.returning,defers:=[] },⟨v',m1,rfl,r2,b2,?_⟩,?_,?_,?_⟩
      ·refine⟨a6.le,a6.new,a6.n,a6.base,fun r hr hk=>?_,a6.idle,by rw[b3];exact a6.size,a6.img,a6.idleF⟩
       rw[b4 r (fun hm=>by have:=(d3 r hm).1;omega)]
       exact a6.frame r hr hk
      ·exact(by rw[hen];exact a1.trans (.head hleave b1):Steps E.P (lone (Frame.enter E.P f args' .normal) cs w) _)
      ·rfl
      ·exact⟨rfl,rfl,rfl,fn,hfn,r1⟩
     ·cases hr
    ·cases hr
theorem CallsTo.run {P:Program} {f:FuncId} {args:Array Value} {B:Nat} {w0:World} {m:Mp} {h:IH} {w:World} {v:Value} {h':IH} (H:CallsTo P f args B w0 m h w v h') (c:Frame) (cs:List Frame) :
  ∃v' m' w',VRel m' v v'∧Rel B w0 m' h' w'∧Step m h w m' h' w'∧Steps P (lone (Frame.enter P f args .normal) (c :: cs) w) (lone (c.finish v') cs w'):=by
 obtain⟨e,w',fr,⟨v',m',rfl,h1,h2,h3⟩,hc,_,hl⟩:=H (c :: cs)
 exact⟨v',m',w',h1,h2,h3,Steps.trans hc (.one (step_leave_returned hl))⟩
theorem callFunc_run {P:Program} {f:FuncId} {fn:Func} {args:Array Value} {w:World} (hf:P.funcs[f]?=some fn) (hb:fn.body.isSome=true) (hn:(fn.name == "runtime.NumGoroutine")=false):(callFunc f args).run P w=.ok (.enter f args) w:=by
 have hb':fn.body.isNone=false:=by cases h:fn.body<;>simp_all
 have hp:(program:Sem Program).run P w=.ok P w:=rfl
 simp only[callFunc,Sem.run_bind,hp,Result.andThen_ok,hf,hn,hb']
 rfl
def subEntry:Array Value→Sem Value:=fun args=>do
 let (x,y,b) ←Extern.MathBitsCarry.three "Sub64" args
 pure (Extern.MathBitsCarry.pair ((x+Extern.MathBitsCarry.m64 - y - b) % Extern.MathBitsCarry.m64) (if x<y+b then 1 else 0))
theorem find_add {fn:Func} (h:fn.name = "math/bits.Add64"):Extern.find fn=some add64Entry:=by
 obtain⟨name,origin,params,resultTypes⟩:=fn
 simp only at h;subst h
 kernel_rfl
theorem find_sub {fn:Func} (h:fn.name = "math/bits.Sub64"):Extern.find fn=some subEntry:=by
 obtain⟨name,origin,params,resultTypes⟩:=fn
 simp only at h;subst h
 kernel_rfl
theorem next_add {fn:Func} (h:fn.name = "math/bits.Add64") (ho:fn.origin = "math/bits.Add64" ∨ fn.origin = ""):Extern.findNext fn=none:=by
 obtain⟨name,origin,params,resultTypes⟩:=fn
 simp only at h ho;subst h
 rcases ho with ho|ho<;>subst ho<;>kernel_rfl
theorem next_sub {fn:Func} (h:fn.name = "math/bits.Sub64") (ho:fn.origin = "math/bits.Sub64" ∨ fn.origin = ""):Extern.findNext fn=none:=by
 obtain⟨name,origin,params,resultTypes⟩:=fn
 simp only at h ho;subst h
 rcases ho with ho|ho<;>subst ho<;>kernel_rfl
theorem run_sub64 {P:Program} (x y:Nat) {c:Nat} (hc:c≤1) (w:World) :
  (subEntry #[.int .u64 (x:Int),.int .u64 (y:Int),.int .u64 (c:Int)]).run P w=.ok (.tuple #[.int .u64 (((x+18446744073709551616 - y - c) % 18446744073709551616:Nat):Int),.int .u64 ((if x<y+c then 1 else 0:Nat):Int)]) w:=by
 have:c=0∨c=1:=by omega
 rcases this with rfl|rfl<;>rfl
end Go.Id

/-! The ideal machine: rounds of loops over functions; all calls. What the whole layer is for: 'ideal_calls'. -/
namespace Go.Id
open Go Go.RowKit
theorem putParams_rel {m:Mp} {nt:Nat} : ∀(ps:List Nat) (vs:List Value) (vs':List Value) (fr fr':Fr) (tmps:Array Value),putParams nt ps vs fr=some fr'→LRel m vs vs'→FrRel m fr tmps→nt≤tmps.size →
  ps.length=vs.length∧FrRel m fr' ((ps.zip vs').foldl (fun tmps (x:Nat×Value)=>tmps.setIfInBounds x.1 x.2) tmps)∧nt≤((ps.zip vs').foldl (fun tmps (x:Nat×Value)=>tmps.setIfInBounds x.1 x.2) tmps).size
 | [],[],vs',fr,fr',tmps,h,hL,hf,ht=>by
  simp only[putParams] at h;cases h
  exact⟨rfl,hf,ht⟩
 | t :: ps,v :: vs,[],fr,fr',tmps,h,hL,hf,ht=>by have:=hL.1;simp at this
 | t :: ps,v :: vs,v' :: vs',fr,fr',tmps,h,hL,hf,ht=>by
  rw[putParams] at h
  split at h
  ·rename_i fr1 hp
   obtain⟨h1,h2⟩:=fput_rel hp hf ht (hL.2 0 v v' rfl rfl)
   have hL':LRel m vs vs':=⟨by have:=hL.1;simpa using this,fun i x x' a b=>hL.2 (i+1) x x' (by simpa using a) (by simpa using b)⟩
   obtain⟨a,b,c⟩:=putParams_rel ps vs vs' fr1 fr' (tmps.setIfInBounds t v') h hL' h1 h2
   exact⟨by simp[a],b,c⟩
  ·cases h
 | [],_ :: _,_,_,_,_,h,_,_,_=>by simp[putParams] at h
 | _ :: _,[],_,_,_,_,h,_,_,_=>by simp[putParams] at h
theorem LoopRel.busy {m:Mp} {l:ILoop} {l':Loop} (h:LoopRel m l l') (st:LoopState) (p:Option Code):LoopRel m { l with state:=st,pending:=p } { l' with state:=st,pending:=p } :=
 ⟨rfl,rfl,h.fn,h.tmps,h.nt,h.params,h.assign,h.body⟩
theorem LoopRel.state_ {m:Mp} {l:ILoop} {l':Loop} (h:LoopRel m l l') (st:LoopState):LoopRel m { l with state:=st } { l' with state:=st } :=
 ⟨rfl,h.pending,h.fn,h.tmps,h.nt,h.params,h.assign,h.body⟩
structure YieldInv (E:Env) (call:CallV) (n l:Nat) (args:List Value) (h h':IH) (v:Value) where
 r:ILoop
 r1:ILoop
 r2:ILoop
 fr1:Fr
 fr2:Fr
 fr3:Fr
 h1:IH
 h2:IH
 e:IExit
 loop:loopOf h l=some r
 put:putParams r.nt r.params args r.fr=some fr1
 assign:evC E call r.fn r.nt (some l) n r.assign fr1 h=some (.normal,fr2,h1)
 loop1:loopOf h1 l=some r1
 ready:r1.state=.ready
 body:evC E call r.fn r.nt (some l) n r.body fr2 { h1 with ext:=h1.ext.set l (.loop { r1 with state:=.busy }) }=some (e,fr3,h2)
 loop2:loopOf h2 l=some r2
 done:(e=.normal∧v=.bool true∧h' = { h2 with ext:=h2.ext.set l (.loop { r2 with state:=.ready,pending:=none }) }) ∨
  (∃i,e=.exit i∧v=.bool false∧h' = { h2 with ext:=h2.ext.set l (.loop { r2 with state:=.done,pending:=some (.exit i) }) }) ∨
  (e=.ret∧v=.bool false∧h' = { h2 with ext:=h2.ext.set l (.loop { r2 with state:=.done,pending:=some .ret }) })
theorem callYield_inv {E:Env} {call:CallV} {n l:Nat} {args:List Value} {h h':IH} {v:Value} (hr:callYield E call n l args h=some (v,h')):Nonempty (YieldInv E call n l args h h' v):=by
 unfold callYield at hr
 split at hr
 ·cases hr
 ·rename_i r hl
  split at hr
  ·cases hr
  ·rename_i fr1 hp
   split at hr
   ·rename_i fr2 h1 hx
    split at hr
    ·cases hr
    ·rename_i r1 hl1
     simp only[cond_eq_ite,beq_iff_eq] at hr
     split at hr
     ·rename_i hst
      split at hr
      ·cases hr
      ·rename_i e fr3 h2 hy
       split at hr
       ·cases hr
       ·rename_i r2 hl2
        split at hr<;>cases hr
        ·exact⟨⟨r,r1,r2,fr1,fr2,fr3,h1,h2,_,hl,hp,hx,hl1,hst,hy,hl2,.inl ⟨rfl,rfl,rfl⟩⟩⟩
        ·exact⟨⟨r,r1,r2,fr1,fr2,fr3,h1,h2,_,hl,hp,hx,hl1,hst,hy,hl2,.inr (.inl ⟨_,rfl,rfl,rfl⟩)⟩⟩
        ·exact⟨⟨r,r1,r2,fr1,fr2,fr3,h1,h2,_,hl,hp,hx,hl1,hst,hy,hl2,.inr (.inr ⟨rfl,rfl,rfl⟩)⟩⟩
     ·cases hr
   ·cases hr
theorem callYield_n {E:Env} {call:CallV} (hmono:CallMono call) {n l:Nat} {args:List Value} {h h':IH} {v:Value} (hr:callYield E call n l args h=some (v,h')):h.n≤h'.n:=by
 obtain⟨Y⟩:=callYield_inv hr
 have n1:=evC_n hmono _ _ _ _ _ _ Y.assign
 have n2:=evC_n hmono _ _ _ _ _ _ Y.body
 have n3:h'.n=Y.h2.n:=by rcases Y.done with⟨_,_,e⟩|⟨_,_,_,e⟩|⟨_,_,e⟩<;>exact(congrArg IH.n e).trans rfl
 rw[n3]
 exact Nat.le_trans n1 n2
theorem callYield_sim {E:Env} (S:Sound E) {call:CallV} (hcall:CallSim E.P call) (hmono:CallMono call) {n l:Nat} {args:List Value} {h h':IH} {v:Value} (hr:callYield E call n l args h=some (v,h'))
  {B:Nat} {w0:World} {m:Mp} {w:World} {args':Array Value} (R:Rel B w0 m h w) (hargs:LRel m args args'.toList) (hfr:Fresh m h.n h'.n) {r0 s0:Nat} (hm:m (2*l)=some (r0,s0)) :
  ∃f ts a c,(Instr.yield r0 args').run E.P w=.ok (.round r0 f ts a c) w ∧
   ∀(c0:Frame) (cs:List Frame),∃v' m' w',VRel m' v v'∧Rel B w0 m' h' w'∧Step m h w m' h' w'∧Steps E.P (lone (Frame.round r0 f ts a c .normal) (c0 :: cs) w) (lone (c0.finish v') cs w'):=by
 obtain⟨Y⟩:=callYield_inv hr
 have n1:=evC_n hmono _ _ _ _ _ _ Y.assign
 have n2:=evC_n hmono _ _ _ _ _ _ Y.body
 have n3:h'.n=Y.h2.n:=by rcases Y.done with⟨_,_,e⟩|⟨_,_,_,e⟩|⟨_,_,e⟩<;>exact(congrArg IH.n e).trans rfl
 obtain⟨_,L,hL,hrel⟩:=R.obj _ _ _ _ (loopOf_get Y.loop) hm
 obtain⟨p1,p2,p3⟩:=putParams_rel Y.r.params args args'.toList Y.r.fr Y.fr1 L.tmps Y.put hargs hrel.tmps hrel.nt
 have hsz:args'.size=L.params.size:=by
  have h1:L.params.size=Y.r.params.length:=by rw[←hrel.params];simp
  have h2:=hargs.1
  simp at h2
  omega
 have htm:(L.params.zip args').foldl (fun tmps (x:Tmp×Value)=>tmps.setIfInBounds x.1 x.2) L.tmps=(Y.r.params.zip args'.toList).foldl (fun tmps (x:Nat×Value)=>tmps.setIfInBounds x.1 x.2) L.tmps:=by
  rw[←Array.foldl_toList,Array.toList_zip,hrel.params]
 rw[←htm] at p2 p3
 refine⟨_,_,_,_,run_yield hL hsz,fun c0 cs=>?_⟩
 let b:Frame:={ fn:=L.fn,tmps:=#[],todo:=[],defers:=[],mode:=.run,kind:=.normal,roundOf:=some r0 }
 have hb:b.fn=Y.r.fn:=hrel.fn
 have hx:=Y.assign
 rw[←hb] at hx
 obtain⟨m1,w1,tmps1,ds1,k1,a1,a2,a3,a4,a5,a6,a7⟩:=sim_code (b:=b) (rd:=some l) (z:=w.heap.size) (cs:=c0 :: cs) hcall hmono S.mixed n Y.r.assign _ _ _ _ _ hx m w _ [.beginRound,.code Y.r.body] [] R p2 p3 (hfr.sub (Nat.le_refl _) (by rw[n3];exact n2)) (.inr ⟨l,r0,s0,rfl,rfl,hm⟩) (DefOK.nil _ _ _ _) (Nat.le_refl _)
 obtain rfl:k1=_:=a2
 have hm1:=(a6.le _ _ hm).1
 obtain⟨hs0,L1,hL1,hrel1⟩:=a5.obj _ _ _ _ (loopOf_get Y.loop1) hm1
 obtain⟨Rb,Sb⟩:=a5.setObj (o1:=.loop { Y.r1 with state:=.busy }) (o':=.loop { L1 with state:=.busy }) (loopOf_get Y.loop1) rfl rfl hm1 rfl (fun w' z e=>⟨hs0,_,e,hrel1.state_ .busy⟩)
 have hbeg:(Instr.beginRound r0).run E.P w1=.ok () (w1.putObj r0 (.loop { L1 with state:=.busy })):=run_beginRound hL1 (by rw[hrel1.state];exact Y.ready)
 have st1:step E.P (lone (on b tmps1 (.beginRound :: [.code Y.r.body]) ds1) (c0 :: cs) w1)=.next (lone (on b tmps1 [.code Y.r.body] ds1) (c0 :: cs) (w1.putObj r0 (.loop { L1 with state:=.busy }))) :=
  stepR_beginRound (b:=b) (a:=⟨tmps1,ds1⟩) rfl hbeg
 have hy:=Y.body
 rw[←hb] at hy
 have S1b:=a6.trans Sb
 obtain⟨m2,w2,tmps2,ds2,k2,b1,b2,b3,b4,b5,b6,b7⟩:=sim_code (b:=b) (rd:=some l) (z:=w.heap.size) (cs:=c0 :: cs) hcall hmono S.mixed n Y.r.body _ _ _ _ _ hy m1 _ tmps1 [] ds1 Rb a3 a4 ((S1b.fresh hfr).sub (Nat.le_refl _) (by rw[n3];exact Nat.le_refl _)) (.inr ⟨l,r0,s0,rfl,rfl,hm1⟩) (a7.step Sb) (Nat.le_trans a6.size Sb.size)
 have hm2:=(b6.le _ _ hm1).1
 obtain⟨_,L2,hL2,hrel2⟩:=b5.obj _ _ _ _ (loopOf_get Y.loop2) hm2
 have start:lone (Frame.round r0 L.fn ((L.params.zip args').foldl (fun tmps (x:Tmp×Value)=>tmps.setIfInBounds x.1 x.2) L.tmps) L.assign L.body .normal) (c0 :: cs) w =
   lone (on b ((L.params.zip args').foldl (fun tmps (x:Tmp×Value)=>tmps.setIfInBounds x.1 x.2) L.tmps) (.code Y.r.assign :: [.beginRound,.code Y.r.body]) []) (c0 :: cs) w:=by
  rw[hrel.assign,hrel.body];rfl
 have path:=a1.trans (.head st1 b1)
 have fin : ∀(e:IExit) (u:Value) (st:LoopState) (jump:Option Code),h' = { Y.h2 with ext:=Y.h2.ext.set l (.loop { Y.r2 with state:=st,pending:=jump }) }→u=.bool jump.isNone→v=u →
   (st=if jump.isNone then .ready else .done) →
   step E.P (lone (on b tmps2 k2 ds2) (c0 :: cs) w2)=.next (lone (c0.finish u) cs (w2.putObj r0 (.loop { L2 with state:=if jump.isNone then .ready else .done,pending:=jump }))) →
   ∃v' m' w',VRel m' v v'∧Rel B w0 m' h' w'∧Step m h w m' h' w'∧Steps E.P (lone (Frame.round r0 L.fn ((L.params.zip args').foldl (fun tmps (x:Tmp×Value)=>tmps.setIfInBounds x.1 x.2) L.tmps) L.assign L.body .normal) (c0 :: cs) w) (lone (c0.finish v') cs w'):=by
  intro e u st jump e1 e2 e3 e4 hst
  obtain⟨R3,S3⟩:=b5.setObj (o1:=.loop { Y.r2 with state:=st,pending:=jump }) (o':=.loop { L2 with state:=st,pending:=jump }) (loopOf_get Y.loop2) rfl rfl hm2 rfl (fun w' z e=>⟨hs0,_,e,hrel2.busy st jump⟩)
  refine⟨u,m2,_,by rw[e3,e2];exact .scal rfl,by rw[e1];exact R3,by rw[e1];exact(S1b.trans b6).trans S3,?_⟩
  rw[start]
  rw[←e4] at hst
  exact path.trans (.one hst)
 rcases Y.done with⟨e1,e2,e3⟩|⟨i,e1,e2,e3⟩|⟨e1,e2,e3⟩
 ·rw[e1] at b2
  obtain rfl:k2=_:=b2
  exact fin .normal (.bool true) .ready none e3 rfl e2 rfl (stepR_round_end (b:=b) (a:=⟨tmps2,ds2⟩) rfl rfl (run_endRound none hL2))
 ·rw[e1] at b2
  obtain⟨k3,rfl,hk3⟩:=b2
  exact fin (.exit i) (.bool false) .done (some (.exit i)) e3 rfl e2 rfl (stepR_round_exit (b:=b) (a:=⟨tmps2,ds2⟩) rfl rfl (by rw[hk3];rfl) (run_endRound (some (.exit i)) hL2))
 ·rw[e1] at b2
  obtain⟨k3,rfl⟩:=b2
  exact fin .ret (.bool false) .done (some .ret) e3 rfl e2 rfl (stepR_round_ret (b:=b) (a:=⟨tmps2,ds2⟩) rfl rfl (run_endRound (some .ret) hL2))
theorem carry_sim {P:Program} {f:FuncId} {fn:Func} (hf:P.funcs[f]?=some fn) (hb:fn.body=none) (ho:fn.origin=fn.name∨fn.origin = "") {args:List Value} {v:Value} (hc:carryI fn.name args=some v) {m:Mp} {args':Array Value} (hargs:LRel m args args'.toList) (w:World) :
  ∃v',(callFunc f args').run P w=.ok (.value v') w∧VRel m v v' ∧ ∀a∈args'.toList,∃k n,a=Value.int k n:=by
 unfold carryI at hc
 split at hc
 case h_2=>cases hc
 rename_i x y c
 simp only[cond_eq_ite] at hc
 split at hc
 case isFalse=>cases hc
 rename_i hle
 have hle':c≤1:=by simpa using hle
 obtain⟨a0,b0,r0⟩:=hargs.get (i:=0) rfl
 obtain⟨a1,b1,r1⟩:=hargs.get (i:=1) rfl
 obtain⟨a2,b2,r2⟩:=hargs.get (i:=2) rfl
 have e0:=r0.scal_eq rfl
 have e1:=r1.scal_eq rfl
 have e2:=r2.scal_eq rfl
 subst e0;subst e1;subst e2
 have hl:args'.toList = [.int .u64 (.ofNat x),.int .u64 (.ofNat y),.int .u64 (.ofNat c)]:=by
  have h1:=hargs.1
  apply List.ext_getElem?
  intro i
  match i with
  | 0=>exact b0
  | 1=>exact b1
  | 2=>exact b2
  | i+3=>rw[List.getElem?_eq_none (by simp at h1 ⊢;omega),List.getElem?_eq_none (by simp)]
 have ha:args' = #[.int .u64 (.ofNat x),.int .u64 (.ofNat y),.int .u64 (.ofNat c)]:=by rw[←Array.toArray_toList (xs:=args'),hl]
 have hint : ∀a∈args'.toList,∃k n,a=Value.int k n:=by
  rw[hl]
  intro a h
  simp only[List.mem_cons,List.not_mem_nil,or_false] at h
  rcases h with rfl|rfl|rfl<;>exact⟨_,_,rfl⟩
 split at hc
 ·rename_i hn
  have hn:fn.name = "math/bits.Add64" := by simpa using hn
  cases hc
  refine⟨_,?_,VRel.tuple_iff (cs:=#[.int .u64 _,.int .u64 _]) (cs':=#[.int .u64 _,.int .u64 _]) (.cons (.scal rfl) (.cons (.scal rfl) (.nil _))),hint⟩
  rw[run_callFunc_extern hf (by rw[hn];decide +kernel) (by rw[hb];rfl) (next_add hn (ho.imp (fun e=>by rw[e,hn]) id)) (find_add hn),ha,run_add64 _ _ _ (by exact Int.natCast_nonneg _) (by exact Int.natCast_nonneg _) (by exact Int.natCast_nonneg _) (by exact Int.ofNat_le.2 hle')]
  simp only[Result.andThen_ok]
  rfl
 ·split at hc
  ·rename_i hn
   have hn:fn.name = "math/bits.Sub64" := by simpa using hn
   cases hc
   refine⟨_,?_,VRel.tuple_iff (cs:=#[.int .u64 _,.int .u64 _]) (cs':=#[.int .u64 _,.int .u64 _]) (.cons (.scal rfl) (.cons (.scal rfl) (.nil _))),hint⟩
   rw[run_callFunc_extern hf (by rw[hn];decide +kernel) (by rw[hb];rfl) (next_sub hn (ho.imp (fun e=>by rw[e,hn]) id)) (find_sub hn),ha]
   show((subEntry #[.int .u64 (x:Int),.int .u64 (y:Int),.int .u64 (c:Int)]).run P w).andThen _=_
   rw[run_sub64 x y hle']
   simp only[Result.andThen_ok]
   congr 4
   by_cases hlt:x<y+c
   ·simp[hlt]
   ·simp[hlt]
  ·cases hc
theorem callV_mono {E:Env} (S:Sound E) : ∀n,CallMono (callV E n)
 | 0=>fun fv vs h h' v hr=>by simp[callV] at hr
 | n+1=>fun fv vs h h' v hr=>by
  unfold callV at hr
  split at hr
  ·exact callFn_n S (callV_mono S n) hr
  ·simp only[cond_eq_ite] at hr
   split at hr
   ·exact callYield_n (callV_mono S n) hr
   ·cases hr
  ·cases hr
theorem callV_sim {E:Env} (S:Sound E) : ∀n,CallSim E.P (callV E n)
 | 0=>fun fv vs h h' v hr=>by simp[callV] at hr
 | n+1=>fun fv vs h h' v hr B w0 m w fv' vs' R hfv hvs hfr=>by
  unfold callV at hr
  split at hr
  ·rename_i f first cap
   obtain⟨fn',first',cap',rfl,hfn,h1,h2⟩:=hfv.func_inv
   cases fn'<;>simp only[FnRel] at hfn
   subst hfn
   have hargs:LRel m (first.toList ++ (vs ++ cap.toList)) (first' ++ vs' ++ cap').toList:=by
    rw[Array.toList_append,Array.toList_append,List.append_assoc]
    exact h1.append (hvs.append h2)
   rcases callFn_sim S (callV_sim S n) (callV_mono S n) hr R hargs hfr with⟨⟨fn,hf,hb⟩,hC⟩|⟨fn,hf,hb,rfl,hcv⟩
   case inr =>
    obtain⟨v',e1,e2,e3⟩:=carry_sim hf hb (S.origin f fn hf hb hcv) hcv hargs w
    refine⟨.value v',?_,.inl ⟨v',rfl,rfl,e2,fun a ha=>e3 a (by rw[Array.toList_append,Array.toList_append];simp[ha])⟩⟩
    simp only[Deferred.ofValue,Sem.run_bind,Sem.run_pure,Result.andThen_ok,invoke]
    exact e1
   refine⟨.enter f (first' ++ vs' ++ cap'),?_,.inr ⟨_,.inl ⟨_,_,rfl,rfl⟩,fun c cs=>hC.run c cs⟩⟩
   simp only[Deferred.ofValue,Sem.run_bind,Sem.run_pure,Result.andThen_ok,invoke]
   exact callFunc_run hf hb (S.names f fn hf hb)
  ·rename_i l first cap
   simp only[cond_eq_ite,beq_iff_eq] at hr
   split at hr
   ·rename_i hev
    obtain⟨fn',first',cap',rfl,hfn,h1,h2⟩:=hfv.func_inv
    cases fn'<;>simp only[FnRel] at hfn
    obtain⟨s,hm⟩:=hfn
    have hl:2*(l / 2)=l:=by omega
    rw[←hl] at hm
    have hargs:LRel m (first.toList ++ vs) (first' ++ vs').toList:=by
     rw[Array.toList_append]
     exact h1.append hvs
    obtain⟨f,ts,a,c,hy,hrun⟩:=callYield_sim S (callV_sim S n) (callV_mono S n) hr R hargs hfr hm
    refine⟨_,?_,.inr ⟨_,.inr ⟨_,f,ts,a,c,rfl,rfl⟩,hrun⟩⟩
    simp only[Deferred.ofValue,Sem.run_bind,Sem.run_pure,Result.andThen_ok,invoke]
    exact hy
   ·cases hr
  ·cases hr
theorem ideal_calls {E:Env} (S:Sound E) {n:Nat} {f:FuncId} {args:List Value} {h h':IH} {v:Value} (hr:callV E (n+1) (.func (.func f) #[] #[]) args h=some (v,h'))
  {B:Nat} {w0:World} {m:Mp} {w:World} {args':Array Value} (R:Rel B w0 m h w) (hargs:LRel m args args'.toList) (hfr:Fresh m h.n h'.n) (hv : ∀n a,carryI n a≠some v):CallsTo E.P f args' B w0 m h w v h':=by
 unfold callV at hr
 rcases callFn_sim S (callV_sim S n) (callV_mono S n) hr R (by simpa using hargs) hfr with⟨_,h⟩|⟨_,_,_,_,h⟩
 ·exact h
 ·exact absurd h (hv _ _)
end Go.Id

/-! The ideal machine: from a start, to what a row asks. -/
namespace Go.Id
open Go Go.RowKit
def IH.start (base:Nat→Option (List Value)):IH:={ base,n:=0,ext:=.leaf,fams:=.leaf }
def Mp.startOf (A:Nat→Nat×Nat):Mp:=⟨fun b=>if b % 2=1 then some (if b / 2<4294967296 then (b / 2,0) else A (b / 2 - 4294967296)) else none,fun _=>(0,0)⟩
theorem Mp.startOf_low (A:Nat→Nat×Nat) {b:Nat} (h:b<4294967296):Mp.startOf A (2*b+1)=some (b,0):=by
 show(if (2*b+1) % 2=1 then some (if (2*b+1) / 2<4294967296 then ((2*b+1) / 2,0) else A ((2*b+1) / 2 - 4294967296)) else none)=some (b,0)
 rw[if_pos (by omega),if_pos (by omega),show(2*b+1) / 2=b from by omega]
theorem Mp.startOf_high (A:Nat→Nat×Nat) (i:Nat):Mp.startOf A (2*(4294967296+i)+1)=some (A i):=by
 show(if (2*(4294967296+i)+1) % 2=1 then some (if (2*(4294967296+i)+1) / 2<4294967296 then ((2*(4294967296+i)+1) / 2,0) else A ((2*(4294967296+i)+1) / 2 - 4294967296)) else none)=some (A i)
 rw[if_pos (by omega),if_neg (by omega),show(2*(4294967296+i)+1) / 2 - 4294967296=i from by omega]
theorem Mp.startOf_even (A:Nat→Nat×Nat) (k:Nat):Mp.startOf A (2*k)=none:=by
 show(if (2*k) % 2=1 then _ else none)=none
 rw[if_neg (by omega)]
def BaseOK (A:Nat→Nat×Nat) (base:Nat→Option (List Value)) (w:World):Prop:=∀b cs,base b=some cs → ∃r s,Mp.startOf A (2*b+1)=some (r,s) ∧ ∃c el fz,w.heap[r]?=some (.cells c el fz)∧RowAt (Mp.startOf A) cs c s
theorem Rel.start {A:Nat→Nat×Nat} {base:Nat→Option (List Value)} {w:World} (hb:BaseOK A base w):Rel w.heap.size w (Mp.startOf A) (IH.start base) w:=by
 have leaf : ∀{α:Type} (k:Nat),(Tr.leaf:Tr α).get k=none:=fun k=>rfl
 refine⟨Below.refl _ _,Nat.le_refl _,?_,fun b h=>Mp.startOf_low A h,?_,fun k _=>leaf k,?_,?_,?_,?_,?_,?_⟩
 ·intro b cs h
  obtain⟨r,s,h0,c,el,fz,h1,h2⟩:=hb b cs h
  exact⟨r,s,h0,(Array.getElem?_eq_some_iff.1 h1).1,c,el,fz,h1,h2⟩
 ·intro k r s h
  rw[Mp.startOf_even] at h;cases h
 ·intro k o r s h;cases h
 ·intro k k' o o' r s s' _ h;cases h
 ·intro f st h;cases h
 ·intro k cs t f h;cases h
 ·intro f st h;cases h
 ·intro f st x y h;cases h
theorem keptBut_of_below {w w':World} (h:Below w.heap.size w w') (may:MemPlace→Prop):w.keptBut w' may:=by
 refine⟨h.os,h.output,fun i hi=>?_⟩
 rw[h.block i hi]
 cases hx:w.heap[i]? with
 | none=>rfl
 | some o =>
  cases o with
  | cells c t fr=>exact⟨rfl,rfl,rfl,fun _ _=>rfl⟩
  | map es cl=>exact .inr ⟨rfl,rfl⟩
  | _=>rfl
theorem post_of_below {H:Type} {enc:TypeId×Value→H} {P:Program} {f:Func} {s:ChangeSpec} {apart fresh handsOn:Bool} {W W':World} {args:Array Value} {v:Value} {ds gs:List (DataW H)} {before pa pv:List MemPlace}
  (hW:DataW.Whole enc P f.params.toList s.vars apart W args.toList ds gs before)
  (hres : ∀(b:Nat) (sp:Nat→Bool) (hd:Bool),DataW.TrodAll enc P W' b sp hd f.resultTypes.toList (v.resultList f.resultTypes.size) (s.fn H (ds ++ gs)).results [])
  (hargs : ∀sp:Nat→Bool,(∀p∈before,sp p.block=true)→DataW.TrodAll enc P W' 0 sp true f.params.toList args.toList (s.fn H (ds ++ gs)).args pa)
  (hvars : ∀sp:Nat→Bool,(∀p∈before,sp p.block=true)→DataW.TrodVars enc P W' sp s.vars (s.fn H (ds ++ gs)).vars pv)
  (hk:Below W.heap.size W W'):s.post enc P f apart fresh handsOn false W args v W':=by
 have hold : ∀p∈before,(fun b=>decide (b<W.heap.size)) p.block=true:=fun p hp=>by simpa using hW.lt p hp
 exact⟨ds,gs,before,[],pa,pv,hW,hres _ _ _,hargs _ hold,hvars _ hold,keptBut_of_below hk _,fun h=>by cases h⟩
theorem carry_true (n:String) (a:List Value):carryI n a≠some (.bool true):=by
 intro h
 unfold carryI at h
 split at h
 ·simp only[cond_eq_ite] at h
  repeat' split at h
  all_goals first|cases h|contradiction
 ·cases h
theorem ideal_true {E:Env} (S:Sound E) {n:Nat} {f:FuncId} {args:List Value} {h':IH} {A:Nat→Nat×Nat} {base:Nat→Option (List Value)} (hr:callV E (n+1) (.func (.func f) #[] #[]) args (IH.start base)=some (.bool true,h'))
  {w:World} {args':Array Value} (hb:BaseOK A base w) (hargs:LRel (Mp.startOf A) args args'.toList):Calls E.P f args' w fun e w'=>e=.returned (.bool true)∧Below w.heap.size w w':=by
 refine(ideal_calls S hr (Rel.start hb) hargs (fun k _ _=>Mp.startOf_even A k) carry_true).mono fun e w' ⟨v',m',he,hv,R,_⟩=>?_
 rw[he,hv.scal_eq rfl]
 exact⟨rfl,R.below⟩
end Go.Id
