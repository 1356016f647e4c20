/-
  The ideal machine: a region whose order is open gives, in whatever order, what it gives in the order of the text. The ideal machine: a region whose order is open, whole.
-/
import Derived.Test.YtnanhedgenokpaaGreatTemperDetailedAj
import Derived.Orders
set_option linter.unusedVariables false
set_option linter.unusedSimpArgs false
set_option linter.defProp false
set_option linter.deprecated false
namespace Go.Id
open Go Go.RowKit
structure Ordered (ops:Array Oper):Prop where
 edge : ∀j y,ops[j]?=some y → ∀e∈y.after,Region.binds .any e=true→e.on<j
 pair : ∀i j x y,i<j→ops[i]?=some x→ops[j]?=some y→beforeB ops.toList j i=true∨(clash ops.toList x y=false ∧ ¬(kindOf x.op=.chain∧kindOf y.op=.chain))
theorem orderOK_spec {ops:Array Oper} (h:orderOK ops.toList=true):Ordered ops:=by
 unfold orderOK at h
 simp only[List.all_eq_true,List.mem_range] at h
 have size : ∀j y,ops[j]?=some y→j<ops.toList.length:=by
  intro j y hj
  have:=(Array.getElem?_eq_some_iff.1 hj).1
  simpa using this
 refine⟨fun j y hj e he hb=>?_,fun i j x y hij hi hj=>?_⟩
 ·have:=h j (size j y hj)
  have hj':ops.toList[j]?=some y:=by simpa using hj
  simp only[hj',Bool.and_eq_true,List.all_eq_true] at this
  have h1:=this.1.1 e (by simpa using he)
  simpa [hb] using h1
 ·have:=h j (size j y hj)
  have hj':ops.toList[j]?=some y:=by simpa using hj
  have hi':ops.toList[i]?=some x:=by simpa using hi
  simp only[hj',Bool.and_eq_true,List.all_eq_true] at this
  have h1:=this.2 i (by simpa using hij)
  simp only[hi',Bool.or_eq_true,Bool.not_eq_true',Bool.or_eq_false_iff,Bool.and_eq_false_iff,beq_eq_false_iff_ne] at h1
  rcases h1 with h1|h1
  ·exact .inl h1
  ·refine .inr ⟨h1.1,fun hk=>?_⟩
   rcases h1.2 with h2|h2
   ·exact h2 hk.1
   ·exact h2 hk.2
section
variable {ops:Array Oper} {x y:Oper} {d:Nat}
theorem clash_ww (h1:x.dst=some d) (h2:y.dst=some d):clash ops.toList x y=true:=by simp[clash,h1,h2]
theorem clash_wr (h1:x.dst=some d) (h2:d∈reads ops.toList y):clash ops.toList x y=true:=by simp[clash,h1,h2]
theorem clash_rw (h1:y.dst=some d) (h2:d∈reads ops.toList x):clash ops.toList x y=true:=by simp[clash,h1,h2]
end
section
variable {E:Env} {call:CallV} {nt:Nat} {ops:Array Oper} {FA:Nat→Fr} {HA:Nat→IH}
theorem Text.put (T:Text E call nt ops FA HA) {i:Nat} {o:Oper} (ho:ops[i]?=some o) : ∃v,fput nt (FA i) o.dst v=some (FA (i+1)) ∧
  ((wantedI ops.toList o (FA i)=some true∧runOp E call (FA i) o.op (HA i)=some (v,HA (i+1)))∨(wantedI ops.toList o (FA i)=some false∧v=undef)):=by
 have hs:=T.step i o ho
 unfold stepOp at hs
 split at hs
 ·rename_i hw
  split at hs
  ·rename_i v h2 hrun
   obtain⟨a,h1,e⟩:=Option.map_eq_some_iff.1 hs
   cases e
   exact⟨v,h1,.inl ⟨hw,hrun⟩⟩
  ·cases hs
 ·rename_i hw
  obtain⟨a,h1,e⟩:=Option.map_eq_some_iff.1 hs
  exact⟨undef,by rw[h1];exact congrArg some (Prod.mk.inj e).1,.inr ⟨hw,rfl⟩⟩
 ·cases hs
theorem fget_fput {fr fr':Fr} {dst:Option Tmp} {v:Value} (h:fput nt fr dst v=some fr') (t:Nat):fget fr' t=if dst=some t then some v else fget fr t:=by
 unfold fput at h
 cases dst with
 | none=>cases h;simp
 | some d =>
  simp only[cond_eq_ite,Nat.blt_eq] at h
  split at h
  ·cases h
   simp only[fget,cond_eq_ite,beq_iff_eq,Option.some.injEq]
  ·cases h
theorem Text.keeps (T:Text E call nt ops FA HA) {t p:Nat} : ∀(q:Nat),p≤q→q≤ops.size→(∀j o,p≤j→j<q→ops[j]?=some o→o.dst≠some t)→fget (FA q) t=fget (FA p) t:=by
 intro q
 induction q with
 | zero =>
  intro h _ _
  have e:p=0:=by omega
  rw[e]
 | succ q ih =>
  intro hpq hn hw
  by_cases hq:p=q+1
  ·rw[hq]
  have ho:ops[q]?=some ops[q]:=Array.getElem?_eq_getElem (by omega)
  obtain⟨v,hp,_⟩:=T.put ho
  rw[fget_fput hp t,if_neg (hw q _ (by omega) (by omega) ho)]
  exact ih (by omega) (by omega) (fun j o h1 h2=>hw j o h1 (by omega))
end
structure OInv (nt:Nat) (ops:Array Oper) (FA:Nat→Fr) (HA:Nat→IH) (B:Nat) (w0:World) (m0:Mp) (wi:World) (D:Nat→Prop) (m:Mp) (w:World) (tmps:Array Value):Prop where
 closed : ∀j i,D j→beforeB ops.toList j i=true→D i
 slots : ∀t,∃p,p≤ops.size∧(∀j o,ops[j]?=some o→o.dst=some t→(D j↔j<p)) ∧ ∀v,fget (FA p) t=some v → ∃v',tmps[t]?=some v'∧VRel m v v'
 chain : ∃a,a≤ops.size∧(∀j,ChainAt ops j→(D j↔j<a))∧(a=ops.size∨ChainAt ops a)∧HInv ops FA HA B w0 m0 wi D a m w
 size:nt≤tmps.size
section
variable {E:Env} {call:CallV} {nt:Nat} {ops:Array Oper} {FA:Nat→Fr} {HA:Nat→IH} {B:Nat} {w0:World} {m0:Mp} {wi:World} {D:Nat→Prop} {a:Nat} {m:Mp} {w:World} {tmps:Array Value}
theorem HInv.norm (T:Text E call nt ops FA HA) : ∀(n a:Nat),ops.size - a≤n→a≤ops.size→HInv ops FA HA B w0 m0 wi D a m w→(∀j,ChainAt ops j→(D j↔j<a)) →
  ∃a,a≤ops.size∧(∀j,ChainAt ops j→(D j↔j<a))∧(a=ops.size∨ChainAt ops a)∧HInv ops FA HA B w0 m0 wi D a m w
 | 0,a,h1,h2,I,hc=>⟨a,h2,hc,.inl (by omega),I⟩
 | n+1,a,h1,h2,I,hc=>by
  by_cases h3:a=ops.size
  ·exact⟨a,h2,hc,.inl h3,I⟩
  ·by_cases h4:ChainAt ops a
   ·exact⟨a,h2,hc,.inr h4,I⟩
   ·refine HInv.norm T n (a+1) (by omega) (by omega) (I.next T (by omega) h4) fun j hj=>?_
    rw[hc j hj]
    constructor
    ·intro h;omega
    ·intro h
     rcases Nat.lt_or_ge j a with h5|h5
     ·exact h5
     ·exact absurd (show ChainAt ops a from(show j=a by omega)▸hj) h4
theorem OInv.known (T:Text E call nt ops FA HA) (O:Ordered ops) (I:OInv nt ops FA HA B w0 m0 wi D m w tmps) {i:Nat} {o:Oper} (ho:ops[i]?=some o) (hd : ¬D i) (hb : ∀k,beforeB ops.toList i k=true→D k) :
  FrRel m (keepOnly (FA i) (reads ops.toList o)) tmps:=by
 intro t v hv
 rw[fget_keepOnly] at hv
 by_cases hr:t∈Id.reads ops.toList o
 ·rw[if_pos hr] at hv
  obtain⟨p,hp,hw,hrel⟩:=I.slots t
  have hin:i<ops.size:=(Array.getElem?_eq_some_iff.1 ho).1
  have lo : ∀j x,ops[j]?=some x→x.dst=some t→j<i→D j:=by
   intro j x hj hx hji
   rcases O.pair j i x o hji hj ho with h|h
   ·exact hb j h
   ·rw[clash_wr hx hr] at h;exact absurd h.1 (by simp)
  have hi : ∀j x,ops[j]?=some x→x.dst=some t→i<j → ¬D j:=by
   intro j x hj hx hji hdj
   rcases O.pair i j o x hji ho hj with h|h
   ·exact hd (I.closed j i hdj h)
   ·rw[clash_rw hx hr] at h;exact absurd h.1 (by simp)
  have e:fget (FA i) t=fget (FA p) t:=by
   rcases Nat.le_total p i with hpi|hpi
   ·refine T.keeps i hpi (by omega) fun j x h1 h2 hj hx=>?_
    have:=(hw j x hj hx).1 (lo j x hj hx h2)
    omega
   ·refine(T.keeps p hpi hp fun j x h1 h2 hj hx=>?_).symm
    have hdj:=(hw j x hj hx).2 h2
    rcases Nat.lt_or_ge i j with h3|h3
    ·exact hi j x hj hx h3 hdj
    ·obtain rfl:i=j:=by omega
     exact hd hdj
  rw[e] at hv
  exact hrel v hv
 ·rw[if_neg hr] at hv;cases hv
theorem OInv.put (O:Ordered ops) (I:OInv nt ops FA HA B w0 m0 wi D m w tmps) {i:Nat} {o:Oper} (ho:ops[i]?=some o) (hd : ¬D i) (hb : ∀k,beforeB ops.toList i k=true→D k)
  {v v':Value} (hp:fput nt (FA i) o.dst v=some (FA (i+1))) {m':Mp} (hm:m.le m') (hv:VRel m' v v') :
  (∀t,∃p,p≤ops.size∧(∀j x,ops[j]?=some x→x.dst=some t→((D j∨j=i)↔j<p)) ∧ ∀v,fget (FA p) t=some v → ∃v1,(putT tmps o.dst v')[t]?=some v1∧VRel m' v v1)∧nt≤(putT tmps o.dst v').size:=by
 have hin:i<ops.size:=(Array.getElem?_eq_some_iff.1 ho).1
 have hd2 : ∀d,o.dst=some d→d<nt:=by
  intro d hd
  unfold fput at hp
  simp only[hd,cond_eq_ite,Nat.blt_eq] at hp
  split at hp
  ·assumption
  ·cases hp
 refine⟨fun t=>?_,by cases h:o.dst<;>simpa [putT] using I.size⟩
 by_cases ht:o.dst=some t
 ·refine⟨i+1,by omega,fun j x hj hx=>?_,fun u hu=>?_⟩
  ·constructor
   ·rintro(h|h)
    ·rcases Nat.lt_or_ge i j with h3|h3
     ·rcases O.pair i j o x h3 ho hj with h4|h4
      ·exact absurd (I.closed j i h h4) hd
      ·rw[clash_ww ht hx] at h4;exact absurd h4.1 (by simp)
     ·omega
    ·omega
   ·intro h
    by_cases h3:j=i
    ·exact .inr h3
    ·rcases O.pair j i x o (by omega) hj ho with h4|h4
     ·exact .inl (hb j h4)
     ·rw[clash_ww hx ht] at h4;exact absurd h4.1 (by simp)
  ·rw[fget_fput hp t,if_pos ht] at hu
   cases hu
   have hlt:t<tmps.size:=Nat.lt_of_lt_of_le (hd2 t ht) I.size
   exact⟨v',by simp[putT,ht,hlt],hv⟩
 ·obtain⟨p,h1,h2,h3⟩:=I.slots t
  refine⟨p,h1,fun j x hj hx=>?_,fun u hu=>?_⟩
  ·rw[←h2 j x hj hx]
   constructor
   ·rintro(h|h)
    ·exact h
    ·subst h;rw[ho] at hj;cases hj;exact absurd hx ht
   ·exact .inl
  ·obtain⟨u',h4,h5⟩:=h3 u hu
   refine⟨u',?_,h5.mono hm⟩
   unfold putT
   cases hdst:o.dst with
   | none=>exact h4
   | some d=>simp only;rw[Array.getElem?_setIfInBounds_ne (by rintro rfl;exact ht hdst)];exact h4
def Steady (E:Env) (ops:Array Oper) (FA:Nat→Fr) (HA:Nat→IH):Prop :=
 ∀i o,ops[i]?=some o→kindOf o.op=.load→wantedI ops.toList o (FA i)=some true → ∀p,p≤ops.size→(p=ops.size∨ChainAt ops p) →
  (∀k,ChainAt ops k→k<p→beforeB ops.toList k i=false)→(∀k,ChainAt ops k→p≤k→beforeB ops.toList i k=false) →
  ∀v h',iop E.P (FA i) o.op (HA i)=some (v,h') → ∃h2,iop E.P (FA i) o.op (HA p)=some (v,h2)
theorem OInv.op (hcall:CallSim E.P call) (T:Text E call nt ops FA HA) (O:Ordered ops) (S:Steady E ops FA HA) (I:OInv nt ops FA HA B w0 m0 wi D m w tmps) {i:Nat} {o:Oper} (ho:ops[i]?=some o) (hd : ¬D i)
  (hb : ∀k,beforeB ops.toList i k=true→D k) (b:Frame) (rest:List Nat) (k:List Item) (ds:List Deferred) (cs:List Frame) :
  ∃m' w' tmps',Steps E.P (lone (on b tmps (.inRegion ops (i :: rest) :: k) ds) cs w) (lone (on b tmps' (.inRegion ops rest :: k) ds) cs w')∧OInv nt ops FA HA B w0 m0 wi (fun j=>D j∨j=i) m' w' tmps':=by
 have hin:i<ops.size:=(Array.getElem?_eq_some_iff.1 ho).1
 have hf:=I.known T O ho hd hb
 obtain⟨v,hput,hcase⟩:=T.put ho
 obtain⟨a,hae,hch,hat,H⟩:=I.chain
 have hclosed : ∀j i',(D j∨j=i)→beforeB ops.toList j i'=true→D i'∨i'=i:=by
  rintro j i' (h|rfl) hbf
  ·exact .inl (I.closed j i' h hbf)
  ·exact .inl (hb i' hbf)
 have mk : ∀{m':Mp} {w':World} {v':Value} {c:Nat},m.le m'→VRel m' v v'→c≤ops.size→(∀j,ChainAt ops j→((D j∨j=i)↔j<c))→HInv ops FA HA B w0 m0 wi (fun j=>D j∨j=i) c m' w' →
   OInv nt ops FA HA B w0 m0 wi (fun j=>D j∨j=i) m' w' (putT tmps o.dst v'):=by
  intro m' w' v' c hle hv hc1 hc2 H'
  obtain⟨h1,h2⟩:=I.put O ho hd hb hput hle hv
  exact⟨hclosed,h1,H'.norm T _ c (Nat.le_refl _) hc1 hc2,h2⟩
 have add : ∀{c:Nat} {m':Mp} {w':World},¬AllocAt ops FA i→HInv ops FA HA B w0 m0 wi D c m' w'→HInv ops FA HA B w0 m0 wi (fun j=>D j∨j=i) c m' w':=by
  intro c m' w' hal H'
  have back : ∀j,AllocAt ops FA j→(D j∨j=i)→D j:=by
   rintro j h1 (h2|rfl)
   ·exact h2
   ·exact absurd h1 hal
  refine⟨H'.rel,fun j h1 h2 h3=>H'.none_ j h1 h2 (fun h=>h3 (.inl h)),fun j h0 h1 h2 h3=>H'.pend j h0 h1 h2 (fun h=>h3 (.inl h)),fun j h0 h1 h2 h3=>H'.extra j h0 h1 h2 (back j h2 h3),H'.inj,fun q h1 h2=>?_,H'.le,H'.new,H'.base,H'.frame,H'.idle,H'.size,H'.img,H'.idleF⟩
  rcases H'.fresh q h1 h2 with h|⟨j,h3,h4,h5,h6,h7⟩
  ·exact .inl h
  ·exact .inr ⟨j,h3,h4,h5,.inl h6,h7⟩
 have chsame : ¬ChainAt ops i → ∀j,ChainAt ops j→((D j∨j=i)↔j<a):=by
  intro hnc j hj
  rw[←hch j hj]
  constructor
  ·rintro(h|rfl)
   ·exact h
   ·exact absurd hj hnc
  ·exact .inl
 rcases hcase with⟨hw,hrun⟩|⟨hw,rfl⟩
 ·have hwk:wantedI ops.toList o (keepOnly (FA i) (reads ops.toList o))=some true:=by rw[wanted_keep];exact hw
  have hcg : ∀h,runOp E call (keepOnly (FA i) (reads ops.toList o)) o.op h=runOp E call (FA i) o.op h:=fun h=>runOp_congr (opd_keep _ _ _) h
  have none0 : ∀x:Nat,Fresh m x x:=fun x k h1 h2=>by omega
  have quiet:kindOf o.op≠.chain→kindOf o.op≠.alloc→runOp E call (FA i) o.op (HA a)=some (v,HA a) →
    ∃m' w' tmps',Steps E.P (lone (on b tmps (.inRegion ops (i :: rest) :: k) ds) cs w) (lone (on b tmps' (.inRegion ops rest :: k) ds) cs w')∧OInv nt ops FA HA B w0 m0 wi (fun j=>D j∨j=i) m' w' tmps':=by
   intro hk1 hk2 hr
   have hnc : ¬ChainAt ops i:=by rintro⟨o',h1,h2⟩;rw[ho] at h1;cases h1;exact hk1 h2
   have hna : ¬AllocAt ops FA i:=by rintro⟨o',h1,h2,_⟩;rw[ho] at h1;cases h1;exact hk2 h2
   obtain⟨v',m',w',hS,hv,R',S'⟩:=sim_op hcall ho hwk (by rw[hcg];exact hr) H.rel hf (none0 _) b rest k ds cs
   exact⟨m',w',_,hS,mk S'.le hv hae (chsame hnc) (add hna (H.go T (Nat.le_refl _) hae (fun j h1 h2=>by omega) R' S'))⟩
  cases hk:kindOf o.op with
  | pure =>
   rw[runOp_plain (by rw[hk];simp)] at hrun
   exact quiet (by rw[hk];simp) (by rw[hk];simp) (by rw[runOp_plain (by rw[hk];simp)];exact(iop_pure hk hrun).2 _)
  | load =>
   rw[runOp_plain (by rw[hk];simp)] at hrun
   refine quiet (by rw[hk];simp) (by rw[hk];simp) ?_
   rw[runOp_plain (by rw[hk];simp)]
   obtain⟨h2,e⟩:=S i o ho hk hw a hae hat (fun q hq hqa=>by
     have hdq:=(hch q hq).2 hqa
     cases hbf:beforeB ops.toList q i with
     | false=>rfl
     | true=>exact absurd (I.closed q i hdq hbf) hd)
    (fun q hq hqa=>by
     cases hbf:beforeB ops.toList i q with
     | false=>rfl
     | true=>have:=(hch q hq).1 (hb q hbf);omega) v _ hrun
   rw[e,iop_load hk e]
  | alloc =>
   rw[runOp_plain (by rw[hk];simp)] at hrun
   have hal:AllocAt ops FA i:=⟨o,ho,hk,hw⟩
   have hnc : ¬ChainAt ops i:=by rintro⟨o',h1,h2⟩;rw[ho] at h1;cases h1;rw[hk] at h2;cases h2
   have hrk:iop E.P (keepOnly (FA i) (reads ops.toList o)) o.op (HA i)=some (v,HA (i+1)):=by rw[iop_congr (opd_keep _ _ _)];exact hrun
   obtain⟨obj,e,hl,Ob,v',z,hr,hO,hv⟩:=iop_alloc (opd_evalT H.rel hf) o hk hrk w
   have hnd : ∀c,o.op≠.defer c:=by intro c hc;rw[hc] at hk;simp[kindOf] at hk
   have hst:=st_value (b:=b) (k:=k) (ds:=ds) (cs:=cs) (rest:=rest) ho (wanted_rel hf hwk) hnd hr
   have H':=H.make T hae hin hal hd e hl hO
   exact⟨_,_,_,.one hst,mk (Mp.le_upd (H.none_ i hin hal hd)) (hv _ (Mp.upd_self _ _ _ _)) hae (chsame hnc) H'⟩
  | chain =>
   have hci:ChainAt ops i:=⟨o,ho,hk⟩
   have hai:a≤i:=by
    rcases Nat.lt_or_ge i a with h|h
    ·exact absurd ((hch i hci).2 h) hd
    ·exact h
   have hca:ChainAt ops a:=by
    rcases hat with h|h
    ·omega
    ·exact h
   obtain rfl:a=i:=by
    rcases Nat.lt_or_ge a i with h|h
    ·obtain⟨x,hx,hkx⟩:=hca
     rcases O.pair a i x o h hx ho with h1|h1
     ·have:=(hch a ⟨x,hx,hkx⟩).1 (hb a h1);omega
     ·exact absurd ⟨hkx,hk⟩ h1.2
    ·omega
   have hfr:Fresh m (HA a).n (HA (a+1)).n:=by
    intro q h1 h2
    have hN:(HA (a+1)).n≤(HA ops.size).n:=T.nle _ _ hin (Nat.le_refl _)
    rcases H.fresh q h1 (by omega) with h|⟨j,h3,h4,h5,h6,h7⟩
    ·exact h
    ·exfalso
     have hja:j≠a:=by rintro rfl;exact chain_not_alloc hca h5
     have:=T.nle j (a+1) (by omega) (by omega)
     omega
   obtain⟨v',m',w',hS,hv,R',S'⟩:=sim_op hcall ho hwk (by rw[hcg];exact hrun) H.rel hf hfr b rest k ds cs
   refine⟨m',w',_,hS,mk S'.le hv hin ?_ (add (chain_not_alloc hca) (H.go T (Nat.le_succ _) hin (fun j h1 h2=>?_) R' S'))⟩
   ·intro j hj
    rw[hch j hj]
    omega
   ·obtain rfl:j=a:=by omega
    exact chain_not_alloc hca
 ·-- left out
  have hwk:wantedI ops.toList o (keepOnly (FA i) (reads ops.toList o))=some false:=by rw[wanted_keep];exact hw
  have hna : ¬AllocAt ops FA i:=by rintro⟨o',h1,_,h2⟩;rw[ho] at h1;cases h1;rw[hw] at h2;cases h2
  have hst:=st_off (P:=E.P) (b:=b) (k:=k) (ds:=ds) (cs:=cs) (rest:=rest) (w:=w) ho (wanted_rel hf hwk)
  by_cases hci:ChainAt ops i
  ·have hai:a≤i:=by
    rcases Nat.lt_or_ge i a with h|h
    ·exact absurd ((hch i hci).2 h) hd
    ·exact h
   have hca:ChainAt ops a:=by
    rcases hat with h|h
    ·omega
    ·exact h
   obtain rfl:a=i:=by
    rcases Nat.lt_or_ge a i with h|h
    ·obtain⟨x,hx,hkx⟩:=hca
     obtain⟨o',ho',hk⟩:=hci
     rw[ho] at ho';cases ho'
     rcases O.pair a i x o h hx ho with h1|h1
     ·have:=(hch a ⟨x,hx,hkx⟩).1 (hb a h1);omega
     ·exact absurd ⟨hkx,hk⟩ h1.2
    ·omega
   have e:HA (a+1)=HA a:=by
    have hs:=T.step a o ho
    unfold stepOp at hs
    rw[hw] at hs
    obtain⟨_,_,e⟩:=Option.map_eq_some_iff.1 hs
    exact(Prod.mk.inj e).2.symm
   refine⟨m,w,_,.one hst,mk (Mp.le_refl m) (VRel.undef m) hin ?_ (add hna (H.go T (Nat.le_succ _) hin (fun j h1 h2=>?_) (by rw[e];exact H.rel) (by rw[e];exact Step.refl _ _ _)))⟩
   ·intro j hj
    rw[hch j hj]
    omega
   ·obtain rfl:j=a:=by omega
    exact hna
  ·exact⟨m,w,_,.one hst,mk (Mp.le_refl m) (VRel.undef m) hae (chsame hci) (add hna H)⟩
end
end Go.Id

namespace Go.Id
open Go Go.RowKit
theorem steady_spec {E:Env} {ops:Array Oper} {tr:List (Fr×IH)} {FA:Nat→Fr} {HA:Nat→IH} (hs:steady E.P ops.toList tr (plan ops.toList)=true) (htr : ∀i,i≤ops.size→tr[i]?=some (FA i,HA i)) :
  Steady E ops FA HA:=by
 intro i o ho hk hw p hp hpat h1 h2 v h' hv
 have hin:i<ops.size:=(Array.getElem?_eq_some_iff.1 ho).1
 have ho':ops.toList[i]?=some o:=by simpa using ho
 unfold steady at hs
 rw[List.all_eq_true] at hs
 have hch : ∀q,q∈(List.range ops.toList.length).filter (fun k=>match ops.toList[k]? with|some o=>kindOf o.op == .chain|none=>false)↔ChainAt ops q:=by
  intro q
  rw[List.mem_filter]
  constructor
  ·rintro⟨_,hq⟩
   cases hx:ops.toList[q]? with
   | none=>simp[hx] at hq
   | some x=>simp only[hx,beq_iff_eq] at hq;exact⟨x,by simpa using hx,hq⟩
  ·rintro⟨x,hx,hq⟩
   have:=(Array.getElem?_eq_some_iff.1 hx).1
   have hx':ops.toList[q]?=some x:=by simpa using hx
   exact⟨by simpa using this,by rw[hx'];simp[hq]⟩
 have hm:=hs (i,_) (by
  unfold plan
  rw[List.mem_filterMap]
  refine⟨i,by simpa using hin,?_⟩
  simp only[ho',hk,beq_self_eq_true,cond_true]
  rfl)
 simp only[ho',htr i (Nat.le_of_lt hin),hw] at hm
 rw[List.all_eq_true] at hm
 have hpm:=hm p (by
  rw[List.mem_filter,List.mem_append]
  refine⟨?_,?_⟩
  ·rcases hpat with rfl|h
   ·right;simp
   ·left;exact(hch p).2 h
  ·rw[List.all_eq_true]
   intro q hq
   have hcq:=(hch q).1 hq
   cases hb:Nat.blt q p with
   | true =>
    have:=h1 q hcq (by simpa using hb)
    unfold beforeB at this
    rw[cond_true,this];rfl
   | false =>
    have:=h2 q hcq (by
     rcases Nat.lt_or_ge q p with h|h
     ·have:Nat.blt q p=true:=by simpa [Nat.blt_eq] using h
      rw[this] at hb;cases hb
     ·exact h)
    unfold beforeB at this
    rw[cond_false,this];rfl)
 simp only[htr p hp] at hpm
 unfold steadyAt at hpm
 rw[hv] at hpm
 split at hpm
 ·rename_i h3 h4
  rename_i v1 _ v2 _
  cases h3
  rw[eqV_eq hpm]
  exact⟨_,h4⟩
 ·cases hpm
theorem HInv.first {E:Env} {call:CallV} {nt:Nat} {ops:Array Oper} {FA:Nat→Fr} {HA:Nat→IH} {B:Nat} {w0:World} {m:Mp} {w:World} (T:Text E call nt ops FA HA) (R:Rel B w0 m (HA 0) w) (hf:Fresh m (HA 0).n (HA ops.size).n) :
  HInv ops FA HA B w0 m w (fun _=>False) 0 m w:=by
 refine⟨R,?_,fun i h=>by omega,fun i _ _ _ h=>h.elim,?_,fun k h1 h2=>.inl (hf k h1 h2),Mp.le_refl m,fun b h=>absurd rfl h,rfl,fun _ _ _=>rfl,fun _ _ _=>rfl,Nat.le_refl _,?_,fun _ _ _ h=>h⟩
 ·intro i hi hal _
  obtain⟨obj,e,_⟩:=T.alloc hal
  have h2:(HA (i+1)).n≤(HA ops.size).n:=T.nle _ (i+1) hi (Nat.le_refl _)
  rw[e] at h2
  have:((HA i).new obj).n=(HA i).n+1:=rfl
  exact hf _ (T.nle i 0 (Nat.zero_le _) (by omega)) (by omega)
 ·intro k k' r s s' h1 h2 h3 h4 h5
  rw[hf k h1 h2] at h5;cases h5
 ·intro k r s h1 h2 h3
  rw[hf k h1 h2] at h3;cases h3
section
variable {E:Env} {call:CallV} {nt:Nat} {ops:Array Oper} {FA:Nat→Fr} {HA:Nat→IH} {B:Nat} {w0:World} {m0:Mp} {wi:World}
theorem beforeB_ready (O:Ordered ops) {listed:Array Bool} (hcl : ∀j i,listed[j]?=some true→beforeB ops.toList j i=true→listed[i]?=some true) {i:Nat} {o:Oper} (ho:ops[i]?=some o)
  (hall : ∀e∈o.after,Region.binds .any e=true→listed[e.on]?=some true) : ∀k,beforeB ops.toList i k=true→listed[k]?=some true:=by
 intro k hb
 have ho':ops.toList[i]?=some o:=by simpa using ho
 obtain⟨e,he,hbe,h⟩:=(beforeB_iff ho' (O.edge i o ho)).1 hb
 have h1:=hall e he hbe
 rcases h with h|h
 ·rw[←h];exact h1
 ·exact hcl _ _ h1 h
theorem open_go (hcall:CallSim E.P call) (T:Text E call nt ops FA HA) (O:Ordered ops) (S:Steady E ops FA HA) (b:Frame) (k:List Item) (ds:List Deferred) (cs:List Frame) :
  ∀(fuel t:Nat) (listed:Array Bool) (U:List Nat) (m:Mp) (w:World) (tmps:Array Value),listed.size=ops.size→(∀j,j∈U↔j<ops.size∧listed[j]?≠some true)→U.Nodup→U.length≤fuel →
   OInv nt ops FA HA B w0 m0 wi (fun j=>listed[j]?=some true) m w tmps →
   ∃m' w' tmps',Steps E.P (lone (on b tmps (.inRegion ops (Region.linearise.go .any ops fuel t listed []) :: k) ds) cs w) (lone (on b tmps' (.inRegion ops [] :: k) ds) cs w')∧OInv nt ops FA HA B w0 m0 wi (fun j=>j<ops.size) m' w' tmps'
 | 0,t,listed,U,m,w,tmps,hsz,hU,hnd,hlen,I=>by
  have hU0:U = []:=List.eq_nil_of_length_eq_zero (by omega)
  subst hU0
  have e:(fun j=>listed[j]?=some true)=fun j=>j<ops.size:=by
   funext j;apply propext
   constructor
   ·intro h
    have:=(Array.getElem?_eq_some_iff.1 h).1
    omega
   ·intro h
    apply Classical.byContradiction;intro hn
    exact absurd ((hU j).2 ⟨h,hn⟩) (by simp)
  rw[e] at I
  exact⟨m,w,tmps,by simp only[Region.linearise.go,List.reverse_nil];exact .refl _ _,I⟩
 | fuel+1,t,listed,U,m,w,tmps,hsz,hU,hnd,hlen,I=>by
  have get : ∀{j},j<ops.size → ∀d,(listed.getD j d=true↔listed[j]?=some true):=by
   intro j hj d
   rw[Array.getD_eq_getD_getElem?,Array.getElem?_eq_getElem (by omega)]
   simp
  have mem_ready : ∀i,i∈Region.ready .any ops listed↔i<ops.size∧listed[i]?≠some true ∧ ∃o,ops[i]?=some o ∧ ∀e∈o.after,Region.binds .any e=true→listed[e.on]?=some true:=by
   intro i
   unfold Region.ready
   rw[List.mem_filter,List.mem_range]
   constructor
   ·rintro⟨h1,h2⟩
    simp only[Bool.and_eq_true,Bool.not_eq_true'] at h2
    refine⟨h1,fun h=>?_,?_⟩
    ·have:=(get h1 true).2 h;rw[this] at h2;cases h2.1
    ·cases ho:ops[i]? with
     | none=>rw[ho] at h2;simp at h2
     | some o =>
      refine⟨o,rfl,fun e he hb=>?_⟩
      rw[ho] at h2
      simp only[Option.map_some,Option.getD_some,Array.all_eq_true',Bool.or_eq_true,Bool.not_eq_true'] at h2
      rcases h2.2 e he with h3|h3
      ·rw[hb] at h3;cases h3
      ·have hlt:=O.edge i o ho e he hb
       exact(get (by omega) false).1 h3
   ·rintro⟨h1,h2,o,ho,h3⟩
    refine⟨h1,?_⟩
    simp only[Bool.and_eq_true,Bool.not_eq_true']
    constructor
    ·cases hg:listed.getD i true with
     | false=>rfl
     | true=>exact absurd ((get h1 true).1 hg) h2
    ·rw[ho]
     simp only[Option.map_some,Option.getD_some,Array.all_eq_true',Bool.or_eq_true,Bool.not_eq_true']
     intro e he
     cases hb:Region.binds .any e with
     | false=>exact .inl rfl
     | true =>
      have hlt:=O.edge i o ho e he hb
      exact .inr ((get (by omega) false).2 (h3 e he hb))
  rw[show Region.linearise.go .any ops (fuel+1) t listed []=(match (Region.ready .any ops listed)[t % (Region.ready .any ops listed).length]? with
   | some i=>Region.linearise.go .any ops fuel (t / (Region.ready .any ops listed).length) (listed.setIfInBounds i true) [i]
   | none => [].reverse) from rfl]
  cases hi:(Region.ready .any ops listed)[t % (Region.ready .any ops listed).length]? with
  | none =>
   have hnil:Region.ready .any ops listed = []:=by
    cases hr:Region.ready .any ops listed with
    | nil=>rfl
    | cons x xs =>
     rw[hr] at hi
     have hlt:t % (x :: xs).length<(x :: xs).length:=Nat.mod_lt _ (by simp)
     rw[List.getElem?_eq_getElem hlt] at hi;cases hi
   have hall : ∀j,j<ops.size→listed[j]?=some true:=by
    intro j
    induction j using Nat.strongRecOn with
    | ind j ih =>
     intro hj
     apply Classical.byContradiction;intro hn
     have:j∈Region.ready .any ops listed:=(mem_ready j).2 ⟨hj,hn,ops[j],Array.getElem?_eq_getElem hj,fun e he hb=>by
      have hlt:=O.edge j _ (Array.getElem?_eq_getElem hj) e he hb
      exact ih e.on hlt (by omega)⟩
     rw[hnil] at this;cases this
   have e:(fun j=>listed[j]?=some true)=fun j=>j<ops.size:=by
    funext j;apply propext
    constructor
    ·intro h
     have:=(Array.getElem?_eq_some_iff.1 h).1
     omega
    ·exact hall j
   rw[e] at I
   exact⟨m,w,tmps,.refl _ _,I⟩
  | some i =>
   simp only
   obtain⟨h1,h2,o,ho,h3⟩:=(mem_ready i).1 (List.mem_of_getElem? hi)
   rw[linearise_go_acc,List.reverse_singleton,List.singleton_append]
   obtain⟨m1,w1,tmps1,hS1,I1⟩:=I.op hcall T O S ho h2 (beforeB_ready O I.closed ho h3) b (Region.linearise.go .any ops fuel (t / (Region.ready .any ops listed).length) (listed.setIfInBounds i true) []) k ds cs
   have hset : ∀j,(listed.setIfInBounds i true)[j]?=some true↔listed[j]?=some true∨j=i:=by
    intro j
    rw[Array.getElem?_setIfInBounds]
    by_cases hji:i=j
    ·subst hji;simp[hsz,h1]
    ·rw[if_neg hji]
     constructor
     ·exact .inl
     ·rintro(h|h)
      ·exact h
      ·exact absurd h.symm hji
   have e:(fun j=>listed[j]?=some true∨j=i)=fun j=>(listed.setIfInBounds i true)[j]?=some true:=by
    funext j;exact propext (hset j).symm
   rw[e] at I1
   have hiU:i∈U:=(hU i).2 ⟨h1,h2⟩
   obtain⟨m',w',tmps',hS,I'⟩:=open_go hcall T O S b k ds cs fuel (t / (Region.ready .any ops listed).length) (listed.setIfInBounds i true) (U.erase i) m1 w1 tmps1 (by simpa using hsz)
    (fun j=>by
     rw[hnd.mem_erase_iff,hU j]
     constructor
     ·rintro⟨a,b,c⟩
      refine⟨b,fun h=>?_⟩
      rcases(hset j).1 h with h|h
      ·exact c h
      ·exact a h
     ·rintro⟨a,b⟩
      exact⟨fun h=>b ((hset j).2 (.inr h)),a,fun h=>b ((hset j).2 (.inl h))⟩)
    (hnd.erase i) (by rw[List.length_erase_of_mem hiU];omega) I1
   exact⟨m',w',tmps',hS1.trans hS,I'⟩
end
theorem sim_drawn {E:Env} {call:CallV} (hcall:CallSim E.P call) (hmono:CallMono call) (hmix:E.P.follows .mixedOrders=true) {nt:Nat} {ops:Array Oper} {fr fr':Fr} {h h':IH} (hr:runDrawn E call nt ops.toList fr h=some (fr',h'))
  {B:Nat} {w0:World} {m:Mp} {w:World} (R:Rel B w0 m h w) {tmps:Array Value} (hf:FrRel m fr tmps) (hn:nt≤tmps.size) (hfr:Fresh m h.n h'.n) (b:Frame) (k:List Item) (ds:List Deferred) (cs:List Frame) (id:Nat) :
  h.n≤h'.n ∧ ∃m' w' tmps',Steps E.P (lone (on b tmps (.code (.region id ops true) :: k) ds) cs w) (lone (on b tmps' k ds) cs w')∧FrRel m' fr' tmps'∧nt≤tmps'.size∧Rel B w0 m' h' w'∧Step m h w m' h' w':=by
 unfold runDrawn at hr
 cases htr:trace E call nt ops.toList ops.toList fr h with
 | none=>rw[htr] at hr;cases hr
 | some tr =>
  rw[htr] at hr
  simp only[cond_eq_ite,Bool.and_eq_true] at hr
  by_cases hc:orderOK ops.toList=true∧steady E.P ops.toList tr (plan ops.toList)=true
  ·rw[if_pos hc] at hr
   have O:=orderOK_spec hc.1
   obtain⟨hlen,h0,hstep⟩:=trace_spec ops.toList fr h tr htr
   have hlen':tr.length=ops.size+1:=by simpa using hlen
   let FA:Nat→Fr:=fun i=>((tr[i]?).map (·.1)).getD fr
   let HA:Nat→IH:=fun i=>((tr[i]?).map (·.2)).getD h
   have htrA : ∀i,i≤ops.size→tr[i]?=some (FA i,HA i):=by
    intro i hi
    have:tr[i]?=some tr[i]:=List.getElem?_eq_getElem (by omega)
    simp only[FA,HA,this,Option.map_some,Option.getD_some]
   have T:Text E call nt ops FA HA:=by
    refine⟨hmono,fun i o ho=>?_⟩
    obtain⟨fr1,h1,fr2,h2,e1,e2,e3⟩:=hstep i o (by simpa using ho)
    have hin:i<ops.size:=(Array.getElem?_eq_some_iff.1 ho).1
    rw[htrA i (by omega)] at e1;rw[htrA (i+1) (by omega)] at e2
    cases e1;cases e2;exact e3
   have S:=steady_spec (E:=E) hc.2 htrA
   have e0:FA 0=fr∧HA 0=h:=by
    have:=htrA 0 (Nat.zero_le _)
    rw[h0] at this;exact⟨(Prod.mk.inj (Option.some.inj this)).1.symm,(Prod.mk.inj (Option.some.inj this)).2.symm⟩
   have en:FA ops.size=fr'∧HA ops.size=h':=by
    have:=htrA ops.size (Nat.le_refl _)
    simp only[Array.length_toList] at hr
    rw[hr] at this;exact⟨(Prod.mk.inj (Option.some.inj this)).1.symm,(Prod.mk.inj (Option.some.inj this)).2.symm⟩
   have R1:Rel B w0 m (HA 0) { w with drawn:=w.drawn+1 }:=by rw[e0.2];exact R.congr rfl (below_drew R.below _)
   have hmono':h.n≤h'.n:=by have:=T.nle ops.size 0 (Nat.zero_le _) (Nat.le_refl _);rw[e0.2,en.2] at this;exact this
   have H0:=HInv.first T R1 (by rw[e0.2,en.2];exact hfr)
   have I0:OInv nt ops FA HA B w0 m { w with drawn:=w.drawn+1 } (fun j:Nat=>(Array.replicate ops.size false)[j]?=some true) m { w with drawn:=w.drawn+1 } tmps:=by
    have e:(fun j:Nat=>(Array.replicate ops.size false)[j]?=some true)=fun _=>False:=by
     funext j;apply propext
     rw[Array.getElem?_replicate]
     constructor
     ·intro h;split at h
      ·cases h
      ·cases h
     ·exact False.elim
    rw[e]
    refine⟨fun _ _ h=>h.elim,fun t=>⟨0,Nat.zero_le _,fun j o _ _=>by simp,fun v hv=>by rw[e0.1] at hv;exact hf t v hv⟩,?_,hn⟩
    exact H0.norm T _ 0 (Nat.le_refl _) (Nat.zero_le _) (fun j _=>by simp)
   obtain⟨m',w',tmps',hS,I'⟩:=open_go hcall T O S b k ds cs ops.size (w.tape w.drawn (.order b.fn id)) (Array.replicate ops.size false) (List.range ops.size) m { w with drawn:=w.drawn+1 } tmps (by simp)
    (fun j=>by
     rw[List.mem_range,Array.getElem?_replicate]
     constructor
     ·intro h;refine⟨h,?_⟩;rw[if_pos h];simp
     ·exact fun h=>h.1)
    List.nodup_range (by simp) I0
   obtain⟨a,h1,h2,h3,H⟩:=I'.chain
   have ha:a=ops.size:=by
    rcases h3 with h|h
    ·exact h
    ·have hlt:a<ops.size:=by
      obtain⟨o,ho,_⟩:=h
      exact(Array.getElem?_eq_some_iff.1 ho).1
     have:=(h2 a h).1 hlt;omega
   subst ha
   refine⟨hmono',m',w',tmps',?_,?_,I'.size,by rw[←en.2];exact H.rel,?_⟩
   ·refine .head st_region_draw ?_
    have:Region.schedule (E.P.follows .mixedOrders) ops (w.tape w.drawn (.order b.fn id))=Region.linearise.go .any ops ops.size (w.tape w.drawn (.order b.fn id)) (Array.replicate ops.size false) []:=by
     rw[hmix];simp only[Region.schedule,Bool.true_or,if_true,Region.linearise]
    rw[this]
    exact hS.trans (.one st_region_end)
   ·intro t v hv
    obtain⟨p,hp,hw,hrel⟩:=I'.slots t
    have:fget (FA ops.size) t=fget (FA p) t:=T.keeps ops.size hp (Nat.le_refl _) fun j o h4 h5 h6 h7=>by
     have:=(hw j o h6 h7).1 h5;omega
    rw[←en.1,this] at hv
    exact hrel v hv
   ·refine Step.congr (w1:={ w with drawn:=w.drawn+1 }) ?_ rfl
    rw[←e0.2,←en.2]
    exact⟨H.le,H.new,T.nle _ _ (Nat.zero_le _) (Nat.le_refl _),H.base,H.frame,H.idle,H.size,H.img,H.idleF⟩
  ·rw[if_neg hc] at hr;cases hr
end Go.Id
