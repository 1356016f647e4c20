/-
  The ideal machine: a region whose order is open, whole.
-/
import Derived.Test.YtnnmjocmapilaaaGreatOutlierValidAh
import Derived.RangeFuncIn
import Derived.RangeFuncRecord
set_option linter.unusedVariables false
set_option linter.unusedSimpArgs false
set_option linter.defProp false
set_option linter.deprecated false
namespace Go.Id
open Go Go.RowKit
theorem Fl {E:Env} {ops:Array Oper} {tr:List (Fr×IH)} {FA:Nat→Fr} {HA:Nat→IH} (hs:steady E.P ops.toList tr (xX ops.toList)=true) (htr : ∀i,i≤ops.size→tr[i]?=some (FA i,HA i)) :
  JO E ops FA HA:=by
 intro i o ho hk hw p hp hpat h1 h2 v h' hv
 have hin:i<ops.size:=(Array.getElem?_eq_some_iff.1 ho).1
 have ho':ops.toList[i]?=some o:=by simpa using ho
 unfold steady at hs
 rw[List.all_eq_true] at hs
 have hch : ∀q,q∈(List.range ops.toList.length).filter (fun k=>match ops.toList[k]? with|some o=>cB o.op == .chain|none=>false)↔cN ops q:=by
  intro q
  rw[List.mem_filter]
  constructor
  ·rintro⟨_,hq⟩
   cases hx:ops.toList[q]? with
   | none=>simp[hx] at hq
   | some x=>simp only[hx,beq_iff_eq] at hq;exact⟨x,by simpa using hx,hq⟩
  ·rintro⟨x,hx,hq⟩
   have:=(Array.getElem?_eq_some_iff.1 hx).1
   have hx':ops.toList[q]?=some x:=by simpa using hx
   exact⟨by simpa using this,by rw[hx'];simp[hq]⟩
 have hm:=hs (i,_) (by
  unfold xX
  rw[List.mem_filterMap]
  refine⟨i,by simpa using hin,?_⟩
  simp only[ho',hk,beq_self_eq_true,cond_true]
  rfl)
 simp only[ho',htr i (Nat.le_of_lt hin),hw] at hm
 rw[List.all_eq_true] at hm
 have hpm:=hm p (by
  rw[List.mem_filter,List.mem_append]
  refine⟨?_,?_⟩
  ·rcases hpat with rfl|h
   ·right;simp
   ·left;exact(hch p).2 h
  ·rw[List.all_eq_true]
   intro q hq
   have hcq:=(hch q).1 hq
   cases hb:Nat.blt q p with
   | true =>
    have:=h1 q hcq (by simpa using hb)
    unfold fe at this
    rw[cond_true,this];rfl
   | false =>
    have:=h2 q hcq (by
     rcases Nat.lt_or_ge q p with h|h
     ·have:Nat.blt q p=true:=by simpa [Nat.blt_eq] using h
      rw[this] at hb;cases hb
     ·exact h)
    unfold fe at this
    rw[cond_false,this];rfl)
 simp only[htr p hp] at hpm
 unfold gE at hpm
 rw[hv] at hpm
 split at hpm
 ·rename_i h3 h4
  rename_i v1 _ v2 _
  cases h3
  rw[Xk hpm]
  exact⟨_,h4⟩
 ·cases hpm
theorem mE.first {E:Env} {call:a8} {nt:Nat} {ops:Array Oper} {FA:Nat→Fr} {HA:Nat→IH} {B:Nat} {w0:World} {m:Mp} {w:World} (T:Text E call nt ops FA HA) (R:Rel B w0 m (HA 0) w) (hf:eo m (HA 0).n (HA ops.size).n) :
  mE ops FA HA B w0 m w (fun _=>False) 0 m w:=by
 refine⟨R,?_,fun i h=>by omega,fun i _ _ _ h=>h.elim,?_,fun k h1 h2=>.inl (hf k h1 h2),Mp.le_refl m,fun b h=>absurd rfl h,rfl,fun _ _ _=>rfl,fun _ _ _=>rfl,Nat.le_refl _,?_,fun _ _ _ h=>h⟩
 ·intro i hi hal _
  obtain⟨obj,e,_⟩:=T.alloc hal
  have h2:(HA (i+1)).n≤(HA ops.size).n:=T.nle _ (i+1) hi (Nat.le_refl _)
  rw[e] at h2
  have:((HA i).new obj).n=(HA i).n+1:=rfl
  exact hf _ (T.nle i 0 (Nat.zero_le _) (by omega)) (by omega)
 ·intro k k' r s s' h1 h2 h3 h4 h5
  rw[hf k h1 h2] at h5;cases h5
 ·intro k r s h1 h2 h3
  rw[hf k h1 h2] at h3;cases h3
section
variable {E:Env} {call:a8} {nt:Nat} {ops:Array Oper} {FA:Nat→Fr} {HA:Nat→IH} {B:Nat} {w0:World} {m0:Mp} {wi:World}
theorem Bj (O:Ordered ops) {listed:Array Bool} (hcl : ∀j i,listed[j]?=some true→fe ops.toList j i=true→listed[i]?=some true) {i:Nat} {o:Oper} (ho:ops[i]?=some o)
  (ef : ∀e∈o.after,Region.binds .any e=true→listed[e.on]?=some true) : ∀k,fe ops.toList i k=true→listed[k]?=some true:=by
 intro k hb
 have ho':ops.toList[i]?=some o:=by simpa using ho
 obtain⟨e,he,hbe,h⟩:=(Hn ho' (O.Un i o ho)).1 hb
 have h1:=ef e he hbe
 rcases h with h|h
 ·rw[←h];exact h1
 ·exact hcl _ _ h1 h
theorem KM (fG:kj E.P call) (T:Text E call nt ops FA HA) (O:Ordered ops) (S:JO E ops FA HA) (b:Frame) (k:List Item) (ds:List Deferred) (cs:List Frame) :
  ∀(fuel t:Nat) (listed:Array Bool) (U:List Nat) (m:Mp) (w:World) (tmps:Array Value),listed.size=ops.size→(∀j,j∈U↔j<ops.size∧listed[j]?≠some true)→U.Nodup→U.length≤fuel →
   yc nt ops FA HA B w0 m0 wi (fun j=>listed[j]?=some true) m w tmps →
   ∃m' w' bF,Steps E.P (lone (on b tmps (.inRegion ops (Region.linearise.go .any ops fuel t listed []) :: k) ds) cs w) (lone (on b bF (.inRegion ops [] :: k) ds) cs w')∧yc nt ops FA HA B w0 m0 wi (fun j=>j<ops.size) m' w' bF
 | 0,t,listed,U,m,w,tmps,hsz,hU,hnd,hlen,I=>by
  have hU0:U = []:=List.eq_nil_of_length_eq_zero (by omega)
  subst hU0
  have e:(fun j=>listed[j]?=some true)=fun j=>j<ops.size:=by
   funext j;apply propext
   constructor
   ·intro h
    have:=(Array.getElem?_eq_some_iff.1 h).1
    omega
   ·intro h
    apply Classical.byContradiction;intro hn
    exact absurd ((hU j).2 ⟨h,hn⟩) (by simp)
  rw[e] at I
  exact⟨m,w,tmps,by simp only[Region.linearise.go,List.reverse_nil];exact .refl _ _,I⟩
 | fuel+1,t,listed,U,m,w,tmps,hsz,hU,hnd,hlen,I=>by
  have get : ∀{j},j<ops.size → ∀d,(listed.getD j d=true↔listed[j]?=some true):=by
   intro j hj d
   rw[Array.getD_eq_getD_getElem?,Array.getElem?_eq_getElem (by omega)]
   simp
  have mem_ready : ∀i,i∈Region.ready .any ops listed↔i<ops.size∧listed[i]?≠some true ∧ ∃o,ops[i]?=some o ∧ ∀e∈o.after,Region.binds .any e=true→listed[e.on]?=some true:=by
   intro i
   unfold Region.ready
   rw[List.mem_filter,List.mem_range]
   constructor
   ·rintro⟨h1,h2⟩
    simp only[Bool.and_eq_true,Bool.not_eq_true'] at h2
    refine⟨h1,fun h=>?_,?_⟩
    ·have:=(get h1 true).2 h;rw[this] at h2;cases h2.1
    ·cases ho:ops[i]? with
     | none=>rw[ho] at h2;simp at h2
     | some o =>
      refine⟨o,rfl,fun e he hb=>?_⟩
      rw[ho] at h2
      simp only[Option.map_some,Option.getD_some,Array.all_eq_true',Bool.or_eq_true,Bool.not_eq_true'] at h2
      rcases h2.2 e he with h3|h3
      ·rw[hb] at h3;cases h3
      ·have hlt:=O.Un i o ho e he hb
       exact(get (by omega) false).1 h3
   ·rintro⟨h1,h2,o,ho,h3⟩
    refine⟨h1,?_⟩
    simp only[Bool.and_eq_true,Bool.not_eq_true']
    constructor
    ·cases hg:listed.getD i true with
     | false=>rfl
     | true=>exact absurd ((get h1 true).1 hg) h2
    ·rw[ho]
     simp only[Option.map_some,Option.getD_some,Array.all_eq_true',Bool.or_eq_true,Bool.not_eq_true']
     intro e he
     cases hb:Region.binds .any e with
     | false=>exact .inl rfl
     | true =>
      have hlt:=O.Un i o ho e he hb
      exact .inr ((get (by omega) false).2 (h3 e he hb))
  rw[show Region.linearise.go .any ops (fuel+1) t listed []=(match (Region.ready .any ops listed)[t % (Region.ready .any ops listed).length]? with
   | some i=>Region.linearise.go .any ops fuel (t / (Region.ready .any ops listed).length) (listed.setIfInBounds i true) [i]
   | none => [].reverse) from rfl]
  cases hi:(Region.ready .any ops listed)[t % (Region.ready .any ops listed).length]? with
  | none =>
   have WU:Region.ready .any ops listed = []:=by
    cases hr:Region.ready .any ops listed with
    | nil=>rfl
    | cons x xs =>
     rw[hr] at hi
     have hlt:t % (x :: xs).length<(x :: xs).length:=Nat.mod_lt _ (by simp)
     rw[List.getElem?_eq_getElem hlt] at hi;cases hi
   have ef : ∀j,j<ops.size→listed[j]?=some true:=by
    intro j
    induction j using Nat.strongRecOn with
    | ind j ih =>
     intro hj
     apply Classical.byContradiction;intro hn
     have:j∈Region.ready .any ops listed:=(mem_ready j).2 ⟨hj,hn,ops[j],Array.getElem?_eq_getElem hj,fun e he hb=>by
      have hlt:=O.Un j _ (Array.getElem?_eq_getElem hj) e he hb
      exact ih e.on hlt (by omega)⟩
     rw[WU] at this;cases this
   have e:(fun j=>listed[j]?=some true)=fun j=>j<ops.size:=by
    funext j;apply propext
    constructor
    ·intro h
     have:=(Array.getElem?_eq_some_iff.1 h).1
     omega
    ·exact ef j
   rw[e] at I
   exact⟨m,w,tmps,.refl _ _,I⟩
  | some i =>
   simp only
   obtain⟨h1,h2,o,ho,h3⟩:=(mem_ready i).1 (List.mem_of_getElem? hi)
   rw[linearise_go_acc,List.reverse_singleton,List.singleton_append]
   obtain⟨m1,w1,cE,hS1,I1⟩:=I.op fG T O S ho h2 (Bj O I.closed ho h3) b (Region.linearise.go .any ops fuel (t / (Region.ready .any ops listed).length) (listed.setIfInBounds i true) []) k ds cs
   have I5 : ∀j,(listed.setIfInBounds i true)[j]?=some true↔listed[j]?=some true∨j=i:=by
    intro j
    rw[Array.getElem?_setIfInBounds]
    by_cases hji:i=j
    ·subst hji;simp[hsz,h1]
    ·rw[if_neg hji]
     constructor
     ·exact .inl
     ·rintro(h|h)
      ·exact h
      ·exact absurd h.symm hji
   have e:(fun j=>listed[j]?=some true∨j=i)=fun j=>(listed.setIfInBounds i true)[j]?=some true:=by
    funext j;exact propext (I5 j).symm
   rw[e] at I1
   have hiU:i∈U:=(hU i).2 ⟨h1,h2⟩
   obtain⟨m',w',bF,hS,I'⟩:=KM fG T O S b k ds cs fuel (t / (Region.ready .any ops listed).length) (listed.setIfInBounds i true) (U.erase i) m1 w1 cE (by simpa using hsz)
    (fun j=>by
     rw[hnd.mem_erase_iff,hU j]
     constructor
     ·rintro⟨a,b,c⟩
      refine⟨b,fun h=>?_⟩
      rcases(I5 j).1 h with h|h
      ·exact c h
      ·exact a h
     ·rintro⟨a,b⟩
      exact⟨fun h=>b ((I5 j).2 (.inr h)),a,fun h=>b ((I5 j).2 (.inl h))⟩)
    (hnd.erase i) (by rw[List.length_erase_of_mem hiU];omega) I1
   exact⟨m',w',bF,hS1.trans hS,I'⟩
end
theorem MI {E:Env} {call:a8} (fG:kj E.P call) (cG:dj call) (WY:E.P.follows .mixedOrders=true) {nt:Nat} {ops:Array Oper} {fr fr':Fr} {h h':IH} (hr:gH E call nt ops.toList fr h=some (fr',h'))
  {B:Nat} {w0:World} {m:Mp} {w:World} (R:Rel B w0 m h w) {tmps:Array Value} (hf:dG m fr tmps) (hn:nt≤tmps.size) (hfr:eo m h.n h'.n) (b:Frame) (k:List Item) (ds:List Deferred) (cs:List Frame) (id:Nat) :
  h.n≤h'.n ∧ ∃m' w' bF,Steps E.P (lone (on b tmps (.code (.region id ops true) :: k) ds) cs w) (lone (on b bF k ds) cs w')∧dG m' fr' bF∧nt≤bF.size∧Rel B w0 m' h' w'∧Step m h w m' h' w':=by
 unfold gH at hr
 cases htr:trace E call nt ops.toList ops.toList fr h with
 | none=>rw[htr] at hr;cases hr
 | some tr =>
  rw[htr] at hr
  simp only[cond_eq_ite,Bool.and_eq_true] at hr
  by_cases hc:lh ops.toList=true∧steady E.P ops.toList tr (xX ops.toList)=true
  ·rw[if_pos hc] at hr
   have O:=Dz hc.1
   obtain⟨hlen,h0,Zm⟩:=oJ ops.toList fr h tr htr
   have Lo:tr.length=ops.size+1:=by simpa using hlen
   let FA:Nat→Fr:=fun i=>((tr[i]?).map (·.1)).getD fr
   let HA:Nat→IH:=fun i=>((tr[i]?).map (·.2)).getD h
   have QK : ∀i,i≤ops.size→tr[i]?=some (FA i,HA i):=by
    intro i hi
    have:tr[i]?=some tr[i]:=List.getElem?_eq_getElem (by omega)
    simp only[FA,HA,this,Option.map_some,Option.getD_some]
   have T:Text E call nt ops FA HA:=by
    refine⟨cG,fun i o ho=>?_⟩
    obtain⟨fr1,h1,fr2,h2,e1,e2,e3⟩:=Zm i o (by simpa using ho)
    have hin:i<ops.size:=(Array.getElem?_eq_some_iff.1 ho).1
    rw[QK i (by omega)] at e1;rw[QK (i+1) (by omega)] at e2
    cases e1;cases e2;exact e3
   have S:=Fl (E:=E) hc.2 QK
   have e0:FA 0=fr∧HA 0=h:=by
    have:=QK 0 (Nat.zero_le _)
    rw[h0] at this;exact⟨(Prod.mk.inj (Option.some.inj this)).1.symm,(Prod.mk.inj (Option.some.inj this)).2.symm⟩
   have en:FA ops.size=fr'∧HA ops.size=h':=by
    have:=QK ops.size (Nat.le_refl _)
    simp only[Array.length_toList] at hr
    rw[hr] at this;exact⟨(Prod.mk.inj (Option.some.inj this)).1.symm,(Prod.mk.inj (Option.some.inj this)).2.symm⟩
   have R1:Rel B w0 m (HA 0) { w with drawn:=w.drawn+1 }:=by rw[e0.2];exact R.congr rfl (jQ R.below _)
   have WW:h.n≤h'.n:=by have:=T.nle ops.size 0 (Nat.zero_le _) (Nat.le_refl _);rw[e0.2,en.2] at this;exact this
   have H0:=mE.first T R1 (by rw[e0.2,en.2];exact hfr)
   have I0:yc nt ops FA HA B w0 m { w with drawn:=w.drawn+1 } (fun j:Nat=>(Array.replicate ops.size false)[j]?=some true) m { w with drawn:=w.drawn+1 } tmps:=by
    have e:(fun j:Nat=>(Array.replicate ops.size false)[j]?=some true)=fun _=>False:=by
     funext j;apply propext
     rw[Array.getElem?_replicate]
     constructor
     ·intro h;split at h
      ·cases h
      ·cases h
     ·exact False.elim
    rw[e]
    refine⟨fun _ _ h=>h.elim,fun t=>⟨0,Nat.zero_le _,fun j o _ _=>by simp,fun v hv=>by rw[e0.1] at hv;exact hf t v hv⟩,?_,hn⟩
    exact H0.norm T _ 0 (Nat.le_refl _) (Nat.zero_le _) (fun j _=>by simp)
   obtain⟨m',w',bF,hS,I'⟩:=KM fG T O S b k ds cs ops.size (w.tape w.drawn (.order b.fn id)) (Array.replicate ops.size false) (List.range ops.size) m { w with drawn:=w.drawn+1 } tmps (by simp)
    (fun j=>by
     rw[List.mem_range,Array.getElem?_replicate]
     constructor
     ·intro h;refine⟨h,?_⟩;rw[if_pos h];simp
     ·exact fun h=>h.1)
    List.nodup_range (by simp) I0
   obtain⟨a,h1,h2,h3,H⟩:=I'.chain
   have ha:a=ops.size:=by
    rcases h3 with h|h
    ·exact h
    ·have hlt:a<ops.size:=by
      obtain⟨o,ho,_⟩:=h
      exact(Array.getElem?_eq_some_iff.1 ho).1
     have:=(h2 a h).1 hlt;omega
   subst ha
   refine⟨WW,m',w',bF,?_,?_,I'.size,by rw[←en.2];exact H.rel,?_⟩
   ·refine .head zd ?_
    have:Region.schedule (E.P.follows .mixedOrders) ops (w.tape w.drawn (.order b.fn id))=Region.linearise.go .any ops ops.size (w.tape w.drawn (.order b.fn id)) (Array.replicate ops.size false) []:=by
     rw[WY];simp only[Region.schedule,Bool.true_or,if_true,Region.linearise]
    rw[this]
    exact hS.trans (.one nj)
   ·intro t v hv
    obtain⟨p,hp,hw,jJ⟩:=I'.slots t
    have:ab (FA ops.size) t=ab (FA p) t:=T.keeps ops.size hp (Nat.le_refl _) fun j o h4 h5 h6 h7=>by
     have:=(hw j o h6 h7).1 h5;omega
    rw[←en.1,this] at hv
    exact jJ v hv
   ·refine Step.congr (w1:={ w with drawn:=w.drawn+1 }) ?_ rfl
    rw[←e0.2,←en.2]
    exact⟨H.le,H.new,T.nle _ _ (Nat.zero_le _) (Nat.le_refl _),H.base,H.frame,H.idle,H.size,H.img,H.mT⟩
  ·rw[if_neg hc] at hr;cases hr
theorem J5 {E:Env} {call:a8} (hc:dj call) {nt:Nat} {ops:List Oper} : ∀(l:List Oper) (fr:Fr) (h:IH) (tr:List (Fr×IH)),trace E call nt ops l fr h=some tr → ∀x∈tr,h.n≤x.2.n
 | [],fr,h,tr,ht=>by simp only[trace] at ht;cases ht;simp
 | o :: l,fr,h,tr,ht=>by
  rw[trace] at ht
  split at ht
  ·rename_i fr' h' hs
   obtain⟨tr',h1,rfl⟩:=Option.map_eq_some_iff.1 ht
   intro x hx
   rcases List.mem_cons.1 hx with rfl|hx
   ·exact Nat.le_refl _
   ·exact Nat.le_trans (y7 hc hs) (J5 hc l fr' h' tr' h1 x hx)
  ·cases ht
theorem Ig {E:Env} {call:a8} (hc:dj call) {nt:Nat} {ops:List Oper} {fr fr':Fr} {h h':IH} (hr:gH E call nt ops fr h=some (fr',h')):h.n≤h'.n:=by
 unfold gH at hr
 cases ht:trace E call nt ops ops fr h with
 | none=>rw[ht] at hr;cases hr
 | some tr =>
  rw[ht] at hr
  simp only[cond_eq_ite] at hr
  split at hr
  ·exact J5 hc _ _ _ _ ht _ (List.mem_of_getElem? hr)
  ·cases hr
theorem DJ {b:Fr→IH→Out} (hb : ∀fr h e fr' h',b fr h=some (e,fr',h')→h.n≤h'.n) : ∀(n:Nat) (fr:Fr) (h:IH) (e:bf) (fr':Fr) (h':IH),mf b n fr h=some (e,fr',h')→h.n≤h'.n
 | 0,fr,h,e,fr',h',hr=>by simp[mf] at hr
 | n+1,fr,h,e,fr',h',hr=>by
  rw[mf] at hr
  split at hr
  ·rename_i fr1 h1 hb1;exact Nat.le_trans (hb _ _ _ _ _ hb1) (DJ hb n _ _ _ _ _ hr)
  ·rename_i hb1;cases hr;exact hb _ _ _ _ _ hb1
  ·rename_i hb1;cases hr;exact hb _ _ _ _ _ hb1
  ·cases hr
theorem xp {E:Env} {call:a8} {fn:FuncId} {nt:Nat} {rd:Option Nat} {f:Operand} {ps:List Nat} {a b:Code} {fr fr':Fr} {h h':IH} {e:bf} (hr:jX E call fn nt rd f ps a b fr h=some (e,fr',h')) :
  oR h rd=true∧fr'=fr ∧ ∃fv v h1 r,opd fr f=some fv∧call fv [.func (.yield (2*h.n)) #[] #[]] (h.new (.loop { state:=.ready,pending:=none,fn,nt,fr,params:=ps,assign:=a,body:=b }))=some (v,h1) ∧
   fj h1 h.n=some r∧r.state≠.busy∧tQ r.pending=some e∧h' = { h1 with ext:=h1.ext.set h.n .dead }:=by
 unfold jX at hr
 simp only[cond_eq_ite] at hr
 by_cases hro:oR h rd=true
 ·simp only[hro,if_true] at hr
  split at hr
  ·cases hr
  ·rename_i fv hfv
   split at hr
   ·cases hr
   ·rename_i v h1 fG
    split at hr
    ·cases hr
    ·rename_i r hl
     split at hr
     ·cases hr
     ·rename_i hb
      split at hr
      ·cases hr
      ·rename_i e' he
       cases hr
       exact⟨hro,rfl,fv,v,h1,r,hfv,fG,hl,fun h=>hb (by rw[h];rfl),he,rfl⟩
 ·simp[hro] at hr
theorem MZ {E:Env} {call:a8} (hc:dj call) {fn:FuncId} {nt:Nat} {rd:Option Nat} {f:Operand} {ps:List Nat} {a b:Code} {fr fr':Fr} {h h':IH} {e:bf} (hr:jX E call fn nt rd f ps a b fr h=some (e,fr',h')):h.n≤h'.n:=by
 obtain⟨_,_,fv,v,h1,r,_,h2,_,_,_,rfl⟩:=xp hr
 have:=hc _ _ _ _ _ h2
 have e : ∀o,(h.new o).n=h.n+1:=fun _=>rfl
 rw[e] at this
 show h.n≤h1.n
 omega
def qS:Code→Option (Nat×Nat×Nat×Nat×Code)
 | .seq (.region id ops draw) rest=>(qJ ops.toList draw).map fun p=>(id,p.1,p.2.1,p.2.2,rest)
 | _=>none
theorem Am {E:Env} {call:a8} {fn:FuncId} {nt:Nat} {rd:Option Nat} {n:Nat} (b:Code) (fr:Fr) (h:IH):evC E call fn nt rd n (.loop b) fr h =
  match qS b with
  | some p=>rK (evC E call fn nt rd n p.2.2.2.2) (gM E fn p.1) nt p.2.1 p.2.2.1 p.2.2.2.1 fr h
  | none=>mf (evC E call fn nt rd n b) n fr h:=by
 cases b with
 | seq x y =>
  cases x with
  | region id ops draw =>
   simp only[evC,qS]
   cases qJ ops.toList draw with
   | none=>rfl
   | some p=>obtain⟨a,b,c⟩:=p;rfl
  | _=>rfl
 | _=>rfl
theorem Kf {motive:Code→Prop} (h : ∀c,(∀c',SizeOf.sizeOf c'<SizeOf.sizeOf c→motive c')→motive c) (c:Code):motive c :=
 (measure (SizeOf.sizeOf:Code→Nat)).wf.induction (C:=motive) c h
theorem xz {b:Code} {p:Nat×Nat×Nat×Nat×Code} (h:qS b=some p):SizeOf.sizeOf p.2.2.2.2<SizeOf.sizeOf b:=by
 unfold qS at h
 split at h
 ·obtain⟨q,_,rfl⟩:=Option.map_eq_some_iff.1 h
  simp
  omega
 ·cases h
theorem mo {g:Nat→Option (Nat×Value)} (hg : ∀s x,g s=some x→x.1=s) : ∀(l:List Nat) (t:Nat) (v:Value),ab (l.filterMap g) t=some v→g t=some (t,v)
 | [],t,v,h=>by simp[ab] at h
 | a :: l,t,v,h=>by
  cases ha:g a with
  | none=>rw[List.filterMap_cons_none ha] at h;exact mo hg l t v h
  | some x =>
   obtain⟨s,u⟩:=x
   obtain rfl:s=a:=hg a _ ha
   rw[List.filterMap_cons_some ha] at h
   simp only[ab,cond_eq_ite,beq_iff_eq] at h
   by_cases e:s=t
   ·subst e;simp at h;subst h;exact ha
   ·rw[if_neg e] at h;exact mo hg l t v h
theorem Hc {nt n:Nat} {R:List Nat→Out} {e:bf} {fr':Fr} {h':IH} (hc:common nt n R=some (e,fr',h')) : ∀l:List Nat,l.Perm (List.range n) → ∃fr,R l=some (e,fr,h') ∧ ∀t v,ab fr' t=some v→ab fr t=some v:=by
 unfold common at hc
 split at hc
 case isFalse=>cases hc
 rename_i c
 cases hc
 intro l hl
 obtain⟨fr,hR⟩:=c.choose_spec l hl
 refine⟨fr,hR,fun t v hv=>?_⟩
 have:=mo (by
  intro s x hx
  split at hx
  ·cases hx;rfl
  ·cases hx) _ _ _ hv
 split at this
 ·rename_i d
  cases this
  exact d.choose_spec l hl _ _ _ hR
 ·cases this
theorem mN {rest:Fr→IH→Out} (hr : ∀fr h e fr' h',rest fr h=some (e,fr',h')→h.n≤h'.n) {hd:Fr→Fr} {nt it nx more kb k:Nat} {es:List (Value×Value)} :
  ∀(l seen:List Nat) (fr:Fr) (h:IH) (e:bf) (fr':Fr) (h':IH),eE rest hd nt it nx more kb k es l seen fr h=some (e,fr',h')→h.n≤h'.n
 | [],seen,fr,h,e,fr',h',hx=>by
  unfold eE at hx
  split at hx
  case isFalse=>cases hx
  split at hx
  ·cases hx
  ·split at hx
   ·cases hx
   ·exact hr _ _ _ _ _ hx
 | i :: l,seen,fr,h,e,fr',h',hx=>by
  unfold eE at hx
  split at hx
  case isFalse=>cases hx
  split at hx
  ·cases hx
  ·split at hx
   ·cases hx
   ·split at hx
    ·rename_i hy
     have q:=hr _ _ _ _ _ hy;exact Nat.le_trans q (mN hr l _ _ _ _ _ _ hx)
    ·have q:=hr _ _ _ _ _ hx;exact q
theorem uU {rest:Fr→IH→Out} {hd:Fr→Fr} {nt it nx more:Nat} {fr:Fr} {h:IH} {e:bf} {fr':Fr} {h':IH} (hx:rK rest hd nt it nx more fr h=some (e,fr',h')) :
  ∃kb k since seen last es,ab (hd fr) it=some (ptr (2*kb) 0)∧h.ext.get kb=some (.iter k since seen last)∧mapOf h k=some es ∧
   ∀l:List Nat,l.Perm (List.range es.length) → ∃frl hl,eE rest hd nt it nx more kb k es l [] fr h=some (e,frl,hl)∧(∃k0 a0 b0 c0,hl.ext.get kb=some (.iter k0 a0 b0 c0))∧h' = { hl with ext:=hl.ext.set kb .dead } ∧ ∀t v,ab fr' t=some v→ab frl t=some v:=by
 unfold rK at hx
 split at hx
 case h_2=>cases hx
 rename_i b hb
 simp only[cond_eq_ite,beq_iff_eq] at hx
 split at hx
 ·cases hx
 ·rename_i nW
  split at hx
  case h_2=>cases hx
  rename_i k since seen last hit
  split at hx
  case h_2=>cases hx
  rename_i es hes
  refine⟨b / 2,k,since,seen,last,es,by rw[hb,show 2*(b / 2)=b from by omega];rfl,hit,hes,fun l hl=>?_⟩
  obtain⟨frl,h1,h2⟩:=Hc hx l hl
  rw[if_pos hl] at h1
  unfold GI at h1
  split at h1
  ·cases h1
  ·rename_i p h3
   split at h1
   ·rename_i k0 a0 b0 c0 hg
    cases h1
    exact⟨_,_,h3,⟨k0,a0,b0,c0,hg⟩,rfl,h2⟩
   ·cases h1
theorem NA {rest:Fr→IH→Out} (hr : ∀fr h e fr' h',rest fr h=some (e,fr',h')→h.n≤h'.n) {hd:Fr→Fr} {nt it nx more:Nat} {fr:Fr} {h:IH} {e:bf} {fr':Fr} {h':IH} (hx:rK rest hd nt it nx more fr h=some (e,fr',h')):h.n≤h'.n:=by
 obtain⟨kb,k,since,seen,last,es,_,_,_,ha⟩:=uU hx
 obtain⟨frl,hl,h1,_,rfl,_⟩:=ha _ (List.Perm.refl _)
 exact show h.n≤hl.n from mN hr _ _ _ _ _ _ _ h1
theorem sN {E:Env} {call:a8} (hc:dj call) {fn:FuncId} {nt:Nat} {rd:Option Nat} {n:Nat} : ∀(c:Code) (fr:Fr) (h:IH) (e:bf) (fr':Fr) (h':IH),evC E call fn nt rd n c fr h=some (e,fr',h')→h.n≤h'.n:=by
 intro c
 induction c using Kf with
 | h c IH =>
 cases c with
 | skip=>intro fr h e fr' h' hr;simp only[evC] at hr;cases hr;exact Nat.le_refl _
 | label l=>intro fr h e fr' h' hr;simp only[evC] at hr;cases hr;exact Nat.le_refl _
 | region id ops draw =>
  intro fr h e fr' h' hr
  simp only[evC] at hr
  split at hr
  ·rename_i fr1 h1 hx
   cases hr
   cases draw with
   | true=>exact Ig hc hx
   | false=>exact zj hc _ _ _ _ _ hx
  ·cases hr
 | seq a b =>
  have iha:=IH a (by simp<;>omega)
  have ihb:=IH b (by simp<;>omega)
  intro fr h e fr' h' hr
  simp only[evC] at hr
  split at hr
  ·rename_i fr1 h1 hx;exact Nat.le_trans (iha _ _ _ _ _ hx) (ihb _ _ _ _ _ hr)
  ·rename_i hx;cases hr;exact iha _ _ _ _ _ hx
  ·rename_i hx;cases hr;exact iha _ _ _ _ _ hx
  ·cases hr
 | cond x a b =>
  have iha:=IH a (by simp<;>omega)
  have ihb:=IH b (by simp<;>omega)
  intro fr h e fr' h' hr
  simp only[evC] at hr
  split at hr
  ·exact iha _ _ _ _ _ hr
  ·exact ihb _ _ _ _ _ hr
  ·cases hr
 | block id b =>
  have ih:=IH b (by simp<;>omega)
  intro fr h e fr' h' hr
  simp only[evC,cond_eq_ite] at hr
  split at hr
  ·rename_i hx
   split at hr<;>(cases hr;exact ih _ _ _ _ _ hx)
  ·rename_i hx;cases hr;exact ih _ _ _ _ _ hx
  ·rename_i hx;cases hr;exact ih _ _ _ _ _ hx
  ·cases hr
 | loop b =>
  have ih:=IH b (by simp<;>omega)
  intro fr h e fr' h' hr
  rw[Am] at hr
  split at hr
  ·rename_i p hp
   exact NA (IH _ (Nat.lt_trans (xz hp) (by simp<;>omega))) hr
  ·exact DJ (fun fr h e fr' h' hx=>ih fr h e fr' h' hx) n _ _ _ _ _ hr
 | scope b=>have ih:=IH b (by simp<;>omega);intro fr h e fr' h' hr;simp only[evC] at hr;exact ih _ _ _ _ _ hr
 | rangeFunc f ps a b=>intro fr h e fr' h' hr;simp only[evC] at hr;exact MZ hc hr
 | exit i=>intro fr h e fr' h' hr;simp only[evC] at hr;cases hr;exact Nat.le_refl _
 | ret=>intro fr h e fr' h' hr;simp only[evC] at hr;cases hr;exact Nat.le_refl _
 | goto i=>intro fr h e fr' h' hr;simp only[evC] at hr;cases hr
 | refuse i=>intro fr h e fr' h' hr;simp only[evC] at hr;cases hr
theorem Rel.aa {B:Nat} {w0:World} {m:Mp} {h:IH} {w w':World} (R:Rel B w0 m h w) (hb:Below B w0 w') (hs:w.heap.size≤w'.heap.size)
  (hk : ∀r,(r<B ∨ ∃k s,k<h.n∧m (2*k)=some (r,s))→w'.heap[r]?=w.heap[r]?):Rel B w0 m h w':=by
 refine⟨hb,Nat.le_trans R.size hs,fun b cs hx=>?_,R.odd,fun k r s hm=>⟨(R.even k r s hm).1,Nat.lt_of_lt_of_le (R.even k r s hm).2 hs⟩,R.dom,fun k o r s ho hm=>?_,R.own,R.cY,R.fam,R.long,R.whole⟩
 ·obtain⟨r0,s0,m0,a,c,el,fz,d,e⟩:=R.base b cs hx
  exact⟨r0,s0,m0,a,c,el,fz,by rw[hk r0 (.inl a)];exact d,e⟩
 ·have hkn:k<h.n:=by
   rcases Nat.lt_or_ge k h.n with e|e
   ·exact e
   ·rw[R.dom k e] at ho;cases ho
  exact(R.obj k o r s ho hm).mono (Mp.le_refl m) (hk r (.inr ⟨k,s,hkn,hm⟩)) rfl
theorem Rel.ghost {B:Nat} {w0:World} {m:Mp} {h:IH} {w:World} (R:Rel B w0 m h w) (O:Obj):Rel B w0 m h (w.alloc O)∧Step m h w m h (w.alloc O):=by
 have hold : ∀r,r<w.heap.size→(w.alloc O).heap[r]?=w.heap[r]?:=fun r hr=>by rw[heap_alloc,if_neg (by omega)]
 refine⟨R.aa (m8 R.below R.size O) (by rw[size_alloc];omega) ?_,⟨Mp.le_refl m,fun b hb=>absurd rfl hb,Nat.le_refl _,rfl,fun r hr _=>hold r hr,fun _ _ _=>rfl,by rw[size_alloc];omega,fun k r s a b=>by omega,fun _ _ _ h=>h⟩⟩
 rintro r (hr|⟨k,s,_,hm⟩)
 ·exact hold r (Nat.lt_of_lt_of_le hr R.size)
 ·exact hold r (R.even k r s hm).2
def ny (r:Nat):Deferred:={ target:=.collected r,args:=#[] }
def kJ (z:Nat) (m:Mp) (h:IH) (w:World) (ds:List Deferred):Prop :=
 ∃rs:List Nat,ds=rs.map ny∧rs.Nodup ∧ ∀r∈rs,z≤r∧w.heap[r]?=some (.deferred (some [])) ∧ ∀k s,k<h.n→m (2*k)≠some (r,s)
theorem DU {w:World} {r:Nat} {o:Obj} (h:w.heap[r]?=some o):r<w.heap.size:=(Array.getElem?_eq_some_iff.1 h).1
theorem kJ.step {z:Nat} {m m':Mp} {h h':IH} {w w':World} {ds:List Deferred} (d:kJ z m h w ds) (s:Step m h w m' h' w'):kJ z m' h' w' ds:=by
 obtain⟨rs,h1,h2,h3⟩:=d
 refine⟨rs,h1,h2,fun r hr=>?_⟩
 obtain⟨a,b,c⟩:=h3 r hr
 refine⟨a,by rw[s.frame r (DU b) c];exact b,fun k x hk hm=>?_⟩
 by_cases hkn:k<h.n
 ·rw[s.old hkn] at hm;exact c k x hkn hm
 ·rcases s.img k r x (by omega) hk hm with e|⟨k0,s0,e1,e2⟩
  ·have:=DU b;omega
  ·exact c k0 s0 e1 e2
theorem kJ.nil (z:Nat) (m:Mp) (h:IH) (w:World):kJ z m h w []:=⟨[],rfl,List.nodup_nil,by simp⟩
theorem kJ.push {B:Nat} {w0:World} {z:Nat} {m:Mp} {h:IH} {w:World} {ds:List Deferred} (d:kJ z m h w ds) (R:Rel B w0 m h w) (hz:z≤w.heap.size):kJ z m h (w.alloc (.deferred (some []))) (ny w.heap.size :: ds):=by
 obtain⟨rs,h1,h2,h3⟩:=d.step (R.ghost (.deferred (some []))).2
 refine⟨w.heap.size :: rs,by rw[h1];rfl,List.nodup_cons.2 ⟨fun hm=>?_,h2⟩,fun r hr=>?_⟩
 ·obtain⟨rs',e1,e2,e3⟩:=d
  have:rs'=rs:=by
   have e:=e1.symm.trans h1
   have inj : ∀a b,ny a=ny b→a=b:=by intro a b h;simp[ny] at h;exact h
   exact List.map_inj_right (fun a b=>inj a b) |>.1 e
  subst this
  have:=DU (e3 _ hm).2.1
  omega
 ·rcases List.mem_cons.1 hr with rfl|hr
  ·refine⟨hz,by rw[heap_alloc,if_pos rfl],fun k s _ hm=>?_⟩
   have:=(R.even k _ s hm).2;omega
  ·exact h3 r hr
theorem qt (P:Program) (w:World) {n:Nat} (hn:0<n) : ∃i d,i<n∧(choose (.mapNext n)).run P w=.ok i { w with drawn:=d }:=by
 simp only[choose,Sem.run]
 by_cases h:(Question.mapNext n).forced=true
 ·rw[if_pos h];exact⟨0,w.drawn,hn,rfl⟩
 ·rw[if_neg h];exact⟨_,_,Nat.mod_lt _ hn,rfl⟩
theorem xW (P:Program) {w:World} {r:Nat} {a:Option Nat} {b d:Nat} {c:Array Nat} (h:w.heap[r]?=some (.mapIter a b c d)) (o:Obj):(Go.setObj r o).run P w=.ok () (World.put w r o):=by
 simp only[Go.setObj,Sem.run,h];rfl
theorem En {m:Mp} {es:List (Value×Value)} {c:Array MapEntry} (h:rq m es c) {e:MapEntry} (he:e∈c):e.born<es.length∧c[e.born]?=some e:=by
 obtain⟨i,hi,rfl⟩:=Array.mem_iff_getElem.1 he
 have:=h.born i c[i] (Array.getElem?_eq_getElem hi)
 rw[this]
 exact⟨by have:=h.1;omega,Array.getElem?_eq_getElem hi⟩
theorem PC (P:Program) {m:Mp} {es:List (Value×Value)} {c:Array MapEntry} (hcm:rq m es c) {w:World} {r rm:Nat} {seen:List Nat}
  (hit:w.heap[r]?=some (.mapIter (some rm) es.length seen.toArray es.length)) (Bc:w.heap[rm]?=some (.map c es.length)) (t:TypeId) :
  ((∀i,i<es.length→i∈seen) ∧ ∃d,(Instr.next (.pointer (some ⟨r,0,none⟩)) false t).run P w=.ok (.tuple #[.bool false]) { w with drawn:=d }) ∨
  ∃i e' d,i∉seen∧c[i]?=some e'∧(Instr.next (.pointer (some ⟨r,0,none⟩)) false t).run P w=.ok (.tuple #[.bool true,e'.key,e'.val]) (World.put { w with drawn:=d } r (.mapIter (some rm) es.length (seen.toArray.push i) es.length)):=by
 have oc:(!seen.toArray.isEmpty && !c.isEmpty && c.all fun e=>decide (e.born ≥ es.length))=false:=by
  cases hc:c.isEmpty with
  | true=>simp
  | false =>
   have uY:0<c.size:=by
    rcases Nat.eq_zero_or_pos c.size with h|h
    ·rw[Array.isEmpty_iff_size_eq_zero.2 h] at hc;cases hc
    ·exact h
   have hb:=hcm.born 0 c[0] (Array.getElem?_eq_getElem uY)
   have:(c.all fun e=>decide (e.born ≥ es.length))=false:=by
    rw[Bool.eq_false_iff]
    intro ef
    have:=Array.all_eq_true.1 ef 0 uY
    rw[hb] at this
    have h1:=of_decide_eq_true this
    have:=hcm.1
    omega
   rw[this];simp
 obtain⟨left,QQ⟩ : ∃l,l=c.filter fun e => !seen.toArray.contains e.born:=⟨_,rfl⟩
 have I7 : ∀e∈left,e∈c∧e.born∉seen:=by
  intro e he
  rw[QQ,Array.mem_filter] at he
  exact⟨he.1,by simpa using he.2⟩
 have hold:(left.filter fun e=>decide (e.born<es.length))=left:=by
  rw[Array.filter_eq_self]
  intro e he
  simpa using (En hcm (I7 e he).1).1
 have xZ:(left.filter fun e=>decide (e.born ≥ es.length)) = #[]:=by
  rw[Array.filter_eq_empty_iff]
  intro e he
  have:=(En hcm (I7 e he).1).1
  simp;omega
 have bw : ∀i d,i<((if left.isEmpty then #[none] else #[]) ++ (left ++ #[]).map some:Array (Option MapEntry)).size →
   (choose (.mapNext ((if left.isEmpty then #[none] else #[]) ++ (left ++ #[]).map some:Array (Option MapEntry)).size)).run P w=.ok i { w with drawn:=d } →
   (Instr.next (.pointer (some ⟨r,0,none⟩)) false t).run P w=(match ((if left.isEmpty then #[none] else #[]) ++ (left ++ #[]).map some:Array (Option MapEntry))[i]? with
    | some (some e)=>.ok (.tuple #[.bool true,e.key,e.val]) (World.put { w with drawn:=d } r (.mapIter (some rm) es.length (seen.toArray.push e.born) es.length))
    | some none=>.ok (.tuple #[.bool false]) { w with drawn:=d }
    | none=>(stuck "Next: no such candidate" : Sem Value).run P { w with drawn:=d }):=by
  intro i d hi hch
  have hit2:({ w with drawn:=d }:World).heap[r]?=some (.mapIter (some rm) es.length seen.toArray es.length):=hit
  simp only[Instr.next,Sem.run_bind,pJ P hit,Result.andThen_ok,run_getObj_map P Bc,oc,Bool.false_eq_true,if_false,←QQ,hold,xZ,hch]
  generalize ((if left.isEmpty then #[none] else #[]) ++ (left ++ #[]).map some:Array (Option MapEntry))[i]?=y
  cases y with
  | none=>rfl
  | some y=>cases y with
   | none=>rfl
   | some e =>
    simp only[Sem.run_bind,xW P hit2,Result.andThen_ok,Sem.run_pure]
 by_cases hem:left.isEmpty=true
 ·left
  have hl0:left = #[]:=by simpa using hem
  refine⟨fun i hi=>?_,?_⟩
  ·apply Classical.byContradiction
   intro hns
   have hic:i<c.size:=by have:=hcm.1;omega
   have hb:=hcm.born i c[i] (Array.getElem?_eq_getElem hic)
   have:c[i]∈left:=by
    rw[QQ,Array.mem_filter]
    exact⟨Array.getElem_mem hic,by rw[hb];simpa using hns⟩
   rw[hl0] at this
   simp at this
  ·obtain⟨i,d,hi,hch⟩:=qt P w (n:=((if left.isEmpty then #[none] else #[]) ++ (left ++ #[]).map some:Array (Option MapEntry)).size) (by simp[hl0])
   refine⟨d,?_⟩
   rw[bw i d hi hch]
   simp only[hl0] at hi ⊢
   simp at hi
   subst hi
   simp
 ·right
  have hne:left.isEmpty=false:=by simpa using hem
  have Vs:((if left.isEmpty then #[none] else #[]) ++ (left ++ #[]).map some:Array (Option MapEntry))=left.map some:=by simp[hne]
  have uY:0<left.size:=by
   rcases Nat.eq_zero_or_pos left.size with h|h
   ·rw[Array.isEmpty_iff_size_eq_zero.2 h] at hne;cases hne
   ·exact h
  obtain⟨i,d,hi,hch⟩:=qt P w (n:=((if left.isEmpty then #[none] else #[]) ++ (left ++ #[]).map some:Array (Option MapEntry)).size) (by rw[Vs];simpa using uY)
  have hr:=bw i d hi hch
  rw[Vs] at hr hi
  have hil:i<left.size:=by simpa using hi
  have hgi:(left.map some)[i]?=some (some left[i]):=by simp[hil]
  rw[hgi] at hr
  obtain⟨h1,h2⟩:=I7 left[i] (Array.getElem_mem hil)
  obtain⟨_,h3⟩:=En hcm h1
  exact⟨left[i].born,left[i],d,h2,h3,hr⟩
theorem P0 {w:World} {r:Nat} {o:Obj} (h:w.heap[r]?=some o):World.put w r o=w:=by
 have hr:r<w.heap.size:=by
  rcases Nat.lt_or_ge r w.heap.size with h'|h'
  ·exact h'
  ·rw[Array.getElem?_eq_none h'] at h;cases h
 have he:w.heap[r]=o:=by rw[Array.getElem?_eq_getElem hr] at h;exact Option.some.inj h
 subst he
 show { w with heap:=w.heap.setIfInBounds r w.heap[r] }=w
 rw[Array.setIfInBounds_def,dif_pos hr,Array.set_getElem_self]
end Go.Id
