/-
  The ideal machine: a region whose order is open, whole.
-/
import Derived.Test.YtnnmjocmapilaaaGreatOutlierOddsAe
import Derived.RangeFuncIn
import Derived.RangeFuncRecord
set_option linter.unusedVariables false
set_option linter.unusedSimpArgs false
set_option linter.defProp false
set_option linter.deprecated false
namespace Go.Id
open Go Go.RowKit
variable {E:Env}{HA:Nat→IH}{FA:Nat→Fr}{ops:Array Oper}
def LA {tr:List (Fr×IH)} (hs:steady E.P ops.toList tr (Ch ops.toList)=true) (htr : ∀i,i≤ops.size→tr[i]?=some (FA i,HA i)) :
  Qa E ops FA HA:=by
 intro i o ho hk hw p hp hpat h1 h2 v h' hv;have hin:i<ops.size:=(kZ.1 ho).1;have ho':ops.toList[i]?=some o:=by simpa using ho
 unfold steady at hs;rw[gG] at hs;have hch : ∀q,q∈(List.range ops.toList.length).filter (fun k=>match ops.toList[k]? with|some o=>eF o.op == .chain|none=>false)↔fg ops q:=by
  intro q;rw[tI];constructor
  ·rintro⟨_,hq⟩;cases hx:ops.toList[q]? with
   | none=>simp[hx] at hq
   | some x=>simp only[hx,bD] at hq;exact⟨x,by simpa using hx,hq⟩
  ·rintro⟨x,hx,hq⟩;have:=(kZ.1 hx).1;have hx':ops.toList[q]?=some x:=by simpa using hx
   exact⟨by simpa using this,by rw[hx'];simp[hq]⟩
 have hm:=hs (i,_) (by
  unfold Ch;rw[IB];refine⟨i,by simpa using hin,?_⟩;simp only[ho',hk,tB,bP];rfl)
 simp only[ho',htr i (pO hin),hw] at hm;rw[gG] at hm;have hpm:=hm p (by
  rw[tI,eE];refine⟨?_,?_⟩
  ·rcases hpat with rfl|h
   ·right;simp
   ·left;exact(hch p).2 h
  ·rw[gG];intro q hq;have hcq:=(hch q).1 hq;cases hb:Nat.blt q p with
   | true =>
    have:=h1 q hcq (by simpa using hb);unfold iR at this;rw[bP,this];rfl
   | false =>
    have:=h2 q hcq (by
     rcases cU q p with h|h
     ·have:Nat.blt q p=true:=by simpa [rO] using h
      rw[this] at hb;cases hb
     ·exact h)
    unfold iR at this;rw[dL,this];rfl)
 simp only[htr p hp] at hpm;unfold jH at hpm;rw[hv] at hpm;split at hpm;·rename_i h3 h4;rename_i v1 _ v2 _;cases h3;rw[ZdU hpm];exact⟨_,h4⟩
 ·cases hpm
def qV.first {call:cQ} {nt:Nat} {B:Nat} {w0:World} {m:Mp} {w:World} (T:Text E call nt ops FA HA) (R:Rel B w0 m (HA 0) w) (hf:iA m (HA 0).n (HA ops.size).n) :
  qV ops FA HA B w0 m w (fun _=>False) 0 m w:=by
 refine⟨R,?_,fun i h=>byOmega,fun i _ _ _ h=>h.elim,?_,fun k h1 h2=>.inl (hf k h1 h2),Mp.le_refl m,fun b h=>absurd rfl h,rfl,fun _ _ _=>rfl,fun _ _ _=>rfl,ar _,?_,fun _ _ _ h=>h⟩;·intro i hi hal _;obtain⟨obj,e,_⟩:=T.alloc hal;have h2:(HA (i+1)).n≤(HA ops.size).n:=T.nle _ (i+1) hi (ar _);rw[e] at h2;have:((HA i).new obj).n=(HA i).n+1:=rfl;exact hf _ (T.nle i 0 (dT _) byOmega) byOmega
 ·intro k k' r s s' h1 h2 h3 h4 h5
  rw[hf k h1 h2] at h5;cases h5
 ·intro k r s h1 h2 h3;rw[hf k h1 h2] at h3;cases h3
section
variable {E:Env} {call:cQ} {nt:Nat} {ops:Array Oper} {FA:Nat→Fr} {HA:Nat→IH} {B:Nat} {w0:World} {m0:Mp} {wi:World}
def Gp (O:Ordered ops) {listed:Array Bool} (hcl : ∀j i,listed[j]?=some true→iR ops.toList j i=true→listed[i]?=some true) {i:Nat} {o:Oper} (ho:ops[i]?=some o)
  (iv : ∀e∈o.after,Region.binds .any e=true→listed[e.on]?=some true) : ∀k,iR ops.toList i k=true→listed[k]?=some true:=by
 intro k hb;have ho':ops.toList[i]?=some o:=by simpa using ho
 obtain⟨e,he,hbe,h⟩:=(Nu ho' (O.ZaG i o ho)).1 hb;have h1:=iv e he hbe;rcases h with h|h;·rw[←h];exact h1
 ·exact hcl _ _ h1 h
def Re (jq:ot E.P call) (T:Text E call nt ops FA HA) (O:Ordered ops) (S:Qa E ops FA HA) (b:Frame) (k:List Item) (ds:List Deferred) (cs:List Frame) :∀(fuel t:Nat) (listed:Array Bool) (U:List Nat) (m:Mp) (w:World) (tmps:Array Value),listed.size=ops.size→(∀j,j∈U↔j<ops.size∧listed[j]?≠some true)→U.Nodup→U.length≤fuel → Co nt ops FA HA B w0 m0 wi (fun j=>listed[j]?=some true) m w tmps → ∃m' w' cJ,Steps E.P (lone (on b tmps (.inRegion ops (Region.linearise.go .any ops fuel t listed []) :: k) ds) cs w) (lone (on b cJ (.inRegion ops [] :: k) ds) cs w')∧Co nt ops FA HA B w0 m0 wi (fun j=>j<ops.size) m' w' cJ
 | 0,t,listed,U,m,w,tmps,hsz,hU,hnd,hlen,I=>by
  have hU0:U = []:=List.eq_nil_of_length_eq_zero (by omega);subst hU0
  have e:(fun j=>listed[j]?=some true)=fun j=>j<ops.size:=by
   funext j;apply propext;constructor;·intro h;have:=(Array.getElem?_eq_some_iff.1 h).1;omega
   ·intro h
    apply Classical.byContradiction;intro hn;exact absurd ((hU j).2 ⟨h,hn⟩) (by simp)
  rw[e] at I;exact⟨m,w,tmps,by simp only[Region.linearise.go,List.reverse_nil];exact .refl _ _,I⟩
 | fuel+1,t,listed,U,m,w,tmps,hsz,hU,hnd,hlen,I=>by
  have get : ∀{j},j<ops.size → ∀d,(listed.getD j d=true↔listed[j]?=some true):=by intro j hj d;rw[Array.getD_eq_getD_getElem?,Array.getElem?_eq_getElem (by omega)];simp
  have mem_ready : ∀i,i∈Region.ready .any ops listed↔i<ops.size∧listed[i]?≠some true ∧ ∃o,ops[i]?=some o ∧ ∀e∈o.after,Region.binds .any e=true→listed[e.on]?=some true:=by
   intro i;unfold Region.ready;rw[List.mem_filter,List.mem_range];constructor
   ·rintro⟨h1,h2⟩;simp only[Bool.and_eq_true,Bool.not_eq_true'] at h2;refine⟨h1,fun h=>?_,?_⟩
    ·have:=(get h1 true).2 h;rw[this] at h2;cases h2.1
    ·cases ho:ops[i]? with
     | none=>rw[ho] at h2;simp at h2
     | some o =>
      refine⟨o,rfl,fun e he hb=>?_⟩;rw[ho] at h2;simp only[Option.map_some,Option.getD_some,Array.all_eq_true',Bool.or_eq_true,Bool.not_eq_true'] at h2;rcases h2.2 e he with h3|h3;·rw[hb] at h3;cases h3
      ·have hlt:=O.ZaG i o ho e he hb;exact(get (by omega) false).1 h3
   ·rintro⟨h1,h2,o,ho,h3⟩;refine⟨h1,?_⟩;simp only[Bool.and_eq_true,Bool.not_eq_true'];constructor
    ·cases hg:listed.getD i true with
     | false=>rfl
     | true=>exact absurd ((get h1 true).1 hg) h2
    ·rw[ho];simp only[Option.map_some,Option.getD_some,Array.all_eq_true',Bool.or_eq_true,Bool.not_eq_true'];intro e he;cases hb:Region.binds .any e with
     | false=>exact .inl rfl
     | true =>
      have hlt:=O.ZaG i o ho e he hb;exact .inr ((get (by omega) false).2 (h3 e he hb))
  rw[show Region.linearise.go .any ops (fuel+1) t listed []=(match (Region.ready .any ops listed)[t % (Region.ready .any ops listed).length]? with
   | some i=>Region.linearise.go .any ops fuel (t / (Region.ready .any ops listed).length) (listed.setIfInBounds i true) [i]
   | none => [].reverse) from rfl]
  cases hi:(Region.ready .any ops listed)[t % (Region.ready .any ops listed).length]? with
  | none =>
   have Zdw:Region.ready .any ops listed = []:=by
    cases hr:Region.ready .any ops listed with
    | nil=>rfl
    | cons x xs =>
     rw[hr] at hi;have hlt:t % (x :: xs).length<(x :: xs).length:=Nat.mod_lt _ (by simp);rw[List.getElem?_eq_getElem hlt] at hi;cases hi
   have iv : ∀j,j<ops.size→listed[j]?=some true:=by
    intro j
    induction j using Nat.strongRecOn with
    | ind j ih =>
     intro hj;apply Classical.byContradiction;intro hn;have:j∈Region.ready .any ops listed:=(mem_ready j).2 ⟨hj,hn,ops[j],Array.getElem?_eq_getElem hj,fun e he hb=>by
      have hlt:=O.ZaG j _ (Array.getElem?_eq_getElem hj) e he hb;exact ih e.on hlt (by omega)⟩
     rw[Zdw] at this;cases this
   have e:(fun j=>listed[j]?=some true)=fun j=>j<ops.size:=by
    funext j;apply propext;constructor;·intro h;have:=(Array.getElem?_eq_some_iff.1 h).1;omega
    ·exact iv j
   rw[e] at I;exact⟨m,w,tmps,.refl _ _,I⟩
  | some i =>
   simp only;obtain⟨h1,h2,o,ho,h3⟩:=(mem_ready i).1 (List.mem_of_getElem? hi);rw[linearise_go_acc,List.reverse_singleton,List.singleton_append];obtain⟨m1,w1,eH,hS1,I1⟩:=I.op jq T O S ho h2 (Gp O I.closed ho h3) b (Region.linearise.go .any ops fuel (t / (Region.ready .any ops listed).length) (listed.setIfInBounds i true) []) k ds cs;have Pp : ∀j,(listed.setIfInBounds i true)[j]?=some true↔listed[j]?=some true∨j=i:=by
    intro j;rw[Array.getElem?_setIfInBounds];by_cases hji:i=j;·subst hji;simp[hsz,h1]
    ·rw[if_neg hji];constructor
     ·exact .inl
     ·rintro(h|h)
      ·exact h
      ·exact absurd h.symm hji
   have e:(fun j=>listed[j]?=some true∨j=i)=fun j=>(listed.setIfInBounds i true)[j]?=some true:=by funext j;exact propext (Pp j).symm
   rw[e] at I1;have hiU:i∈U:=(hU i).2 ⟨h1,h2⟩;obtain⟨m',w',cJ,hS,I'⟩:=Re jq T O S b k ds cs fuel (t / (Region.ready .any ops listed).length) (listed.setIfInBounds i true) (U.erase i) m1 w1 eH (by simpa using hsz)
    (fun j=>by
     rw[hnd.mem_erase_iff,hU j];constructor
     ·rintro⟨a,b,c⟩;refine⟨b,fun h=>?_⟩;rcases(Pp j).1 h with h|h
      ·exact c h
      ·exact a h
     ·rintro⟨a,b⟩;exact⟨fun h=>b ((Pp j).2 (.inr h)),a,fun h=>b ((Pp j).2 (.inl h))⟩)
    (hnd.erase i) (by rw[List.length_erase_of_mem hiU];omega) I1
   exact⟨m',w',cJ,hS1.trans hS,I'⟩
end
def SR {E:Env} {call:cQ} (jq:ot E.P call) (eK:fY call) (Zdy:E.P.follows .mixedOrders=true) {nt:Nat} {ops:Array Oper} {fr fr':Fr} {h h':IH} (hr:kB E call nt ops.toList fr h=some (fr',h')){B:Nat} {w0:World} {m:Mp} {w:World} (R:Rel B w0 m h w) {tmps:Array Value} (hf:gA m fr tmps) (hn:nt≤tmps.size) (hfr:iA m h.n h'.n) (b:Frame) (k:List Item) (ds:List Deferred) (cs:List Frame) (id:Nat) :h.n≤h'.n ∧ ∃m' w' cJ,Steps E.P (lone (on b tmps (.code (.region id ops true) :: k) ds) cs w) (lone (on b cJ k ds) cs w')∧gA m' fr' cJ∧nt≤cJ.size∧Rel B w0 m' h' w'∧Step m h w m' h' w':=by
 unfold kB at hr;cases htr:trace E call nt ops.toList ops.toList fr h with
 | none=>rw[htr] at hr;cases hr
 | some tr =>
  rw[htr] at hr;simp only[cond_eq_ite,Bool.and_eq_true] at hr;by_cases hc:pA ops.toList=true∧steady E.P ops.toList tr (Ch ops.toList)=true
  ·rw[if_pos hc] at hr;have O:=JB hc.1;obtain⟨hlen,h0,ZfD⟩:=tQ ops.toList fr h tr htr;have RI:tr.length=ops.size+1:=by simpa using hlen
   let FA:Nat→Fr:=fun i=>((tr[i]?).map (·.1)).getD fr;let HA:Nat→IH:=fun i=>((tr[i]?).map (·.2)).getD h;have WU : ∀i,i≤ops.size→tr[i]?=some (FA i,HA i):=by intro i hi;have:tr[i]?=some tr[i]:=List.getElem?_eq_getElem (by omega);simp only[FA,HA,this,Option.map_some,Option.getD_some]
   have T:Text E call nt ops FA HA:=by refine⟨eK,fun i o ho=>?_⟩;obtain⟨fr1,h1,fr2,h2,e1,e2,e3⟩:=ZfD i o (by simpa using ho);have hin:i<ops.size:=(Array.getElem?_eq_some_iff.1 ho).1;rw[WU i (by omega)] at e1;rw[WU (i+1) (by omega)] at e2;cases e1;cases e2;exact e3
   have S:=LA (E:=E) hc.2 WU;have e0:FA 0=fr∧HA 0=h:=by have:=WU 0 (Nat.zero_le _);rw[h0] at this;exact⟨(Prod.mk.inj (Option.some.inj this)).1.symm,(Prod.mk.inj (Option.some.inj this)).2.symm⟩
   have en:FA ops.size=fr'∧HA ops.size=h':=by have:=WU ops.size (Nat.le_refl _);simp only[Array.length_toList] at hr;rw[hr] at this;exact⟨(Prod.mk.inj (Option.some.inj this)).1.symm,(Prod.mk.inj (Option.some.inj this)).2.symm⟩
   have R1:Rel B w0 m (HA 0) { w with drawn:=w.drawn+1 }:=by rw[e0.2];exact R.congr rfl (nL R.below _)
   have Zdx:h.n≤h'.n:=by have:=T.nle ops.size 0 (Nat.zero_le _) (Nat.le_refl _);rw[e0.2,en.2] at this;exact this
   have H0:=qV.first T R1 (by rw[e0.2,en.2];exact hfr);have I0:Co nt ops FA HA B w0 m { w with drawn:=w.drawn+1 } (fun j:Nat=>(Array.replicate ops.size false)[j]?=some true) m { w with drawn:=w.drawn+1 } tmps:=by
    have e:(fun j:Nat=>(Array.replicate ops.size false)[j]?=some true)=fun _=>False:=by
     funext j;apply propext;rw[Array.getElem?_replicate];constructor
     ·intro h;split at h
      ·cases h
      ·cases h
     ·exact False.elim
    rw[e];refine⟨fun _ _ h=>h.elim,fun t=>⟨0,Nat.zero_le _,fun j o _ _=>by simp,fun v hv=>by rw[e0.1] at hv;exact hf t v hv⟩,?_,hn⟩;exact H0.norm T _ 0 (Nat.le_refl _) (Nat.zero_le _) (fun j _=>by simp)
   obtain⟨m',w',cJ,hS,I'⟩:=Re jq T O S b k ds cs ops.size (w.tape w.drawn (.order b.fn id)) (Array.replicate ops.size false) (List.range ops.size) m { w with drawn:=w.drawn+1 } tmps (by simp) (fun j=>by
     rw[List.mem_range,Array.getElem?_replicate];constructor;·intro h;refine⟨h,?_⟩;rw[if_pos h];simp
     ·exact fun h=>h.1)
    List.nodup_range (by simp) I0
   obtain⟨a,h1,h2,h3,H⟩:=I'.chain;have ha:a=ops.size:=by
    rcases h3 with h|h;·exact h
    ·have hlt:a<ops.size:=by obtain⟨o,ho,_⟩:=h;exact(Array.getElem?_eq_some_iff.1 ho).1
     have:=(h2 a h).1 hlt;omega
   subst ha;refine⟨Zdx,m',w',cJ,?_,?_,I'.size,by rw[←en.2];exact H.rel,?_⟩
   ·refine .head DK ?_;have:Region.schedule (E.P.follows .mixedOrders) ops (w.tape w.drawn (.order b.fn id))=Region.linearise.go .any ops ops.size (w.tape w.drawn (.order b.fn id)) (Array.replicate ops.size false) []:=by rw[Zdy];simp only[Region.schedule,Bool.true_or,if_true,Region.linearise]
    rw[this];exact hS.trans (.one rS)
   ·intro t v hv;obtain⟨p,hp,hw,nD⟩:=I'.slots t;have:aj (FA ops.size) t=aj (FA p) t:=T.keeps ops.size hp (Nat.le_refl _) fun j o h4 h5 h6 h7=>by have:=(hw j o h6 h7).1 h5;omega
    rw[←en.1,this] at hv;exact nD v hv
   ·refine Step.congr (w1:={ w with drawn:=w.drawn+1 }) ?_ rfl;rw[←e0.2,←en.2];exact⟨H.le,H.new,T.nle _ _ (Nat.zero_le _) (Nat.le_refl _),H.base,H.frame,H.idle,H.size,H.img,H.rB⟩
  ·rw[if_neg hc] at hr;cases hr
variable {E:Env}{call:cQ}{nt:Nat}{ops:List Oper}
def Qu (hc:fY call) : ∀(l:List Oper) (fr:Fr) (h:IH) (tr:List (Fr×IH)),trace E call nt ops l fr h=some tr → ∀x∈tr,h.n≤x.2.n
 | [],fr,h,tr,ht=>by simp only[trace] at ht;cases ht;simp
 | o :: l,fr,h,tr,ht=>by
  rw[trace] at ht;split at ht
  ·rename_i fr' h' hs;obtain⟨tr',h1,rfl⟩:=bg.1 ht;intro x hx;rcases dD.1 hx with rfl|hx
   ·exact ar _
   ·exact bA (DH hc hs) (Qu hc l fr' h' tr' h1 x hx)
  ·cases ht
variable {fr:Fr}{h':IH}{fr':Fr}{h:IH}
def OA (hc:fY call) (hr:kB E call nt ops fr h=some (fr',h')):h.n≤h'.n:=by
 unfold kB at hr
 cases ht:trace E call nt ops ops fr h with
 | none=>rw[ht] at hr;cases hr
 | some tr =>
  rw[ht] at hr;simp only[aK] at hr;split at hr;·exact Qu hc _ _ _ _ ht _ (bN hr)
  ·cases hr
def JP {b:Fr→IH→Out} (hb : ∀fr h e fr' h',b fr h=some (e,fr',h')→h.n≤h'.n) : ∀(n:Nat) (fr:Fr) (h:IH) (e:cL) (fr':Fr) (h':IH),qq b n fr h=some (e,fr',h')→h.n≤h'.n
 | 0,fr,h,e,fr',h',hr=>by simp[qq] at hr
 | n+1,fr,h,e,fr',h',hr=>by
  rw[qq] at hr;split at hr;·rename_i fr1 h1 hb1;exact bA (hb _ _ _ _ _ hb1) (JP hb n _ _ _ _ _ hr)
  ·rename_i hb1;cases hr;exact hb _ _ _ _ _ hb1
  ·rename_i hb1;cases hr;exact hb _ _ _ _ _ hb1
  ·cases hr
variable {fn:FuncId}{f:Operand}{e:cL}{rd:Option Nat}{ps:List Nat}{a b:Code}
def BJ (hr:nU E call fn nt rd f ps a b fr h=some (e,fr',h')) :uc h rd=true∧fr'=fr ∧ ∃fv v h1 r,opd fr f=some fv∧call fv [.func (.yield (2*h.n)) #[] #[]] (h.new (.loop { state:=.ready,pending:=none,fn,nt,fr,params:=ps,assign:=a,body:=b }))=some (v,h1) ∧ ja h1 h.n=some r∧r.state≠.busy∧yF r.pending=some e∧h' = { h1 with ext:=h1.ext.set h.n .dead }:=by
 unfold nU at hr;simp only[aK] at hr;by_cases hro:uc h rd=true
 ·simp only[hro,bS] at hr;split at hr
  ·cases hr
  ·rename_i fv hfv;split at hr
   ·cases hr
   ·rename_i v h1 jq;split at hr
    ·cases hr
    ·rename_i r hl;split at hr
     ·cases hr
     ·rename_i hb;split at hr
      ·cases hr
      ·rename_i e' he;cases hr;exact⟨hro,rfl,fv,v,h1,r,hfv,jq,hl,fun h=>hb (by rw[h];rfl),he,rfl⟩
 ·simp[hro] at hr
def Tf (hc:fY call) (hr:nU E call fn nt rd f ps a b fr h=some (e,fr',h')):h.n≤h'.n:=by obtain⟨_,_,fv,v,h1,r,_,h2,_,_,_,rfl⟩:=BJ hr;have:=hc _ _ _ _ _ h2;have e : ∀o,(h.new o).n=h.n+1:=fun _=>rfl;rw[e] at this;show h.n≤h1.n;omega
def v9:Code→Option (Nat×Nat×Nat×Nat×Code)
 | .seq (.region id ops draw) rest=>(vT ops.toList draw).map fun p=>(id,p.1,p.2.1,p.2.2,rest)
 | _=>none
variable {n:Nat}
theorem EW (b:Code) (fr:Fr) (h:IH):evC E call fn nt rd n (.loop b) fr h = match v9 b with
  | some p=>wU (evC E call fn nt rd n p.2.2.2.2) (kG E fn p.1) nt p.2.1 p.2.2.1 p.2.2.2.1 fr h
  | none=>qq (evC E call fn nt rd n b) n fr h:=by
 cases b with
 | seq x y =>
  cases x with
  | region id ops draw =>
   simp only[evC,v9];cases vT ops.toList draw with
   | none=>rfl
   | some p=>obtain⟨a,b,c⟩:=p;rfl
  | _=>rfl
 | _=>rfl
def QF {motive:Code→Prop} (h : ∀c,(∀c',SizeOf.sizeOf c'<SizeOf.sizeOf c→motive c')→motive c) (c:Code):motive c :=
 (measure (SizeOf.sizeOf:Code→Nat)).wf.induction (C:=motive) c h
def BS {p:Nat×Nat×Nat×Nat×Code} (h:v9 b=some p):SizeOf.sizeOf p.2.2.2.2<SizeOf.sizeOf b:=by
 unfold v9 at h;split at h;·obtain⟨q,_,rfl⟩:=bg.1 h;simp;omega
 ·cases h
def qG {g:Nat→Option (Nat×Value)} (hg : ∀s x,g s=some x→x.1=s) : ∀(l:List Nat) (t:Nat) (v:Value),aj (l.filterMap g) t=some v→g t=some (t,v)
 | [],t,v,h=>by simp[aj] at h
 | a :: l,t,v,h=>by
  cases ha:g a with
  | none=>rw[List.filterMap_cons_none ha] at h;exact qG hg l t v h
  | some x =>
   obtain⟨s,u⟩:=x
   obtain rfl:s=a:=hg a _ ha;rw[List.filterMap_cons_some ha] at h;simp only[aj,aK,bD] at h;by_cases e:s=t;·subst e;simp at h;subst h;exact ha
   ·rw[ad e] at h;exact qG hg l t v h
def Nk {R:List Nat→Out} (hc:common nt n R=some (e,fr',h')) : ∀l:List Nat,l.Perm (List.range n) → ∃fr,R l=some (e,fr,h') ∧ ∀t v,aj fr' t=some v→aj fr t=some v:=by
 unfold common at hc
 split at hc
 case isFalse=>cases hc
 rename_i c;cases hc;intro l hl;obtain⟨fr,hR⟩:=c.choose_spec l hl;refine⟨fr,hR,fun t v hv=>?_⟩;have:=qG (by
  intro s x hx;split at hx;·cases hx;rfl
  ·cases hx) _ _ _ hv
 split at this;·rename_i d;cases this;exact d.choose_spec l hl _ _ _ hR
 ·cases this
variable {more:Nat}{rest:Fr→IH→Out}{it nx:Nat}{hd:Fr→Fr}
def rp (hr : ∀fr h e fr' h',rest fr h=some (e,fr',h')→h.n≤h'.n) {kb k:Nat} {es:List (Value×Value)} :∀(l seen:List Nat) (fr:Fr) (h:IH) (e:cL) (fr':Fr) (h':IH),iG rest hd nt it nx more kb k es l seen fr h=some (e,fr',h')→h.n≤h'.n
 | [],seen,fr,h,e,fr',h',hx=>by
  unfold iG at hx;split at hx
  case isFalse=>cases hx
  split at hx;·cases hx
  ·split at hx
   ·cases hx
   ·exact hr _ _ _ _ _ hx
 | i :: l,seen,fr,h,e,fr',h',hx=>by
  unfold iG at hx;split at hx
  case isFalse=>cases hx
  split at hx;·cases hx
  ·split at hx
   ·cases hx
   ·split at hx
    ·rename_i hy;have q:=hr _ _ _ _ _ hy;exact bA q (rp hr l _ _ _ _ _ _ hx)
    ·have q:=hr _ _ _ _ _ hx;exact q
def zP (hx:wU rest hd nt it nx more fr h=some (e,fr',h')) :∃kb k since seen last es,aj (hd fr) it=some (ptr (2*kb) 0)∧h.ext.get kb=some (.iter k since seen last)∧mapOf h k=some es ∧ ∀l:List Nat,l.Perm (List.range es.length) → ∃frl hl,iG rest hd nt it nx more kb k es l [] fr h=some (e,frl,hl)∧(∃k0 a0 b0 c0,hl.ext.get kb=some (.iter k0 a0 b0 c0))∧h' = { hl with ext:=hl.ext.set kb .dead } ∧ ∀t v,aj fr' t=some v→aj frl t=some v:=by
 unfold wU at hx;split at hx
 case h_2=>cases hx
 rename_i b hb;simp only[aK,bD] at hx;split at hx;·cases hx
 ·rename_i qR;split at hx
  case h_2=>cases hx
  rename_i k since seen last hit;split at hx
  case h_2=>cases hx
  rename_i es hes;refine⟨b / 2,k,since,seen,last,es,by rw[hb,show 2*(b / 2)=b from by omega];rfl,hit,hes,fun l hl=>?_⟩;obtain⟨frl,h1,h2⟩:=Nk hx l hl;rw[ah hl] at h1;unfold MR at h1;split at h1;·cases h1
  ·rename_i p h3;split at h1
   ·rename_i k0 a0 b0 c0 hg;cases h1;exact⟨_,_,h3,⟨k0,a0,b0,c0,hg⟩,rfl,h2⟩
   ·cases h1
def TL (hr : ∀fr h e fr' h',rest fr h=some (e,fr',h')→h.n≤h'.n) (hx:wU rest hd nt it nx more fr h=some (e,fr',h')):h.n≤h'.n:=by obtain⟨kb,k,since,seen,last,es,_,_,_,ha⟩:=zP hx;obtain⟨frl,hl,h1,_,rfl,_⟩:=ha _ (List.Perm.refl _);exact show h.n≤hl.n from rp hr _ _ _ _ _ _ _ h1
def xE (hc:fY call) : ∀(c:Code) (fr:Fr) (h:IH) (e:cL) (fr':Fr) (h':IH),evC E call fn nt rd n c fr h=some (e,fr',h')→h.n≤h'.n:=by
 intro c
 induction c using QF with
 | h c IH =>
 cases c with
 | skip=>intro fr h e fr' h' hr;simp only[evC] at hr;cases hr;exact ar _
 | label l=>intro fr h e fr' h' hr;simp only[evC] at hr;cases hr;exact ar _
 | region id ops draw =>
  intro fr h e fr' h' hr;simp only[evC] at hr;split at hr
  ·rename_i fr1 h1 hx
   cases hr
   cases draw with
   | true=>exact OA hc hx
   | false=>exact DQ hc _ _ _ _ _ hx
  ·cases hr
 | seq a b =>
  have iha:=IH a bz;have ihb:=IH b bz;intro fr h e fr' h' hr;simp only[evC] at hr;split at hr;·rename_i fr1 h1 hx;exact bA (iha _ _ _ _ _ hx) (ihb _ _ _ _ _ hr)
  ·rename_i hx;cases hr;exact iha _ _ _ _ _ hx
  ·rename_i hx;cases hr;exact iha _ _ _ _ _ hx
  ·cases hr
 | cond x a b =>
  have iha:=IH a bz;have ihb:=IH b bz;intro fr h e fr' h' hr;simp only[evC] at hr;split at hr;·exact iha _ _ _ _ _ hr
  ·exact ihb _ _ _ _ _ hr
  ·cases hr
 | block id b =>
  have ih:=IH b bz;intro fr h e fr' h' hr;simp only[evC,aK] at hr;split at hr;·rename_i hx;split at hr<;>(cases hr;exact ih _ _ _ _ _ hx)
  ·rename_i hx;cases hr;exact ih _ _ _ _ _ hx
  ·rename_i hx;cases hr;exact ih _ _ _ _ _ hx
  ·cases hr
 | loop b =>
  have ih:=IH b bz;intro fr h e fr' h' hr;rw[EW] at hr;split at hr;·rename_i p hp;exact TL (IH _ (Nat.lt_trans (BS hp) bz)) hr
  ·exact JP (fun fr h e fr' h' hx=>ih fr h e fr' h' hx) n _ _ _ _ _ hr
 | scope b=>have ih:=IH b bz;intro fr h e fr' h' hr;simp only[evC] at hr;exact ih _ _ _ _ _ hr
 | rangeFunc f ps a b=>intro fr h e fr' h' hr;simp only[evC] at hr;exact Tf hc hr
 | exit i=>intro fr h e fr' h' hr;simp only[evC] at hr;cases hr;exact ar _
 | ret=>intro fr h e fr' h' hr;simp only[evC] at hr;cases hr;exact ar _
 | goto i=>intro fr h e fr' h' hr;simp only[evC] at hr;cases hr
 | refuse i=>intro fr h e fr' h' hr;simp only[evC] at hr;cases hr
variable {m:Mp}{w':World}{B:Nat}{w w0:World}
def Rel.ae (R:Rel B w0 m h w) (hb:Below B w0 w') (hs:w.heap.size≤w'.heap.size)(hk : ∀r,(r<B ∨ ∃k s,k<h.n∧m (2*k)=some (r,s))→w'.heap[r]?=w.heap[r]?):Rel B w0 m h w':=by
 refine⟨hb,bA R.size hs,fun b cs hx=>?_,R.odd,fun k r s hm=>⟨(R.even k r s hm).1,cV (R.even k r s hm).2 hs⟩,R.dom,fun k o r s ho hm=>?_,R.own,R.fI,R.fam,R.long,R.whole⟩;·obtain⟨r0,s0,m0,a,c,el,fz,d,e⟩:=R.base b cs hx;exact⟨r0,s0,m0,a,c,el,fz,by rw[hk r0 (.inl a)];exact d,e⟩
 ·have hkn:k<h.n:=by
   rcases cU k h.n with e|e;·exact e
   ·rw[R.dom k e] at ho;cases ho
  exact(R.obj k o r s ho hm).mono (Mp.le_refl m) (hk r (.inr ⟨k,s,hkn,hm⟩)) rfl
def Rel.ghost (R:Rel B w0 m h w) (O:Obj):Rel B w0 m h (w.alloc O)∧Step m h w m h (w.alloc O):=by
 have hold : ∀r,r<w.heap.size→(w.alloc O).heap[r]?=w.heap[r]?:=fun r hr=>by rw[heap_alloc,ad byOmega]
 refine⟨R.ae (rH R.below R.size O) (by rw[size_alloc];omega) ?_,⟨Mp.le_refl m,fun b hb=>absurd rfl hb,ar _,rfl,fun r hr _=>hold r hr,fun _ _ _=>rfl,by rw[size_alloc];omega,fun k r s a b=>byOmega,fun _ _ _ h=>h⟩⟩
 rintro r (hr|⟨k,s,_,hm⟩);·exact hold r (cV hr R.size)
 ·exact hold r (R.even k r s hm).2
def rZ (r:Nat):Deferred:={ target:=.collected r,args:=#[] }
def oI (z:Nat) (m:Mp) (h:IH) (w:World) (ds:List Deferred):Prop :=
 ∃rs:List Nat,ds=rs.map rZ∧rs.Nodup ∧ ∀r∈rs,z≤r∧w.heap[r]?=some (.deferred (some [])) ∧ ∀k s,k<h.n→m (2*k)≠some (r,s)
theorem J1 {r:Nat} {o:Obj} (h:w.heap[r]?=some o):r<w.heap.size:=(kZ.1 h).1
variable {ds:List Deferred}{z:Nat}
def oI.step {m':Mp} (d:oI z m h w ds) (s:Step m h w m' h' w'):oI z m' h' w' ds:=by
 obtain⟨rs,h1,h2,h3⟩:=d;refine⟨rs,h1,h2,fun r hr=>?_⟩;obtain⟨a,b,c⟩:=h3 r hr;refine⟨a,by rw[s.frame r (J1 b) c];exact b,fun k x hk hm=>?_⟩;by_cases hkn:k<h.n;·rw[s.old hkn] at hm;exact c k x hkn hm
 ·rcases s.img k r x byOmega hk hm with e|⟨k0,s0,e1,e2⟩
  ·have:=J1 b;omega
  ·exact c k0 s0 e1 e2
def oI.nil (z:Nat) (m:Mp) (h:IH) (w:World):oI z m h w []:=⟨[],rfl,List.nodup_nil,aa⟩
def oI.push (d:oI z m h w ds) (R:Rel B w0 m h w) (hz:z≤w.heap.size):oI z m h (w.alloc (.deferred (some []))) (rZ w.heap.size :: ds):=by
 obtain⟨rs,h1,h2,h3⟩:=d.step (R.ghost (.deferred (some []))).2;refine⟨w.heap.size :: rs,by rw[h1];rfl,Db.2 ⟨fun hm=>?_,h2⟩,fun r hr=>?_⟩
 ·obtain⟨rs',e1,e2,e3⟩:=d;have:rs'=rs:=by
   have e:=e1.symm.trans h1;have inj : ∀a b,rZ a=rZ b→a=b:=by intro a b h;simp[rZ] at h;exact h
   exact List.map_inj_right (fun a b=>inj a b) |>.1 e
  subst this;have:=J1 (e3 _ hm).2.1;omega
 ·rcases dD.1 hr with rfl|hr
  ·refine⟨hz,by rw[heap_alloc,ah rfl],fun k s _ hm=>?_⟩;have:=(R.even k _ s hm).2;omega
  ·exact h3 r hr
def vz (P:Program) (w:World) {n:Nat} (hn:0<n) : ∃i d,i<n∧(choose (.mapNext n)).run P w=.ok i { w with drawn:=d }:=by
 simp only[choose,Sem.run];by_cases h:(Question.mapNext n).forced=true;·rw[ah h];exact⟨0,w.drawn,hn,rfl⟩
 ·rw[ad h];exact⟨_,_,gE _ hn,rfl⟩
variable {r:Nat}{w:World}
def Cg (P:Program) {a:Option Nat} {b d:Nat} {c:Array Nat} (h:w.heap[r]?=some (.mapIter a b c d)) (o:Obj):(Go.setObj r o).run P w=.ok () (World.put w r o):=by simp only[Go.setObj,Sem.run,h];rfl
variable {es:List (Value×Value)}{m:Mp}{c:Array MapEntry}
def KB (h:wD m es c) {e:MapEntry} (he:e∈c):e.born<es.length∧c[e.born]?=some e:=by obtain⟨i,hi,rfl⟩:=Array.mem_iff_getElem.1 he;have:=h.born i c[i] (oT hi);rw[this];exact⟨by have:=h.1;omega,oT hi⟩
def VI (P:Program) (hcm:wD m es c) {rm:Nat} {seen:List Nat}(hit:w.heap[r]?=some (.mapIter (some rm) es.length seen.toArray es.length)) (Gf:w.heap[rm]?=some (.map c es.length)) (t:TypeId) :((∀i,i<es.length→i∈seen) ∧ ∃d,(Instr.next (.pointer (some ⟨r,0,none⟩)) false t).run P w=.ok (.tuple #[.bool false]) { w with drawn:=d }) ∨ ∃i e' d,i∉seen∧c[i]?=some e'∧(Instr.next (.pointer (some ⟨r,0,none⟩)) false t).run P w=.ok (.tuple #[.bool true,e'.key,e'.val]) (World.put { w with drawn:=d } r (.mapIter (some rm) es.length (seen.toArray.push i) es.length)):=by
 have tc:(!seen.toArray.isEmpty && !c.isEmpty && c.all fun e=>decide (e.born ≥ es.length))=false:=by
  cases hc:c.isEmpty with
  | true=>simp
  | false =>
   have zS:0<c.size:=by
    rcases gW c.size with h|h;·rw[NW.2 h] at hc;cases hc
    ·exact h
   have hb:=hcm.born 0 c[0] (oT zS);have:(c.all fun e=>decide (e.born ≥ es.length))=false:=by rw[oR];intro iv;have:=Array.all_eq_true.1 iv 0 zS;rw[hb] at this;have h1:=Au this;have:=hcm.1;omega
   rw[this];simp
 obtain⟨left,W4⟩ : ∃l,l=c.filter fun e => !seen.toArray.contains e.born:=⟨_,rfl⟩;have Pr : ∀e∈left,e∈c∧e.born∉seen:=by intro e he;rw[W4,Array.mem_filter] at he;exact⟨he.1,by simpa using he.2⟩
 have hold:(left.filter fun e=>decide (e.born<es.length))=left:=by rw[Array.filter_eq_self];intro e he;simpa using (KB hcm (Pr e he).1).1
 have Cj:(left.filter fun e=>decide (e.born ≥ es.length)) = #[]:=by rw[Array.filter_eq_empty_iff];intro e he;have:=(KB hcm (Pr e he).1).1;simp;omega
 have cu : ∀i d,i<((if left.isEmpty then #[none] else #[]) ++ (left ++ #[]).map some:Array (Option MapEntry)).size → (choose (.mapNext ((if left.isEmpty then #[none] else #[]) ++ (left ++ #[]).map some:Array (Option MapEntry)).size)).run P w=.ok i { w with drawn:=d } → (Instr.next (.pointer (some ⟨r,0,none⟩)) false t).run P w=(match ((if left.isEmpty then #[none] else #[]) ++ (left ++ #[]).map some:Array (Option MapEntry))[i]? with
    | some (some e)=>.ok (.tuple #[.bool true,e.key,e.val]) (World.put { w with drawn:=d } r (.mapIter (some rm) es.length (seen.toArray.push e.born) es.length))
    | some none=>.ok (.tuple #[.bool false]) { w with drawn:=d }
    | none=>(stuck "Next: no such candidate" : Sem Value).run P { w with drawn:=d }):=by
  intro i d hi hch;have hit2:({ w with drawn:=d }:World).heap[r]?=some (.mapIter (some rm) es.length seen.toArray es.length):=hit;simp only[Instr.next,bt,uG P hit,bQ,run_getObj_map P Gf,tc,gv,cH,←W4,hold,Cj,hch];generalize ((if left.isEmpty then #[none] else #[]) ++ (left ++ #[]).map some:Array (Option MapEntry))[i]?=y;cases y with
  | none=>rfl
  | some y=>cases y with
   | none=>rfl
   | some e =>
    simp only[bt,Cg P hit2,bQ,bT]
 by_cases hem:left.isEmpty=true
 ·left;have hl0:left = #[]:=by simpa using hem
  refine⟨fun i hi=>?_,?_⟩
  ·apply dW;intro hns;have hic:i<c.size:=by have:=hcm.1;omega
   have hb:=hcm.born i c[i] (oT hic);have:c[i]∈left:=by rw[W4,Array.mem_filter];exact⟨Array.getElem_mem hic,by rw[hb];simpa using hns⟩
   rw[hl0] at this;simp at this
  ·obtain⟨i,d,hi,hch⟩:=vz P w (n:=((if left.isEmpty then #[none] else #[]) ++ (left ++ #[]).map some:Array (Option MapEntry)).size) (by simp[hl0]);refine⟨d,?_⟩;rw[cu i d hi hch];simp only[hl0] at hi ⊢;simp at hi;subst hi;simp
 ·right;have hne:left.isEmpty=false:=by simpa using hem
  have ZbV:((if left.isEmpty then #[none] else #[]) ++ (left ++ #[]).map some:Array (Option MapEntry))=left.map some:=by simp[hne]
  have zS:0<left.size:=by
   rcases gW left.size with h|h;·rw[NW.2 h] at hne;cases hne
   ·exact h
  obtain⟨i,d,hi,hch⟩:=vz P w (n:=((if left.isEmpty then #[none] else #[]) ++ (left ++ #[]).map some:Array (Option MapEntry)).size) (by rw[ZbV];simpa using zS);have hr:=cu i d hi hch;rw[ZbV] at hr hi;have hil:i<left.size:=by simpa using hi
  have hgi:(left.map some)[i]?=some (some left[i]):=by simp[hil]
  rw[hgi] at hr;obtain⟨h1,h2⟩:=Pr left[i] (Array.getElem_mem hil);obtain⟨_,h3⟩:=KB hcm h1;exact⟨left[i].born,left[i],d,h2,h3,hr⟩
theorem V1 {o:Obj} (h:w.heap[r]?=some o):World.put w r o=w:=by
 have hr:r<w.heap.size:=by
  rcases cU r w.heap.size with h'|h';·exact h'
  ·rw[Dj h'] at h;cases h
 have he:w.heap[r]=o:=by rw[oT hr] at h;exact NJ h
 subst he;show { w with heap:=w.heap.setIfInBounds r w.heap[r] }=w;rw[Array.setIfInBounds_def,dif_pos hr,Array.set_getElem_self]
def CO:cL→List Item→List Item→Prop
 | .normal,k,k'=>k'=k
 | .exit i,k,k' => ∃k1,k'=.code (.exit i) :: k1∧exitTo i k1=exitTo i k
 | .ret,_,k' => ∃k1,k'=.code .ret :: k1
def uE (b:Frame) (rd:Option Nat) (m:Mp):Prop:=(b.roundOf=none∧rd=none) ∨ ∃l r s,rd=some l∧b.roundOf=some r∧m (2*l)=some (r,s)
variable {m:Mp}{b:Frame}
def uE.mono {rd:Option Nat} {m':Mp} (h:uE b rd m) (hm:m.le m'):uE b rd m':=by
 rcases h with h|⟨l,r,s,h1,h2,h3⟩;·exact .inl h
 ·exact .inr ⟨l,r,s,h1,h2,(hm _ _ h3).1⟩
def Ran (E:Env) (b:Frame) (B:Nat) (w0:World) (z:Nat) (nt:Nat) (cs:List Frame) (m:Mp) (h:IH) (w:World) (k0:List Item) (M:Machine) (e:cL) (fr':Fr) (h':IH):Prop :=
 ∃m' w' cJ ds' k',Steps E.P M (lone (on b cJ k' ds') cs w')∧CO e k0 k'∧gA m' fr' cJ∧nt≤cJ.size∧Rel B w0 m' h' w'∧Step m h w m' h' w'∧oI z m' h' w' ds'
def xd (E:Env) (run:Fr→IH→Out) (b:Frame) (rd:Option Nat) (B:Nat) (w0:World) (z nt:Nat) (cs:List Frame) (c:Code):Prop :=
 ∀(fr:Fr) (h:IH) (e:cL) (fr':Fr) (h':IH),run fr h=some (e,fr',h') → ∀(m:Mp) (w:World) (tmps:Array Value) (k:List Item) (ds:List Deferred),
  Rel B w0 m h w→gA m fr tmps→nt≤tmps.size→iA m h.n h'.n→uE b rd m→oI z m h w ds→z≤w.heap.size →
  Ran E b B w0 z nt cs m h w k (lone (on b tmps (.code c :: k) ds) cs w) e fr' h'
variable {cs:List Frame}{e:cL}{M:Machine}{fr':Fr}{h':IH}{k0:List Item}{E:Env}{nt:Nat}{h:IH}{z B:Nat}{w w0:World}
def Ran.first {M1:Machine}  (hs:Steps E.P M M1) (r:Ran E b B w0 z nt cs m h w k0 M1 e fr' h'):Ran E b B w0 z nt cs m h w k0 M e fr' h':=by obtain⟨m',w',cJ,ds',k',h1,h2⟩:=r;exact⟨m',w',cJ,ds',k',hs.trans h1,h2⟩
def Ran.step {m1:Mp} {h1:IH} {w1:World}  (s:Step m h w m1 h1 w1) (r:Ran E b B w0 z nt cs m1 h1 w1 k0 M e fr' h'):Ran E b B w0 z nt cs m h w k0 M e fr' h':=by obtain⟨m',w',cJ,ds',k',a1,a2,a3,a4,a5,a6,a7⟩:=r;exact⟨m',w',cJ,ds',k',a1,a2,a3,a4,a5,s.trans a6,a7⟩
section
variable {E:Env} {call:cQ} {b:Frame} {rd:Option Nat} {B:Nat} {w0:World} {z nt:Nat} {cs:List Frame}
variable {e:cL}{k1 k:List Item}
def CO.out {k':List Item} (h:CO e k1 k') (hn:e≠.normal) (hx : ∀i,e=.exit i→exitTo i k1=exitTo i k):CO e k k':=by
 cases e with
 | normal=>exact absurd rfl hn
 | exit i=>obtain⟨k2,a,c⟩:=h;exact⟨k2,a,c.trans (hx i rfl)⟩
 | ret=>exact h
variable {M:Machine}{fr':Fr}{h':IH}{m:Mp}{h:IH}{w:World}
def Ran.out (r:Ran E b B w0 z nt cs m h w k1 M e fr' h') (hn:e≠.normal) (hx : ∀i,e=.exit i→exitTo i k1=exitTo i k) :Ran E b B w0 z nt cs m h w k M e fr' h':=by obtain⟨m',w',cJ,ds',k',a1,a2,a3⟩:=r;exact⟨m',w',cJ,ds',k',a1,a2.out hn hx,a3⟩
variable {c:Code}
def LL {run:Fr→IH→Out} (eK : ∀fr h e fr' h',run fr h=some (e,fr',h')→h.n≤h'.n) (ih:xd E run b rd B w0 z nt cs c) : ∀(n:Nat) (fr:Fr) (h:IH) (e:cL) (fr':Fr) (h':IH),qq run n fr h=some (e,fr',h') → ∀(m:Mp) (w:World) (tmps:Array Value) (k:List Item) (ds:List Deferred),Rel B w0 m h w→gA m fr tmps→nt≤tmps.size→iA m h.n h'.n→uE b rd m→oI z m h w ds→z≤w.heap.size → Ran E b B w0 z nt cs m h w k (lone (on b tmps (.code c :: .inLoop c :: k) ds) cs w) e fr' h'
 | 0,fr,h,e,fr',h',hr,m,w,tmps,k,ds,_,_,_,_,_,_,_=>by simp[qq] at hr
 | n+1,fr,h,e,fr',h',hr,m,w,tmps,k,ds,R,hf,ht,hfr,hfo,hd,hz=>by
  rw[qq] at hr;split at hr;·rename_i fr1 h1 hx;have n1:=eK _ _ _ _ _ hx;have n2:=JP eK n _ _ _ _ _ hr;obtain⟨m1,w1,eH,ds1,k1,a1,a2,a3,a4,a5,a6,a7⟩:=ih fr h .normal fr1 h1 hx m w tmps (.inLoop c :: k) ds R hf ht (hfr.sub (ar _) n2) hfo hd hz;obtain rfl:k1=_:=a2;refine .first (a1.trans (.one GD)) (.step a6 ?_);exact LL eK ih n fr1 h1 e fr' h' hr m1 w1 eH k ds1 a5 a3 a4 (a6.fresh hfr) (hfo.mono a6.le) a7 (bA hz a6.size)
  ·rename_i i fr1 h1 hx
   cases hr;exact(ih fr h _ _ _ hx m w tmps (.inLoop c :: k) ds R hf ht hfr hfo hd hz).out aa (fun i _=>rfl)
  ·rename_i fr1 h1 hx;cases hr;exact(ih fr h _ _ _ hx m w tmps (.inLoop c :: k) ds R hf ht hfr hfo hd hz).out aa (fun i _=>rfl)
  ·cases hr
variable {fr:Fr}{tmps:Array Value}
def gA.head (hf:gA m fr tmps) (fn:FuncId) (id:Nat):gA m (kG E fn id fr) tmps:=by
 unfold kG;split
 ·intro t v hv;rw[jQ] at hv;split at hv
  ·exact hf t v hv
  ·cases hv
 ·exact hf
def kE {l:Nat} {r:kN} (hl:ja h l=some r):h.ext.get l=some (.loop r):=by
 unfold ja at hl;split at hl;·rename_i r' hg;cases hl;exact hg
 ·cases hl
def pG.EA {l:kN} {l':Loop} (h:pG m l l') (he:yF l.pending=some e):(e=.normal∧l'.pending=none)∨(∃i,e=.exit i∧l'.pending=some (.exit i))∨(e=.ret∧l'.pending=some .ret):=by
 rw[h.pending];unfold yF at he;split at he<;>first|(cases he;done)|skip
 ·rename_i hp;cases he;exact .inl ⟨rfl,hp⟩
 ·rename_i i hp;cases he;exact .inr (.inl ⟨i,rfl,hp⟩)
 ·rename_i hp;cases he;exact .inr (.inr ⟨rfl,hp⟩)
def LI (jq:ot E.P call) (eK:fY call) {f:Operand} {ps:Array Tmp} {a:Code}:xd E (fun fr h=>nU E call b.fn nt rd f ps.toList a c fr h) b rd B w0 z nt cs (.rangeFunc f ps a c):=by
 intro fr h e fr' h' hr m w tmps k ds R hf ht hfr hfo hd hz
 obtain⟨hro,rfl,fv,v,h1,r,hfv,hc,hl,hb,he,rfl⟩:=BJ hr;have hn1:(h.new (.loop { state:=.ready,pending:=none,fn:=b.fn,nt,fr:=fr',params:=ps.toList,assign:=a,body:=c })).n≤h1.n:=eK _ _ _ _ _ hc;have Cj:(h.new (.loop { state:=.ready,pending:=none,fn:=b.fn,nt,fr:=fr',params:=ps.toList,assign:=a,body:=c })).n=h.n+1:=rfl
 have hfr':iA m h.n h1.n:=hfr
 have laid : ∃wm mark dfs,(Instr.enterLoop b.fn tmps ps a c b.roundOf).run E.P w=.ok (wm.heap.size,mark) (wm.alloc (.loop { state:=.ready,pending:=none,fn:=b.fn,tmps,params:=ps,assign:=a,body:=c,defers:=dfs })) ∧
   Rel B w0 m h wm∧Step m h w m h wm∧oI z m h wm (mark ++ ds):=by
  rcases hfo with⟨h2,rfl⟩|⟨l,lr,s,rfl,h3,h4⟩;·have g:=R.ghost (.deferred (some []));refine⟨w.alloc (.deferred (some [])),[rZ w.heap.size],w.heap.size,?_,g.1,g.2,hd.push R hz⟩;rw[h2,run_enterLoop_outer,size_alloc];rfl
  ·simp only[uc,It] at hro
   obtain⟨rl,hrl⟩:=hro;have sX:=R.obj _ _ _ _ (kE hrl) h4;obtain⟨rfl,l',hl',nD⟩:=sX;refine⟨w,[],l'.defers,?_,R,Step.refl _ _ _,hd⟩;rw[h3];simp only[Instr.enterLoop,bt,run_getLoop hl',bQ,bT,run_newObj_alloc]
 obtain⟨wm,mark,dfs,hent,Rm,Sm,Dm⟩:=laid;have hm0:m (2*h.n)=none:=hfr' h.n (ar _) byOmega;obtain⟨R1,S1⟩:=Rm.new (.loop { state:=.ready,pending:=none,fn:=b.fn,nt,fr:=fr',params:=ps.toList,assign:=a,body:=c }) (.loop { state:=.ready,pending:=none,fn:=b.fn,tmps,params:=ps,assign:=a,body:=c,defers:=dfs }) (0,0) hm0 ⟨rfl,_,by rw[heap_alloc,ah rfl],⟨rfl,rfl,rfl,hf,ht,rfl,rfl,rfl⟩⟩ rfl;have S01:=Sm.trans S1;have Dm1:=Dm.step S1;have hρ:=wT Rm hf;have Zdl:aW (m.upd (2*h.n) (wm.heap.size,0) (0,0)) (.func (.yield (2*h.n)) #[] #[]) (.func (.yield wm.heap.size) #[] #[]) :=
  aW.J5 ⟨0,Mp.cb _ _ _ _⟩ (.nil _) (.nil _)
 obtain⟨nx,hinv,halt⟩:=jq fv _ _ h1 v hc B w0 _ _ (kU tmps f) #[.func (.yield wm.heap.size) #[] #[]] R1 ((hρ f fv hfv).mono S1.le) (.cons Zdl (.nil _)) (S01.fresh hfr');obtain⟨fr0,ZdH,cu⟩:=halt.resolve_left (by rintro⟨_,_,_,_,hint⟩;obtain⟨k,n,e⟩:=hint _ (iD.2 rfl);cases e);obtain⟨v',m2,w2,hv,R2,S2,WZ⟩:=cu (on b tmps (.inRangeFunc wm.heap.size :: k) (mark ++ ds)) cs;have hev:(on b tmps (.inRangeFunc wm.heap.size :: k) (mark ++ ds)).eval=kU tmps:=Kj _ _ _ _
 have st1:step E.P (lone (on b tmps (.code (.rangeFunc f ps a c) :: k) ds) cs w)=.next (lone fr0 (on b tmps (.inRangeFunc wm.heap.size :: k) (mark ++ ds) :: cs) (wm.alloc (.loop { state:=.ready,pending:=none,fn:=b.fn,tmps,params:=ps,assign:=a,body:=c,defers:=dfs }))):=by
  have Pq:(do let d ←resolve (on b tmps (.inRangeFunc wm.heap.size :: k) (mark ++ ds)).eval { callee:=.value f,args:=#[.const (.func (.yield wm.heap.size) #[] #[])],argTypes:=#[] } 0;invoke d.target d.args:Sem Next).run E.P (wm.alloc (.loop { state:=.ready,pending:=none,fn:=b.fn,tmps,params:=ps,assign:=a,body:=c,defers:=dfs }))=.ok nx (wm.alloc (.loop { state:=.ready,pending:=none,fn:=b.fn,tmps,params:=ps,assign:=a,body:=c,defers:=dfs })):=by rw[hev,show resolve (kU tmps) { callee:=.value f,args:=#[.const (.func (.yield wm.heap.size) #[] #[])],argTypes:=#[] } 0=Deferred.ofValue (kU tmps f) #[.func (.yield wm.heap.size) #[] #[]] from by simp[resolve,kU]];exact hinv
  simp only[on] at Pq;refine jg ?_;rcases ZdH with⟨f',as,rfl,rfl⟩|⟨l,f',ts,a',c',rfl,rfl⟩;·simp[stepG,stepG.exec,on,Sem.runT_eq,hent,GStep.bare_after,stepG.apply,Pq]
  ·simp[stepG,stepG.exec,on,Sem.runT_eq,hent,GStep.bare_after,stepG.apply,Pq]
 have hfin:(on b tmps (.inRangeFunc wm.heap.size :: k) (mark ++ ds)).finish v'=on b tmps (.endRangeFunc wm.heap.size :: k) (mark ++ ds):=rfl;rw[hfin] at WZ;have hm2:m2 (2*h.n)=some (wm.heap.size,0):=(S2.le _ _ (Mp.cb _ _ _ _)).1;obtain⟨_,l',hl',nD⟩:=R2.obj _ _ _ _ (kE hl) hm2;have xi:(Instr.endLoop wm.heap.size).run E.P w2=.ok l'.pending (w2.putObj wm.heap.size (.loop { l' with state:=.exhausted })):=run_endLoop hl' (by rw[nD.state];exact hb);obtain⟨R3,S3⟩:=R2.setObj (o1:=.dead) (o':=.loop { l' with state:=.exhausted }) (kE hl) rfl rfl hm2 rfl (fun _ _ _=>trivial);have st2:step E.P (lone (on b tmps (.endRangeFunc wm.heap.size :: k) (mark ++ ds)) cs w2)=.next (lone (on b tmps ((l'.pending.map Item.code).toList ++ k) (mark ++ ds)) cs (w2.putObj wm.heap.size (.loop { l' with state:=.exhausted }))) :=
  stepR_endRangeFunc (b:=b) (a:={ tmps:=tmps,defers:=mark ++ ds }) xi
 refine⟨m2,_,tmps,mark ++ ds,_,(Steps.one st1).trans (WZ.trans (.one st2)),?_,hf.mono (S01.trans S2).le,ht,R3,(S01.trans S2).trans S3,(Dm1.step S2).step S3⟩;rcases nD.EA he with⟨rfl,hp⟩|⟨i,rfl,hp⟩|⟨rfl,hp⟩;·rw[hp];rfl
 ·rw[hp];exact⟨k,rfl,rfl⟩
 ·rw[hp];exact⟨k,rfl⟩
variable {id:Nat}{ops:Array Oper}{ps1:String}{af1:Array Edge}{it:Nat}{ty2:TypeId}{kb more:Nat}{ty1:TypeId}{af2:Array Edge}{es:List (Value×Value)}{ps2:String}{nx:Nat}
def Vz {k:Nat} {seen:List Nat} {kk:List Item} {ds:List Deferred}(M3:ops.toList = [⟨some nx,.next (.tmp it) false,ty1,ps1,af1,none⟩,⟨some more,.extract (.tmp nx) 0,ty2,ps2,af2,none⟩])(hok:JU fr h it kb k es seen) (R:Rel B w0 m h w) (hf:gA m fr tmps) (ht:nt≤tmps.size) :((∀i,i<es.length→i∈seen) ∧ ∀fr2,ui nt nx more (.tuple #[.bool false]) false fr=some fr2 →∃w' cJ,Steps E.P (lone (on b tmps (.code (.region id ops false) :: kk) ds) cs w) (lone (on b cJ kk ds) cs w')∧gA m fr2 cJ∧nt≤cJ.size∧Rel B w0 m h w'∧Step m h w m h w') ∨ ∃i x,i∉seen∧es[i]?=some x ∧ ∀fr2,ui nt nx more (.tuple #[.bool true,x.1,x.2]) true fr=some fr2 → ∃w' cJ,Steps E.P (lone (on b tmps (.code (.region id ops false) :: kk) ds) cs w) (lone (on b cJ kk ds) cs w')∧gA m fr2 cJ∧nt≤cJ.size ∧ Rel B w0 m { h with ext:=h.ext.set kb (.iter k es.length (seen ++ [i]) es.length) } w'∧Step m h w m { h with ext:=h.ext.set kb (.iter k es.length (seen ++ [i]) es.length) } w':=by
 obtain⟨g1,g2,g3⟩:=hok;obtain⟨v1,t1,hv1⟩:=hf it _ g1;obtain⟨r,s,hm,rfl⟩:=hv1.nV;obtain⟨rfl,rm,sX,hmk⟩:=R.obj kb _ r s g2 hm;obtain⟨_,_,c,Gf,hcm⟩:=R.Hf g3 hmk;have hρ:kU tmps (.tmp it)=.pointer (some ⟨r,0,none⟩):=by simp[kU,Dk,t1]
 have o0:ops[0]?=some ⟨some nx,.next (.tmp it) false,ty1,ps1,af1,none⟩:=by rw[←oS,M3];rfl
 have o1:ops[1]?=some ⟨some more,.extract (.tmp nx) 0,ty2,ps2,af2,none⟩:=by rw[←oS,M3];rfl
 have hsz:ops.size=2:=by rw[←ku,M3];rfl
 have two : ∀(v v':Value) (bb:Bool) (w':World) (fr2:Fr),aW m v v'→(∃cs',v=.tuple cs'∧cs'[0]?=some (.bool bb))→(Instr.next (.pointer (some ⟨r,0,none⟩)) false ty1).run E.P w=.ok v' w'→ui nt nx more v bb fr=some fr2 →
   ∃cJ,Steps E.P (lone (on b tmps (.code (.region id ops false) :: kk) ds) cs w) (lone (on b cJ kk ds) cs w')∧gA m fr2 cJ∧nt≤cJ.size:=by
  intro v v' bb w' fr2 hv Zdq cu mL;unfold ui at mL;split at mL
  case h_2=>cases mL
  rename_i fra hpa;obtain⟨hfa,hta⟩:=wg hpa hf ht hv;obtain⟨hfb,htb⟩:=wg mL hfa hta (aW.ct (m:=m) (v:=.bool bb) rfl);obtain⟨cs',rfl,hc0⟩:=Zdq;obtain⟨cs2,rfl,hL⟩:=hv.sF
  have dM:aj fra nx=some (.tuple cs'):=by
   unfold qT at hpa;simp only[aK] at hpa;split at hpa;·cases hpa;simp[aj]
   ·cases hpa
  obtain⟨v2,q1,q2⟩:=hfa nx _ dM;obtain⟨u,q3,q4⟩:=hL.get (i:=0) (by simpa using hc0);have hu:=q4.dN rfl;subst hu;have hpt:(rW tmps (some nx) (.tuple cs2))[nx]?=some (.tuple cs2):=by
   have hlt:nx<tmps.size:=by
    unfold qT at hpa;simp only[aK] at hpa;split at hpa
    ·rename_i hb;have:nx+1≤nt:=by simpa [Nat.blt] using hb
     omega
    ·cases hpa
   simp[rW,hlt]
  have hρ2:kU (rW tmps (some nx) (.tuple cs2)) (.tmp nx)=.tuple cs2:=by simp[kU,Dk,hpt]
  have q3':cs2[0]?=some (.bool bb):=by simpa using q3
  have e1:=vo (P:=E.P) (b:=b) (ds:=ds) (k:=kk) (cs:=cs) (tmps:=tmps) (ops:=ops) (i:=0) (rest:=[1]) (v:=.tuple cs2) (w:=w) (w':=w') o0 (by simp[Region.wanted]) aa (by simp only[execOp,hρ,bt,cu,bQ,bT]);have e2:=vo (P:=E.P) (b:=b) (ds:=ds) (k:=kk) (cs:=cs) (tmps:=rW tmps (some nx) (.tuple cs2)) (ops:=ops) (i:=1) (rest:=[]) (v:=.bool bb) (w:=w') (w':=w') o1 (by simp[Region.wanted]) aa (by simp only[execOp,hρ2,Instr.extract,q3',bt,bQ,bT]);refine⟨_,.head GC (.head ?_ (.head e2 (.one rS))),hfb,htb⟩;rw[hsz];exact e1
 rcases VI E.P hcm sX Gf ty1 with⟨iv,d,cu⟩|⟨i,e',d,hi,hci,cu⟩;·refine .inl ⟨iv,fun fr2 mL=>?_⟩;obtain⟨cJ,a1,a2,a3⟩:=two _ _ false _ fr2 (aW.ji (.cons (.ct rfl) (.nil m))) ⟨_,rfl,rfl⟩ cu mL;exact⟨_,cJ,a1,a2,a3,R.congr rfl (nL R.below d),(Step.refl m h { w with drawn:=d }).congr rfl⟩
 ·have hic:i<c.size:=by
   rcases cU i c.size with h|h;·exact h
   ·rw[Dj h] at hci;cases hci
  have hie:i<es.length:=by have:=hcm.1;omega
  have hE:=(hcm.2 i es[i] e' (bK hie) hci).1;refine .inr ⟨i,es[i],hi,bK hie,fun fr2 mL=>?_⟩;obtain⟨cJ,a1,a2,a3⟩:=two _ _ true _ fr2 (aW.ji (.cons (.ct rfl) (.cons (by rw[hE.1];exact aW.cY hE.2.1) (.cons hE.2.2 (.nil m))))) ⟨_,rfl,rfl⟩ cu mL;obtain⟨R1,S1⟩:=(R.congr (w':={ w with drawn:=d }) rfl (nL R.below d)).setObj (o1:=.iter k es.length (seen ++ [i]) es.length) (o':=.mapIter (some rm) es.length (seen.toArray.push i) es.length) g2 rfl rfl hm rfl (fun w' z e=>⟨rfl,rm,by rw[e];simp,hmk⟩);exact⟨_,cJ,a1,a2,a3,R1,S1.congr rfl⟩
def Rel.kill (R:Rel B w0 m h w) {k0 a0 c0 r s:Nat} {b0:List Nat} (hk:h.ext.get kb=some (.iter k0 a0 b0 c0)) (hm:m (2*kb)=some (r,s)) :Rel B w0 m { h with ext:=h.ext.set kb .dead } w∧Step m h w m { h with ext:=h.ext.set kb .dead } w:=by obtain⟨_,rm,sX,_⟩:=R.obj kb _ r s hk hm;have:=R.setObj (o1:=.dead) (o':=.mapIter (some rm) a0 b0.toArray c0) hk rfl rfl hm rfl (fun _ _ _=>trivial);rw[V1 sX] at this;exact this
def Ran.kill {k0:List Item} {frl:Fr} {hl:IH} {rs:Nat×Nat} (hm:m (2*kb)=some rs) (r:Ran E b B w0 z nt cs m h w k0 M e frl hl) (hk : ∃k1 a1 b1 c1,hl.ext.get kb=some (.iter k1 a1 b1 c1))(hfr : ∀t v,aj fr' t=some v→aj frl t=some v):Ran E b B w0 z nt cs m h w k0 M e fr' { hl with ext:=hl.ext.set kb .dead }:=by obtain⟨m',w',cJ,ds',k',a1,a2,a3,a4,a5,a6,a7⟩:=r;obtain⟨k1,x1,b1,c1,hk⟩:=hk;obtain⟨R1,S1⟩:=a5.kill hk (a6.le _ _ hm).1;exact⟨m',w',cJ,ds',k',a1,a2,fun t v hv=>a3 t v (hfr t v hv),a4,R1,a6.trans S1,a7.step S1⟩
variable {n:Nat}
def DO {rest:Code} {k:Nat}  (M3:ops.toList = [⟨some nx,.next (.tmp it) false,ty1,ps1,af1,none⟩,⟨some more,.extract (.tmp nx) 0,ty2,ps2,af2,none⟩])(eK : ∀fr h e fr' h',evC E call b.fn nt rd n rest fr h=some (e,fr',h')→h.n≤h'.n) (ih:xd E (evC E call b.fn nt rd n rest) b rd B w0 z nt cs rest) :∀(q:Nat) (rem seen:List Nat) (fr:Fr) (h:IH),rem.length=q→(∀i,i∈rem↔i<es.length∧i∉seen)→rem.Nodup → (∀l:List Nat,l.Perm rem → ∃frl hl,iG (evC E call b.fn nt rd n rest) (kG E b.fn id) nt it nx more kb k es l seen fr h=some (e,frl,hl)∧(∃k0 a0 b0 c0,hl.ext.get kb=some (.iter k0 a0 b0 c0))∧h' = { hl with ext:=hl.ext.set kb .dead } ∧ ∀t v,aj fr' t=some v→aj frl t=some v) →
   ∀(m:Mp) (w:World) (tmps:Array Value) (kk:List Item) (ds:List Deferred) (rs:Nat×Nat),m (2*kb)=some rs→Rel B w0 m h w→gA m fr tmps→nt≤tmps.size→iA m h.n h'.n→uE b rd m→oI z m h w ds→z≤w.heap.size →
    Ran E b B w0 z nt cs m h w kk (lone (on b tmps (.code (.seq (.region id ops false) rest) :: .inLoop (.seq (.region id ops false) rest) :: kk) ds) cs w) e fr' h'
 | q,rem,seen,fr,h,hq,Zdr,hnd,iv,m,w,tmps,kk,ds,rs,hkb,R,hf,ht,hfr,hfo,hd,hz=>by
  have hok:JU (kG E b.fn id fr) h it kb k es seen:=by
   obtain⟨frl,hl,h1,_⟩:=iv rem (List.Perm.refl _);unfold iG at h1;split at h1;all_goals
    split at h1;·assumption
    ·cases h1
  have hn' : ∀{l:List Nat} {frl:Fr} {hl:IH},iG (evC E call b.fn nt rd n rest) (kG E b.fn id) nt it nx more kb k es l seen fr h=some (e,frl,hl)→h.n≤hl.n:=fun hx=>rp eK _ _ _ _ _ _ _ hx;rcases Vz (E:=E) (b:=b) (cs:=cs) (nt:=nt) (id:=id) (kk:=.code rest :: .inLoop (.seq (.region id ops false) rest) :: kk) (ds:=ds) M3 hok R (hf.head b.fn id) ht with⟨hov,hst⟩|⟨i,x,hi,hx,hst⟩
  ·have hr0:rem = []:=by apply List.eq_nil_iff_forall_not_mem.2;intro j hj;obtain⟨h1,h2⟩:=(Zdr j).1 hj;exact h2 (hov j h1)
   subst hr0;obtain⟨frl,hl,h1,hit,hh',Zal⟩:=iv [] (List.Perm.refl _);subst hh';unfold iG at h1;rw[ah hok] at h1;split at h1;·cases h1
   ·rename_i fr2 mL;obtain⟨w1,eH,s1,f1,t1,R1,S1⟩:=hst fr2 mL;split at h1
    ·cases h1
    ·rename_i hnn;refine .first (.head vu s1) (.step S1 ?_);have hR:=ih fr2 h e frl hl h1 m w1 eH (.inLoop (.seq (.region id ops false) rest) :: kk) ds R1 f1 t1 hfr hfo (hd.step S1) (bA hz S1.size);have hne:e≠.normal:=fun he=>by subst he;exact hnn _ _ h1
     exact(Ran.out (k:=kk) hR hne (fun i _=>rfl)).kill hkb hit Zal
  ·have hie:i<es.length:=by
    rcases cU i es.length with h|h;·exact h
    ·rw[cI h] at hx;cases hx
   have him:i∈rem:=(Zdr i).2 ⟨hie,hi⟩;obtain⟨frl,hl,h1,hit,hh',Zal⟩:=iv (i :: rem.erase i) (List.perm_cons_erase him).symm;have RM : ∀l:List Nat,l.Perm (rem.erase i) → ∃frl hl,iG (evC E call b.fn nt rd n rest) (kG E b.fn id) nt it nx more kb k es (i :: l) seen fr h=some (e,frl,hl)∧(∃k0 a0 b0 c0,hl.ext.get kb=some (.iter k0 a0 b0 c0))∧h' = { hl with ext:=hl.ext.set kb .dead } ∧ ∀t v,aj fr' t=some v→aj frl t=some v :=
    fun l hl=>iv (i :: l) ((hl.cons i).trans (List.perm_cons_erase him).symm)
   have hhn:hl.n≤h'.n:=by rw[hh'];exact ar _
   simp only[iG,ah hok,hx] at h1 RM;cases mL:ui nt nx more (.tuple #[.bool true,x.1,x.2]) true (kG E b.fn id fr) with
   | none=>simp[mL] at h1
   | some fr2 =>
    simp only[mL] at h1 RM;obtain⟨w1,eH,s1,f1,t1,R1,S1⟩:=hst fr2 mL;refine .first (.head vu s1) (.step S1 ?_);cases BT:evC E call b.fn nt rd n rest fr2 { h with ext:=h.ext.set kb (.iter k es.length (seen ++ [i]) es.length) } with
    | none=>simp[BT] at h1
    | some o =>
     obtain⟨e1,fr3,h3⟩:=o
     have hn3:=eK _ _ _ _ _ BT
     cases e1 with
     | normal =>
      simp only[BT] at h1 RM;have hn4:=rp eK _ _ _ _ _ _ _ h1;obtain⟨m2,w2,GA,ds2,k2,b1,b2,b3,b4,b5,b6,b7⟩:=ih fr2 _ _ _ _ BT m w1 eH (.inLoop (.seq (.region id ops false) rest) :: kk) ds R1 f1 t1 (hfr.sub (ar _) (bA hn4 hhn)) hfo (hd.step S1) (bA hz S1.size);obtain rfl:k2=_:=b2;refine .first (b1.trans (.one GD)) (.step b6 ?_);have hlen:(rem.erase i).length<q:=by rw[List.length_erase_of_mem him,hq];have:0<rem.length:=List.length_pos_of_mem him;omega
      refine DO M3 eK ih (rem.erase i).length (rem.erase i) (seen ++ [i]) fr3 h3 rfl (fun j=>?_) (hnd.erase i) RM m2 w2 GA kk ds2 rs (b6.le _ _ hkb).1 b5 b3 b4 (b6.fresh hfr) (hfo.mono b6.le) b7 (bA (bA hz S1.size) b6.size);rw[hnd.mem_erase_iff,Zdr j];simp only[eE,iD];constructor;·rintro⟨h1,h2,h3⟩;exact⟨h2,fun hh=>hh.elim h3 h1⟩
      ·rintro⟨h2,h3⟩;exact⟨fun hh=>h3 (.inr hh),h2,fun hh=>h3 (.inl hh)⟩
     | exit j =>
      simp only[BT] at h1;cases h1;subst hh';have hR:=ih fr2 _ _ _ _ BT m w1 eH (.inLoop (.seq (.region id ops false) rest) :: kk) ds R1 f1 t1 hfr hfo (hd.step S1) (bA hz S1.size);exact(Ran.out (k:=kk) hR aa (fun i _=>rfl)).kill hkb hit Zal
     | ret =>
      simp only[BT] at h1;cases h1;subst hh';have hR:=ih fr2 _ _ _ _ BT m w1 eH (.inLoop (.seq (.region id ops false) rest) :: kk) ds R1 f1 t1 hfr hfo (hd.step S1) (bA hz S1.size);exact(Ran.out (k:=kk) hR aa (fun i _=>rfl)).kill hkb hit Zal
 termination_by q=>q
 decreasing_by omega
def MA {ops:List Oper} {draw:Bool} (h:vT ops draw=some (it,nx,more)):draw=false ∧ ∃ty1 ps1 af1 ty2 ps2 af2,ops = [⟨some nx,.next (.tmp it) false,ty1,ps1,af1,none⟩,⟨some more,.extract (.tmp nx) 0,ty2,ps2,af2,none⟩]:=by
 unfold vT at h
 split at h
 case h_2=>cases h
 simp only[aK,bD] at h;split at h;·rename_i hx;cases h;subst hx;exact⟨rfl,_,_,_,_,_,_,rfl⟩
 ·cases h
def LK {p:Nat×Nat×Nat×Nat×Code} (hp:v9 c=some p) (eK : ∀fr h e fr' h',evC E call b.fn nt rd n p.2.2.2.2 fr h=some (e,fr',h')→h.n≤h'.n) (ih:xd E (evC E call b.fn nt rd n p.2.2.2.2) b rd B w0 z nt cs p.2.2.2.2)(hx:wU (evC E call b.fn nt rd n p.2.2.2.2) (kG E b.fn p.1) nt p.2.1 p.2.2.1 p.2.2.2.1 fr h=some (e,fr',h')) (m:Mp) (w:World) (tmps:Array Value) (k:List Item) (ds:List Deferred)(R:Rel B w0 m h w) (hf:gA m fr tmps) (ht:nt≤tmps.size) (hfr:iA m h.n h'.n) (hfo:uE b rd m) (hd:oI z m h w ds) (hz:z≤w.heap.size) :Ran E b B w0 z nt cs m h w k (lone (on b tmps (.code c :: .inLoop c :: k) ds) cs w) e fr' h':=by
 unfold v9 at hp;split at hp
 case h_2=>cases hp
 rename_i id ops draw rest;obtain⟨⟨it,nx,more⟩,hno,rfl⟩:=bg.1 hp;obtain⟨rfl,ty1,ps1,af1,ty2,ps2,af2,M3⟩:=MA hno;simp only at hx eK ih;obtain⟨kb,k0,since,seen0,last,es,g1,g2,g3,iv⟩:=zP hx;obtain⟨v1,t1,hv1⟩:=(hf.head b.fn id) it _ g1;obtain⟨r,s,hm,rfl⟩:=hv1.nV;exact DO M3 eK ih _ (List.range es.length) [] fr h rfl (fun i=>aa) List.nodup_range iv m w tmps k ds (r,s) hm R hf ht hfr hfo hd hz
def zi (jq:ot E.P call) (eK:fY call) (Zdy:E.P.follows .mixedOrders=true) (n:Nat) : ∀(c:Code),xd E (evC E call b.fn nt rd n c) b rd B w0 z nt cs c:=by
 intro c
 induction c using QF with
 | h c IH =>
 cases c with
 | skip =>
  intro fr h e fr' h' hr m w tmps k ds R hf ht hfr hfo hd hz;simp only[evC] at hr;cases hr;exact⟨m,w,tmps,ds,k,.one Zh,rfl,hf,ht,R,Step.refl _ _ _,hd⟩
 | label l =>
  intro fr h e fr' h' hr m w tmps k ds R hf ht hfr hfo hd hz;simp only[evC] at hr;cases hr;exact⟨m,w,tmps,ds,k,.one Vt,rfl,hf,ht,R,Step.refl _ _ _,hd⟩
 | region id ops draw =>
  intro fr h e fr' h' hr m w tmps k ds R hf ht hfr hfo hd hz;simp only[evC] at hr;split at hr
  ·rename_i fr1 h1 hx;cases hr;cases draw with
   | true =>
    rw[bP] at hx;obtain⟨_,m',w',cJ,a1,a2,a3,a4,a5⟩:=SR jq eK Zdy hx R (hf.head b.fn id) ht hfr b k ds cs id;exact⟨m',w',cJ,ds,k,a1,rfl,a2,a3,a4,a5,hd.step a5⟩
   | false =>
    rw[dL] at hx;obtain⟨m',w',cJ,a1,a2,a3,a4,a5⟩:=Je jq eK b k ds cs ops.toList 0 _ _ _ _ m w tmps rfl hx R (hf.head b.fn id) ht hfr
    rw[←List.range_eq_range',ku] at a1
    exact⟨m',w',cJ,ds,k,.head GC a1,rfl,a2,a3,a4,a5,hd.step a5⟩
  ·cases hr
 | seq x y =>
  have ihx:=IH x bz;have ihy:=IH y bz;intro fr h e fr' h' hr m w tmps k ds R hf ht hfr hfo hd hz;simp only[evC] at hr;split at hr;·rename_i fr1 h1 hx;have n1:=xE eK _ _ _ _ _ _ hx;have n2:=xE eK _ _ _ _ _ _ hr;obtain⟨m1,w1,eH,ds1,k1,a1,a2,a3,a4,a5,a6,a7⟩:=ihx fr h .normal fr1 h1 hx m w tmps (.code y :: k) ds R hf ht (hfr.sub (ar _) n2) hfo hd hz;obtain rfl:k1=_:=a2;refine .first (.head vu a1) (.step a6 ?_);exact ihy fr1 h1 e fr' h' hr m1 w1 eH k ds1 a5 a3 a4 (a6.fresh hfr) (hfo.mono a6.le) a7 (bA hz a6.size)
  ·rename_i hx
   cases hr;exact .first (.one vu) ((ihx fr h _ _ _ hx m w tmps (.code y :: k) ds R hf ht hfr hfo hd hz).out aa (fun i _=>rfl))
  ·rename_i hx;cases hr
   exact .first (.one vu) ((ihx fr h _ _ _ hx m w tmps (.code y :: k) ds R hf ht hfr hfo hd hz).out aa (fun i _=>rfl))
  ·cases hr
 | cond x a c =>
  have iha:=IH a bz;have ihc:=IH c bz;intro fr h e fr' h' hr m w tmps k ds R hf ht hfr hfo hd hz;simp only[evC] at hr;have hρ:=wT R hf;split at hr;·rename_i hx;have hv:=(hρ x _ hx).dN rfl;exact .first (.one (QD hv)) (iha fr h _ _ _ hr m w tmps k ds R hf ht hfr hfo hd hz)
  ·rename_i hx
   have hv:=(hρ x _ hx).dN rfl;exact .first (.one (QD hv)) (ihc fr h _ _ _ hr m w tmps k ds R hf ht hfr hfo hd hz)
  ·cases hr
 | block id c =>
  have ih:=IH c bz;intro fr h e fr' h' hr m w tmps k ds R hf ht hfr hfo hd hz;simp only[evC,aK] at hr;split at hr
  ·rename_i i fr1 h1 hx;split at hr
   ·rename_i hi;have hi':i=id:=by simpa using hi
    subst hi';cases hr;obtain⟨m1,w1,eH,ds1,k1,a1,a2,a3⟩:=ih fr h _ _ _ hx m w tmps (.inBlock i :: k) ds R hf ht hfr hfo hd hz;obtain⟨k2,rfl,hk2⟩:=a2;exact⟨m1,w1,eH,ds1,k,.head y9 (a1.trans (.one (Zi (by rw[hk2];simp[exitTo])))),rfl,a3⟩
   ·rename_i hi;cases hr;refine .first (.one y9) ((ih fr h _ _ _ hx m w tmps (.inBlock id :: k) ds R hf ht hfr hfo hd hz).out aa (fun j hj=>?_));cases hj;have:(id == i)=false:=by simp only[Av,ne_eq];rintro rfl;simp at hi
    simp[exitTo,this]
  ·rename_i fr1 h1 hx;cases hr;obtain⟨m1,w1,eH,ds1,k1,a1,a2,a3⟩:=ih fr h _ _ _ hx m w tmps (.inBlock id :: k) ds R hf ht hfr hfo hd hz;obtain rfl:k1=_:=a2;exact⟨m1,w1,eH,ds1,k,.head y9 (a1.trans (.one Om)),rfl,a3⟩
  ·rename_i fr1 h1 hx
   cases hr
   exact .first (.one y9) ((ih fr h _ _ _ hx m w tmps (.inBlock id :: k) ds R hf ht hfr hfo hd hz).out aa (fun j hj=>by cases hj))
  ·cases hr
 | loop c =>
  have ih:=IH c bz;intro fr h e fr' h' hr m w tmps k ds R hf ht hfr hfo hd hz;rw[EW] at hr;split at hr;·rename_i p hp;exact .first (.one QC) (LK hp (fun fr h e fr' h' hx=>xE eK _ fr h e fr' h' hx) (IH _ (Nat.lt_trans (BS hp) bz)) hr m w tmps k ds R hf ht hfr hfo hd hz)
  exact .first (.one QC) (LL (fun fr h e fr' h' hx=>xE eK c fr h e fr' h' hx) ih n fr h e fr' h' hr m w tmps k ds R hf ht hfr hfo hd hz)
 | scope c =>
  have ih:=IH c bz;intro fr h e fr' h' hr m w tmps k ds R hf ht hfr hfo hd hz;simp only[evC] at hr;obtain⟨m1,w1,eH,ds1,k1,a1,a2,a3⟩:=ih fr h _ _ _ hr m w tmps (.inScope c :: k) ds R hf ht hfr hfo hd hz;cases e with
  | normal =>
   obtain rfl:k1=_:=a2;exact⟨m1,w1,eH,ds1,k,.head DJ (a1.trans (.one Ol)),rfl,a3⟩
  | exit i=>exact⟨m1,w1,eH,ds1,k1,.head DJ a1,a2.out aa (fun j _=>rfl),a3⟩
  | ret=>exact⟨m1,w1,eH,ds1,k1,.head DJ a1,a2,a3⟩
 | rangeFunc f ps a c =>
  intro fr h e fr' h' hr;simp only[evC] at hr;exact LI jq eK fr h e fr' h' hr
 | exit i =>
  intro fr h e fr' h' hr m w tmps k ds R hf ht hfr hfo hd hz;simp only[evC] at hr;cases hr;exact⟨m,w,tmps,ds,_,.refl _ _,⟨k,rfl,rfl⟩,hf,ht,R,Step.refl _ _ _,hd⟩
 | ret =>
  intro fr h e fr' h' hr m w tmps k ds R hf ht hfr hfo hd hz;simp only[evC] at hr;cases hr;exact⟨m,w,tmps,ds,_,.refl _ _,⟨k,rfl⟩,hf,ht,R,Step.refl _ _ _,hd⟩
 | goto i=>intro fr h e fr' h' hr;simp only[evC] at hr;cases hr
 | refuse i=>intro fr h e fr' h' hr;simp only[evC] at hr;cases hr
end
end Go.Id
