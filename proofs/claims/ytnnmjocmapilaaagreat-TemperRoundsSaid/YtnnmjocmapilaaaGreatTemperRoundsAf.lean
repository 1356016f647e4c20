/-
  The ideal machine: code
-/
import Derived.Test.YtnnmjocmapilaaaGreatTemperRoundsAe
import Derived.RangeFuncIn
import Derived.RangeFuncRecord
set_option linter.unusedVariables false
set_option linter.unusedSimpArgs false
set_option linter.defProp false
set_option linter.deprecated false
namespace Go.Id
open Go Go.RowKit
section
variable {call:je}{ops:List Oper}{nt:Nat}{E:Env}
def MD (hc:gK call) : ∀(l:List Oper) (fr:Fr) (h:IH) (tr:List (Fr×IH)),trace E call nt ops l fr h=some tr → ∀x∈tr,h.n≤x.2.n
 | [],fr,h,tr,ht=>by simp only[trace] at ht;cases ht;simp
 | o :: l,fr,h,tr,ht=>by
  rw[trace] at ht;split at ht
  ·rename_i fr' h' hs;obtain⟨tr',h1,rfl⟩:=bI.1 ht;intro x hx;rcases dV.1 hx with rfl|hx
   ·exact aA _
   ·exact bV (CF hc hs) (MD hc l fr' h' tr' h1 x hx)
  ·cases ht
variable {fr':Fr}{h:IH}{fr:Fr}{h':IH}
def KS (hc:gK call) (hr:oH E call nt ops fr h=some (fr',h')):h.n≤h'.n:=by
 unfold oH at hr
 cases ht:trace E call nt ops ops fr h with
 | none=>rw[ht] at hr;cases hr
 | some tr =>
  rw[ht] at hr;simp only[aX] at hr;split at hr;·exact MD hc _ _ _ _ ht _ (bh hr)
  ·cases hr
def Hd {b:Fr→IH→Out} (hb : ∀fr h e fr' h',b fr h=some (e,fr',h')→h.n≤h'.n) : ∀(n:Nat) (fr:Fr) (h:IH) (e:dL) (fr':Fr) (h':IH),qQ b n fr h=some (e,fr',h')→h.n≤h'.n
 | 0,fr,h,e,fr',h',hr=>by simp[qQ] at hr
 | n+1,fr,h,e,fr',h',hr=>by
  rw[qQ] at hr;split at hr;·rename_i fr1 h1 hb1;exact bV (hb _ _ _ _ _ hb1) (Hd hb n _ _ _ _ _ hr)
  ·rename_i hb1;cases hr;exact hb _ _ _ _ _ hb1
  ·rename_i hb1;cases hr;exact hb _ _ _ _ _ hb1
  ·cases hr
variable {ps:List Nat}{b:Code}{rd:Option Nat}{f:Operand}{fn:FuncId}{e:dL}{a:Code}
def AR (hr:ot E call fn nt rd f ps a b fr h=some (e,fr',h')) :vz h rd=true∧fr'=fr ∧ ∃fv v h1 r,opd fr f=some fv∧call fv [.func (.yield (2*h.n)) #[] #[]] (h.new (.loop { state:=.ready,pending:=none,fn,nt,fr,params:=ps,assign:=a,body:=b }))=some (v,h1) ∧ mj h1 h.n=some r∧r.state≠.busy∧Al r.pending=some e∧h' = { h1 with ext:=h1.ext.set h.n .dead }:=by
 unfold ot at hr;simp only[aX] at hr;by_cases hro:vz h rd=true
 ·simp only[hro,cq] at hr;split at hr
  ·cases hr
  ·rename_i fv hfv;split at hr
   ·cases hr
   ·rename_i v h1 jI;split at hr
    ·cases hr
    ·rename_i r hl;split at hr
     ·cases hr
     ·rename_i hb;split at hr
      ·cases hr
      ·rename_i e' he;cases hr;exact⟨hro,rfl,fv,v,h1,r,hfv,jI,hl,fun h=>hb (by rw[h];rfl),he,rfl⟩
 ·simp[hro] at hr
def ON (hc:gK call) (hr:ot E call fn nt rd f ps a b fr h=some (e,fr',h')):h.n≤h'.n:=by obtain⟨_,_,fv,v,h1,r,_,h2,_,_,_,rfl⟩:=AR hr;have:=hc _ _ _ _ _ h2;have e : ∀o,(h.new o).n=h.n+1:=fun _=>rfl;rw[e] at this;show h.n≤h1.n;omega
def uU:Code→Option (Nat×Nat×Nat×Nat×Code)
 | .seq (.region id ops draw) rest=>(Dd ops.toList draw).map fun p=>(id,p.1,p.2.1,p.2.2,rest)
 | _=>none
variable {n:Nat}
theorem DE (b:Code) (fr:Fr) (h:IH):evC E call fn nt rd n (.loop b) fr h = match uU b with
  | some p=>vF (evC E call fn nt rd n p.2.2.2.2) (od E fn p.1) nt p.2.1 p.2.2.1 p.2.2.2.1 fr h
  | none=>qQ (evC E call fn nt rd n b) n fr h:=by
 cases b with
 | seq x y =>
  cases x with
  | region id ops draw =>
   simp only[evC,uU];cases Dd ops.toList draw with
   | none=>rfl
   | some p=>obtain⟨a,b,c⟩:=p;rfl
  | _=>rfl
 | _=>rfl
def MK {motive:Code→Prop} (h : ∀c,(∀c',SizeOf.sizeOf c'<SizeOf.sizeOf c→motive c')→motive c) (c:Code):motive c :=
 (measure (SizeOf.sizeOf:Code→Nat)).wf.induction (C:=motive) c h
def AW {p:Nat×Nat×Nat×Nat×Code} (h:uU b=some p):SizeOf.sizeOf p.2.2.2.2<SizeOf.sizeOf b:=by
 unfold uU at h;split at h;·obtain⟨q,_,rfl⟩:=bI.1 h;simp;omega
 ·cases h
def qu {g:Nat→Option (Nat×Value)} (hg : ∀s x,g s=some x→x.1=s) : ∀(l:List Nat) (t:Nat) (v:Value),ax (l.filterMap g) t=some v→g t=some (t,v)
 | [],t,v,h=>by simp[ax] at h
 | a :: l,t,v,h=>by
  cases ha:g a with
  | none=>rw[List.filterMap_cons_none ha] at h;exact qu hg l t v h
  | some x =>
   obtain⟨s,u⟩:=x
   obtain rfl:s=a:=hg a _ ha;rw[List.filterMap_cons_some ha] at h;simp only[ax,aX,bT] at h;by_cases e:s=t;·subst e;simp at h;subst h;exact ha
   ·rw[ah e] at h;exact qu hg l t v h
def JN {R:List Nat→Out} (hc:common nt n R=some (e,fr',h')) : ∀l:List Nat,l.Perm (List.range n) → ∃fr,R l=some (e,fr,h') ∧ ∀t v,ax fr' t=some v→ax fr t=some v:=by
 unfold common at hc
 split at hc
 case isFalse=>cases hc
 rename_i c;cases hc;intro l hl;obtain⟨fr,hR⟩:=c.choose_spec l hl;refine⟨fr,hR,fun t v hv=>?_⟩;have:=qu (by
  intro s x hx;split at hx;·cases hx;rfl
  ·cases hx) _ _ _ hv
 split at this;·rename_i d;cases this;exact d.choose_spec l hl _ _ _ hR
 ·cases this
variable {nx it more:Nat}{hd:Fr→Fr}{rest:Fr→IH→Out}
def qP (hr : ∀fr h e fr' h',rest fr h=some (e,fr',h')→h.n≤h'.n) {kb k:Nat} {es:List (Value×Value)} :∀(l seen:List Nat) (fr:Fr) (h:IH) (e:dL) (fr':Fr) (h':IH),iV rest hd nt it nx more kb k es l seen fr h=some (e,fr',h')→h.n≤h'.n
 | [],seen,fr,h,e,fr',h',hx=>by
  unfold iV at hx;split at hx
  case isFalse=>cases hx
  split at hx;·cases hx
  ·split at hx
   ·cases hx
   ·exact hr _ _ _ _ _ hx
 | i :: l,seen,fr,h,e,fr',h',hx=>by
  unfold iV at hx;split at hx
  case isFalse=>cases hx
  split at hx;·cases hx
  ·split at hx
   ·cases hx
   ·split at hx
    ·rename_i hy;have q:=hr _ _ _ _ _ hy;exact bV q (qP hr l _ _ _ _ _ _ hx)
    ·have q:=hr _ _ _ _ _ hx;exact q
def yP (hx:vF rest hd nt it nx more fr h=some (e,fr',h')) :∃kb k since seen last es,ax (hd fr) it=some (ptr (2*kb) 0)∧h.ext.get kb=some (.iter k since seen last)∧mapOf h k=some es ∧ ∀l:List Nat,l.Perm (List.range es.length) → ∃frl hl,iV rest hd nt it nx more kb k es l [] fr h=some (e,frl,hl)∧(∃k0 a0 b0 c0,hl.ext.get kb=some (.iter k0 a0 b0 c0))∧h' = { hl with ext:=hl.ext.set kb .dead } ∧ ∀t v,ax fr' t=some v→ax frl t=some v:=by
 unfold vF at hx;split at hx
 case h_2=>cases hx
 rename_i b hb;simp only[aX,bT] at hx;split at hx;·cases hx
 ·rename_i uc;split at hx
  case h_2=>cases hx
  rename_i k since seen last hit;split at hx
  case h_2=>cases hx
  rename_i es hes;refine⟨b / 2,k,since,seen,last,es,by rw[hb,show 2*(b / 2)=b from by omega];rfl,hit,hes,fun l hl=>?_⟩;obtain⟨frl,h1,h2⟩:=JN hx l hl;rw[aq hl] at h1;unfold Jk at h1;split at h1;·cases h1
  ·rename_i p h3;split at h1
   ·rename_i k0 a0 b0 c0 hg;cases h1;exact⟨_,_,h3,⟨k0,a0,b0,c0,hg⟩,rfl,h2⟩
   ·cases h1
def O2 (hr : ∀fr h e fr' h',rest fr h=some (e,fr',h')→h.n≤h'.n) (hx:vF rest hd nt it nx more fr h=some (e,fr',h')):h.n≤h'.n:=by obtain⟨kb,k,since,seen,last,es,_,_,_,ha⟩:=yP hx;obtain⟨frl,hl,h1,_,rfl,_⟩:=ha _ (List.Perm.refl _);exact show h.n≤hl.n from qP hr _ _ _ _ _ _ _ h1
def y7 (hc:gK call) : ∀(c:Code) (fr:Fr) (h:IH) (e:dL) (fr':Fr) (h':IH),evC E call fn nt rd n c fr h=some (e,fr',h')→h.n≤h'.n:=by
 intro c
 induction c using MK with
 | h c IH =>
 cases c with
 | skip=>intro fr h e fr' h' hr;simp only[evC] at hr;cases hr;exact aA _
 | label l=>intro fr h e fr' h' hr;simp only[evC] at hr;cases hr;exact aA _
 | region id ops draw =>
  intro fr h e fr' h' hr;simp only[evC] at hr;split at hr
  ·rename_i fr1 h1 hx
   cases hr
   cases draw with
   | true=>exact KS hc hx
   | false=>exact CS hc _ _ _ _ _ hx
  ·cases hr
 | seq a b =>
  have iha:=IH a bd;have ihb:=IH b bd;intro fr h e fr' h' hr;simp only[evC] at hr;split at hr;·rename_i fr1 h1 hx;exact bV (iha _ _ _ _ _ hx) (ihb _ _ _ _ _ hr)
  ·rename_i hx;cases hr;exact iha _ _ _ _ _ hx
  ·rename_i hx;cases hr;exact iha _ _ _ _ _ hx
  ·cases hr
 | cond x a b =>
  have iha:=IH a bd;have ihb:=IH b bd;intro fr h e fr' h' hr;simp only[evC] at hr;split at hr;·exact iha _ _ _ _ _ hr
  ·exact ihb _ _ _ _ _ hr
  ·cases hr
 | block id b =>
  have ih:=IH b bd;intro fr h e fr' h' hr;simp only[evC,aX] at hr;split at hr;·rename_i hx;split at hr<;>(cases hr;exact ih _ _ _ _ _ hx)
  ·rename_i hx;cases hr;exact ih _ _ _ _ _ hx
  ·rename_i hx;cases hr;exact ih _ _ _ _ _ hx
  ·cases hr
 | loop b =>
  have ih:=IH b bd;intro fr h e fr' h' hr;rw[DE] at hr;split at hr;·rename_i p hp;exact O2 (IH _ (Nat.lt_trans (AW hp) bd)) hr
  ·exact Hd (fun fr h e fr' h' hx=>ih fr h e fr' h' hx) n _ _ _ _ _ hr
 | scope b=>have ih:=IH b bd;intro fr h e fr' h' hr;simp only[evC] at hr;exact ih _ _ _ _ _ hr
 | rangeFunc f ps a b=>intro fr h e fr' h' hr;simp only[evC] at hr;exact ON hc hr
 | exit i=>intro fr h e fr' h' hr;simp only[evC] at hr;cases hr;exact aA _
 | ret=>intro fr h e fr' h' hr;simp only[evC] at hr;cases hr;exact aA _
 | goto i=>intro fr h e fr' h' hr;simp only[evC] at hr;cases hr
 | refuse i=>intro fr h e fr' h' hr;simp only[evC] at hr;cases hr
variable {w':World}{m:Mp}{w w0:World}{B:Nat}
def Rel.ai (R:Rel B w0 m h w) (hb:Below B w0 w') (hs:w.heap.size≤w'.heap.size)(hk : ∀r,(r<B ∨ ∃k s,k<h.n∧m (2*k)=some (r,s))→w'.heap[r]?=w.heap[r]?):Rel B w0 m h w':=by
 refine⟨hb,bV R.size hs,fun b cs hx=>?_,R.odd,fun k r s hm=>⟨(R.even k r s hm).1,cB (R.even k r s hm).2 hs⟩,R.dom,fun k o r s ho hm=>?_,R.own,R.iJ,R.fam,R.long,R.whole⟩;·obtain⟨r0,s0,m0,a,c,el,fz,d,e⟩:=R.base b cs hx;exact⟨r0,s0,m0,a,c,el,fz,by rw[hk r0 (.inl a)];exact d,e⟩
 ·have hkn:k<h.n:=by
   rcases dr k h.n with e|e;·exact e
   ·rw[R.dom k e] at ho;cases ho
  exact(R.obj k o r s ho hm).mono (Mp.le_refl m) (hk r (.inr ⟨k,s,hkn,hm⟩)) rfl
def Rel.ghost (R:Rel B w0 m h w) (O:Obj):Rel B w0 m h (w.alloc O)∧Step m h w m h (w.alloc O):=by
 have hold : ∀r,r<w.heap.size→(w.alloc O).heap[r]?=w.heap[r]?:=fun r hr=>by rw[heap_alloc,ah aa]
 refine⟨R.ai (qT R.below R.size O) (by rw[size_alloc];omega) ?_,⟨Mp.le_refl m,fun b hb=>absurd rfl hb,aA _,rfl,fun r hr _=>hold r hr,fun _ _ _=>rfl,by rw[size_alloc];omega,fun k r s a b=>aa,fun _ _ _ h=>h⟩⟩
 rintro r (hr|⟨k,s,_,hm⟩);·exact hold r (cB hr R.size)
 ·exact hold r (R.even k r s hm).2
def rz (r:Nat):Deferred:={ target:=.collected r,args:=#[] }
def ph (z:Nat) (m:Mp) (h:IH) (w:World) (ds:List Deferred):Prop :=
 ∃rs:List Nat,ds=rs.map rz∧rs.Nodup ∧ ∀r∈rs,z≤r∧w.heap[r]?=some (.deferred (some [])) ∧ ∀k s,k<h.n→m (2*k)≠some (r,s)
theorem Hq {r:Nat} {o:Obj} (h:w.heap[r]?=some o):r<w.heap.size:=(md.1 h).1
variable {z:Nat}{ds:List Deferred}
def ph.step {m':Mp} (d:ph z m h w ds) (s:Step m h w m' h' w'):ph z m' h' w' ds:=by
 obtain⟨rs,h1,h2,h3⟩:=d;refine⟨rs,h1,h2,fun r hr=>?_⟩;obtain⟨a,b,c⟩:=h3 r hr;refine⟨a,by rw[s.frame r (Hq b) c];exact b,fun k x hk hm=>?_⟩;by_cases hkn:k<h.n;·rw[s.old hkn] at hm;exact c k x hkn hm
 ·rcases s.img k r x aa hk hm with e|⟨k0,s0,e1,e2⟩
  ·have:=Hq b;omega
  ·exact c k0 s0 e1 e2
def ph.nil (z:Nat) (m:Mp) (h:IH) (w:World):ph z m h w []:=⟨[],rfl,List.nodup_nil,ab⟩
def ph.push (d:ph z m h w ds) (R:Rel B w0 m h w) (hz:z≤w.heap.size):ph z m h (w.alloc (.deferred (some []))) (rz w.heap.size :: ds):=by
 obtain⟨rs,h1,h2,h3⟩:=d.step (R.ghost (.deferred (some []))).2;refine⟨w.heap.size :: rs,by rw[h1];rfl,Ce.2 ⟨fun hm=>?_,h2⟩,fun r hr=>?_⟩
 ·obtain⟨rs',e1,e2,e3⟩:=d;have:rs'=rs:=by
   have e:=e1.symm.trans h1;have inj : ∀a b,rz a=rz b→a=b:=by intro a b h;simp[rz] at h;exact h
   exact List.map_inj_right (fun a b=>inj a b) |>.1 e
  subst this;have:=Hq (e3 _ hm).2.1;omega
 ·rcases dV.1 hr with rfl|hr
  ·refine⟨hz,by rw[heap_alloc,aq rfl],fun k s _ hm=>?_⟩;have:=(R.even k _ s hm).2;omega
  ·exact h3 r hr
end
section
def uD (P:Program) (w:World) {n:Nat} (hn:0<n) : ∃i d,i<n∧(choose (.mapNext n)).run P w=.ok i { w with drawn:=d }:=by
 simp only[choose,Sem.run];by_cases h:(Question.mapNext n).forced=true;·rw[aq h];exact⟨0,w.drawn,hn,rfl⟩
 ·rw[ah h];exact⟨_,_,ec _ hn,rfl⟩
variable {r:Nat}{w:World}
def Bs (P:Program) {a:Option Nat} {b d:Nat} {c:Array Nat} (h:w.heap[r]?=some (.mapIter a b c d)) (o:Obj):(Go.setObj r o).run P w=.ok () (World.put w r o):=by simp only[Go.setObj,Sem.run,h];rfl
variable {es:List (Value×Value)}{c:Array MapEntry}{m:Mp}
def HI (h:vh m es c) {e:MapEntry} (he:e∈c):e.born<es.length∧c[e.born]?=some e:=by obtain⟨i,hi,rfl⟩:=Array.mem_iff_getElem.1 he;have:=h.born i c[i] (oX hi);rw[this];exact⟨by have:=h.1;omega,oX hi⟩
def QF (P:Program) (hcm:vh m es c) {rm:Nat} {seen:List Nat}(hit:w.heap[r]?=some (.mapIter (some rm) es.length seen.toArray es.length)) (Eu:w.heap[rm]?=some (.map c es.length)) (t:TypeId) :((∀i,i<es.length→i∈seen) ∧ ∃d,(Instr.next (.pointer (some ⟨r,0,none⟩)) false t).run P w=.ok (.tuple #[.bool false]) { w with drawn:=d }) ∨ ∃i e' d,i∉seen∧c[i]?=some e'∧(Instr.next (.pointer (some ⟨r,0,none⟩)) false t).run P w=.ok (.tuple #[.bool true,e'.key,e'.val]) (World.put { w with drawn:=d } r (.mapIter (some rm) es.length (seen.toArray.push i) es.length)):=by
 have rV:(!seen.toArray.isEmpty && !c.isEmpty && c.all fun e=>decide (e.born ≥ es.length))=false:=by
  cases hc:c.isEmpty with
  | true=>simp
  | false =>
   have v9:0<c.size:=by
    rcases im c.size with h|h;·rw[Kl.2 h] at hc;cases hc
    ·exact h
   have hb:=hcm.born 0 c[0] (oX v9);have:(c.all fun e=>decide (e.born ≥ es.length))=false:=by rw[sU];intro ft;have:=Array.all_eq_true.1 ft 0 v9;rw[hb] at this;have h1:=of_decide_eq_true this;have:=hcm.1;omega
   rw[this];simp
 obtain⟨left,RM⟩ : ∃l,l=c.filter fun e => !seen.toArray.contains e.born:=⟨_,rfl⟩;have LN : ∀e∈left,e∈c∧e.born∉seen:=by intro e he;rw[RM,Array.mem_filter] at he;exact⟨he.1,by simpa using he.2⟩
 have hold:(left.filter fun e=>decide (e.born<es.length))=left:=by rw[Array.filter_eq_self];intro e he;simpa using (HI hcm (LN e he).1).1
 have Bv:(left.filter fun e=>decide (e.born ≥ es.length)) = #[]:=by rw[Array.filter_eq_empty_iff];intro e he;have:=(HI hcm (LN e he).1).1;simp;omega
 have cH : ∀i d,i<((if left.isEmpty then #[none] else #[]) ++ (left ++ #[]).map some:Array (Option MapEntry)).size → (choose (.mapNext ((if left.isEmpty then #[none] else #[]) ++ (left ++ #[]).map some:Array (Option MapEntry)).size)).run P w=.ok i { w with drawn:=d } → (Instr.next (.pointer (some ⟨r,0,none⟩)) false t).run P w=(match ((if left.isEmpty then #[none] else #[]) ++ (left ++ #[]).map some:Array (Option MapEntry))[i]? with
    | some (some e)=>.ok (.tuple #[.bool true,e.key,e.val]) (World.put { w with drawn:=d } r (.mapIter (some rm) es.length (seen.toArray.push e.born) es.length))
    | some none=>.ok (.tuple #[.bool false]) { w with drawn:=d }
    | none=>(stuck "Next: no such candidate" : Sem Value).run P { w with drawn:=d }):=by
  intro i d hi hch;have hit2:({ w with drawn:=d }:World).heap[r]?=some (.mapIter (some rm) es.length seen.toArray es.length):=hit;simp only[Instr.next,bJ,tU P hit,bW,run_getObj_map P Eu,rV,fJ,cE,←RM,hold,Bv,hch];generalize ((if left.isEmpty then #[none] else #[]) ++ (left ++ #[]).map some:Array (Option MapEntry))[i]?=y;cases y with
  | none=>rfl
  | some y=>cases y with
   | none=>rfl
   | some e =>
    simp only[bJ,Bs P hit2,bW,ck]
 by_cases hem:left.isEmpty=true
 ·left;have hl0:left = #[]:=by simpa using hem
  refine⟨fun i hi=>?_,?_⟩
  ·apply di;intro hns;have hic:i<c.size:=by have:=hcm.1;omega
   have hb:=hcm.born i c[i] (oX hic);have:c[i]∈left:=by rw[RM,Array.mem_filter];exact⟨Array.getElem_mem hic,by rw[hb];simpa using hns⟩
   rw[hl0] at this;simp at this
  ·obtain⟨i,d,hi,hch⟩:=uD P w (n:=((if left.isEmpty then #[none] else #[]) ++ (left ++ #[]).map some:Array (Option MapEntry)).size) (by simp[hl0]);refine⟨d,?_⟩;rw[cH i d hi hch];simp only[hl0] at hi ⊢;simp at hi;subst hi;simp
 ·right;have hne:left.isEmpty=false:=by simpa using hem
  have VX:((if left.isEmpty then #[none] else #[]) ++ (left ++ #[]).map some:Array (Option MapEntry))=left.map some:=by simp[hne]
  have v9:0<left.size:=by
   rcases im left.size with h|h;·rw[Kl.2 h] at hne;cases hne
   ·exact h
  obtain⟨i,d,hi,hch⟩:=uD P w (n:=((if left.isEmpty then #[none] else #[]) ++ (left ++ #[]).map some:Array (Option MapEntry)).size) (by rw[VX];simpa using v9);have hr:=cH i d hi hch;rw[VX] at hr hi;have hil:i<left.size:=by simpa using hi
  have hgi:(left.map some)[i]?=some (some left[i]):=by simp[hil]
  rw[hgi] at hr;obtain⟨h1,h2⟩:=LN left[i] (Array.getElem_mem hil);obtain⟨_,h3⟩:=HI hcm h1;exact⟨left[i].born,left[i],d,h2,h3,hr⟩
theorem QR {o:Obj} (h:w.heap[r]?=some o):World.put w r o=w:=by
 have hr:r<w.heap.size:=by
  rcases dr r w.heap.size with h'|h';·exact h'
  ·rw[Co h'] at h;cases h
 have he:w.heap[r]=o:=by rw[oX hr] at h;exact Kb h
 subst he;show { w with heap:=w.heap.setIfInBounds r w.heap[r] }=w;rw[Array.setIfInBounds_def,dif_pos hr,Array.set_getElem_self]
end
section
def BU:dL→List Item→List Item→Prop
 | .normal,k,k'=>k'=k
 | .exit i,k,k' => ∃k1,k'=.code (.exit i) :: k1∧exitTo i k1=exitTo i k
 | .ret,_,k' => ∃k1,k'=.code .ret :: k1
def tR (b:Frame) (rd:Option Nat) (m:Mp):Prop:=(b.roundOf=none∧rd=none) ∨ ∃l r s,rd=some l∧b.roundOf=some r∧m (2*l)=some (r,s)
variable {m:Mp}{b:Frame}
def tR.mono {rd:Option Nat} {m':Mp} (h:tR b rd m) (hm:m.le m'):tR b rd m':=by
 rcases h with h|⟨l,r,s,h1,h2,h3⟩;·exact .inl h
 ·exact .inr ⟨l,r,s,h1,h2,(hm _ _ h3).1⟩
def Ran (E:Env) (b:Frame) (B:Nat) (w0:World) (z:Nat) (nt:Nat) (cs:List Frame) (m:Mp) (h:IH) (w:World) (k0:List Item) (M:Machine) (e:dL) (fr':Fr) (h':IH):Prop :=
 ∃m' w' cY ds' k',Steps E.P M (lone (on b cY k' ds') cs w')∧BU e k0 k'∧gZ m' fr' cY∧nt≤cY.size∧Rel B w0 m' h' w'∧Step m h w m' h' w'∧ph z m' h' w' ds'
def zp (E:Env) (run:Fr→IH→Out) (b:Frame) (rd:Option Nat) (B:Nat) (w0:World) (z nt:Nat) (cs:List Frame) (c:Code):Prop :=
 ∀(fr:Fr) (h:IH) (e:dL) (fr':Fr) (h':IH),run fr h=some (e,fr',h') → ∀(m:Mp) (w:World) (tmps:Array Value) (k:List Item) (ds:List Deferred),
  Rel B w0 m h w→gZ m fr tmps→nt≤tmps.size→jE m h.n h'.n→tR b rd m→ph z m h w ds→z≤w.heap.size →
  Ran E b B w0 z nt cs m h w k (lone (on b tmps (.code c :: k) ds) cs w) e fr' h'
variable {z nt:Nat}{E:Env}{cs:List Frame}{h:IH}{M:Machine}{k0:List Item}{e:dL}{w w0:World}{fr':Fr}{B:Nat}{h':IH}
theorem Ran.first {M1:Machine}  (hs:Steps E.P M M1) (r:Ran E b B w0 z nt cs m h w k0 M1 e fr' h'):Ran E b B w0 z nt cs m h w k0 M e fr' h':=by obtain⟨m',w',cY,ds',k',h1,h2⟩:=r;exact⟨m',w',cY,ds',k',hs.trans h1,h2⟩
def Ran.step {m1:Mp} {h1:IH} {w1:World}  (s:Step m h w m1 h1 w1) (r:Ran E b B w0 z nt cs m1 h1 w1 k0 M e fr' h'):Ran E b B w0 z nt cs m h w k0 M e fr' h':=by obtain⟨m',w',cY,ds',k',a1,a2,a3,a4,a5,a6,a7⟩:=r;exact⟨m',w',cY,ds',k',a1,a2,a3,a4,a5,s.trans a6,a7⟩
section
variable {E:Env} {call:je} {b:Frame} {rd:Option Nat} {B:Nat} {w0:World} {z nt:Nat} {cs:List Frame}
variable {k1:List Item}{e:dL}{k:List Item}
def BU.out {k':List Item} (h:BU e k1 k') (hn:e≠.normal) (hx : ∀i,e=.exit i→exitTo i k1=exitTo i k):BU e k k':=by
 cases e with
 | normal=>exact absurd rfl hn
 | exit i=>obtain⟨k2,a,c⟩:=h;exact⟨k2,a,c.trans (hx i rfl)⟩
 | ret=>exact h
variable {h:IH}{M:Machine}{m:Mp}{w:World}{fr':Fr}{h':IH}
def Ran.out (r:Ran E b B w0 z nt cs m h w k1 M e fr' h') (hn:e≠.normal) (hx : ∀i,e=.exit i→exitTo i k1=exitTo i k) :Ran E b B w0 z nt cs m h w k M e fr' h':=by obtain⟨m',w',cY,ds',k',a1,a2,a3⟩:=r;exact⟨m',w',cY,ds',k',a1,a2.out hn hx,a3⟩
variable {c:Code}
def IA {run:Fr→IH→Out} (fG : ∀fr h e fr' h',run fr h=some (e,fr',h')→h.n≤h'.n) (ih:zp E run b rd B w0 z nt cs c) : ∀(n:Nat) (fr:Fr) (h:IH) (e:dL) (fr':Fr) (h':IH),qQ run n fr h=some (e,fr',h') → ∀(m:Mp) (w:World) (tmps:Array Value) (k:List Item) (ds:List Deferred),Rel B w0 m h w→gZ m fr tmps→nt≤tmps.size→jE m h.n h'.n→tR b rd m→ph z m h w ds→z≤w.heap.size → Ran E b B w0 z nt cs m h w k (lone (on b tmps (.code c :: .inLoop c :: k) ds) cs w) e fr' h'
 | 0,fr,h,e,fr',h',hr,m,w,tmps,k,ds,_,_,_,_,_,_,_=>by simp[qQ] at hr
 | n+1,fr,h,e,fr',h',hr,m,w,tmps,k,ds,R,hf,ht,hfr,hfo,hd,hz=>by
  rw[qQ] at hr;split at hr;·rename_i fr1 h1 hx;have n1:=fG _ _ _ _ _ hx;have n2:=Hd fG n _ _ _ _ _ hr;obtain⟨m1,w1,iz,ds1,k1,a1,a2,a3,a4,a5,a6,a7⟩:=ih fr h .normal fr1 h1 hx m w tmps (.inLoop c :: k) ds R hf ht (hfr.sub (aA _) n2) hfo hd hz;obtain rfl:k1=_:=a2;refine .first (a1.trans (.one EU)) (.step a6 ?_);exact IA fG ih n fr1 h1 e fr' h' hr m1 w1 iz k ds1 a5 a3 a4 (a6.fresh hfr) (hfo.mono a6.le) a7 (bV hz a6.size)
  ·rename_i i fr1 h1 hx
   cases hr;exact(ih fr h _ _ _ hx m w tmps (.inLoop c :: k) ds R hf ht hfr hfo hd hz).out ab (fun i _=>rfl)
  ·rename_i fr1 h1 hx;cases hr;exact(ih fr h _ _ _ hx m w tmps (.inLoop c :: k) ds R hf ht hfr hfo hd hz).out ab (fun i _=>rfl)
  ·cases hr
variable {fr:Fr}{tmps:Array Value}
def gZ.head (hf:gZ m fr tmps) (fn:FuncId) (id:Nat):gZ m (od E fn id fr) tmps:=by
 unfold od;split
 ·intro t v hv;rw[j6] at hv;split at hv
  ·exact hf t v hv
  ·cases hv
 ·exact hf
def kL {l:Nat} {r:jq} (hl:mj h l=some r):h.ext.get l=some (.loop r):=by
 unfold mj at hl;split at hl;·rename_i r' hg;cases hl;exact hg
 ·cases hl
def pO.Dq {l:jq} {l':Loop} (h:pO m l l') (he:Al l.pending=some e):(e=.normal∧l'.pending=none)∨(∃i,e=.exit i∧l'.pending=some (.exit i))∨(e=.ret∧l'.pending=some .ret):=by
 rw[h.pending];unfold Al at he;split at he<;>first|(cases he;done)|skip
 ·rename_i hp;cases he;exact .inl ⟨rfl,hp⟩
 ·rename_i i hp;cases he;exact .inr (.inl ⟨i,rfl,hp⟩)
 ·rename_i hp;cases he;exact .inr (.inr ⟨rfl,hp⟩)
def Ix (jI:oD E.P call) (fG:gK call) {f:Operand} {ps:Array Tmp} {a:Code}:zp E (fun fr h=>ot E call b.fn nt rd f ps.toList a c fr h) b rd B w0 z nt cs (.rangeFunc f ps a c):=by
 intro fr h e fr' h' hr m w tmps k ds R hf ht hfr hfo hd hz
 obtain⟨hro,rfl,fv,v,h1,r,hfv,hc,hl,hb,he,rfl⟩:=AR hr;have hn1:(h.new (.loop { state:=.ready,pending:=none,fn:=b.fn,nt,fr:=fr',params:=ps.toList,assign:=a,body:=c })).n≤h1.n:=fG _ _ _ _ _ hc;have Bv:(h.new (.loop { state:=.ready,pending:=none,fn:=b.fn,nt,fr:=fr',params:=ps.toList,assign:=a,body:=c })).n=h.n+1:=rfl
 have Zy:jE m h.n h1.n:=hfr
 have laid : ∃wm mark dfs,(Instr.enterLoop b.fn tmps ps a c b.roundOf).run E.P w=.ok (wm.heap.size,mark) (wm.alloc (.loop { state:=.ready,pending:=none,fn:=b.fn,tmps,params:=ps,assign:=a,body:=c,defers:=dfs })) ∧
   Rel B w0 m h wm∧Step m h w m h wm∧ph z m h wm (mark ++ ds):=by
  rcases hfo with⟨h2,rfl⟩|⟨l,lr,s,rfl,h3,h4⟩;·have g:=R.ghost (.deferred (some []));refine⟨w.alloc (.deferred (some [])),[rz w.heap.size],w.heap.size,?_,g.1,g.2,hd.push R hz⟩;rw[h2,run_enterLoop_outer,size_alloc];rfl
  ·simp only[vz,Gk] at hro
   obtain⟨rl,hrl⟩:=hro;have rT:=R.obj _ _ _ _ (kL hrl) h4;obtain⟨rfl,l',hl',ml⟩:=rT;refine⟨w,[],l'.defers,?_,R,Step.refl _ _ _,hd⟩;rw[h3];simp only[Instr.enterLoop,bJ,run_getLoop hl',bW,ck,run_newObj_alloc]
 obtain⟨wm,mark,dfs,ZD,Rm,Sm,Dm⟩:=laid;have hm0:m (2*h.n)=none:=Zy h.n (aA _) aa;obtain⟨R1,S1⟩:=Rm.new (.loop { state:=.ready,pending:=none,fn:=b.fn,nt,fr:=fr',params:=ps.toList,assign:=a,body:=c }) (.loop { state:=.ready,pending:=none,fn:=b.fn,tmps,params:=ps,assign:=a,body:=c,defers:=dfs }) (0,0) hm0 ⟨rfl,_,by rw[heap_alloc,aq rfl],⟨rfl,rfl,rfl,hf,ht,rfl,rfl,rfl⟩⟩ rfl;have S01:=Sm.trans S1;have Dm1:=Dm.step S1;have hρ:=vE Rm hf;have W2:bz (m.upd (2*h.n) (wm.heap.size,0) (0,0)) (.func (.yield (2*h.n)) #[] #[]) (.func (.yield wm.heap.size) #[] #[]) :=
  bz.Ht ⟨0,Mp.cw _ _ _ _⟩ (.nil _) (.nil _)
 obtain⟨nx,hinv,halt⟩:=jI fv _ _ h1 v hc B w0 _ _ (lh tmps f) #[.func (.yield wm.heap.size) #[] #[]] R1 ((hρ f fv hfv).mono S1.le) (.cons W2 (.nil _)) (S01.fresh Zy);obtain⟨fr0,Xn,cH⟩:=halt.resolve_left (by rintro⟨_,_,_,_,hint⟩;obtain⟨k,n,e⟩:=hint _ (gQ.2 rfl);cases e);obtain⟨v',m2,w2,hv,R2,S2,RG⟩:=cH (on b tmps (.inRangeFunc wm.heap.size :: k) (mark ++ ds)) cs;have hev:(on b tmps (.inRangeFunc wm.heap.size :: k) (mark ++ ds)).eval=lh tmps:=Hz _ _ _ _
 have st1:step E.P (lone (on b tmps (.code (.rangeFunc f ps a c) :: k) ds) cs w)=.next (lone fr0 (on b tmps (.inRangeFunc wm.heap.size :: k) (mark ++ ds) :: cs) (wm.alloc (.loop { state:=.ready,pending:=none,fn:=b.fn,tmps,params:=ps,assign:=a,body:=c,defers:=dfs }))):=by
  have LM:(do let d ←resolve (on b tmps (.inRangeFunc wm.heap.size :: k) (mark ++ ds)).eval { callee:=.value f,args:=#[.const (.func (.yield wm.heap.size) #[] #[])],argTypes:=#[] } 0;invoke d.target d.args:Sem Next).run E.P (wm.alloc (.loop { state:=.ready,pending:=none,fn:=b.fn,tmps,params:=ps,assign:=a,body:=c,defers:=dfs }))=.ok nx (wm.alloc (.loop { state:=.ready,pending:=none,fn:=b.fn,tmps,params:=ps,assign:=a,body:=c,defers:=dfs })):=by rw[hev,show resolve (lh tmps) { callee:=.value f,args:=#[.const (.func (.yield wm.heap.size) #[] #[])],argTypes:=#[] } 0=Deferred.ofValue (lh tmps f) #[.func (.yield wm.heap.size) #[] #[]] from by simp[resolve,lh]];exact hinv
  simp only[on] at LM;refine jv ?_;rcases Xn with⟨f',as,rfl,rfl⟩|⟨l,f',ts,a',c',rfl,rfl⟩;·simp[stepG,stepG.exec,on,Sem.runT_eq,ZD,GStep.bare_after,stepG.apply,LM]
  ·simp[stepG,stepG.exec,on,Sem.runT_eq,ZD,GStep.bare_after,stepG.apply,LM]
 have LQ:(on b tmps (.inRangeFunc wm.heap.size :: k) (mark ++ ds)).finish v'=on b tmps (.endRangeFunc wm.heap.size :: k) (mark ++ ds):=rfl;rw[LQ] at RG;have hm2:m2 (2*h.n)=some (wm.heap.size,0):=(S2.le _ _ (Mp.cw _ _ _ _)).1;obtain⟨_,l',hl',ml⟩:=R2.obj _ _ _ _ (kL hl) hm2;have ud:(Instr.endLoop wm.heap.size).run E.P w2=.ok l'.pending (w2.putObj wm.heap.size (.loop { l' with state:=.exhausted })):=run_endLoop hl' (by rw[ml.state];exact hb);obtain⟨R3,S3⟩:=R2.setObj (o1:=.dead) (o':=.loop { l' with state:=.exhausted }) (kL hl) rfl rfl hm2 rfl (fun _ _ _=>trivial);have st2:step E.P (lone (on b tmps (.endRangeFunc wm.heap.size :: k) (mark ++ ds)) cs w2)=.next (lone (on b tmps ((l'.pending.map Item.code).toList ++ k) (mark ++ ds)) cs (w2.putObj wm.heap.size (.loop { l' with state:=.exhausted }))) :=
  stepR_endRangeFunc (b:=b) (a:={ tmps:=tmps,defers:=mark ++ ds }) ud
 refine⟨m2,_,tmps,mark ++ ds,_,(Steps.one st1).trans (RG.trans (.one st2)),?_,hf.mono (S01.trans S2).le,ht,R3,(S01.trans S2).trans S3,(Dm1.step S2).step S3⟩;rcases ml.Dq he with⟨rfl,hp⟩|⟨i,rfl,hp⟩|⟨rfl,hp⟩;·rw[hp];rfl
 ·rw[hp];exact⟨k,rfl,rfl⟩
 ·rw[hp];exact⟨k,rfl⟩
variable {more:Nat}{af2:Array Edge}{ps1:String}{ty2:TypeId}{nx:Nat}{ps2:String}{af1:Array Edge}{ops:Array Oper}{it id kb:Nat}{es:List (Value×Value)}{ty1:TypeId}
def Qt {k:Nat} {seen:List Nat} {kk:List Item} {ds:List Deferred}(Ju:ops.toList = [⟨some nx,.next (.tmp it) false,ty1,ps1,af1,none⟩,⟨some more,.extract (.tmp nx) 0,ty2,ps2,af2,none⟩])(hok:Hj fr h it kb k es seen) (R:Rel B w0 m h w) (hf:gZ m fr tmps) (ht:nt≤tmps.size) :((∀i,i<es.length→i∈seen) ∧ ∀fr2,tq nt nx more (.tuple #[.bool false]) false fr=some fr2 →∃w' cY,Steps E.P (lone (on b tmps (.code (.region id ops false) :: kk) ds) cs w) (lone (on b cY kk ds) cs w')∧gZ m fr2 cY∧nt≤cY.size∧Rel B w0 m h w'∧Step m h w m h w') ∨ ∃i x,i∉seen∧es[i]?=some x ∧ ∀fr2,tq nt nx more (.tuple #[.bool true,x.1,x.2]) true fr=some fr2 → ∃w' cY,Steps E.P (lone (on b tmps (.code (.region id ops false) :: kk) ds) cs w) (lone (on b cY kk ds) cs w')∧gZ m fr2 cY∧nt≤cY.size ∧ Rel B w0 m { h with ext:=h.ext.set kb (.iter k es.length (seen ++ [i]) es.length) } w'∧Step m h w m { h with ext:=h.ext.set kb (.iter k es.length (seen ++ [i]) es.length) } w':=by
 obtain⟨g1,g2,g3⟩:=hok;obtain⟨v1,t1,hv1⟩:=hf it _ g1;obtain⟨r,s,hm,rfl⟩:=hv1.ou;obtain⟨rfl,rm,rT,hmk⟩:=R.obj kb _ r s g2 hm;obtain⟨_,_,c,Eu,hcm⟩:=R.Fs g3 hmk;have hρ:lh tmps (.tmp it)=.pointer (some ⟨r,0,none⟩):=by simp[lh,Cp,t1]
 have o0:ops[0]?=some ⟨some nx,.next (.tmp it) false,ty1,ps1,af1,none⟩:=by rw[←rf,Ju];rfl
 have o1:ops[1]?=some ⟨some more,.extract (.tmp nx) 0,ty2,ps2,af2,none⟩:=by rw[←rf,Ju];rfl
 have hsz:ops.size=2:=by rw[←mc,Ju];rfl
 have two : ∀(v v':Value) (bb:Bool) (w':World) (fr2:Fr),bz m v v'→(∃cs',v=.tuple cs'∧cs'[0]?=some (.bool bb))→(Instr.next (.pointer (some ⟨r,0,none⟩)) false ty1).run E.P w=.ok v' w'→tq nt nx more v bb fr=some fr2 →
   ∃cY,Steps E.P (lone (on b tmps (.code (.region id ops false) :: kk) ds) cs w) (lone (on b cY kk ds) cs w')∧gZ m fr2 cY∧nt≤cY.size:=by
  intro v v' bb w' fr2 hv W7 cH mY;unfold tq at mY;split at mY
  case h_2=>cases mY
  rename_i fra hpa;obtain⟨hfa,hta⟩:=uY hpa hf ht hv;obtain⟨hfb,htb⟩:=uY mY hfa hta (bz.dN (m:=m) (v:=.bool bb) rfl);obtain⟨cs',rfl,hc0⟩:=W7;obtain⟨cs2,rfl,hL⟩:=hv.zM
  have eg:ax fra nx=some (.tuple cs'):=by
   unfold ue at hpa;simp only[aX] at hpa;split at hpa;·cases hpa;simp[ax]
   ·cases hpa
  obtain⟨v2,q1,q2⟩:=hfa nx _ eg;obtain⟨u,q3,q4⟩:=hL.get (i:=0) (by simpa using hc0);have hu:=q4.gL rfl;subst hu;have hpt:(ru tmps (some nx) (.tuple cs2))[nx]?=some (.tuple cs2):=by
   have hlt:nx<tmps.size:=by
    unfold ue at hpa;simp only[aX] at hpa;split at hpa
    ·rename_i hb;have:nx+1≤nt:=by simpa [Nat.blt] using hb
     omega
    ·cases hpa
   simp[ru,hlt]
  have hρ2:lh (ru tmps (some nx) (.tuple cs2)) (.tmp nx)=.tuple cs2:=by simp[lh,Cp,hpt]
  have q3':cs2[0]?=some (.bool bb):=by simpa using q3
  have e1:=uB (P:=E.P) (b:=b) (ds:=ds) (k:=kk) (cs:=cs) (tmps:=tmps) (ops:=ops) (i:=0) (rest:=[1]) (v:=.tuple cs2) (w:=w) (w':=w') o0 (by simp[Region.wanted]) ab (by simp only[execOp,hρ,bJ,cH,bW,ck]);have e2:=uB (P:=E.P) (b:=b) (ds:=ds) (k:=kk) (cs:=cs) (tmps:=ru tmps (some nx) (.tuple cs2)) (ops:=ops) (i:=1) (rest:=[]) (v:=.bool bb) (w:=w') (w':=w') o1 (by simp[Region.wanted]) ab (by simp only[execOp,hρ2,Instr.extract,q3',bJ,bW,ck]);refine⟨_,.head ET (.head ?_ (.head e2 (.one rk))),hfb,htb⟩;rw[hsz];exact e1
 rcases QF E.P hcm rT Eu ty1 with⟨ft,d,cH⟩|⟨i,e',d,hi,hci,cH⟩;·refine .inl ⟨ft,fun fr2 mY=>?_⟩;obtain⟨cY,a1,a2,a3⟩:=two _ _ false _ fr2 (bz.kY (.cons (.dN rfl) (.nil m))) ⟨_,rfl,rfl⟩ cH mY;exact⟨_,cY,a1,a2,a3,R.congr rfl (oi R.below d),(Step.refl m h { w with drawn:=d }).congr rfl⟩
 ·have hic:i<c.size:=by
   rcases dr i c.size with h|h;·exact h
   ·rw[Co h] at hci;cases hci
  have hie:i<es.length:=by have:=hcm.1;omega
  have hE:=(hcm.2 i es[i] e' (aK hie) hci).1;refine .inr ⟨i,es[i],hi,aK hie,fun fr2 mY=>?_⟩;obtain⟨cY,a1,a2,a3⟩:=two _ _ true _ fr2 (bz.kY (.cons (.dN rfl) (.cons (by rw[hE.1];exact bz.dS hE.2.1) (.cons hE.2.2 (.nil m))))) ⟨_,rfl,rfl⟩ cH mY;obtain⟨R1,S1⟩:=(R.congr (w':={ w with drawn:=d }) rfl (oi R.below d)).setObj (o1:=.iter k es.length (seen ++ [i]) es.length) (o':=.mapIter (some rm) es.length (seen.toArray.push i) es.length) g2 rfl rfl hm rfl (fun w' z e=>⟨rfl,rm,by rw[e];simp,hmk⟩);exact⟨_,cY,a1,a2,a3,R1,S1.congr rfl⟩
def Rel.kill (R:Rel B w0 m h w) {k0 a0 c0 r s:Nat} {b0:List Nat} (hk:h.ext.get kb=some (.iter k0 a0 b0 c0)) (hm:m (2*kb)=some (r,s)) :Rel B w0 m { h with ext:=h.ext.set kb .dead } w∧Step m h w m { h with ext:=h.ext.set kb .dead } w:=by obtain⟨_,rm,rT,_⟩:=R.obj kb _ r s hk hm;have:=R.setObj (o1:=.dead) (o':=.mapIter (some rm) a0 b0.toArray c0) hk rfl rfl hm rfl (fun _ _ _=>trivial);rw[QR rT] at this;exact this
def Ran.kill {k0:List Item} {frl:Fr} {hl:IH} {rs:Nat×Nat} (hm:m (2*kb)=some rs) (r:Ran E b B w0 z nt cs m h w k0 M e frl hl) (hk : ∃k1 a1 b1 c1,hl.ext.get kb=some (.iter k1 a1 b1 c1))(hfr : ∀t v,ax fr' t=some v→ax frl t=some v):Ran E b B w0 z nt cs m h w k0 M e fr' { hl with ext:=hl.ext.set kb .dead }:=by obtain⟨m',w',cY,ds',k',a1,a2,a3,a4,a5,a6,a7⟩:=r;obtain⟨k1,x1,b1,c1,hk⟩:=hk;obtain⟨R1,S1⟩:=a5.kill hk (a6.le _ _ hm).1;exact⟨m',w',cY,ds',k',a1,a2,fun t v hv=>a3 t v (hfr t v hv),a4,R1,a6.trans S1,a7.step S1⟩
variable {n:Nat}
def CN {rest:Code} {k:Nat}  (Ju:ops.toList = [⟨some nx,.next (.tmp it) false,ty1,ps1,af1,none⟩,⟨some more,.extract (.tmp nx) 0,ty2,ps2,af2,none⟩])(fG : ∀fr h e fr' h',evC E call b.fn nt rd n rest fr h=some (e,fr',h')→h.n≤h'.n) (ih:zp E (evC E call b.fn nt rd n rest) b rd B w0 z nt cs rest) :∀(q:Nat) (rem seen:List Nat) (fr:Fr) (h:IH),rem.length=q→(∀i,i∈rem↔i<es.length∧i∉seen)→rem.Nodup → (∀l:List Nat,l.Perm rem → ∃frl hl,iV (evC E call b.fn nt rd n rest) (od E b.fn id) nt it nx more kb k es l seen fr h=some (e,frl,hl)∧(∃k0 a0 b0 c0,hl.ext.get kb=some (.iter k0 a0 b0 c0))∧h' = { hl with ext:=hl.ext.set kb .dead } ∧ ∀t v,ax fr' t=some v→ax frl t=some v) →
   ∀(m:Mp) (w:World) (tmps:Array Value) (kk:List Item) (ds:List Deferred) (rs:Nat×Nat),m (2*kb)=some rs→Rel B w0 m h w→gZ m fr tmps→nt≤tmps.size→jE m h.n h'.n→tR b rd m→ph z m h w ds→z≤w.heap.size →
    Ran E b B w0 z nt cs m h w kk (lone (on b tmps (.code (.seq (.region id ops false) rest) :: .inLoop (.seq (.region id ops false) rest) :: kk) ds) cs w) e fr' h'
 | q,rem,seen,fr,h,hq,W9,hnd,ft,m,w,tmps,kk,ds,rs,hkb,R,hf,ht,hfr,hfo,hd,hz=>by
  have hok:Hj (od E b.fn id fr) h it kb k es seen:=by
   obtain⟨frl,hl,h1,_⟩:=ft rem (List.Perm.refl _);unfold iV at h1;split at h1;all_goals
    split at h1;·assumption
    ·cases h1
  have hn' : ∀{l:List Nat} {frl:Fr} {hl:IH},iV (evC E call b.fn nt rd n rest) (od E b.fn id) nt it nx more kb k es l seen fr h=some (e,frl,hl)→h.n≤hl.n:=fun hx=>qP fG _ _ _ _ _ _ _ hx;rcases Qt (E:=E) (b:=b) (cs:=cs) (nt:=nt) (id:=id) (kk:=.code rest :: .inLoop (.seq (.region id ops false) rest) :: kk) (ds:=ds) Ju hok R (hf.head b.fn id) ht with⟨hov,hst⟩|⟨i,x,hi,hx,hst⟩
  ·have hr0:rem = []:=by apply List.eq_nil_iff_forall_not_mem.2;intro j hj;obtain⟨h1,h2⟩:=(W9 j).1 hj;exact h2 (hov j h1)
   subst hr0;obtain⟨frl,hl,h1,hit,hh',Uz⟩:=ft [] (List.Perm.refl _);subst hh';unfold iV at h1;rw[aq hok] at h1;split at h1;·cases h1
   ·rename_i fr2 mY;obtain⟨w1,iz,s1,f1,t1,R1,S1⟩:=hst fr2 mY;split at h1
    ·cases h1
    ·rename_i hnn;refine .first (.head CH s1) (.step S1 ?_);have hR:=ih fr2 h e frl hl h1 m w1 iz (.inLoop (.seq (.region id ops false) rest) :: kk) ds R1 f1 t1 hfr hfo (hd.step S1) (bV hz S1.size);have hne:e≠.normal:=fun he=>by subst he;exact hnn _ _ h1
     exact(Ran.out (k:=kk) hR hne (fun i _=>rfl)).kill hkb hit Uz
  ·have hie:i<es.length:=by
    rcases dr i es.length with h|h;·exact h
    ·rw[cy h] at hx;cases hx
   have him:i∈rem:=(W9 i).2 ⟨hie,hi⟩;obtain⟨frl,hl,h1,hit,hh',Uz⟩:=ft (i :: rem.erase i) (List.perm_cons_erase him).symm;have NB : ∀l:List Nat,l.Perm (rem.erase i) → ∃frl hl,iV (evC E call b.fn nt rd n rest) (od E b.fn id) nt it nx more kb k es (i :: l) seen fr h=some (e,frl,hl)∧(∃k0 a0 b0 c0,hl.ext.get kb=some (.iter k0 a0 b0 c0))∧h' = { hl with ext:=hl.ext.set kb .dead } ∧ ∀t v,ax fr' t=some v→ax frl t=some v :=
    fun l hl=>ft (i :: l) ((hl.cons i).trans (List.perm_cons_erase him).symm)
   have hhn:hl.n≤h'.n:=by rw[hh'];exact aA _
   simp only[iV,aq hok,hx] at h1 NB;cases mY:tq nt nx more (.tuple #[.bool true,x.1,x.2]) true (od E b.fn id fr) with
   | none=>simp[mY] at h1
   | some fr2 =>
    simp only[mY] at h1 NB;obtain⟨w1,iz,s1,f1,t1,R1,S1⟩:=hst fr2 mY;refine .first (.head CH s1) (.step S1 ?_);cases AX:evC E call b.fn nt rd n rest fr2 { h with ext:=h.ext.set kb (.iter k es.length (seen ++ [i]) es.length) } with
    | none=>simp[AX] at h1
    | some o =>
     obtain⟨e1,fr3,h3⟩:=o
     have hn3:=fG _ _ _ _ _ AX
     cases e1 with
     | normal =>
      simp only[AX] at h1 NB;have hn4:=qP fG _ _ _ _ _ _ _ h1;obtain⟨m2,w2,EP,ds2,k2,b1,b2,b3,b4,b5,b6,b7⟩:=ih fr2 _ _ _ _ AX m w1 iz (.inLoop (.seq (.region id ops false) rest) :: kk) ds R1 f1 t1 (hfr.sub (aA _) (bV hn4 hhn)) hfo (hd.step S1) (bV hz S1.size);obtain rfl:k2=_:=b2;refine .first (b1.trans (.one EU)) (.step b6 ?_);have hlen:(rem.erase i).length<q:=by rw[List.length_erase_of_mem him,hq];have:0<rem.length:=List.length_pos_of_mem him;omega
      refine CN Ju fG ih (rem.erase i).length (rem.erase i) (seen ++ [i]) fr3 h3 rfl (fun j=>?_) (hnd.erase i) NB m2 w2 EP kk ds2 rs (b6.le _ _ hkb).1 b5 b3 b4 (b6.fresh hfr) (hfo.mono b6.le) b7 (bV (bV hz S1.size) b6.size);rw[hnd.mem_erase_iff,W9 j];simp only[fC,gQ];constructor;·rintro⟨h1,h2,h3⟩;exact⟨h2,fun hh=>hh.elim h3 h1⟩
      ·rintro⟨h2,h3⟩;exact⟨fun hh=>h3 (.inr hh),h2,fun hh=>h3 (.inl hh)⟩
     | exit j =>
      simp only[AX] at h1;cases h1;subst hh';have hR:=ih fr2 _ _ _ _ AX m w1 iz (.inLoop (.seq (.region id ops false) rest) :: kk) ds R1 f1 t1 hfr hfo (hd.step S1) (bV hz S1.size);exact(Ran.out (k:=kk) hR ab (fun i _=>rfl)).kill hkb hit Uz
     | ret =>
      simp only[AX] at h1;cases h1;subst hh';have hR:=ih fr2 _ _ _ _ AX m w1 iz (.inLoop (.seq (.region id ops false) rest) :: kk) ds R1 f1 t1 hfr hfo (hd.step S1) (bV hz S1.size);exact(Ran.out (k:=kk) hR ab (fun i _=>rfl)).kill hkb hit Uz
 termination_by q=>q
 decreasing_by omega
def I9 {ops:List Oper} {draw:Bool} (h:Dd ops draw=some (it,nx,more)):draw=false ∧ ∃ty1 ps1 af1 ty2 ps2 af2,ops = [⟨some nx,.next (.tmp it) false,ty1,ps1,af1,none⟩,⟨some more,.extract (.tmp nx) 0,ty2,ps2,af2,none⟩]:=by
 unfold Dd at h
 split at h
 case h_2=>cases h
 simp only[aX,bT] at h;split at h;·rename_i hx;cases h;subst hx;exact⟨rfl,_,_,_,_,_,_,rfl⟩
 ·cases h
def Iz {p:Nat×Nat×Nat×Nat×Code} (hp:uU c=some p) (fG : ∀fr h e fr' h',evC E call b.fn nt rd n p.2.2.2.2 fr h=some (e,fr',h')→h.n≤h'.n) (ih:zp E (evC E call b.fn nt rd n p.2.2.2.2) b rd B w0 z nt cs p.2.2.2.2)(hx:vF (evC E call b.fn nt rd n p.2.2.2.2) (od E b.fn p.1) nt p.2.1 p.2.2.1 p.2.2.2.1 fr h=some (e,fr',h')) (m:Mp) (w:World) (tmps:Array Value) (k:List Item) (ds:List Deferred)(R:Rel B w0 m h w) (hf:gZ m fr tmps) (ht:nt≤tmps.size) (hfr:jE m h.n h'.n) (hfo:tR b rd m) (hd:ph z m h w ds) (hz:z≤w.heap.size) :Ran E b B w0 z nt cs m h w k (lone (on b tmps (.code c :: .inLoop c :: k) ds) cs w) e fr' h':=by
 unfold uU at hp;split at hp
 case h_2=>cases hp
 rename_i id ops draw rest;obtain⟨⟨it,nx,more⟩,hno,rfl⟩:=bI.1 hp;obtain⟨rfl,ty1,ps1,af1,ty2,ps2,af2,Ju⟩:=I9 hno;simp only at hx fG ih;obtain⟨kb,k0,since,seen0,last,es,g1,g2,g3,ft⟩:=yP hx;obtain⟨v1,t1,hv1⟩:=(hf.head b.fn id) it _ g1;obtain⟨r,s,hm,rfl⟩:=hv1.ou;exact CN Ju fG ih _ (List.range es.length) [] fr h rfl (fun i=>ab) List.nodup_range ft m w tmps k ds (r,s) hm R hf ht hfr hfo hd hz
def CO (jI:oD E.P call) (fG:gK call) (Xg:E.P.follows .mixedOrders=true) (n:Nat) : ∀(c:Code),zp E (evC E call b.fn nt rd n c) b rd B w0 z nt cs c:=by
 intro c
 induction c using MK with
 | h c IH =>
 cases c with
 | skip =>
  intro fr h e fr' h' hr m w tmps k ds R hf ht hfr hfo hd hz;simp only[evC] at hr;cases hr;exact⟨m,w,tmps,ds,k,.one TP,rfl,hf,ht,R,Step.refl _ _ _,hd⟩
 | label l =>
  intro fr h e fr' h' hr m w tmps k ds R hf ht hfr hfo hd hz;simp only[evC] at hr;cases hr;exact⟨m,w,tmps,ds,k,.one Qp,rfl,hf,ht,R,Step.refl _ _ _,hd⟩
 | region id ops draw =>
  intro fr h e fr' h' hr m w tmps k ds R hf ht hfr hfo hd hz;simp only[evC] at hr;split at hr
  ·rename_i fr1 h1 hx;cases hr;cases draw with
   | true =>
    rw[cg] at hx;obtain⟨_,m',w',cY,a1,a2,a3,a4,a5⟩:=OA jI fG Xg hx R (hf.head b.fn id) ht hfr b k ds cs id;exact⟨m',w',cY,ds,k,a1,rfl,a2,a3,a4,a5,hd.step a5⟩
   | false =>
    rw[fU] at hx;obtain⟨m',w',cY,a1,a2,a3,a4,a5⟩:=GP jI fG b k ds cs ops.toList 0 _ _ _ _ m w tmps rfl hx R (hf.head b.fn id) ht hfr
    rw[←List.range_eq_range',mc] at a1
    exact⟨m',w',cY,ds,k,.head ET a1,rfl,a2,a3,a4,a5,hd.step a5⟩
  ·cases hr
 | seq x y =>
  have ihx:=IH x bd;have ihy:=IH y bd;intro fr h e fr' h' hr m w tmps k ds R hf ht hfr hfo hd hz;simp only[evC] at hr;split at hr;·rename_i fr1 h1 hx;have n1:=y7 fG _ _ _ _ _ _ hx;have n2:=y7 fG _ _ _ _ _ _ hr;obtain⟨m1,w1,iz,ds1,k1,a1,a2,a3,a4,a5,a6,a7⟩:=ihx fr h .normal fr1 h1 hx m w tmps (.code y :: k) ds R hf ht (hfr.sub (aA _) n2) hfo hd hz;obtain rfl:k1=_:=a2;refine .first (.head CH a1) (.step a6 ?_);exact ihy fr1 h1 e fr' h' hr m1 w1 iz k ds1 a5 a3 a4 (a6.fresh hfr) (hfo.mono a6.le) a7 (bV hz a6.size)
  ·rename_i hx
   cases hr;exact .first (.one CH) ((ihx fr h _ _ _ hx m w tmps (.code y :: k) ds R hf ht hfr hfo hd hz).out ab (fun i _=>rfl))
  ·rename_i hx;cases hr
   exact .first (.one CH) ((ihx fr h _ _ _ hx m w tmps (.code y :: k) ds R hf ht hfr hfo hd hz).out ab (fun i _=>rfl))
  ·cases hr
 | cond x a c =>
  have iha:=IH a bd;have ihc:=IH c bd;intro fr h e fr' h' hr m w tmps k ds R hf ht hfr hfo hd hz;simp only[evC] at hr;have hρ:=vE R hf;split at hr;·rename_i hx;have hv:=(hρ x _ hx).gL rfl;exact .first (.one (MI hv)) (iha fr h _ _ _ hr m w tmps k ds R hf ht hfr hfo hd hz)
  ·rename_i hx
   have hv:=(hρ x _ hx).gL rfl;exact .first (.one (MI hv)) (ihc fr h _ _ _ hr m w tmps k ds R hf ht hfr hfo hd hz)
  ·cases hr
 | block id c =>
  have ih:=IH c bd;intro fr h e fr' h' hr m w tmps k ds R hf ht hfr hfo hd hz;simp only[evC,aX] at hr;split at hr
  ·rename_i i fr1 h1 hx;split at hr
   ·rename_i hi;have hi':i=id:=by simpa using hi
    subst hi';cases hr;obtain⟨m1,w1,iz,ds1,k1,a1,a2,a3⟩:=ih fr h _ _ _ hx m w tmps (.inBlock i :: k) ds R hf ht hfr hfo hd hz;obtain⟨k2,rfl,hk2⟩:=a2;exact⟨m1,w1,iz,ds1,k,.head yp (a1.trans (.one (TQ (by rw[hk2];simp[exitTo])))),rfl,a3⟩
   ·rename_i hi;cases hr;refine .first (.one yp) ((ih fr h _ _ _ hx m w tmps (.inBlock id :: k) ds R hf ht hfr hfo hd hz).out ab (fun j hj=>?_));cases hj;have:(id == i)=false:=by simp only[zu,ne_eq];rintro rfl;simp at hi
    simp[exitTo,this]
  ·rename_i fr1 h1 hx;cases hr;obtain⟨m1,w1,iz,ds1,k1,a1,a2,a3⟩:=ih fr h _ _ _ hx m w tmps (.inBlock id :: k) ds R hf ht hfr hfo hd hz;obtain rfl:k1=_:=a2;exact⟨m1,w1,iz,ds1,k,.head yp (a1.trans (.one KL)),rfl,a3⟩
  ·rename_i fr1 h1 hx
   cases hr
   exact .first (.one yp) ((ih fr h _ _ _ hx m w tmps (.inBlock id :: k) ds R hf ht hfr hfo hd hz).out ab (fun j hj=>by cases hj))
  ·cases hr
 | loop c =>
  have ih:=IH c bd;intro fr h e fr' h' hr m w tmps k ds R hf ht hfr hfo hd hz;rw[DE] at hr;split at hr;·rename_i p hp;exact .first (.one MH) (Iz hp (fun fr h e fr' h' hx=>y7 fG _ fr h e fr' h' hx) (IH _ (Nat.lt_trans (AW hp) bd)) hr m w tmps k ds R hf ht hfr hfo hd hz)
  exact .first (.one MH) (IA (fun fr h e fr' h' hx=>y7 fG c fr h e fr' h' hx) ih n fr h e fr' h' hr m w tmps k ds R hf ht hfr hfo hd hz)
 | scope c =>
  have ih:=IH c bd;intro fr h e fr' h' hr m w tmps k ds R hf ht hfr hfo hd hz;simp only[evC] at hr;obtain⟨m1,w1,iz,ds1,k1,a1,a2,a3⟩:=ih fr h _ _ _ hr m w tmps (.inScope c :: k) ds R hf ht hfr hfo hd hz;cases e with
  | normal =>
   obtain rfl:k1=_:=a2;exact⟨m1,w1,iz,ds1,k,.head CI (a1.trans (.one KK)),rfl,a3⟩
  | exit i=>exact⟨m1,w1,iz,ds1,k1,.head CI a1,a2.out ab (fun j _=>rfl),a3⟩
  | ret=>exact⟨m1,w1,iz,ds1,k1,.head CI a1,a2,a3⟩
 | rangeFunc f ps a c =>
  intro fr h e fr' h' hr;simp only[evC] at hr;exact Ix jI fG fr h e fr' h' hr
 | exit i =>
  intro fr h e fr' h' hr m w tmps k ds R hf ht hfr hfo hd hz;simp only[evC] at hr;cases hr;exact⟨m,w,tmps,ds,_,.refl _ _,⟨k,rfl,rfl⟩,hf,ht,R,Step.refl _ _ _,hd⟩
 | ret =>
  intro fr h e fr' h' hr m w tmps k ds R hf ht hfr hfo hd hz;simp only[evC] at hr;cases hr;exact⟨m,w,tmps,ds,_,.refl _ _,⟨k,rfl⟩,hf,ht,R,Step.refl _ _ _,hd⟩
 | goto i=>intro fr h e fr' h' hr;simp only[evC] at hr;cases hr
 | refuse i=>intro fr h e fr' h' hr;simp only[evC] at hr;cases hr
end
end
section
variable {h:IH}{m:Mp}{w0:World}{P:Program}{B:Nat}
def yi {z:Nat} (hB:B≤z) : ∀(rs:List Nat) (fr:Frame) (cs:List Frame) (w:World),fr.mode=.returning→fr.defers=rs.map rz→rs.Nodup → (∀r∈rs,z≤r∧w.heap[r]?=some (.deferred (some [])) ∧ ∀k s,k<h.n→m (2*k)≠some (r,s))→Rel B w0 m h w → ∃w',Steps P (lone fr cs w) (lone { fr with defers:=[] } cs w')∧Rel B w0 m h w'∧w'.heap.size=w.heap.size ∧ ∀r,r∉rs→w'.heap[r]?=w.heap[r]?
 | [],fr,cs,w,hm,hd,_,_,R=>by
  have:({ fr with defers:=[] }:Frame)=fr:=by cases fr;simp at hd;subst hd;rfl
  exact⟨w,by rw[this];exact .refl _ _,R,rfl,fun _ _=>rfl⟩
 | r :: rs,fr,cs,w,hm,hd,hn,hr,R=>by
  obtain⟨a1,a2,a3⟩:=hr r ab;have hst:=step_collected (P:=P) (fr:=fr) (cs:=cs) (d:=rz r) (r:=r) (ds:=rs.map rz) (by rw[hm];simp) (by rw[hd];rfl) rfl (run_takeDeferred a2);have Hm : ∀r',r'≠r→(w.putObj r (.deferred none)).heap[r']?=w.heap[r']?:=fun r' h'=>World.putObj_heap_other h'
  have R1:Rel B w0 m h (w.putObj r (.deferred none)):=by
   refine R.ai (vV R.below aa _) ab ?_;rintro r' (h1|⟨k,s,h1,h2⟩);·exact Hm r' aa
   ·exact Hm r' (by rintro rfl;exact a3 k s h1 h2)
  obtain⟨w',b1,b2,b3,b4⟩:=yi hB rs { fr with defers:=[] ++ rs.map rz } cs (w.putObj r (.deferred none)) hm rfl (Ce.1 hn).2 (fun r' h'=>by
   obtain⟨c1,c2,c3⟩:=hr r' (by simp[h']);exact⟨c1,by rw[Hm r' (by rintro rfl;exact(Ce.1 hn).1 h')];exact c2,c3⟩) R1
  refine⟨w',.head hst b1,b2,by rw[b3];simp,fun r' h'=>?_⟩;rw[b4 r' (fun h=>h' (by simp[h])),Hm r' (fun h=>h' (by simp[h]))]
def CW (tmps:Array Value):ResultVar→Sem Value
 | .tmp t=>pure (tmps.getD t undef)
 | .cell a t=>do loadVar t (←Go.asAddr (tmps.getD a undef))
theorem K6 (fn:Func) (tmps:Array Value):results fn tmps=(do let vs ←fn.results.mapM (CW tmps);pure (if h:vs.size=1 then vs[0] else .tuple vs)):=by unfold results;congr 1
variable {v:Value}{tmps:Array Value}{w:World}{fr:Fr}
def GY (R:Rel B w0 m h w) (hf:gZ m fr tmps) {rv:ResultVar} (hr:oJ P fr h rv=some v) :∃v',(CW tmps rv).run P w=.ok v' w∧bz m v v':=by
 cases rv with
 | tmp t =>
  obtain⟨v',h1,h2⟩:=hf t v hr;exact⟨v',by simp[CW,Cp,h1,ck],h2⟩
 | cell a t =>
  simp only[oJ] at hr;split at hr
  ·rename_i va hva;obtain⟨va',h1,h2⟩:=hf a va hva;obtain⟨v',h3,h4⟩:=R.load hr h2;refine⟨v',?_,h4⟩;have hp : ∃b o,va=.pointer (some ⟨b,o,none⟩):=by
    unfold Id.load at hr;cases hA:Id.asAddr va with
    | none=>simp[hA] at hr
    | some bo=>unfold Id.asAddr at hA;split at hA<;>simp_all
   obtain⟨b,o,rfl⟩:=hp;obtain⟨r,s,_,rfl⟩:=h2.ou;simp only[CW,Cp,h1,jf];simpa [Instr.loadAt,Instr.sureAddr,Go.asAddr,bJ,ck] using h3
  ·cases hr
def wF (R:Rel B w0 m h w) (hf:gZ m fr tmps) : ∀(l:List ResultVar) (vs:List Value),eG P fr h l=some vs → ∃vs',(l.mapM (CW tmps)).run P w=.ok vs' w∧dv m vs vs'
 | [],vs,hr=>by simp only[eG] at hr;cases hr;exact⟨[],by simp[ck],.nil m⟩
 | rv :: l,vs,hr=>by
  rw[eG] at hr;split at hr;·rename_i v vs1 h1 h2;cases hr;obtain⟨v',a1,a2⟩:=GY R hf h1;obtain⟨vs',b1,b2⟩:=wF R hf l vs1 h2;refine⟨v' :: vs',?_,.cons a2 b2⟩;rw[List.mapM_cons];simp only[bJ,ck];rw[a1];simp only[bW];rw[b1];simp only[bW]
  ·cases hr
variable {vs:List Value}
def KQ {vs':List Value} (h:dv m vs vs'):bz m (single vs) (if h:vs'.toArray.size=1 then vs'.toArray[0] else .tuple vs'.toArray):=by
 have hl:=h.1
 match vs,vs',h,hl with
 | [],[],h,_=>exact bz.kY h
 | [v],[v'],h,_=>exact h.2 0 v v' rfl rfl
 | v :: u :: vs,v' :: u' :: vs',h,_ =>
  have : ¬(v' :: u' :: vs').toArray.size=1:=ab;rw[dif_neg this];exact bz.kY h
variable {fn:Func}
def IP (R:Rel B w0 m h w) (hf:gZ m fr tmps) (hr:eG P fr h fn.results.toList=some vs) :∃v',(results fn tmps).run P w=.ok v' w∧bz m (single vs) v':=by obtain⟨vs',h1,h2⟩:=wF R hf _ _ hr;refine⟨_,?_,KQ h2⟩;rw[K6,bJ,Array.mapM_eq_mapM_toList,map_eq_pure_bind,bJ,h1];simp only[bW,ck]
def zq (P:Program) (f:FuncId) (args:Array Value) (B:Nat) (w0:World) (m:Mp) (h:IH) (w:World) (v:Value) (h':IH):Prop :=
 Calls P f args w fun e w' => ∃v' m',e=.returned v'∧bz m' v v'∧Rel B w0 m' h' w'∧Step m h w m' h' w'
structure Sound (E:Env):Prop where
 mixed:E.P.follows .mixedOrders=true
 names : ∀(f:FuncId) (fn:Func),E.P.funcs[f]?=some fn→fn.body.isSome=true→(fn.name == "runtime.NumGoroutine")=false
 origin : ∀(f:FuncId) (fn:Func),E.P.funcs[f]?=some fn→fn.body=none → ∀{args:List Value} {v:Value},og fn.name args=some v→fn.origin=fn.name∨fn.origin = ""
 VQ : ∀f g,E.Jp f=some g → ∀args h v h',g args h=some (v,h')→h.n≤h'.n
 Jp : ∀f g,E.Jp f=some g→(∃fn,E.P.funcs[f]?=some fn∧fn.body.isSome=true) ∧ ∀args h v h',g args h=some (v,h') → ∀(B:Nat) (w0:World) (m:Mp) (w:World) (args':Array Value),
  Rel B w0 m h w→dv m args args'.toList→jE m h.n h'.n→zq E.P f args' B w0 m h w v h'
theorem yZ : ∀(l:List Value) (i t:Nat),ax (nj i l) t=if i≤t then l[t - i]? else none
 | [],i,t=>by simp[nj,ax]
 | v :: l,i,t=>by
  simp only[nj,ax,aX,bT,yZ l (i+1) t];by_cases h1:i=t;·subst h1;simp
  ·by_cases h2:i≤t
   ·rw[ah h1,aq h2,aq aa,show t - i=(t - (i+1))+1 from by omega,Kg]
   ·rw[ah h1,ah h2,ah aa]
variable {f:FuncId}{E:Env}{n:Nat}{call:je}{h':IH}
def SV (S:Sound E) (fG:gK call) {args:List Value} (hr:xX E call n f args h=some (v,h')):h.n≤h'.n:=by
 unfold xX at hr;split at hr;·rename_i g hg;exact S.VQ _ _ hg _ _ _ _ hr
 ·split at hr
  ·cases hr
  ·split at hr
   ·obtain⟨vs,_,e⟩:=bI.1 hr;cases e;exact aA _
   ·simp only[aX] at hr;split at hr
    ·split at hr
     ·cases hr
     ·rename_i fr1 h1 _ hx;obtain⟨vs,_,e⟩:=bI.1 hr;cases e;exact y7 fG _ _ _ _ _ _ hx
     ·cases hr
    ·cases hr
def DS (S:Sound E) (jI:oD E.P call) (fG:gK call) {args:List Value} (hr:xX E call n f args h=some (v,h')){args':Array Value} (R:Rel B w0 m h w) (ku:dv m args args'.toList) (hfr:jE m h.n h'.n) :((∃fn,E.P.funcs[f]?=some fn∧fn.body.isSome=true)∧zq E.P f args' B w0 m h w v h')∨(∃fn,E.P.funcs[f]?=some fn∧fn.body=none∧h'=h∧og fn.name args=some v):=by
 unfold xX at hr;split at hr;·rename_i g hg;obtain⟨h1,h2⟩:=S.Jp f g hg;exact .inl ⟨h1,h2 args h v h' hr B w0 m w args' R ku hfr⟩
 ·split at hr
  ·cases hr
  ·rename_i fn hfn;split at hr
   ·rename_i hbn;obtain⟨vs,hv,e⟩:=bI.1 hr;cases e;exact .inr ⟨fn,hfn,hbn,rfl,hv⟩
   ·rename_i c hc;refine .inl ⟨⟨fn,hfn,by rw[hc];rfl⟩,?_⟩;simp only[aX] at hr;split at hr
    ·rename_i hlen;have RL:args.length≤fn.ntmps:=by simpa using hlen
     have hsz:args'.size=args.length:=by rw[ku.1];simp
     split at hr;·cases hr
     ·rename_i e fr1 h1 hne hx
      obtain⟨vs,hvs,he⟩:=bI.1 hr;cases he;intro cs;let b:Frame:={ fn:=f,tmps:=#[],todo:=[],defers:=[],mode:=.run,kind:=.normal,roundOf:=none };let tmps:Array Value:=args' ++ Array.replicate (fn.ntmps - args'.size) undef;have hen:Frame.enter E.P f args' .normal=on b tmps [.code c] []:=by simp[Frame.enter,hfn,hc,on,b,tmps]
      have Zf:gZ m (nj 0 args) tmps:=by
       intro t u hu;rw[yZ] at hu;simp only[dQ,cq,Nat.sub_zero] at hu;obtain⟨u',h2,h3⟩:=ku.get hu;have h4:args'[t]?=some u':=by simpa using h2
       refine⟨u',?_,h3⟩;have:=(md.1 h4).1;rw[Array.getElem?_append_left this,h4]
      have htsz:fn.ntmps≤tmps.size:=by simp[tmps];omega
      obtain⟨m1,w1,iz,ds1,k1,a1,a2,a3,a4,a5,a6,a7⟩:=CO (b:=b) (rd:=none) (z:=w.heap.size) (cs:=cs) jI fG S.mixed n c _ _ _ _ _ hx m w tmps [] [] R Zf htsz hfr (.inl ⟨rfl,rfl⟩) (ph.nil _ _ _ _) (aA _);obtain⟨rs,d1,d2,d3⟩:=a7;have LO : ∃todo,step E.P (lone (on b iz k1 ds1) cs w1)=.next (lone { on b iz todo ds1 with mode:=.returning } cs w1):=by
       cases e with
       | normal=>obtain rfl:k1=_:=a2;exact⟨_,stepR_end (b:=b) (a:=⟨iz,ds1⟩) rfl⟩
       | exit i=>exact absurd rfl (hne i)
       | ret=>obtain⟨k2,rfl⟩:=a2;exact⟨_,stepR_ret (b:=b) (a:=⟨iz,ds1⟩) rfl⟩
      obtain⟨todo,LO⟩:=LO;obtain⟨w2,b1,b2,b3,b4⟩:=yi (P:=E.P) R.size rs { on b iz todo ds1 with mode:=.returning } cs w1 rfl d1 d2 d3 a5;obtain⟨v',r1,r2⟩:=IP b2 a3 hvs;refine⟨.returned v',w2,{ on b iz todo ds1 with mode:=.returning,defers:=[] },⟨v',m1,rfl,r2,b2,?_⟩,?_,?_,?_⟩;·refine⟨a6.le,a6.new,a6.n,a6.base,fun r hr hk=>?_,a6.idle,by rw[b3];exact a6.size,a6.img,a6.rS⟩;rw[b4 r (fun hm=>by have:=(d3 r hm).1;omega)];exact a6.frame r hr hk
      ·exact(by rw[hen];exact a1.trans (.head LO b1):Steps E.P (lone (Frame.enter E.P f args' .normal) cs w) _)
      ·rfl
      ·exact⟨rfl,rfl,rfl,fn,hfn,r1⟩
     ·cases hr
    ·cases hr
variable {args:Array Value}
def zq.run (H:zq P f args B w0 m h w v h') (c:Frame) (cs:List Frame) :∃v' m' w',bz m' v v'∧Rel B w0 m' h' w'∧Step m h w m' h' w'∧Steps P (lone (Frame.enter P f args .normal) (c :: cs) w) (lone (c.finish v') cs w'):=by obtain⟨e,w',fr,⟨v',m',rfl,h1,h2,h3⟩,hc,_,hl⟩:=H (c :: cs);exact⟨v',m',w',h1,h2,h3,Steps.trans hc (.one (step_leave_returned hl))⟩
def HE (hf:P.funcs[f]?=some fn) (hb:fn.body.isSome=true) (hn:(fn.name == "runtime.NumGoroutine")=false):(callFunc f args).run P w=.ok (.enter f args) w:=by
 have hb':fn.body.isNone=false:=by cases h:fn.body<;>simp_all
 have hp:(program:Sem Program).run P w=.ok P w:=rfl;simp only[callFunc,bJ,hp,bW,hf,hn,hb'];rfl
def CE:Array Value→Sem Value:=fun args=>do
 let (x,y,b) ←Extern.MathBitsCarry.three "Sub64" args
 pure (Extern.MathBitsCarry.pair ((x+Extern.MathBitsCarry.m64 - y - b) % Extern.MathBitsCarry.m64) (if x<y+b then 1 else 0))
def R4 (h:fn.name = "math/bits.Add64"):Extern.find fn=some add64Entry:=by obtain⟨name,origin,params,resultTypes⟩:=fn;simp only at h;subst h;kernel_rfl
def R0 (h:fn.name = "math/bits.Sub64"):Extern.find fn=some CE:=by obtain⟨name,origin,params,resultTypes⟩:=fn;simp only at h;subst h;kernel_rfl
def Rg (h:fn.name = "math/bits.Add64") (ho:fn.origin = "math/bits.Add64" ∨ fn.origin = ""):Extern.findNext fn=none:=by obtain⟨name,origin,params,resultTypes⟩:=fn;simp only at h ho;subst h;rcases ho with ho|ho<;>subst ho<;>kernel_rfl
def Re (h:fn.name = "math/bits.Sub64") (ho:fn.origin = "math/bits.Sub64" ∨ fn.origin = ""):Extern.findNext fn=none:=by obtain⟨name,origin,params,resultTypes⟩:=fn;simp only at h ho;subst h;rcases ho with ho|ho<;>subst ho<;>kernel_rfl
theorem OF (x y:Nat) {c:Nat} (hc:c≤1) (w:World) :(CE #[.int .u64 (x:Int),.int .u64 (y:Int),.int .u64 (c:Int)]).run P w=.ok (.tuple #[.int .u64 (((x+18446744073709551616 - y - c) % 18446744073709551616:Nat):Int),.int .u64 ((if x<y+c then 1 else 0:Nat):Int)]) w:=by have:c=0∨c=1:=aa;rcases this with rfl|rfl<;>rfl
end
end Go.Id
