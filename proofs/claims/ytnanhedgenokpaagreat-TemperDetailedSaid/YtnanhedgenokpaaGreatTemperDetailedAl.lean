/-
  The ideal machine: code. First: numbers only grow; memory that no ideal object stands for. The ideal machine: loops over maps, on the model's machine: one step of an iterator.
-/
import Derived.Test.YtnanhedgenokpaaGreatTemperDetailedAk
import Derived.RangeFuncIn
import Derived.RangeFuncRecord
set_option linter.unusedVariables false
set_option linter.unusedSimpArgs false
set_option linter.defProp false
set_option linter.deprecated false
namespace Go.Id
open Go Go.RowKit
theorem trace_n {E:Env} {call:CallV} (hc:CallMono call) {nt:Nat} {ops:List Oper} : ∀(l:List Oper) (fr:Fr) (h:IH) (tr:List (Fr×IH)),trace E call nt ops l fr h=some tr → ∀x∈tr,h.n≤x.2.n
 | [],fr,h,tr,ht=>by simp only[trace] at ht;cases ht;simp
 | o :: l,fr,h,tr,ht=>by
  rw[trace] at ht
  split at ht
  ·rename_i fr' h' hs
   obtain⟨tr',h1,rfl⟩:=Option.map_eq_some_iff.1 ht
   intro x hx
   rcases List.mem_cons.1 hx with rfl|hx
   ·exact Nat.le_refl _
   ·exact Nat.le_trans (stepOp_n hc hs) (trace_n hc l fr' h' tr' h1 x hx)
  ·cases ht
theorem runDrawn_n {E:Env} {call:CallV} (hc:CallMono call) {nt:Nat} {ops:List Oper} {fr fr':Fr} {h h':IH} (hr:runDrawn E call nt ops fr h=some (fr',h')):h.n≤h'.n:=by
 unfold runDrawn at hr
 cases ht:trace E call nt ops ops fr h with
 | none=>rw[ht] at hr;cases hr
 | some tr =>
  rw[ht] at hr
  simp only[cond_eq_ite] at hr
  split at hr
  ·exact trace_n hc _ _ _ _ ht _ (List.mem_of_getElem? hr)
  ·cases hr
theorem loopN_n {b:Fr→IH→Out} (hb : ∀fr h e fr' h',b fr h=some (e,fr',h')→h.n≤h'.n) : ∀(n:Nat) (fr:Fr) (h:IH) (e:IExit) (fr':Fr) (h':IH),loopN b n fr h=some (e,fr',h')→h.n≤h'.n
 | 0,fr,h,e,fr',h',hr=>by simp[loopN] at hr
 | n+1,fr,h,e,fr',h',hr=>by
  rw[loopN] at hr
  split at hr
  ·rename_i fr1 h1 hb1;exact Nat.le_trans (hb _ _ _ _ _ hb1) (loopN_n hb n _ _ _ _ _ hr)
  ·rename_i hb1;cases hr;exact hb _ _ _ _ _ hb1
  ·rename_i hb1;cases hr;exact hb _ _ _ _ _ hb1
  ·cases hr
theorem rangeFn_inv {E:Env} {call:CallV} {fn:FuncId} {nt:Nat} {rd:Option Nat} {f:Operand} {ps:List Nat} {a b:Code} {fr fr':Fr} {h h':IH} {e:IExit} (hr:rangeFn E call fn nt rd f ps a b fr h=some (e,fr',h')) :
  roundOK h rd=true∧fr'=fr ∧ ∃fv v h1 r,opd fr f=some fv∧call fv [.func (.yield (2*h.n)) #[] #[]] (h.new (.loop { state:=.ready,pending:=none,fn,nt,fr,params:=ps,assign:=a,body:=b }))=some (v,h1) ∧
   loopOf h1 h.n=some r∧r.state≠.busy∧exitOf r.pending=some e∧h' = { h1 with ext:=h1.ext.set h.n .dead }:=by
 unfold rangeFn at hr
 simp only[cond_eq_ite] at hr
 by_cases hro:roundOK h rd=true
 ·simp only[hro,if_true] at hr
  split at hr
  ·cases hr
  ·rename_i fv hfv
   split at hr
   ·cases hr
   ·rename_i v h1 hcall
    split at hr
    ·cases hr
    ·rename_i r hl
     split at hr
     ·cases hr
     ·rename_i hb
      split at hr
      ·cases hr
      ·rename_i e' he
       cases hr
       exact⟨hro,rfl,fv,v,h1,r,hfv,hcall,hl,fun h=>hb (by rw[h];rfl),he,rfl⟩
 ·simp[hro] at hr
theorem rangeFn_n {E:Env} {call:CallV} (hc:CallMono call) {fn:FuncId} {nt:Nat} {rd:Option Nat} {f:Operand} {ps:List Nat} {a b:Code} {fr fr':Fr} {h h':IH} {e:IExit} (hr:rangeFn E call fn nt rd f ps a b fr h=some (e,fr',h')):h.n≤h'.n:=by
 obtain⟨_,_,fv,v,h1,r,_,h2,_,_,_,rfl⟩:=rangeFn_inv hr
 have:=hc _ _ _ _ _ h2
 have e : ∀o,(h.new o).n=h.n+1:=fun _=>rfl
 rw[e] at this
 show h.n≤h1.n
 omega
def headOf:Code→Option (Nat×Nat×Nat×Nat×Code)
 | .seq (.region id ops draw) rest=>(nextOf ops.toList draw).map fun p=>(id,p.1,p.2.1,p.2.2,rest)
 | _=>none
theorem evC_loop {E:Env} {call:CallV} {fn:FuncId} {nt:Nat} {rd:Option Nat} {n:Nat} (b:Code) (fr:Fr) (h:IH):evC E call fn nt rd n (.loop b) fr h =
  match headOf b with
  | some p=>mapLoop (evC E call fn nt rd n p.2.2.2.2) (headFr E fn p.1) nt p.2.1 p.2.2.1 p.2.2.2.1 fr h
  | none=>loopN (evC E call fn nt rd n b) n fr h:=by
 cases b with
 | seq x y =>
  cases x with
  | region id ops draw =>
   simp only[evC,headOf]
   cases nextOf ops.toList draw with
   | none=>rfl
   | some p=>obtain⟨a,b,c⟩:=p;rfl
  | _=>rfl
 | _=>rfl
theorem sizeInd {motive:Code→Prop} (h : ∀c,(∀c',SizeOf.sizeOf c'<SizeOf.sizeOf c→motive c')→motive c) (c:Code):motive c :=
 (measure (SizeOf.sizeOf:Code→Nat)).wf.induction (C:=motive) c h
theorem headOf_size {b:Code} {p:Nat×Nat×Nat×Nat×Code} (h:headOf b=some p):SizeOf.sizeOf p.2.2.2.2<SizeOf.sizeOf b:=by
 unfold headOf at h
 split at h
 ·obtain⟨q,_,rfl⟩:=Option.map_eq_some_iff.1 h
  simp
  omega
 ·cases h
theorem fget_filterMap {g:Nat→Option (Nat×Value)} (hg : ∀s x,g s=some x→x.1=s) : ∀(l:List Nat) (t:Nat) (v:Value),fget (l.filterMap g) t=some v→g t=some (t,v)
 | [],t,v,h=>by simp[fget] at h
 | a :: l,t,v,h=>by
  cases ha:g a with
  | none=>rw[List.filterMap_cons_none ha] at h;exact fget_filterMap hg l t v h
  | some x =>
   obtain⟨s,u⟩:=x
   obtain rfl:s=a:=hg a _ ha
   rw[List.filterMap_cons_some ha] at h
   simp only[fget,cond_eq_ite,beq_iff_eq] at h
   by_cases e:s=t
   ·subst e;simp at h;subst h;exact ha
   ·rw[if_neg e] at h;exact fget_filterMap hg l t v h
theorem common_some {nt n:Nat} {R:List Nat→Out} {e:IExit} {fr':Fr} {h':IH} (hc:common nt n R=some (e,fr',h')) : ∀l:List Nat,l.Perm (List.range n) → ∃fr,R l=some (e,fr,h') ∧ ∀t v,fget fr' t=some v→fget fr t=some v:=by
 unfold common at hc
 split at hc
 case isFalse=>cases hc
 rename_i c
 cases hc
 intro l hl
 obtain⟨fr,hR⟩:=c.choose_spec l hl
 refine⟨fr,hR,fun t v hv=>?_⟩
 have:=fget_filterMap (by
  intro s x hx
  split at hx
  ·cases hx;rfl
  ·cases hx) _ _ _ hv
 split at this
 ·rename_i d
  cases this
  exact d.choose_spec l hl _ _ _ hR
 ·cases this
theorem mapRounds_n {rest:Fr→IH→Out} (hr : ∀fr h e fr' h',rest fr h=some (e,fr',h')→h.n≤h'.n) {hd:Fr→Fr} {nt it nx more kb k:Nat} {es:List (Value×Value)} :
  ∀(l seen:List Nat) (fr:Fr) (h:IH) (e:IExit) (fr':Fr) (h':IH),mapRounds rest hd nt it nx more kb k es l seen fr h=some (e,fr',h')→h.n≤h'.n
 | [],seen,fr,h,e,fr',h',hx=>by
  unfold mapRounds at hx
  split at hx
  case isFalse=>cases hx
  split at hx
  ·cases hx
  ·split at hx
   ·cases hx
   ·exact hr _ _ _ _ _ hx
 | i :: l,seen,fr,h,e,fr',h',hx=>by
  unfold mapRounds at hx
  split at hx
  case isFalse=>cases hx
  split at hx
  ·cases hx
  ·split at hx
   ·cases hx
   ·split at hx
    ·rename_i hy
     have q:=hr _ _ _ _ _ hy;exact Nat.le_trans q (mapRounds_n hr l _ _ _ _ _ _ hx)
    ·have q:=hr _ _ _ _ _ hx;exact q
theorem mapLoop_some {rest:Fr→IH→Out} {hd:Fr→Fr} {nt it nx more:Nat} {fr:Fr} {h:IH} {e:IExit} {fr':Fr} {h':IH} (hx:mapLoop rest hd nt it nx more fr h=some (e,fr',h')) :
  ∃kb k since seen last es,fget (hd fr) it=some (ptr (2*kb) 0)∧h.ext.get kb=some (.iter k since seen last)∧mapOf h k=some es ∧
   ∀l:List Nat,l.Perm (List.range es.length) → ∃frl hl,mapRounds rest hd nt it nx more kb k es l [] fr h=some (e,frl,hl)∧(∃k0 a0 b0 c0,hl.ext.get kb=some (.iter k0 a0 b0 c0))∧h' = { hl with ext:=hl.ext.set kb .dead } ∧ ∀t v,fget fr' t=some v→fget frl t=some v:=by
 unfold mapLoop at hx
 split at hx
 case h_2=>cases hx
 rename_i b hb
 simp only[cond_eq_ite,beq_iff_eq] at hx
 split at hx
 ·cases hx
 ·rename_i hodd
  split at hx
  case h_2=>cases hx
  rename_i k since seen last hit
  split at hx
  case h_2=>cases hx
  rename_i es hes
  refine⟨b / 2,k,since,seen,last,es,by rw[hb,show 2*(b / 2)=b from by omega];rfl,hit,hes,fun l hl=>?_⟩
  obtain⟨frl,h1,h2⟩:=common_some hx l hl
  rw[if_pos hl] at h1
  unfold killIter at h1
  split at h1
  ·cases h1
  ·rename_i p h3
   split at h1
   ·rename_i k0 a0 b0 c0 hg
    cases h1
    exact⟨_,_,h3,⟨k0,a0,b0,c0,hg⟩,rfl,h2⟩
   ·cases h1
theorem mapLoop_n {rest:Fr→IH→Out} (hr : ∀fr h e fr' h',rest fr h=some (e,fr',h')→h.n≤h'.n) {hd:Fr→Fr} {nt it nx more:Nat} {fr:Fr} {h:IH} {e:IExit} {fr':Fr} {h':IH} (hx:mapLoop rest hd nt it nx more fr h=some (e,fr',h')):h.n≤h'.n:=by
 obtain⟨kb,k,since,seen,last,es,_,_,_,ha⟩:=mapLoop_some hx
 obtain⟨frl,hl,h1,_,rfl,_⟩:=ha _ (List.Perm.refl _)
 exact show h.n≤hl.n from mapRounds_n hr _ _ _ _ _ _ _ h1
theorem evC_n {E:Env} {call:CallV} (hc:CallMono call) {fn:FuncId} {nt:Nat} {rd:Option Nat} {n:Nat} : ∀(c:Code) (fr:Fr) (h:IH) (e:IExit) (fr':Fr) (h':IH),evC E call fn nt rd n c fr h=some (e,fr',h')→h.n≤h'.n:=by
 intro c
 induction c using sizeInd with
 | h c IH =>
 cases c with
 | skip=>intro fr h e fr' h' hr;simp only[evC] at hr;cases hr;exact Nat.le_refl _
 | label l=>intro fr h e fr' h' hr;simp only[evC] at hr;cases hr;exact Nat.le_refl _
 | region id ops draw =>
  intro fr h e fr' h' hr
  simp only[evC] at hr
  split at hr
  ·rename_i fr1 h1 hx
   cases hr
   cases draw with
   | true=>exact runDrawn_n hc hx
   | false=>exact runOps_n hc _ _ _ _ _ hx
  ·cases hr
 | seq a b =>
  have iha:=IH a (by simp<;>omega)
  have ihb:=IH b (by simp<;>omega)
  intro fr h e fr' h' hr
  simp only[evC] at hr
  split at hr
  ·rename_i fr1 h1 hx;exact Nat.le_trans (iha _ _ _ _ _ hx) (ihb _ _ _ _ _ hr)
  ·rename_i hx;cases hr;exact iha _ _ _ _ _ hx
  ·rename_i hx;cases hr;exact iha _ _ _ _ _ hx
  ·cases hr
 | cond x a b =>
  have iha:=IH a (by simp<;>omega)
  have ihb:=IH b (by simp<;>omega)
  intro fr h e fr' h' hr
  simp only[evC] at hr
  split at hr
  ·exact iha _ _ _ _ _ hr
  ·exact ihb _ _ _ _ _ hr
  ·cases hr
 | block id b =>
  have ih:=IH b (by simp<;>omega)
  intro fr h e fr' h' hr
  simp only[evC,cond_eq_ite] at hr
  split at hr
  ·rename_i hx
   split at hr<;>(cases hr;exact ih _ _ _ _ _ hx)
  ·rename_i hx;cases hr;exact ih _ _ _ _ _ hx
  ·rename_i hx;cases hr;exact ih _ _ _ _ _ hx
  ·cases hr
 | loop b =>
  have ih:=IH b (by simp<;>omega)
  intro fr h e fr' h' hr
  rw[evC_loop] at hr
  split at hr
  ·rename_i p hp
   exact mapLoop_n (IH _ (Nat.lt_trans (headOf_size hp) (by simp<;>omega))) hr
  ·exact loopN_n (fun fr h e fr' h' hx=>ih fr h e fr' h' hx) n _ _ _ _ _ hr
 | scope b=>have ih:=IH b (by simp<;>omega);intro fr h e fr' h' hr;simp only[evC] at hr;exact ih _ _ _ _ _ hr
 | rangeFunc f ps a b=>intro fr h e fr' h' hr;simp only[evC] at hr;exact rangeFn_n hc hr
 | exit i=>intro fr h e fr' h' hr;simp only[evC] at hr;cases hr;exact Nat.le_refl _
 | ret=>intro fr h e fr' h' hr;simp only[evC] at hr;cases hr;exact Nat.le_refl _
 | goto i=>intro fr h e fr' h' hr;simp only[evC] at hr;cases hr
 | refuse i=>intro fr h e fr' h' hr;simp only[evC] at hr;cases hr
theorem Rel.keep {B:Nat} {w0:World} {m:Mp} {h:IH} {w w':World} (R:Rel B w0 m h w) (hb:Below B w0 w') (hs:w.heap.size≤w'.heap.size)
  (hk : ∀r,(r<B ∨ ∃k s,k<h.n∧m (2*k)=some (r,s))→w'.heap[r]?=w.heap[r]?):Rel B w0 m h w':=by
 refine⟨hb,Nat.le_trans R.size hs,fun b cs hx=>?_,R.odd,fun k r s hm=>⟨(R.even k r s hm).1,Nat.lt_of_lt_of_le (R.even k r s hm).2 hs⟩,R.dom,fun k o r s ho hm=>?_,R.own,R.famdom,R.fam,R.long,R.whole⟩
 ·obtain⟨r0,s0,m0,a,c,el,fz,d,e⟩:=R.base b cs hx
  exact⟨r0,s0,m0,a,c,el,fz,by rw[hk r0 (.inl a)];exact d,e⟩
 ·have hkn:k<h.n:=by
   rcases Nat.lt_or_ge k h.n with e|e
   ·exact e
   ·rw[R.dom k e] at ho;cases ho
  exact(R.obj k o r s ho hm).mono (Mp.le_refl m) (hk r (.inr ⟨k,s,hkn,hm⟩)) rfl
theorem Rel.ghost {B:Nat} {w0:World} {m:Mp} {h:IH} {w:World} (R:Rel B w0 m h w) (O:Obj):Rel B w0 m h (w.alloc O)∧Step m h w m h (w.alloc O):=by
 have hold : ∀r,r<w.heap.size→(w.alloc O).heap[r]?=w.heap[r]?:=fun r hr=>by rw[heap_alloc,if_neg (by omega)]
 refine⟨R.keep (below_alloc R.below R.size O) (by rw[size_alloc];omega) ?_,⟨Mp.le_refl m,fun b hb=>absurd rfl hb,Nat.le_refl _,rfl,fun r hr _=>hold r hr,fun _ _ _=>rfl,by rw[size_alloc];omega,fun k r s a b=>by omega,fun _ _ _ h=>h⟩⟩
 rintro r (hr|⟨k,s,_,hm⟩)
 ·exact hold r (Nat.lt_of_lt_of_le hr R.size)
 ·exact hold r (R.even k r s hm).2
def markOf (r:Nat):Deferred:={ target:=.collected r,args:=#[] }
def DefOK (z:Nat) (m:Mp) (h:IH) (w:World) (ds:List Deferred):Prop :=
 ∃rs:List Nat,ds=rs.map markOf∧rs.Nodup ∧ ∀r∈rs,z≤r∧w.heap[r]?=some (.deferred (some [])) ∧ ∀k s,k<h.n→m (2*k)≠some (r,s)
theorem heap_lt {w:World} {r:Nat} {o:Obj} (h:w.heap[r]?=some o):r<w.heap.size:=(Array.getElem?_eq_some_iff.1 h).1
theorem DefOK.step {z:Nat} {m m':Mp} {h h':IH} {w w':World} {ds:List Deferred} (d:DefOK z m h w ds) (s:Step m h w m' h' w'):DefOK z m' h' w' ds:=by
 obtain⟨rs,h1,h2,h3⟩:=d
 refine⟨rs,h1,h2,fun r hr=>?_⟩
 obtain⟨a,b,c⟩:=h3 r hr
 refine⟨a,by rw[s.frame r (heap_lt b) c];exact b,fun k x hk hm=>?_⟩
 by_cases hkn:k<h.n
 ·rw[s.old hkn] at hm;exact c k x hkn hm
 ·rcases s.img k r x (by omega) hk hm with e|⟨k0,s0,e1,e2⟩
  ·have:=heap_lt b;omega
  ·exact c k0 s0 e1 e2
theorem DefOK.nil (z:Nat) (m:Mp) (h:IH) (w:World):DefOK z m h w []:=⟨[],rfl,List.nodup_nil,by simp⟩
theorem DefOK.push {B:Nat} {w0:World} {z:Nat} {m:Mp} {h:IH} {w:World} {ds:List Deferred} (d:DefOK z m h w ds) (R:Rel B w0 m h w) (hz:z≤w.heap.size):DefOK z m h (w.alloc (.deferred (some []))) (markOf w.heap.size :: ds):=by
 obtain⟨rs,h1,h2,h3⟩:=d.step (R.ghost (.deferred (some []))).2
 refine⟨w.heap.size :: rs,by rw[h1];rfl,List.nodup_cons.2 ⟨fun hm=>?_,h2⟩,fun r hr=>?_⟩
 ·obtain⟨rs',e1,e2,e3⟩:=d
  have:rs'=rs:=by
   have e:=e1.symm.trans h1
   have inj : ∀a b,markOf a=markOf b→a=b:=by intro a b h;simp[markOf] at h;exact h
   exact List.map_inj_right (fun a b=>inj a b) |>.1 e
  subst this
  have:=heap_lt (e3 _ hm).2.1
  omega
 ·rcases List.mem_cons.1 hr with rfl|hr
  ·refine⟨hz,by rw[heap_alloc,if_pos rfl],fun k s _ hm=>?_⟩
   have:=(R.even k _ s hm).2;omega
  ·exact h3 r hr
end Go.Id

namespace Go.Id
open Go Go.RowKit
theorem run_chooseNext (P:Program) (w:World) {n:Nat} (hn:0<n) : ∃i d,i<n∧(choose (.mapNext n)).run P w=.ok i { w with drawn:=d }:=by
 simp only[choose,Sem.run]
 by_cases h:(Question.mapNext n).forced=true
 ·rw[if_pos h];exact⟨0,w.drawn,hn,rfl⟩
 ·rw[if_neg h];exact⟨_,_,Nat.mod_lt _ hn,rfl⟩
theorem run_setObj_iter (P:Program) {w:World} {r:Nat} {a:Option Nat} {b d:Nat} {c:Array Nat} (h:w.heap[r]?=some (.mapIter a b c d)) (o:Obj):(Go.setObj r o).run P w=.ok () (World.put w r o):=by
 simp only[Go.setObj,Sem.run,h];rfl
theorem born_lt {m:Mp} {es:List (Value×Value)} {c:Array MapEntry} (h:MapRel m es c) {e:MapEntry} (he:e∈c):e.born<es.length∧c[e.born]?=some e:=by
 obtain⟨i,hi,rfl⟩:=Array.mem_iff_getElem.1 he
 have:=h.born i c[i] (Array.getElem?_eq_getElem hi)
 rw[this]
 exact⟨by have:=h.1;omega,Array.getElem?_eq_getElem hi⟩
theorem run_next (P:Program) {m:Mp} {es:List (Value×Value)} {c:Array MapEntry} (hcm:MapRel m es c) {w:World} {r rm:Nat} {seen:List Nat}
  (hit:w.heap[r]?=some (.mapIter (some rm) es.length seen.toArray es.length)) (hmap:w.heap[rm]?=some (.map c es.length)) (t:TypeId) :
  ((∀i,i<es.length→i∈seen) ∧ ∃d,(Instr.next (.pointer (some ⟨r,0,none⟩)) false t).run P w=.ok (.tuple #[.bool false]) { w with drawn:=d }) ∨
  ∃i e' d,i∉seen∧c[i]?=some e'∧(Instr.next (.pointer (some ⟨r,0,none⟩)) false t).run P w=.ok (.tuple #[.bool true,e'.key,e'.val]) (World.put { w with drawn:=d } r (.mapIter (some rm) es.length (seen.toArray.push i) es.length)):=by
 have hcond:(!seen.toArray.isEmpty && !c.isEmpty && c.all fun e=>decide (e.born ≥ es.length))=false:=by
  cases hc:c.isEmpty with
  | true=>simp
  | false =>
   have hpos:0<c.size:=by
    rcases Nat.eq_zero_or_pos c.size with h|h
    ·rw[Array.isEmpty_iff_size_eq_zero.2 h] at hc;cases hc
    ·exact h
   have hb:=hcm.born 0 c[0] (Array.getElem?_eq_getElem hpos)
   have:(c.all fun e=>decide (e.born ≥ es.length))=false:=by
    rw[Bool.eq_false_iff]
    intro hall
    have:=Array.all_eq_true.1 hall 0 hpos
    rw[hb] at this
    have h1:=of_decide_eq_true this
    have:=hcm.1
    omega
   rw[this];simp
 obtain⟨left,hleft⟩ : ∃l,l=c.filter fun e => !seen.toArray.contains e.born:=⟨_,rfl⟩
 have hmem : ∀e∈left,e∈c∧e.born∉seen:=by
  intro e he
  rw[hleft,Array.mem_filter] at he
  exact⟨he.1,by simpa using he.2⟩
 have hold:(left.filter fun e=>decide (e.born<es.length))=left:=by
  rw[Array.filter_eq_self]
  intro e he
  simpa using (born_lt hcm (hmem e he).1).1
 have hnew:(left.filter fun e=>decide (e.born ≥ es.length)) = #[]:=by
  rw[Array.filter_eq_empty_iff]
  intro e he
  have:=(born_lt hcm (hmem e he).1).1
  simp;omega
 have hrun : ∀i d,i<((if left.isEmpty then #[none] else #[]) ++ (left ++ #[]).map some:Array (Option MapEntry)).size →
   (choose (.mapNext ((if left.isEmpty then #[none] else #[]) ++ (left ++ #[]).map some:Array (Option MapEntry)).size)).run P w=.ok i { w with drawn:=d } →
   (Instr.next (.pointer (some ⟨r,0,none⟩)) false t).run P w=(match ((if left.isEmpty then #[none] else #[]) ++ (left ++ #[]).map some:Array (Option MapEntry))[i]? with
    | some (some e)=>.ok (.tuple #[.bool true,e.key,e.val]) (World.put { w with drawn:=d } r (.mapIter (some rm) es.length (seen.toArray.push e.born) es.length))
    | some none=>.ok (.tuple #[.bool false]) { w with drawn:=d }
    | none=>(stuck "Next: no such candidate" : Sem Value).run P { w with drawn:=d }):=by
  intro i d hi hch
  have hit2:({ w with drawn:=d }:World).heap[r]?=some (.mapIter (some rm) es.length seen.toArray es.length):=hit
  simp only[Instr.next,Sem.run_bind,run_getObj_iter P hit,Result.andThen_ok,run_getObj_map P hmap,hcond,Bool.false_eq_true,if_false,←hleft,hold,hnew,hch]
  generalize ((if left.isEmpty then #[none] else #[]) ++ (left ++ #[]).map some:Array (Option MapEntry))[i]?=y
  cases y with
  | none=>rfl
  | some y=>cases y with
   | none=>rfl
   | some e =>
    simp only[Sem.run_bind,run_setObj_iter P hit2,Result.andThen_ok,Sem.run_pure]
 by_cases hem:left.isEmpty=true
 ·left
  have hl0:left = #[]:=by simpa using hem
  refine⟨fun i hi=>?_,?_⟩
  ·apply Classical.byContradiction
   intro hns
   have hic:i<c.size:=by have:=hcm.1;omega
   have hb:=hcm.born i c[i] (Array.getElem?_eq_getElem hic)
   have:c[i]∈left:=by
    rw[hleft,Array.mem_filter]
    exact⟨Array.getElem_mem hic,by rw[hb];simpa using hns⟩
   rw[hl0] at this
   simp at this
  ·obtain⟨i,d,hi,hch⟩:=run_chooseNext P w (n:=((if left.isEmpty then #[none] else #[]) ++ (left ++ #[]).map some:Array (Option MapEntry)).size) (by simp[hl0])
   refine⟨d,?_⟩
   rw[hrun i d hi hch]
   simp only[hl0] at hi ⊢
   simp at hi
   subst hi
   simp
 ·right
  have hne:left.isEmpty=false:=by simpa using hem
  have hcand:((if left.isEmpty then #[none] else #[]) ++ (left ++ #[]).map some:Array (Option MapEntry))=left.map some:=by simp[hne]
  have hpos:0<left.size:=by
   rcases Nat.eq_zero_or_pos left.size with h|h
   ·rw[Array.isEmpty_iff_size_eq_zero.2 h] at hne;cases hne
   ·exact h
  obtain⟨i,d,hi,hch⟩:=run_chooseNext P w (n:=((if left.isEmpty then #[none] else #[]) ++ (left ++ #[]).map some:Array (Option MapEntry)).size) (by rw[hcand];simpa using hpos)
  have hr:=hrun i d hi hch
  rw[hcand] at hr hi
  have hil:i<left.size:=by simpa using hi
  have hgi:(left.map some)[i]?=some (some left[i]):=by simp[hil]
  rw[hgi] at hr
  obtain⟨h1,h2⟩:=hmem left[i] (Array.getElem_mem hil)
  obtain⟨_,h3⟩:=born_lt hcm h1
  exact⟨left[i].born,left[i],d,h2,h3,hr⟩
theorem put_same {w:World} {r:Nat} {o:Obj} (h:w.heap[r]?=some o):World.put w r o=w:=by
 have hr:r<w.heap.size:=by
  rcases Nat.lt_or_ge r w.heap.size with h'|h'
  ·exact h'
  ·rw[Array.getElem?_eq_none h'] at h;cases h
 have he:w.heap[r]=o:=by rw[Array.getElem?_eq_getElem hr] at h;exact Option.some.inj h
 subst he
 show { w with heap:=w.heap.setIfInBounds r w.heap[r] }=w
 rw[Array.setIfInBounds_def,dif_pos hr,Array.set_getElem_self]
end Go.Id
