/-
  The ideal machine: small laws for regions whose order is open. The ideal machine: a region whose order is open: what is known of the memory while some of its operations are done.
-/
import Derived.Test.YthpefnfbnaekaaaGreatBracketDividesAc
import Derived.Orders
import Derived.RangeFuncIn
import Derived.RangeFuncRecord
set_option linter.unusedVariables false
set_option linter.unusedSimpArgs false
set_option linter.defProp false
set_option linter.deprecated false
namespace Go.Id
open Go Go.RowKit
theorem eqS_eq {a b:Value} (h:eqS a b=true):a=b:=by
 unfold eqS at h
 split at h
 case h_3 a b =>
  simp only[beq_iff_eq] at h
  have:a=b:=by cases a;cases b;simp only at h;rw[Array.toList_inj.1 h]
  rw[this]
 all_goals simp_all
theorem eqL_eq : ∀{a b:List Value},eqL a b=true→a=b
 | [],[],_=>rfl
 | [],_ :: _,h=>by simp[eqL] at h
 | _ :: _,[],h=>by simp[eqL] at h
 | x :: a,y :: b,h=>by
  simp only[eqL,Bool.and_eq_true] at h
  rw[eqS_eq h.1,eqL_eq h.2]
theorem eqA_eq {a b:Value} (h:eqA a b=true):a=b:=by
 unfold eqA at h
 split at h
 ·rw[Array.toList_inj.1 (eqL_eq h)]
 ·simp only[Bool.and_eq_true,beq_iff_eq] at h
  rw[h.1.1,Array.toList_inj.1 (eqL_eq h.1.2),Array.toList_inj.1 (eqL_eq h.2)]
 ·exact eqS_eq h
theorem eqT_eq : ∀{a b:List Value},eqT a b=true→a=b
 | [],[],_=>rfl
 | [],_ :: _,h=>by simp[eqT] at h
 | _ :: _,[],h=>by simp[eqT] at h
 | x :: a,y :: b,h=>by
  simp only[eqT,Bool.and_eq_true] at h
  rw[eqA_eq h.1,eqT_eq h.2]
theorem eqV0_eq {a b:Value} (h:eqV0 a b=true):a=b:=by
 unfold eqV0 at h
 split at h
 ·rw[Array.toList_inj.1 (eqT_eq h)]
 ·exact eqA_eq h
theorem eqV_eq {a b:Value} (h:eqV a b=true):a=b:=by
 simp only[eqV,Bool.or_eq_true,decide_eq_true_eq] at h
 exact h.elim eqV0_eq id
theorem fget_keepOnly (fr:Fr) : ∀(l:List Nat) (t:Nat),fget (keepOnly fr l) t=if t∈l then fget fr t else none
 | [],t=>by simp[keepOnly,fget]
 | a :: l,t=>by
  rw[keepOnly]
  cases ha:fget fr a with
  | none =>
   simp only[fget_keepOnly fr l t]
   by_cases h1:t∈l
   ·simp[h1]
   ·by_cases h2:t=a
    ·subst h2;simp[h1,ha]
    ·simp[h1,h2]
  | some v =>
   simp only[fget,cond_eq_ite,beq_iff_eq,fget_keepOnly fr l t]
   by_cases h2:a=t
   ·subst h2;simp[ha]
   ·by_cases h1:t∈l
    ·simp[h1,h2]
    ·have : ¬t=a:=fun e=>h2 e.symm
     simp[h1,h2,this]
theorem opds_congr {fr fr2:Fr} : ∀(l:List Operand),(∀x∈l,opd fr x=opd fr2 x)→opds fr l=opds fr2 l
 | [],_=>rfl
 | x :: l,h=>by rw[opds,opds,h x (by simp),opds_congr l (fun y hy=>h y (by simp[hy]))]
theorem partsOf_congr {fr fr2:Fr} : ∀(l:List (Nat×Operand)),(∀x∈l.map (·.2),opd fr x=opd fr2 x)→partsOf fr l=partsOf fr2 l
 | [],_=>rfl
 | (i,x) :: l,h=>by rw[partsOf,partsOf,h x (by simp),partsOf_congr l (fun y hy=>h y (by simp only[List.map_cons,List.mem_cons];exact .inr hy))]
theorem optOpd_congr {fr fr2:Fr} {o:Option Operand} (h : ∀x∈o.toArray,opd fr x=opd fr2 x):optOpd fr o=optOpd fr2 o:=by
 cases o with
 | none=>rfl
 | some x=>simp only[optOpd];rw[h x (by simp)]
theorem iop_congr {P:Program} {fr fr2:Fr} {o:Op} (h : ∀x∈o.operands,opd fr x=opd fr2 x) (hp:IH):iop P fr o hp=iop P fr2 o hp:=by
 cases o<;>simp only[Op.operands] at h<;>simp only[iop]
 case move x=>rw[h x (by simp)]
 case assign x=>rw[h x (by simp)]
 case pick c a b=>rw[h c (by simp),h a (by simp),h b (by simp)]
 case box t x=>rw[h x (by simp)]
 case build t ps=>rw[partsOf_congr ps.toList (fun x hx=>h x (by simpa using hx))]
 case buildSlice t n ps=>rw[partsOf_congr ps.toList (fun x hx=>h x (by simpa using hx))]
 case load t a=>rw[h a (by simp)]
 case store t a v=>rw[h a (by simp),h v (by simp)]
 case nilCheck x=>rw[h x (by simp)]
 case binOp op t x y yt=>rw[h x (by simp),h y (by simp)]
 case unOp op t x=>rw[h x (by simp)]
 case convert s d x=>rw[h x (by simp)]
 case sliceToArrayPointer t x=>rw[h x (by simp)]
 case makeFunc fn first cap =>
  rw[opds_congr first.toList (fun x hx=>h x (by simp at hx ⊢;exact .inl hx)),opds_congr cap.toList (fun x hx=>h x (by simp at hx ⊢;exact .inr hx))]
 case makeMap t r=>cases r with
  | none=>rfl
  | some x=>simp only;rw[h x (by simp)]
 case makeSlice t l c=>rw[h l (by simp),h c (by simp)]
 case slice t x lo hi mx =>
  rw[h x (by simp),optOpd_congr (o:=lo) (fun y hy=>h y (by simp at hy ⊢;simp[hy])),optOpd_congr (o:=hi) (fun y hy=>h y (by simp at hy ⊢;simp[hy])),optOpd_congr (o:=mx) (fun y hy=>h y (by simp at hy ⊢;simp[hy]))]
 case fieldAddr t x f=>rw[h x (by simp)]
 case field t x f=>rw[h x (by simp)]
 case indexAddr t x i=>rw[h x (by simp),h i (by simp)]
 case index t x i=>rw[h x (by simp),h i (by simp)]
 case lookup t m k ok=>rw[h m (by simp),h k (by simp)]
 case mapUpdate t m k v=>rw[h m (by simp),h k (by simp),h v (by simp)]
 case insert t m k v=>rw[h m (by simp),h k (by simp),h v (by simp)]
 case extract x i=>rw[h x (by simp)]
 case range t x=>rw[h x (by simp)]
 case entry x=>rw[h x (by simp)]
 case call c =>
  cases hc:c.callee with
  | builtin b=>simp only;rw[opds_congr c.args.toList (fun x hx=>h x (by simp[Call.operands,hc];simpa using hx))]
  | value f=>rfl
  | invoke r n=>rfl
theorem runOp_congr {E:Env} {call:CallV} {fr fr2:Fr} {o:Op} (h : ∀x∈o.operands,opd fr x=opd fr2 x) (hp:IH):runOp E call fr o hp=runOp E call fr2 o hp:=by
 unfold runOp
 split
 ·rename_i c
  split
  ·rename_i f hc
   simp only[Op.operands,Call.operands,hc] at h
   rw[h f (by simp),opds_congr c.args.toList (fun x hx=>h x (by simp;exact .inr (by simpa using hx)))]
  ·exact iop_congr h hp
 ·exact iop_congr h hp
theorem opd_keep (fr:Fr) (ops:List Oper) (o:Oper) : ∀x∈o.op.operands,opd (keepOnly fr (reads ops o)) x=opd fr x:=by
 intro x hx
 cases x with
 | tmp t =>
  simp only[opd,fget_keepOnly]
  rw[if_pos ?_]
  unfold reads tmpsOf
  exact List.mem_append_left _ (List.mem_filterMap.2 ⟨.tmp t,by simpa using hx,rfl⟩)
 | _=>rfl
theorem wanted_keep (fr:Fr) (ops:List Oper) (o:Oper):wantedI ops o (keepOnly fr (reads ops o))=wantedI ops o fr:=by
 unfold wantedI
 cases hg:o.guard with
 | none=>rfl
 | some jw =>
  obtain⟨j,want⟩:=jw
  simp only
  cases hd:(ops[j]?).bind (·.dst) with
  | none=>rfl
  | some d =>
   simp only
   rw[fget_keepOnly,if_pos ?_]
   unfold reads
   exact List.mem_append_right _ (by simp[hg,hd])
theorem trace_spec {E:Env} {call:CallV} {nt:Nat} {ops:List Oper} : ∀(l:List Oper) (fr:Fr) (h:IH) (tr:List (Fr×IH)),trace E call nt ops l fr h=some tr →
  tr.length=l.length+1∧tr[0]?=some (fr,h) ∧ ∀(i:Nat) (o:Oper),l[i]?=some o → ∃fr1 h1 fr2 h2,tr[i]?=some (fr1,h1)∧tr[i+1]?=some (fr2,h2)∧stepOp E call nt ops o fr1 h1=some (fr2,h2)
 | [],fr,h,tr,ht=>by simp only[trace] at ht;cases ht;exact⟨rfl,rfl,by simp⟩
 | o :: l,fr,h,tr,ht=>by
  rw[trace] at ht
  split at ht
  ·rename_i fr' h' hs
   obtain⟨tr',h1,rfl⟩:=Option.map_eq_some_iff.1 ht
   obtain⟨a,b,c⟩:=trace_spec l fr' h' tr' h1
   refine⟨by simp[a],rfl,fun i o' hi=>?_⟩
   cases i with
   | zero=>simp at hi;subst hi;exact⟨fr,h,fr',h',rfl,by simpa using b,hs⟩
   | succ i=>simp at hi;obtain⟨x1,x2,x3,x4,y1,y2,y3⟩:=c i o' hi;exact⟨x1,x2,x3,x4,by simpa using y1,by simpa using y2,y3⟩
  ·cases ht
theorem testBit_mask (acc:List Nat) (i:Nat) : ∀(es:List Edge),(es.foldr (fun e s=>bif Region.binds .any e then s ||| 2 ^ e.on ||| acc.getD e.on 0 else s) 0).testBit i=es.any (fun e=>Region.binds .any e && (e.on == i || (acc.getD e.on 0).testBit i))
 | []=>by simp
 | e :: es=>by
  rw[List.foldr_cons,List.any_cons,←testBit_mask acc i es]
  cases hb:Region.binds .any e with
  | false=>simp
  | true =>
   simp only[cond_true,Nat.testBit_or,Nat.testBit_two_pow,Bool.true_and]
   have:decide (e.on=i)=(e.on == i):=by by_cases h:e.on=i<;>simp[h]
   rw[this]
   cases(List.foldr (fun e s=>bif Region.binds .any e then s ||| 2 ^ e.on ||| acc.getD e.on 0 else s) 0 es).testBit i<;>cases(e.on == i)<;>cases(acc.getD e.on 0).testBit i<;>rfl
theorem masks_spec : ∀(l:List Oper) (acc:List Nat),(masks acc l).length=acc.length+l.length∧(masks acc l).take acc.length=acc ∧
  ∀(j:Nat) (o:Oper),l[j]?=some o→(masks acc l)[acc.length+j]?=some (maskOf ((masks acc l).take (acc.length+j)) o)
 | [],acc=>by simp[masks]
 | o :: l,acc=>by
  obtain⟨h1,h2,h3⟩:=masks_spec l (acc ++ [maskOf acc o])
  rw[masks]
  simp only[List.length_append,List.length_cons,List.length_nil] at h1 h2 h3
  have hpre:(masks (acc ++ [maskOf acc o]) l).take acc.length=acc:=by
   have:=congrArg (List.take acc.length) h2
   rw[List.take_take,List.take_append_of_le_length (Nat.le_refl _),List.take_length] at this
   rw[Nat.min_eq_left (by omega)] at this
   exact this
  refine⟨by rw[h1,List.length_cons];omega,hpre,fun j o' hj=>?_⟩
  cases j with
  | zero =>
   simp at hj;subst hj
   rw[Nat.add_zero,hpre]
   have:((masks (acc ++ [maskOf acc o]) l).take (acc.length+1))[acc.length]?=some (maskOf acc o):=by rw[h2];simp
   rw[List.getElem?_take] at this
   simpa using this
  | succ j =>
   simp at hj
   have:=h3 j o' hj
   rw[show acc.length+(j+1)=acc.length+(0+1)+j from by omega]
   exact this
def beforeB (ops:List Oper) (j i:Nat):Bool:=((masks [] ops).getD j 0).testBit i
theorem beforeB_iff {ops:List Oper} {j i:Nat} {o:Oper} (ho:ops[j]?=some o) (hlt : ∀e∈o.after,Region.binds .any e=true→e.on<j) :
  beforeB ops j i=true ↔ ∃e∈o.after,Region.binds .any e=true∧(e.on=i∨beforeB ops e.on i=true):=by
 obtain⟨_,_,h3⟩:=masks_spec ops []
 have hm:=h3 j o ho
 simp only[List.length_nil,Nat.zero_add] at hm
 unfold beforeB
 rw[List.getD_eq_getElem?_getD,hm,Option.getD_some]
 unfold maskOf
 rw[testBit_mask,List.any_eq_true]
 constructor
 ·rintro⟨e,he,hb⟩
  simp only[Bool.and_eq_true,Bool.or_eq_true,beq_iff_eq] at hb
  refine⟨e,by simpa using he,hb.1,?_⟩
  have:=hlt e (by simpa using he) hb.1
  rcases hb.2 with h|h
  ·exact .inl h
  ·right;rw[List.getD_eq_getElem?_getD,List.getElem?_take,if_pos this] at h;rw[List.getD_eq_getElem?_getD];exact h
 ·rintro⟨e,he,hb,h⟩
  have hl:=hlt e he hb
  refine⟨e,by simpa using he,?_⟩
  simp only[Bool.and_eq_true,Bool.or_eq_true,beq_iff_eq]
  refine⟨hb,?_⟩
  rcases h with h|h
  ·exact .inl h
  ·right;rw[List.getD_eq_getElem?_getD,List.getElem?_take,if_pos hl];rw[List.getD_eq_getElem?_getD] at h;exact h
theorem Rel.addObj {B:Nat} {w0:World} {m:Mp} {h:IH} {w:World} (R:Rel B w0 m h w) (o:IObj) (hl:o.lone=true)
  (hm:m (2*h.n)=none ∨ ∃r,m (2*h.n)=some (r,0)∧ObjRel m w r 0 (m.ez (2*h.n)) o ∧ ∀k s,k<h.n→m (2*k)≠some (r,s)):Rel B w0 m (h.new o) w:=by
 have hget : ∀k,(h.new o).ext.get k=if k=h.n then some o else h.ext.get k:=fun k=>Tr.get_set _ _ _ _
 have hdn:=R.dom h.n (Nat.le_refl _)
 have hn:(h.new o).n=h.n+1:=rfl
 have hlt : ∀{k x},h.ext.get k=some x→k<h.n:=by
  intro k x hk
  rcases Nat.lt_or_ge k h.n with e|e
  ·exact e
  ·rw[R.dom k e] at hk;cases hk
 refine⟨R.below,R.size,R.base,R.odd,R.even,?_,?_,?_,?_,?_,?_,R.whole⟩
 ·intro k hk;rw[hget,if_neg (by omega)];exact R.dom k (by omega)
 ·intro k x r s hk hr
  rw[hget] at hk
  by_cases e:k=h.n
  ·subst e;rw[if_pos rfl] at hk;cases hk
   rcases hm with e|⟨r',h1,h2,_⟩
   ·rw[e] at hr;cases hr
   ·rw[h1] at hr;cases hr;exact h2
  ·rw[if_neg e] at hk;exact R.obj k x r s hk hr
 ·intro k k' x x' r s s' hne hk hk' ha ha' hr hr'
  rw[hget] at hk hk'
  by_cases e:k=h.n
  ·subst e
   rw[if_neg (fun e=>hne e.symm)] at hk'
   rcases hm with e|⟨r',h1,_,h3⟩
   ·rw[e] at hr;cases hr
   ·rw[h1] at hr;cases hr
    exact absurd hr' (h3 k' s' (hlt hk'))
  ·by_cases e':k'=h.n
   ·subst e'
    rw[if_neg e] at hk
    rcases hm with e|⟨r',h1,_,h3⟩
    ·rw[e] at hr';cases hr'
    ·rw[h1] at hr';cases hr'
     exact absurd hr (h3 k s (hlt hk))
   ·rw[if_neg e] at hk;rw[if_neg e'] at hk'
    exact kin_new hdn (R.own k k' x x' r s s' hne hk hk' ha ha' hr hr')
 ·intro f st hf
  obtain⟨a,b,c⟩:=R.famdom f st hf
  exact⟨Nat.lt_succ_of_lt a,fun x hx=>Nat.lt_succ_of_lt (b x hx),c⟩
 ·intro k cs t f hk
  rw[hget] at hk
  by_cases e:k=h.n
  ·rw[if_pos e] at hk;cases hk;simp[IObj.lone] at hl
  ·rw[if_neg e] at hk;exact R.fam k cs t f hk
 ·intro f st hf
  have hltf:=(R.famdom f st hf).2.1
  refine(R.long f st hf).imp_of_mem fun {x y} hx hy hxy=>?_
  intro cs t g cs' t' g' r s s' h1 h2 h3 h4
  rw[hget,if_neg (by have:=hltf x hx;omega)] at h1;rw[hget,if_neg (by have:=hltf y hy;omega)] at h2
  exact hxy cs t g cs' t' g' r s s' h1 h2 h3 h4
theorem Rel.mapIn {B:Nat} {w0:World} {m:Mp} {h:IH} {w:World} (R:Rel B w0 m h w) (k:Nat) (O:Obj) (z:Nat×Nat) (hm:m (2*k)=none)
  (hobj : ∀o,h.ext.get k=some o→o.lone=true∧ObjRel m (w.alloc O) w.heap.size 0 z o) (hst : ∀f st,h.fams.get f=some st→k∉st):Rel B w0 (m.upd (2*k) (w.heap.size,0) z) h (w.alloc O):=by
 have hle:m.le (m.upd (2*k) (w.heap.size,0) z):=Mp.le_upd hm
 have hold : ∀r,r<w.heap.size→(w.alloc O).heap[r]?=w.heap[r]?:=fun r hr=>by rw[heap_alloc,if_neg (by omega)]
 refine⟨below_alloc R.below R.size O,by rw[size_alloc];have:=R.size;omega,?_,?_,?_,R.dom,?_,?_,R.famdom,R.fam,?_,?_⟩
 ·intro b cs hb
  obtain⟨r0,s0,hm0,hb1,c,el,fz,hc,hr⟩:=R.base b cs hb
  refine⟨r0,s0,by rw[Mp.upd_ne _ _ _ (by omega)];exact hm0,hb1,c,el,fz,?_,hr.1,fun i v hv=>let ⟨v',x,y⟩:=hr.2 i v hv;⟨v',x,y.mono hle⟩⟩
  rw[hold r0 (by have:=R.size;omega),hc]
 ·intro b hb;rw[Mp.upd_ne _ _ _ (by omega)];exact R.odd b hb
 ·intro j r s hj
  rw[size_alloc]
  by_cases e:j=k
  ·subst e;rw[Mp.upd_self] at hj;cases hj;exact⟨R.size,by omega⟩
  ·rw[Mp.upd_ne _ _ _ (by omega)] at hj
   have:=R.even j r s hj;omega
 ·intro j x r s hx hj
  by_cases e:j=k
  ·subst e
   rw[Mp.upd_self] at hj;cases hj
   exact(hobj x hx).2.mono hle rfl (Mp.ez_self _ _ _ _)
  ·rw[Mp.upd_ne _ _ _ (by omega)] at hj
   exact(R.obj j x r s hx hj).mono hle (hold r (R.even j r s hj).2) (Mp.ez_ne _ _ _ (by omega))
 ·intro j j' x x' r s s' hne hx hx' ha ha' hj hj'
  by_cases e:j=k
  ·subst e
   rw[Mp.upd_self] at hj;cases hj
   rw[Mp.upd_ne _ _ _ (by omega)] at hj'
   have:=R.even _ _ _ hj';omega
  ·by_cases e':j'=k
   ·subst e'
    rw[Mp.upd_self] at hj';cases hj'
    rw[Mp.upd_ne _ _ _ (by omega)] at hj
    have:=R.even _ _ _ hj;omega
   ·rw[Mp.upd_ne _ _ _ (by omega)] at hj hj'
    exact R.own j j' x x' r s s' hne hx hx' ha ha' hj hj'
 ·intro f st hf
  refine(R.long f st hf).imp_of_mem fun {x y} hx hy hxy=>?_
  have hx':x≠k:=fun e=>hst f st hf (e▸hx)
  have hy':y≠k:=fun e=>hst f st hf (e▸hy)
  intro cs t g cs' t' g' r s s' h1 h2 h3 h4
  rw[Mp.upd_ne _ _ _ (by omega)] at h3 h4
  exact hxy cs t g cs' t' g' r s s' h1 h2 h3 h4
 ·intro f st x y hf hx hy
  have hx':x≠k:=fun e=>hst f st hf (e▸hx)
  have hy':y≠k:=fun e=>hst f st hf (e▸hy)
  rw[Mp.upd_ne _ _ _ (by omega),Mp.upd_ne _ _ _ (by omega)]
  exact R.whole f st x y hf hx hy
end Go.Id

namespace Go.Id
open Go Go.RowKit
theorem iop_alloc_new {P:Program} {fr:Fr} {o:Op} {h h':IH} {v:Value} (hk:kindOf o=.alloc) (hi:iop P fr o h=some (v,h')) : ∃obj,h'=h.new obj∧obj.lone=true:=by
 cases o<;>simp only[kindOf,reduceCtorEq] at hk<;>simp only[iop] at hi
 case alloc t=>obtain⟨z,_,e⟩:=Option.map_eq_some_iff.1 hi;cases e;exact⟨_,rfl,rfl⟩
 case box t x=>obtain⟨z,_,e⟩:=Option.map_eq_some_iff.1 hi;cases e;exact⟨_,rfl,rfl⟩
 case buildSlice t len parts =>
  split at hi
  ·unfold Id.buildSlice at hi;simp only[cond_eq_ite] at hi;repeat' (split at hi)
   all_goals first|(cases hi;done)|(cases hi;exact⟨_,rfl,rfl⟩)
  ·cases hi
 case makeMap t r =>
  repeat' (split at hi)
  all_goals first|(cases hi;done)|(cases hi;exact⟨_,rfl,rfl⟩)
 case makeSlice t l c =>
  split at hi
  ·unfold Id.makeSlice at hi;simp only[cond_eq_ite] at hi;repeat' (split at hi)
   all_goals first|(cases hi;done)|(cases hi;exact⟨_,rfl,rfl⟩)
  ·cases hi
 case call c=>cases hc:c.callee with
  | builtin b=>cases b<;>simp_all
  | value f=>simp_all
  | invoke r n=>simp_all
theorem runOp_plain {E:Env} {call:CallV} {fr:Fr} {o:Op} {h:IH} (hk:kindOf o≠.chain):runOp E call fr o h=iop E.P fr o h:=by
 unfold runOp
 split
 ·rename_i c
  split
  ·rename_i f hc;simp[kindOf,hc] at hk
  ·rfl
 ·rfl
structure Text (E:Env) (call:CallV) (nt:Nat) (ops:Array Oper) (FA:Nat→Fr) (HA:Nat→IH):Prop where
 mono:CallMono call
 step : ∀i o,ops[i]?=some o→stepOp E call nt ops.toList o (FA i) (HA i)=some (FA (i+1),HA (i+1))
def AllocAt (ops:Array Oper) (FA:Nat→Fr) (i:Nat):Prop:=∃o,ops[i]?=some o∧kindOf o.op=.alloc∧wantedI ops.toList o (FA i)=some true
def ChainAt (ops:Array Oper) (i:Nat):Prop:=∃o,ops[i]?=some o∧kindOf o.op=.chain
section
variable {E:Env} {call:CallV} {nt:Nat} {ops:Array Oper} {FA:Nat→Fr} {HA:Nat→IH}
theorem Text.nle (T:Text E call nt ops FA HA) : ∀(j i:Nat),i≤j→j≤ops.size→(HA i).n≤(HA j).n
 | 0,i,h1,_=>by
  have e:i=0:=by omega
  rw[e]
  exact Nat.le_refl _
 | j+1,i,h1,h2=>by
  by_cases e:i=j+1
  ·subst e;exact Nat.le_refl _
  ·have ho:ops[j]?=some ops[j]:=Array.getElem?_eq_getElem (by omega)
   exact Nat.le_trans (T.nle j i (by omega) (by omega)) (stepOp_n T.mono (T.step j _ ho))
theorem Text.alloc (T:Text E call nt ops FA HA) {i:Nat} (h:AllocAt ops FA i) : ∃obj,HA (i+1)=(HA i).new obj∧obj.lone=true:=by
 obtain⟨o,ho,hk,hw⟩:=h
 have hs:=T.step i o ho
 unfold stepOp at hs
 rw[hw] at hs
 simp only at hs
 split at hs
 ·rename_i v h2 hrun
  obtain⟨a,_,e⟩:=Option.map_eq_some_iff.1 hs
  rw[runOp_plain (by rw[hk];simp)] at hrun
  obtain⟨obj,h3,h4⟩:=iop_alloc_new hk hrun
  have e2:h2=HA (i+1):=(Prod.mk.inj e).2
  exact⟨obj,by rw[←e2,h3],h4⟩
 ·cases hs
theorem Text.same (T:Text E call nt ops FA HA) {i:Nat} {o:Oper} (ho:ops[i]?=some o) (hc : ¬ChainAt ops i) (ha : ¬AllocAt ops FA i):HA (i+1)=HA i:=by
 have hs:=T.step i o ho
 unfold stepOp at hs
 split at hs
 ·rename_i hw
  split at hs
  ·rename_i v h2 hrun
   obtain⟨a,_,e⟩:=Option.map_eq_some_iff.1 hs
   have e2:h2=HA (i+1):=(Prod.mk.inj e).2
   have hk:kindOf o.op≠.chain:=fun e=>hc ⟨o,ho,e⟩
   rw[runOp_plain hk] at hrun
   rw[←e2]
   cases hkk:kindOf o.op with
   | pure=>exact(iop_pure hkk hrun).1
   | load=>exact iop_load hkk hrun
   | alloc=>exact absurd ⟨o,ho,hkk,hw⟩ ha
   | chain=>exact absurd hkk hk
  ·cases hs
 ·obtain⟨a,_,e⟩:=Option.map_eq_some_iff.1 hs
  exact(Prod.mk.inj e).2.symm
 ·cases hs
theorem chain_not_alloc {i:Nat} (h:ChainAt ops i) : ¬AllocAt ops FA i:=by
 rintro⟨o,ho,hk,_⟩
 obtain⟨o',ho',hk'⟩:=h
 rw[ho] at ho';cases ho';rw[hk] at hk';cases hk'
end
structure HInv (ops:Array Oper) (FA:Nat→Fr) (HA:Nat→IH) (B:Nat) (w0:World) (m0:Mp) (wi:World) (D:Nat→Prop) (a:Nat) (m:Mp) (w:World):Prop where
 rel:Rel B w0 m (HA a) w
 none_ : ∀i,i<ops.size→AllocAt ops FA i → ¬D i→m (2*(HA i).n)=none
 pend : ∀i,i<a→i<ops.size→AllocAt ops FA i → ¬D i→(∃obj,HA (i+1)=(HA i).new obj∧(HA a).ext.get (HA i).n=some obj) ∧ ∀f st,(HA a).fams.get f=some st→(HA i).n∉st
 extra : ∀i,a≤i→i<ops.size→AllocAt ops FA i→D i → ∃obj r,HA (i+1)=(HA i).new obj∧m (2*(HA i).n)=some (r,0)∧ObjRel m w r 0 (m.ez (2*(HA i).n)) obj
 inj : ∀k k' r s s',(HA a).n≤k→k<(HA ops.size).n→k'<(HA ops.size).n→k≠k'→m (2*k)=some (r,s)→m (2*k')≠some (r,s')
 fresh : ∀k,(HA a).n≤k→k<(HA ops.size).n→m (2*k)=none ∨ ∃i,a≤i∧i<ops.size∧AllocAt ops FA i∧D i∧k=(HA i).n
 le:m0.le m
 new : ∀b,m b≠m0 b → ∃k,b=2*k∧(HA 0).n≤k∧k<(HA ops.size).n
 base:(HA a).base=(HA 0).base
 frame : ∀r,r<wi.heap.size→(∀k s,k<(HA 0).n→m0 (2*k)≠some (r,s))→w.heap[r]?=wi.heap[r]?
 idle : ∀k,k<(HA 0).n→m0 (2*k)=none→(HA a).ext.get k=(HA 0).ext.get k
 size:wi.heap.size≤w.heap.size
 img : ∀k r s,(HA 0).n≤k→k<(HA ops.size).n→m (2*k)=some (r,s)→wi.heap.size≤r ∨ ∃k0 s0,k0<(HA 0).n∧m0 (2*k0)=some (r,s0)
 idleF : ∀k,k<(HA 0).n→m0 (2*k)=none→(∀f st,(HA 0).fams.get f=some st→k∉st) → ∀f st,(HA a).fams.get f=some st→k∉st
section
variable {E:Env} {call:CallV} {nt:Nat} {ops:Array Oper} {FA:Nat→Fr} {HA:Nat→IH} {B:Nat} {w0:World} {m0:Mp} {wi:World} {D:Nat→Prop} {a:Nat} {m:Mp} {w:World}
theorem HInv.old (I:HInv ops FA HA B w0 m0 wi D a m w) {k:Nat} (hk:k<(HA 0).n):m (2*k)=m0 (2*k):=by
 apply Classical.byContradiction;intro hne
 obtain⟨k',e,h1,_⟩:=I.new _ hne
 omega
theorem HInv.go (T:Text E call nt ops FA HA) (I:HInv ops FA HA B w0 m0 wi D a m w) {c:Nat} (hac:a≤c) (hc:c≤ops.size) (hno : ∀i,a≤i→i<c → ¬AllocAt ops FA i) {m':Mp} {w':World} (R:Rel B w0 m' (HA c) w') (S:Step m (HA a) w m' (HA c) w') :
  HInv ops FA HA B w0 m0 wi D c m' w':=by
 have nac:(HA a).n≤(HA c).n:=S.n
 have n0a:(HA 0).n≤(HA a).n:=T.nle a 0 (Nat.zero_le _) (Nat.le_trans hac hc)
 have ncN:(HA c).n≤(HA ops.size).n:=T.nle _ _ hc (Nat.le_refl _)
 have hsame : ∀k,(k<(HA a).n∨(HA c).n≤k)→m' (2*k)=m (2*k):=by
  intro k hk
  apply Classical.byContradiction;intro hne
  obtain⟨k',e,h1,h2⟩:=S.new _ hne
  omega
 have low : ∀i,i<ops.size→AllocAt ops FA i→(HA i).n<(HA a).n∨(HA c).n≤(HA i).n:=by
  intro i hi ha
  by_cases h1:i<a
  ·obtain⟨obj,e,_⟩:=T.alloc ha
   have h2:(HA (i+1)).n≤(HA a).n:=T.nle a (i+1) h1 (by omega)
   rw[e] at h2
   have:((HA i).new obj).n=(HA i).n+1:=rfl
   left;omega
  ·right
   by_cases h2:i<c
   ·exact absurd ha (hno i (by omega) h2)
   ·exact T.nle i c (by omega) (by omega)
 refine⟨R,?_,?_,?_,?_,?_,Mp.le_trans I.le S.le,?_,S.base.trans I.base,?_,?_,Nat.le_trans I.size S.size,?_,?_⟩
 ·intro i hi ha hd;rw[hsame _ (low i hi ha)];exact I.none_ i hi ha hd
 ·intro i hic hi ha hd
  have hia:i<a:=by
   rcases Nat.lt_or_ge i a with h|h
   ·exact h
   ·exact absurd ha (hno i h hic)
  obtain⟨⟨obj,e,hg⟩,hst⟩:=I.pend i hia hi ha hd
  have hlt:(HA i).n<(HA a).n:=by
   have h2:(HA (i+1)).n≤(HA a).n:=T.nle a (i+1) hia (by omega)
   rw[e] at h2
   have:((HA i).new obj).n=(HA i).n+1:=rfl
   omega
  have hm:=I.none_ i hi ha hd
  exact⟨⟨obj,e,by rw[S.idle _ hlt hm];exact hg⟩,S.idleF _ hlt hm hst⟩
 ·intro i hic hi ha hd
  obtain⟨obj,r,e,hm,ho⟩:=I.extra i (by omega) hi ha hd
  obtain⟨h1,h2⟩:=S.le _ _ hm
  refine⟨obj,r,e,h1,ho.mono S.le ?_ h2⟩
  refine S.frame r (I.rel.even _ _ _ hm).2 ?_
  intro k s hk hmk
  have hge:(HA a).n≤(HA i).n:=T.nle i a (by omega) (by omega)
  have hlt:(HA i).n<(HA ops.size).n:=by
   have h2:(HA (i+1)).n≤(HA ops.size).n:=T.nle _ (i+1) hi (Nat.le_refl _)
   rw[e] at h2
   have:((HA i).new obj).n=(HA i).n+1:=rfl
   omega
  exact I.inj _ k r 0 s hge hlt (by omega) (by omega) hm hmk
 ·intro k k' r s s' hk hkN hkN' hne hm hm'
  rw[hsame k (.inr hk)] at hm
  by_cases h1:k'<(HA a).n∨(HA c).n≤k'
  ·rw[hsame k' h1] at hm'
   exact I.inj k k' r s s' (by omega) hkN hkN' hne hm hm'
  ·rcases S.img k' r s' (by omega) (by omega) hm' with e|⟨k0,s0,e1,e2⟩
   ·have:=(I.rel.even k r s hm).2;omega
   ·exact I.inj k k0 r s s0 (by omega) hkN (by omega) (by omega) hm e2
 ·intro k hk hkN
  rw[hsame k (.inr hk)]
  rcases I.fresh k (by omega) hkN with e|⟨i,h1,h2,h3,h4,h5⟩
  ·exact .inl e
  ·refine .inr ⟨i,?_,h2,h3,h4,h5⟩
   rcases Nat.lt_or_ge i c with h|h
   ·exact absurd h3 (hno i h1 h)
   ·exact h
 ·intro b hb
  by_cases h1:m' b=m b
  ·rw[h1] at hb;exact I.new b hb
  ·obtain⟨k,e,h2,h3⟩:=S.new b h1
   exact⟨k,e,by omega,by omega⟩
 ·intro r hr hk
  rw[S.frame r (Nat.lt_of_lt_of_le hr I.size) ?_,I.frame r hr hk]
  intro k s hka hmk
  by_cases h1:k<(HA 0).n
  ·rw[I.old h1] at hmk;exact hk k s h1 hmk
  ·rcases I.img k r s (by omega) (by omega) hmk with e|⟨k0,s0,e1,e2⟩
   ·omega
   ·exact hk k0 s0 e1 e2
 ·intro k hk hm
  rw[S.idle k (by omega) (by rw[I.old hk,hm]),I.idle k hk hm]
 ·intro k r s hk hkN hm
  by_cases h1:k<(HA a).n∨(HA c).n≤k
  ·rw[hsame k h1] at hm;exact I.img k r s hk hkN hm
  ·rcases S.img k r s (by omega) (by omega) hm with e|⟨k0,s0,e1,e2⟩
   ·exact .inl (Nat.le_trans I.size e)
   ·by_cases h2:k0<(HA 0).n
    ·rw[I.old h2] at e2;exact .inr ⟨k0,s0,h2,e2⟩
    ·exact I.img k0 r s0 (by omega) (by omega) e2
 ·intro k hk hm hst
  exact S.idleF k (by omega) (by rw[I.old hk,hm]) (I.idleF k hk hm hst)
theorem HInv.next (T:Text E call nt ops FA HA) (I:HInv ops FA HA B w0 m0 wi D a m w) (ha:a<ops.size) (hc : ¬ChainAt ops a):HInv ops FA HA B w0 m0 wi D (a+1) m w:=by
 have ho:ops[a]?=some ops[a]:=Array.getElem?_eq_getElem ha
 by_cases hal:AllocAt ops FA a
 ·obtain⟨obj,e,hl⟩:=T.alloc hal
  have hn1:(HA (a+1)).n=(HA a).n+1:=by rw[e];rfl
  have hN:(HA (a+1)).n≤(HA ops.size).n:=T.nle _ _ ha (Nat.le_refl _)
  have n0a:(HA 0).n≤(HA a).n:=T.nle a 0 (Nat.zero_le _) (by omega)
  have hget : ∀k,(HA (a+1)).ext.get k=if k=(HA a).n then some obj else (HA a).ext.get k:=fun k=>by rw[e];exact Tr.get_set _ _ _ _
  have hfam:(HA (a+1)).fams=(HA a).fams:=by rw[e];rfl
  have hltid : ∀i,i<a→AllocAt ops FA i→(HA i).n<(HA a).n:=by
   intro i hia h3
   obtain⟨obj',e',_⟩:=T.alloc h3
   have h2:(HA (i+1)).n≤(HA a).n:=T.nle a (i+1) hia (by omega)
   rw[e'] at h2
   have:((HA i).new obj').n=(HA i).n+1:=rfl
   omega
  have hcond:m (2*(HA a).n)=none ∨ ∃r,m (2*(HA a).n)=some (r,0)∧ObjRel m w r 0 (m.ez (2*(HA a).n)) obj ∧ ∀k s,k<(HA a).n→m (2*k)≠some (r,s):=by
   by_cases hd:D a
   ·obtain⟨obj',r,e',hm,hO⟩:=I.extra a (Nat.le_refl _) ha hal hd
    have:obj'=obj:=by
     rw[e] at e'
     have h1:=hget (HA a).n
     rw[if_pos rfl,e] at h1
     have h2:((HA a).new obj').ext.get (HA a).n=some obj':=by show((HA a).ext.set (HA a).n obj').get (HA a).n=_;rw[Tr.get_set,if_pos rfl]
     rw[←e',h1] at h2;cases h2;rfl
    subst this
    exact .inr ⟨r,hm,hO,fun k s hk hmk=>I.inj (HA a).n k r 0 s (Nat.le_refl _) (by omega) (by omega) (by omega) hm hmk⟩
   ·exact .inl (I.none_ a ha hal hd)
  refine⟨by rw[e];exact I.rel.addObj obj hl hcond,I.none_,?_,?_,?_,?_,I.le,I.new,by rw[e];exact I.base,I.frame,?_,I.size,I.img,?_⟩
  ·intro i hi1 hi h3 hd
   by_cases hia:i=a
   ·subst hia
    exact⟨⟨obj,e,by rw[hget,if_pos rfl]⟩,fun f st hf=>by rw[hfam] at hf;have:=(I.rel.famdom f st hf).2.1;intro hx;have:=this _ hx;omega⟩
   ·obtain⟨⟨obj',e',hg⟩,hst⟩:=I.pend i (by omega) hi h3 hd
    have hlt:=hltid i (by omega) h3
    exact⟨⟨obj',e',by rw[hget,if_neg (by omega)];exact hg⟩,by rw[hfam];exact hst⟩
  ·intro i hi1 hi h3 hd;exact I.extra i (by omega) hi h3 hd
  ·intro k k' r s s' hk;exact I.inj k k' r s s' (by omega)
  ·intro k hk hkN
   rcases I.fresh k (by omega) hkN with h|⟨i,h1,h2,h3,h4,h5⟩
   ·exact .inl h
   ·refine .inr ⟨i,?_,h2,h3,h4,h5⟩
    rcases Nat.lt_or_ge a i with h|h
    ·exact h
    ·obtain rfl:i=a:=by omega
     omega
  ·intro k hk hm;rw[hget,if_neg (by omega)];exact I.idle k hk hm
  ·intro k hk hm hst;rw[hfam];exact I.idleF k hk hm hst
 ·have e:=T.same ho hc hal
  refine⟨by rw[e];exact I.rel,I.none_,?_,?_,?_,?_,I.le,I.new,by rw[e];exact I.base,I.frame,by rw[e];exact I.idle,I.size,I.img,by rw[e];exact I.idleF⟩
  ·intro i hi1 hi h3 hd
   have:i≠a:=fun h=>hal (h▸h3)
   rw[e];exact I.pend i (by omega) hi h3 hd
  ·intro i hi1 hi h3 hd;exact I.extra i (by omega) hi h3 hd
  ·rw[e];exact I.inj
  ·rw[e];intro k hk hkN
   rcases I.fresh k hk hkN with h|⟨i,h1,h2,h3,h4,h5⟩
   ·exact .inl h
   ·refine .inr ⟨i,?_,h2,h3,h4,h5⟩
    have:i≠a:=fun h=>hal (h▸h3)
    omega
theorem HInv.make (T:Text E call nt ops FA HA) (I:HInv ops FA HA B w0 m0 wi D a m w) (hae:a≤ops.size) {i:Nat} (hi:i<ops.size) (hal:AllocAt ops FA i) (hd : ¬D i) {obj:IObj} (e:HA (i+1)=(HA i).new obj) (hl:obj.lone=true) {O:Obj} {z:Nat×Nat}
  (hO:ObjRel m (w.alloc O) w.heap.size 0 z obj):HInv ops FA HA B w0 m0 wi (fun j=>D j∨j=i) a (m.upd (2*(HA i).n) (w.heap.size,0) z) (w.alloc O):=by
 have hm:=I.none_ i hi hal hd
 have hle:m.le (m.upd (2*(HA i).n) (w.heap.size,0) z):=Mp.le_upd hm
 have hne : ∀k,k≠(HA i).n→(m.upd (2*(HA i).n) (w.heap.size,0) z) (2*k)=m (2*k):=fun k hk=>Mp.upd_ne _ _ _ (by omega)
 have hsame : ∀r,r<w.heap.size→(w.alloc O).heap[r]?=w.heap[r]?:=fun r hr=>by rw[heap_alloc,if_neg (by omega)]
 have hidN:(HA i).n<(HA ops.size).n:=by
  have h2:(HA (i+1)).n≤(HA ops.size).n:=T.nle _ (i+1) hi (Nat.le_refl _)
  rw[e] at h2
  have:((HA i).new obj).n=(HA i).n+1:=rfl
  omega
 have h0i:(HA 0).n≤(HA i).n:=T.nle i 0 (Nat.zero_le _) (by omega)
 have hids : ∀j,j<ops.size→AllocAt ops FA j→j≠i→(HA j).n≠(HA i).n:=by
  intro j hj h3 hji
  rcases Nat.lt_or_gt_of_ne hji with h|h
  ·obtain⟨obj',e',_⟩:=T.alloc h3
   have h2:(HA (j+1)).n≤(HA i).n:=T.nle i (j+1) h (by omega)
   rw[e'] at h2
   have:((HA j).new obj').n=(HA j).n+1:=rfl
   omega
  ·have h2:(HA (i+1)).n≤(HA j).n:=T.nle j (i+1) h (by omega)
   rw[e] at h2
   have:((HA i).new obj).n=(HA i).n+1:=rfl
   omega
 refine⟨?_,?_,?_,?_,?_,?_,Mp.le_trans I.le hle,?_,I.base,?_,I.idle,by rw[size_alloc];have:=I.size;omega,?_,I.idleF⟩
 ·refine I.rel.mapIn (HA i).n O z hm ?_ ?_
  ·intro o hg
   by_cases hia:i<a
   ·obtain⟨⟨obj',e',hg'⟩,_⟩:=I.pend i hia hi hal hd
    rw[hg'] at hg;cases hg
    have:o=obj:=by
     rw[e] at e'
     have h1:((HA i).new obj).ext.get (HA i).n=some obj:=by show((HA i).ext.set (HA i).n obj).get (HA i).n=_;rw[Tr.get_set,if_pos rfl]
     have h2:((HA i).new o).ext.get (HA i).n=some o:=by show((HA i).ext.set (HA i).n o).get (HA i).n=_;rw[Tr.get_set,if_pos rfl]
     rw[←e',h1] at h2;cases h2;rfl
    subst this
    exact⟨hl,hO⟩
   ·have:(HA a).n≤(HA i).n:=T.nle i a (by omega) (by omega)
    rw[I.rel.dom _ this] at hg;cases hg
  ·intro f st hf
   by_cases hia:i<a
   ·exact(I.pend i hia hi hal hd).2 f st hf
   ·have:(HA a).n≤(HA i).n:=T.nle i a (by omega) (by omega)
    intro hx;have:=(I.rel.famdom f st hf).2.1 _ hx;omega
 ·intro j hj h3 hdj
  have hji:j≠i:=fun e=>hdj (.inr e)
  rw[hne _ (hids j hj h3 hji)]
  exact I.none_ j hj h3 (fun h=>hdj (.inl h))
 ·intro j hja hj h3 hdj
  exact I.pend j hja hj h3 (fun h=>hdj (.inl h))
 ·intro j hja hj h3 hdj
  by_cases hji:j=i
  ·subst hji
   exact⟨obj,w.heap.size,e,Mp.upd_self _ _ _ _,hO.mono hle rfl (Mp.ez_self _ _ _ _)⟩
  ·obtain⟨obj',r,e',hmr,hO'⟩:=I.extra j hja hj h3 (hdj.resolve_right hji)
   obtain⟨h1,h2⟩:=hle _ _ hmr
   exact⟨obj',r,e',h1,hO'.mono hle (hsame r (I.rel.even _ _ _ hmr).2) h2⟩
 ·intro k k' r s s' hk hkN hkN' hkk h1 h2
  by_cases c1:k=(HA i).n
  ·subst c1
   rw[Mp.upd_self] at h1;cases h1
   rw[hne _ (fun e=>hkk e.symm)] at h2
   have:=(I.rel.even _ _ _ h2).2;omega
  ·rw[hne _ c1] at h1
   by_cases c2:k'=(HA i).n
   ·subst c2
    rw[Mp.upd_self] at h2;cases h2
    have:=(I.rel.even _ _ _ h1).2;omega
   ·rw[hne _ c2] at h2
    exact I.inj k k' r s s' hk hkN hkN' hkk h1 h2
 ·intro k hk hkN
  by_cases c1:k=(HA i).n
  ·subst c1
   have hia:a≤i:=by
    rcases Nat.lt_or_ge i a with h|h
    ·have h2:(HA (i+1)).n≤(HA a).n:=T.nle a (i+1) h hae
     rw[e] at h2
     have:((HA i).new obj).n=(HA i).n+1:=rfl
     omega
    ·exact h
   exact .inr ⟨i,hia,hi,hal,.inr rfl,rfl⟩
  ·rw[hne _ c1]
   rcases I.fresh k hk hkN with h|⟨j,h1,h2,h3,h4,h5⟩
   ·exact .inl h
   ·exact .inr ⟨j,h1,h2,h3,.inl h4,h5⟩
 ·intro b hb
  by_cases h1:b=2*(HA i).n
  ·exact⟨_,h1,h0i,hidN⟩
  ·rw[Mp.upd_ne _ _ _ h1] at hb;exact I.new b hb
 ·intro r hr hk
  rw[hsame r (Nat.lt_of_lt_of_le hr I.size)];exact I.frame r hr hk
 ·intro k r s hk hkN h1
  by_cases c1:k=(HA i).n
  ·subst c1
   rw[Mp.upd_self] at h1;cases h1
   exact .inl I.size
  ·rw[hne _ c1] at h1;exact I.img k r s hk hkN h1
end
end Go.Id

namespace Go.Id
open Go Go.RowKit
structure Ordered (ops:Array Oper):Prop where
 edge : ∀j y,ops[j]?=some y → ∀e∈y.after,Region.binds .any e=true→e.on<j
 pair : ∀i j x y,i<j→ops[i]?=some x→ops[j]?=some y→beforeB ops.toList j i=true∨(clash ops.toList x y=false ∧ ¬(kindOf x.op=.chain∧kindOf y.op=.chain))
theorem orderOK_spec {ops:Array Oper} (h:orderOK ops.toList=true):Ordered ops:=by
 unfold orderOK at h
 simp only[List.all_eq_true,List.mem_range] at h
 have size : ∀j y,ops[j]?=some y→j<ops.toList.length:=by
  intro j y hj
  have:=(Array.getElem?_eq_some_iff.1 hj).1
  simpa using this
 refine⟨fun j y hj e he hb=>?_,fun i j x y hij hi hj=>?_⟩
 ·have:=h j (size j y hj)
  have hj':ops.toList[j]?=some y:=by simpa using hj
  simp only[hj',Bool.and_eq_true,List.all_eq_true] at this
  have h1:=this.1.1 e (by simpa using he)
  simpa [hb] using h1
 ·have:=h j (size j y hj)
  have hj':ops.toList[j]?=some y:=by simpa using hj
  have hi':ops.toList[i]?=some x:=by simpa using hi
  simp only[hj',Bool.and_eq_true,List.all_eq_true] at this
  have h1:=this.2 i (by simpa using hij)
  simp only[hi',Bool.or_eq_true,Bool.not_eq_true',Bool.or_eq_false_iff,Bool.and_eq_false_iff,beq_eq_false_iff_ne] at h1
  rcases h1 with h1|h1
  ·exact .inl h1
  ·refine .inr ⟨h1.1,fun hk=>?_⟩
   rcases h1.2 with h2|h2
   ·exact h2 hk.1
   ·exact h2 hk.2
section
variable {ops:Array Oper} {x y:Oper} {d:Nat}
theorem clash_ww (h1:x.dst=some d) (h2:y.dst=some d):clash ops.toList x y=true:=by simp[clash,h1,h2]
theorem clash_wr (h1:x.dst=some d) (h2:d∈reads ops.toList y):clash ops.toList x y=true:=by simp[clash,h1,h2]
theorem clash_rw (h1:y.dst=some d) (h2:d∈reads ops.toList x):clash ops.toList x y=true:=by simp[clash,h1,h2]
end
section
variable {E:Env} {call:CallV} {nt:Nat} {ops:Array Oper} {FA:Nat→Fr} {HA:Nat→IH}
theorem Text.put (T:Text E call nt ops FA HA) {i:Nat} {o:Oper} (ho:ops[i]?=some o) : ∃v,fput nt (FA i) o.dst v=some (FA (i+1)) ∧
  ((wantedI ops.toList o (FA i)=some true∧runOp E call (FA i) o.op (HA i)=some (v,HA (i+1)))∨(wantedI ops.toList o (FA i)=some false∧v=undef)):=by
 have hs:=T.step i o ho
 unfold stepOp at hs
 split at hs
 ·rename_i hw
  split at hs
  ·rename_i v h2 hrun
   obtain⟨a,h1,e⟩:=Option.map_eq_some_iff.1 hs
   cases e
   exact⟨v,h1,.inl ⟨hw,hrun⟩⟩
  ·cases hs
 ·rename_i hw
  obtain⟨a,h1,e⟩:=Option.map_eq_some_iff.1 hs
  exact⟨undef,by rw[h1];exact congrArg some (Prod.mk.inj e).1,.inr ⟨hw,rfl⟩⟩
 ·cases hs
theorem fget_fput {fr fr':Fr} {dst:Option Tmp} {v:Value} (h:fput nt fr dst v=some fr') (t:Nat):fget fr' t=if dst=some t then some v else fget fr t:=by
 unfold fput at h
 cases dst with
 | none=>cases h;simp
 | some d =>
  simp only[cond_eq_ite,Nat.blt_eq] at h
  split at h
  ·cases h
   simp only[fget,cond_eq_ite,beq_iff_eq,Option.some.injEq]
  ·cases h
theorem Text.keeps (T:Text E call nt ops FA HA) {t p:Nat} : ∀(q:Nat),p≤q→q≤ops.size→(∀j o,p≤j→j<q→ops[j]?=some o→o.dst≠some t)→fget (FA q) t=fget (FA p) t:=by
 intro q
 induction q with
 | zero =>
  intro h _ _
  have e:p=0:=by omega
  rw[e]
 | succ q ih =>
  intro hpq hn hw
  by_cases hq:p=q+1
  ·rw[hq]
  have ho:ops[q]?=some ops[q]:=Array.getElem?_eq_getElem (by omega)
  obtain⟨v,hp,_⟩:=T.put ho
  rw[fget_fput hp t,if_neg (hw q _ (by omega) (by omega) ho)]
  exact ih (by omega) (by omega) (fun j o h1 h2=>hw j o h1 (by omega))
end
structure OInv (nt:Nat) (ops:Array Oper) (FA:Nat→Fr) (HA:Nat→IH) (B:Nat) (w0:World) (m0:Mp) (wi:World) (D:Nat→Prop) (m:Mp) (w:World) (tmps:Array Value):Prop where
 closed : ∀j i,D j→beforeB ops.toList j i=true→D i
 slots : ∀t,∃p,p≤ops.size∧(∀j o,ops[j]?=some o→o.dst=some t→(D j↔j<p)) ∧ ∀v,fget (FA p) t=some v → ∃v',tmps[t]?=some v'∧VRel m v v'
 chain : ∃a,a≤ops.size∧(∀j,ChainAt ops j→(D j↔j<a))∧(a=ops.size∨ChainAt ops a)∧HInv ops FA HA B w0 m0 wi D a m w
 size:nt≤tmps.size
section
variable {E:Env} {call:CallV} {nt:Nat} {ops:Array Oper} {FA:Nat→Fr} {HA:Nat→IH} {B:Nat} {w0:World} {m0:Mp} {wi:World} {D:Nat→Prop} {a:Nat} {m:Mp} {w:World} {tmps:Array Value}
theorem HInv.norm (T:Text E call nt ops FA HA) : ∀(n a:Nat),ops.size - a≤n→a≤ops.size→HInv ops FA HA B w0 m0 wi D a m w→(∀j,ChainAt ops j→(D j↔j<a)) →
  ∃a,a≤ops.size∧(∀j,ChainAt ops j→(D j↔j<a))∧(a=ops.size∨ChainAt ops a)∧HInv ops FA HA B w0 m0 wi D a m w
 | 0,a,h1,h2,I,hc=>⟨a,h2,hc,.inl (by omega),I⟩
 | n+1,a,h1,h2,I,hc=>by
  by_cases h3:a=ops.size
  ·exact⟨a,h2,hc,.inl h3,I⟩
  ·by_cases h4:ChainAt ops a
   ·exact⟨a,h2,hc,.inr h4,I⟩
   ·refine HInv.norm T n (a+1) (by omega) (by omega) (I.next T (by omega) h4) fun j hj=>?_
    rw[hc j hj]
    constructor
    ·intro h;omega
    ·intro h
     rcases Nat.lt_or_ge j a with h5|h5
     ·exact h5
     ·exact absurd (show ChainAt ops a from(show j=a by omega)▸hj) h4
theorem OInv.known (T:Text E call nt ops FA HA) (O:Ordered ops) (I:OInv nt ops FA HA B w0 m0 wi D m w tmps) {i:Nat} {o:Oper} (ho:ops[i]?=some o) (hd : ¬D i) (hb : ∀k,beforeB ops.toList i k=true→D k) :
  FrRel m (keepOnly (FA i) (reads ops.toList o)) tmps:=by
 intro t v hv
 rw[fget_keepOnly] at hv
 by_cases hr:t∈Id.reads ops.toList o
 ·rw[if_pos hr] at hv
  obtain⟨p,hp,hw,hrel⟩:=I.slots t
  have hin:i<ops.size:=(Array.getElem?_eq_some_iff.1 ho).1
  have lo : ∀j x,ops[j]?=some x→x.dst=some t→j<i→D j:=by
   intro j x hj hx hji
   rcases O.pair j i x o hji hj ho with h|h
   ·exact hb j h
   ·rw[clash_wr hx hr] at h;exact absurd h.1 (by simp)
  have hi : ∀j x,ops[j]?=some x→x.dst=some t→i<j → ¬D j:=by
   intro j x hj hx hji hdj
   rcases O.pair i j o x hji ho hj with h|h
   ·exact hd (I.closed j i hdj h)
   ·rw[clash_rw hx hr] at h;exact absurd h.1 (by simp)
  have e:fget (FA i) t=fget (FA p) t:=by
   rcases Nat.le_total p i with hpi|hpi
   ·refine T.keeps i hpi (by omega) fun j x h1 h2 hj hx=>?_
    have:=(hw j x hj hx).1 (lo j x hj hx h2)
    omega
   ·refine(T.keeps p hpi hp fun j x h1 h2 hj hx=>?_).symm
    have hdj:=(hw j x hj hx).2 h2
    rcases Nat.lt_or_ge i j with h3|h3
    ·exact hi j x hj hx h3 hdj
    ·obtain rfl:i=j:=by omega
     exact hd hdj
  rw[e] at hv
  exact hrel v hv
 ·rw[if_neg hr] at hv;cases hv
theorem OInv.put (O:Ordered ops) (I:OInv nt ops FA HA B w0 m0 wi D m w tmps) {i:Nat} {o:Oper} (ho:ops[i]?=some o) (hd : ¬D i) (hb : ∀k,beforeB ops.toList i k=true→D k)
  {v v':Value} (hp:fput nt (FA i) o.dst v=some (FA (i+1))) {m':Mp} (hm:m.le m') (hv:VRel m' v v') :
  (∀t,∃p,p≤ops.size∧(∀j x,ops[j]?=some x→x.dst=some t→((D j∨j=i)↔j<p)) ∧ ∀v,fget (FA p) t=some v → ∃v1,(putT tmps o.dst v')[t]?=some v1∧VRel m' v v1)∧nt≤(putT tmps o.dst v').size:=by
 have hin:i<ops.size:=(Array.getElem?_eq_some_iff.1 ho).1
 have hd2 : ∀d,o.dst=some d→d<nt:=by
  intro d hd
  unfold fput at hp
  simp only[hd,cond_eq_ite,Nat.blt_eq] at hp
  split at hp
  ·assumption
  ·cases hp
 refine⟨fun t=>?_,by cases h:o.dst<;>simpa [putT] using I.size⟩
 by_cases ht:o.dst=some t
 ·refine⟨i+1,by omega,fun j x hj hx=>?_,fun u hu=>?_⟩
  ·constructor
   ·rintro(h|h)
    ·rcases Nat.lt_or_ge i j with h3|h3
     ·rcases O.pair i j o x h3 ho hj with h4|h4
      ·exact absurd (I.closed j i h h4) hd
      ·rw[clash_ww ht hx] at h4;exact absurd h4.1 (by simp)
     ·omega
    ·omega
   ·intro h
    by_cases h3:j=i
    ·exact .inr h3
    ·rcases O.pair j i x o (by omega) hj ho with h4|h4
     ·exact .inl (hb j h4)
     ·rw[clash_ww hx ht] at h4;exact absurd h4.1 (by simp)
  ·rw[fget_fput hp t,if_pos ht] at hu
   cases hu
   have hlt:t<tmps.size:=Nat.lt_of_lt_of_le (hd2 t ht) I.size
   exact⟨v',by simp[putT,ht,hlt],hv⟩
 ·obtain⟨p,h1,h2,h3⟩:=I.slots t
  refine⟨p,h1,fun j x hj hx=>?_,fun u hu=>?_⟩
  ·rw[←h2 j x hj hx]
   constructor
   ·rintro(h|h)
    ·exact h
    ·subst h;rw[ho] at hj;cases hj;exact absurd hx ht
   ·exact .inl
  ·obtain⟨u',h4,h5⟩:=h3 u hu
   refine⟨u',?_,h5.mono hm⟩
   unfold putT
   cases hdst:o.dst with
   | none=>exact h4
   | some d=>simp only;rw[Array.getElem?_setIfInBounds_ne (by rintro rfl;exact ht hdst)];exact h4
def Steady (E:Env) (ops:Array Oper) (FA:Nat→Fr) (HA:Nat→IH):Prop :=
 ∀i o,ops[i]?=some o→kindOf o.op=.load→wantedI ops.toList o (FA i)=some true → ∀p,p≤ops.size→(p=ops.size∨ChainAt ops p) →
  (∀k,ChainAt ops k→k<p→beforeB ops.toList k i=false)→(∀k,ChainAt ops k→p≤k→beforeB ops.toList i k=false) →
  ∀v h',iop E.P (FA i) o.op (HA i)=some (v,h') → ∃h2,iop E.P (FA i) o.op (HA p)=some (v,h2)
theorem OInv.op (hcall:CallSim E.P call) (T:Text E call nt ops FA HA) (O:Ordered ops) (S:Steady E ops FA HA) (I:OInv nt ops FA HA B w0 m0 wi D m w tmps) {i:Nat} {o:Oper} (ho:ops[i]?=some o) (hd : ¬D i)
  (hb : ∀k,beforeB ops.toList i k=true→D k) (b:Frame) (rest:List Nat) (k:List Item) (ds:List Deferred) (cs:List Frame) :
  ∃m' w' tmps',Steps E.P (lone (on b tmps (.inRegion ops (i :: rest) :: k) ds) cs w) (lone (on b tmps' (.inRegion ops rest :: k) ds) cs w')∧OInv nt ops FA HA B w0 m0 wi (fun j=>D j∨j=i) m' w' tmps':=by
 have hin:i<ops.size:=(Array.getElem?_eq_some_iff.1 ho).1
 have hf:=I.known T O ho hd hb
 obtain⟨v,hput,hcase⟩:=T.put ho
 obtain⟨a,hae,hch,hat,H⟩:=I.chain
 have hclosed : ∀j i',(D j∨j=i)→beforeB ops.toList j i'=true→D i'∨i'=i:=by
  rintro j i' (h|rfl) hbf
  ·exact .inl (I.closed j i' h hbf)
  ·exact .inl (hb i' hbf)
 have mk : ∀{m':Mp} {w':World} {v':Value} {c:Nat},m.le m'→VRel m' v v'→c≤ops.size→(∀j,ChainAt ops j→((D j∨j=i)↔j<c))→HInv ops FA HA B w0 m0 wi (fun j=>D j∨j=i) c m' w' →
   OInv nt ops FA HA B w0 m0 wi (fun j=>D j∨j=i) m' w' (putT tmps o.dst v'):=by
  intro m' w' v' c hle hv hc1 hc2 H'
  obtain⟨h1,h2⟩:=I.put O ho hd hb hput hle hv
  exact⟨hclosed,h1,H'.norm T _ c (Nat.le_refl _) hc1 hc2,h2⟩
 have add : ∀{c:Nat} {m':Mp} {w':World},¬AllocAt ops FA i→HInv ops FA HA B w0 m0 wi D c m' w'→HInv ops FA HA B w0 m0 wi (fun j=>D j∨j=i) c m' w':=by
  intro c m' w' hal H'
  have back : ∀j,AllocAt ops FA j→(D j∨j=i)→D j:=by
   rintro j h1 (h2|rfl)
   ·exact h2
   ·exact absurd h1 hal
  refine⟨H'.rel,fun j h1 h2 h3=>H'.none_ j h1 h2 (fun h=>h3 (.inl h)),fun j h0 h1 h2 h3=>H'.pend j h0 h1 h2 (fun h=>h3 (.inl h)),fun j h0 h1 h2 h3=>H'.extra j h0 h1 h2 (back j h2 h3),H'.inj,fun q h1 h2=>?_,H'.le,H'.new,H'.base,H'.frame,H'.idle,H'.size,H'.img,H'.idleF⟩
  rcases H'.fresh q h1 h2 with h|⟨j,h3,h4,h5,h6,h7⟩
  ·exact .inl h
  ·exact .inr ⟨j,h3,h4,h5,.inl h6,h7⟩
 have chsame : ¬ChainAt ops i → ∀j,ChainAt ops j→((D j∨j=i)↔j<a):=by
  intro hnc j hj
  rw[←hch j hj]
  constructor
  ·rintro(h|rfl)
   ·exact h
   ·exact absurd hj hnc
  ·exact .inl
 rcases hcase with⟨hw,hrun⟩|⟨hw,rfl⟩
 ·have hwk:wantedI ops.toList o (keepOnly (FA i) (reads ops.toList o))=some true:=by rw[wanted_keep];exact hw
  have hcg : ∀h,runOp E call (keepOnly (FA i) (reads ops.toList o)) o.op h=runOp E call (FA i) o.op h:=fun h=>runOp_congr (opd_keep _ _ _) h
  have none0 : ∀x:Nat,Fresh m x x:=fun x k h1 h2=>by omega
  have quiet:kindOf o.op≠.chain→kindOf o.op≠.alloc→runOp E call (FA i) o.op (HA a)=some (v,HA a) →
    ∃m' w' tmps',Steps E.P (lone (on b tmps (.inRegion ops (i :: rest) :: k) ds) cs w) (lone (on b tmps' (.inRegion ops rest :: k) ds) cs w')∧OInv nt ops FA HA B w0 m0 wi (fun j=>D j∨j=i) m' w' tmps':=by
   intro hk1 hk2 hr
   have hnc : ¬ChainAt ops i:=by rintro⟨o',h1,h2⟩;rw[ho] at h1;cases h1;exact hk1 h2
   have hna : ¬AllocAt ops FA i:=by rintro⟨o',h1,h2,_⟩;rw[ho] at h1;cases h1;exact hk2 h2
   obtain⟨v',m',w',hS,hv,R',S'⟩:=sim_op hcall ho hwk (by rw[hcg];exact hr) H.rel hf (none0 _) b rest k ds cs
   exact⟨m',w',_,hS,mk S'.le hv hae (chsame hnc) (add hna (H.go T (Nat.le_refl _) hae (fun j h1 h2=>by omega) R' S'))⟩
  cases hk:kindOf o.op with
  | pure =>
   rw[runOp_plain (by rw[hk];simp)] at hrun
   exact quiet (by rw[hk];simp) (by rw[hk];simp) (by rw[runOp_plain (by rw[hk];simp)];exact(iop_pure hk hrun).2 _)
  | load =>
   rw[runOp_plain (by rw[hk];simp)] at hrun
   refine quiet (by rw[hk];simp) (by rw[hk];simp) ?_
   rw[runOp_plain (by rw[hk];simp)]
   obtain⟨h2,e⟩:=S i o ho hk hw a hae hat (fun q hq hqa=>by
     have hdq:=(hch q hq).2 hqa
     cases hbf:beforeB ops.toList q i with
     | false=>rfl
     | true=>exact absurd (I.closed q i hdq hbf) hd)
    (fun q hq hqa=>by
     cases hbf:beforeB ops.toList i q with
     | false=>rfl
     | true=>have:=(hch q hq).1 (hb q hbf);omega) v _ hrun
   rw[e,iop_load hk e]
  | alloc =>
   rw[runOp_plain (by rw[hk];simp)] at hrun
   have hal:AllocAt ops FA i:=⟨o,ho,hk,hw⟩
   have hnc : ¬ChainAt ops i:=by rintro⟨o',h1,h2⟩;rw[ho] at h1;cases h1;rw[hk] at h2;cases h2
   have hrk:iop E.P (keepOnly (FA i) (reads ops.toList o)) o.op (HA i)=some (v,HA (i+1)):=by rw[iop_congr (opd_keep _ _ _)];exact hrun
   obtain⟨obj,e,hl,Ob,v',z,hr,hO,hv⟩:=iop_alloc (opd_evalT H.rel hf) o hk hrk w
   have hnd : ∀c,o.op≠.defer c:=by intro c hc;rw[hc] at hk;simp[kindOf] at hk
   have hst:=st_value (b:=b) (k:=k) (ds:=ds) (cs:=cs) (rest:=rest) ho (wanted_rel hf hwk) hnd hr
   have H':=H.make T hae hin hal hd e hl hO
   exact⟨_,_,_,.one hst,mk (Mp.le_upd (H.none_ i hin hal hd)) (hv _ (Mp.upd_self _ _ _ _)) hae (chsame hnc) H'⟩
  | chain =>
   have hci:ChainAt ops i:=⟨o,ho,hk⟩
   have hai:a≤i:=by
    rcases Nat.lt_or_ge i a with h|h
    ·exact absurd ((hch i hci).2 h) hd
    ·exact h
   have hca:ChainAt ops a:=by
    rcases hat with h|h
    ·omega
    ·exact h
   obtain rfl:a=i:=by
    rcases Nat.lt_or_ge a i with h|h
    ·obtain⟨x,hx,hkx⟩:=hca
     rcases O.pair a i x o h hx ho with h1|h1
     ·have:=(hch a ⟨x,hx,hkx⟩).1 (hb a h1);omega
     ·exact absurd ⟨hkx,hk⟩ h1.2
    ·omega
   have hfr:Fresh m (HA a).n (HA (a+1)).n:=by
    intro q h1 h2
    have hN:(HA (a+1)).n≤(HA ops.size).n:=T.nle _ _ hin (Nat.le_refl _)
    rcases H.fresh q h1 (by omega) with h|⟨j,h3,h4,h5,h6,h7⟩
    ·exact h
    ·exfalso
     have hja:j≠a:=by rintro rfl;exact chain_not_alloc hca h5
     have:=T.nle j (a+1) (by omega) (by omega)
     omega
   obtain⟨v',m',w',hS,hv,R',S'⟩:=sim_op hcall ho hwk (by rw[hcg];exact hrun) H.rel hf hfr b rest k ds cs
   refine⟨m',w',_,hS,mk S'.le hv hin ?_ (add (chain_not_alloc hca) (H.go T (Nat.le_succ _) hin (fun j h1 h2=>?_) R' S'))⟩
   ·intro j hj
    rw[hch j hj]
    omega
   ·obtain rfl:j=a:=by omega
    exact chain_not_alloc hca
 ·-- left out
  have hwk:wantedI ops.toList o (keepOnly (FA i) (reads ops.toList o))=some false:=by rw[wanted_keep];exact hw
  have hna : ¬AllocAt ops FA i:=by rintro⟨o',h1,_,h2⟩;rw[ho] at h1;cases h1;rw[hw] at h2;cases h2
  have hst:=st_off (P:=E.P) (b:=b) (k:=k) (ds:=ds) (cs:=cs) (rest:=rest) (w:=w) ho (wanted_rel hf hwk)
  by_cases hci:ChainAt ops i
  ·have hai:a≤i:=by
    rcases Nat.lt_or_ge i a with h|h
    ·exact absurd ((hch i hci).2 h) hd
    ·exact h
   have hca:ChainAt ops a:=by
    rcases hat with h|h
    ·omega
    ·exact h
   obtain rfl:a=i:=by
    rcases Nat.lt_or_ge a i with h|h
    ·obtain⟨x,hx,hkx⟩:=hca
     obtain⟨o',ho',hk⟩:=hci
     rw[ho] at ho';cases ho'
     rcases O.pair a i x o h hx ho with h1|h1
     ·have:=(hch a ⟨x,hx,hkx⟩).1 (hb a h1);omega
     ·exact absurd ⟨hkx,hk⟩ h1.2
    ·omega
   have e:HA (a+1)=HA a:=by
    have hs:=T.step a o ho
    unfold stepOp at hs
    rw[hw] at hs
    obtain⟨_,_,e⟩:=Option.map_eq_some_iff.1 hs
    exact(Prod.mk.inj e).2.symm
   refine⟨m,w,_,.one hst,mk (Mp.le_refl m) (VRel.undef m) hin ?_ (add hna (H.go T (Nat.le_succ _) hin (fun j h1 h2=>?_) (by rw[e];exact H.rel) (by rw[e];exact Step.refl _ _ _)))⟩
   ·intro j hj
    rw[hch j hj]
    omega
   ·obtain rfl:j=a:=by omega
    exact hna
  ·exact⟨m,w,_,.one hst,mk (Mp.le_refl m) (VRel.undef m) hae (chsame hci) (add hna H)⟩
end
end Go.Id

namespace Go.Id
open Go Go.RowKit
theorem steady_spec {E:Env} {ops:Array Oper} {tr:List (Fr×IH)} {FA:Nat→Fr} {HA:Nat→IH} (hs:steady E.P ops.toList tr (plan ops.toList)=true) (htr : ∀i,i≤ops.size→tr[i]?=some (FA i,HA i)) :
  Steady E ops FA HA:=by
 intro i o ho hk hw p hp hpat h1 h2 v h' hv
 have hin:i<ops.size:=(Array.getElem?_eq_some_iff.1 ho).1
 have ho':ops.toList[i]?=some o:=by simpa using ho
 unfold steady at hs
 rw[List.all_eq_true] at hs
 have hch : ∀q,q∈(List.range ops.toList.length).filter (fun k=>match ops.toList[k]? with|some o=>kindOf o.op == .chain|none=>false)↔ChainAt ops q:=by
  intro q
  rw[List.mem_filter]
  constructor
  ·rintro⟨_,hq⟩
   cases hx:ops.toList[q]? with
   | none=>simp[hx] at hq
   | some x=>simp only[hx,beq_iff_eq] at hq;exact⟨x,by simpa using hx,hq⟩
  ·rintro⟨x,hx,hq⟩
   have:=(Array.getElem?_eq_some_iff.1 hx).1
   have hx':ops.toList[q]?=some x:=by simpa using hx
   exact⟨by simpa using this,by rw[hx'];simp[hq]⟩
 have hm:=hs (i,_) (by
  unfold plan
  rw[List.mem_filterMap]
  refine⟨i,by simpa using hin,?_⟩
  simp only[ho',hk,beq_self_eq_true,cond_true]
  rfl)
 simp only[ho',htr i (Nat.le_of_lt hin),hw] at hm
 rw[List.all_eq_true] at hm
 have hpm:=hm p (by
  rw[List.mem_filter,List.mem_append]
  refine⟨?_,?_⟩
  ·rcases hpat with rfl|h
   ·right;simp
   ·left;exact(hch p).2 h
  ·rw[List.all_eq_true]
   intro q hq
   have hcq:=(hch q).1 hq
   cases hb:Nat.blt q p with
   | true =>
    have:=h1 q hcq (by simpa using hb)
    unfold beforeB at this
    rw[cond_true,this];rfl
   | false =>
    have:=h2 q hcq (by
     rcases Nat.lt_or_ge q p with h|h
     ·have:Nat.blt q p=true:=by simpa [Nat.blt_eq] using h
      rw[this] at hb;cases hb
     ·exact h)
    unfold beforeB at this
    rw[cond_false,this];rfl)
 simp only[htr p hp] at hpm
 unfold steadyAt at hpm
 rw[hv] at hpm
 split at hpm
 ·rename_i h3 h4
  rename_i v1 _ v2 _
  cases h3
  rw[eqV_eq hpm]
  exact⟨_,h4⟩
 ·cases hpm
theorem HInv.first {E:Env} {call:CallV} {nt:Nat} {ops:Array Oper} {FA:Nat→Fr} {HA:Nat→IH} {B:Nat} {w0:World} {m:Mp} {w:World} (T:Text E call nt ops FA HA) (R:Rel B w0 m (HA 0) w) (hf:Fresh m (HA 0).n (HA ops.size).n) :
  HInv ops FA HA B w0 m w (fun _=>False) 0 m w:=by
 refine⟨R,?_,fun i h=>by omega,fun i _ _ _ h=>h.elim,?_,fun k h1 h2=>.inl (hf k h1 h2),Mp.le_refl m,fun b h=>absurd rfl h,rfl,fun _ _ _=>rfl,fun _ _ _=>rfl,Nat.le_refl _,?_,fun _ _ _ h=>h⟩
 ·intro i hi hal _
  obtain⟨obj,e,_⟩:=T.alloc hal
  have h2:(HA (i+1)).n≤(HA ops.size).n:=T.nle _ (i+1) hi (Nat.le_refl _)
  rw[e] at h2
  have:((HA i).new obj).n=(HA i).n+1:=rfl
  exact hf _ (T.nle i 0 (Nat.zero_le _) (by omega)) (by omega)
 ·intro k k' r s s' h1 h2 h3 h4 h5
  rw[hf k h1 h2] at h5;cases h5
 ·intro k r s h1 h2 h3
  rw[hf k h1 h2] at h3;cases h3
section
variable {E:Env} {call:CallV} {nt:Nat} {ops:Array Oper} {FA:Nat→Fr} {HA:Nat→IH} {B:Nat} {w0:World} {m0:Mp} {wi:World}
theorem beforeB_ready (O:Ordered ops) {listed:Array Bool} (hcl : ∀j i,listed[j]?=some true→beforeB ops.toList j i=true→listed[i]?=some true) {i:Nat} {o:Oper} (ho:ops[i]?=some o)
  (hall : ∀e∈o.after,Region.binds .any e=true→listed[e.on]?=some true) : ∀k,beforeB ops.toList i k=true→listed[k]?=some true:=by
 intro k hb
 have ho':ops.toList[i]?=some o:=by simpa using ho
 obtain⟨e,he,hbe,h⟩:=(beforeB_iff ho' (O.edge i o ho)).1 hb
 have h1:=hall e he hbe
 rcases h with h|h
 ·rw[←h];exact h1
 ·exact hcl _ _ h1 h
theorem open_go (hcall:CallSim E.P call) (T:Text E call nt ops FA HA) (O:Ordered ops) (S:Steady E ops FA HA) (b:Frame) (k:List Item) (ds:List Deferred) (cs:List Frame) :
  ∀(fuel t:Nat) (listed:Array Bool) (U:List Nat) (m:Mp) (w:World) (tmps:Array Value),listed.size=ops.size→(∀j,j∈U↔j<ops.size∧listed[j]?≠some true)→U.Nodup→U.length≤fuel →
   OInv nt ops FA HA B w0 m0 wi (fun j=>listed[j]?=some true) m w tmps →
   ∃m' w' tmps',Steps E.P (lone (on b tmps (.inRegion ops (Region.linearise.go .any ops fuel t listed []) :: k) ds) cs w) (lone (on b tmps' (.inRegion ops [] :: k) ds) cs w')∧OInv nt ops FA HA B w0 m0 wi (fun j=>j<ops.size) m' w' tmps'
 | 0,t,listed,U,m,w,tmps,hsz,hU,hnd,hlen,I=>by
  have hU0:U = []:=List.eq_nil_of_length_eq_zero (by omega)
  subst hU0
  have e:(fun j=>listed[j]?=some true)=fun j=>j<ops.size:=by
   funext j;apply propext
   constructor
   ·intro h
    have:=(Array.getElem?_eq_some_iff.1 h).1
    omega
   ·intro h
    apply Classical.byContradiction;intro hn
    exact absurd ((hU j).2 ⟨h,hn⟩) (by simp)
  rw[e] at I
  exact⟨m,w,tmps,by simp only[Region.linearise.go,List.reverse_nil];exact .refl _ _,I⟩
 | fuel+1,t,listed,U,m,w,tmps,hsz,hU,hnd,hlen,I=>by
  have get : ∀{j},j<ops.size → ∀d,(listed.getD j d=true↔listed[j]?=some true):=by
   intro j hj d
   rw[Array.getD_eq_getD_getElem?,Array.getElem?_eq_getElem (by omega)]
   simp
  have mem_ready : ∀i,i∈Region.ready .any ops listed↔i<ops.size∧listed[i]?≠some true ∧ ∃o,ops[i]?=some o ∧ ∀e∈o.after,Region.binds .any e=true→listed[e.on]?=some true:=by
   intro i
   unfold Region.ready
   rw[List.mem_filter,List.mem_range]
   constructor
   ·rintro⟨h1,h2⟩
    simp only[Bool.and_eq_true,Bool.not_eq_true'] at h2
    refine⟨h1,fun h=>?_,?_⟩
    ·have:=(get h1 true).2 h;rw[this] at h2;cases h2.1
    ·cases ho:ops[i]? with
     | none=>rw[ho] at h2;simp at h2
     | some o =>
      refine⟨o,rfl,fun e he hb=>?_⟩
      rw[ho] at h2
      simp only[Option.map_some,Option.getD_some,Array.all_eq_true',Bool.or_eq_true,Bool.not_eq_true'] at h2
      rcases h2.2 e he with h3|h3
      ·rw[hb] at h3;cases h3
      ·have hlt:=O.edge i o ho e he hb
       exact(get (by omega) false).1 h3
   ·rintro⟨h1,h2,o,ho,h3⟩
    refine⟨h1,?_⟩
    simp only[Bool.and_eq_true,Bool.not_eq_true']
    constructor
    ·cases hg:listed.getD i true with
     | false=>rfl
     | true=>exact absurd ((get h1 true).1 hg) h2
    ·rw[ho]
     simp only[Option.map_some,Option.getD_some,Array.all_eq_true',Bool.or_eq_true,Bool.not_eq_true']
     intro e he
     cases hb:Region.binds .any e with
     | false=>exact .inl rfl
     | true =>
      have hlt:=O.edge i o ho e he hb
      exact .inr ((get (by omega) false).2 (h3 e he hb))
  rw[show Region.linearise.go .any ops (fuel+1) t listed []=(match (Region.ready .any ops listed)[t % (Region.ready .any ops listed).length]? with
   | some i=>Region.linearise.go .any ops fuel (t / (Region.ready .any ops listed).length) (listed.setIfInBounds i true) [i]
   | none => [].reverse) from rfl]
  cases hi:(Region.ready .any ops listed)[t % (Region.ready .any ops listed).length]? with
  | none =>
   have hnil:Region.ready .any ops listed = []:=by
    cases hr:Region.ready .any ops listed with
    | nil=>rfl
    | cons x xs =>
     rw[hr] at hi
     have hlt:t % (x :: xs).length<(x :: xs).length:=Nat.mod_lt _ (by simp)
     rw[List.getElem?_eq_getElem hlt] at hi;cases hi
   have hall : ∀j,j<ops.size→listed[j]?=some true:=by
    intro j
    induction j using Nat.strongRecOn with
    | ind j ih =>
     intro hj
     apply Classical.byContradiction;intro hn
     have:j∈Region.ready .any ops listed:=(mem_ready j).2 ⟨hj,hn,ops[j],Array.getElem?_eq_getElem hj,fun e he hb=>by
      have hlt:=O.edge j _ (Array.getElem?_eq_getElem hj) e he hb
      exact ih e.on hlt (by omega)⟩
     rw[hnil] at this;cases this
   have e:(fun j=>listed[j]?=some true)=fun j=>j<ops.size:=by
    funext j;apply propext
    constructor
    ·intro h
     have:=(Array.getElem?_eq_some_iff.1 h).1
     omega
    ·exact hall j
   rw[e] at I
   exact⟨m,w,tmps,.refl _ _,I⟩
  | some i =>
   simp only
   obtain⟨h1,h2,o,ho,h3⟩:=(mem_ready i).1 (List.mem_of_getElem? hi)
   rw[linearise_go_acc,List.reverse_singleton,List.singleton_append]
   obtain⟨m1,w1,tmps1,hS1,I1⟩:=I.op hcall T O S ho h2 (beforeB_ready O I.closed ho h3) b (Region.linearise.go .any ops fuel (t / (Region.ready .any ops listed).length) (listed.setIfInBounds i true) []) k ds cs
   have hset : ∀j,(listed.setIfInBounds i true)[j]?=some true↔listed[j]?=some true∨j=i:=by
    intro j
    rw[Array.getElem?_setIfInBounds]
    by_cases hji:i=j
    ·subst hji;simp[hsz,h1]
    ·rw[if_neg hji]
     constructor
     ·exact .inl
     ·rintro(h|h)
      ·exact h
      ·exact absurd h.symm hji
   have e:(fun j=>listed[j]?=some true∨j=i)=fun j=>(listed.setIfInBounds i true)[j]?=some true:=by
    funext j;exact propext (hset j).symm
   rw[e] at I1
   have hiU:i∈U:=(hU i).2 ⟨h1,h2⟩
   obtain⟨m',w',tmps',hS,I'⟩:=open_go hcall T O S b k ds cs fuel (t / (Region.ready .any ops listed).length) (listed.setIfInBounds i true) (U.erase i) m1 w1 tmps1 (by simpa using hsz)
    (fun j=>by
     rw[hnd.mem_erase_iff,hU j]
     constructor
     ·rintro⟨a,b,c⟩
      refine⟨b,fun h=>?_⟩
      rcases(hset j).1 h with h|h
      ·exact c h
      ·exact a h
     ·rintro⟨a,b⟩
      exact⟨fun h=>b ((hset j).2 (.inr h)),a,fun h=>b ((hset j).2 (.inl h))⟩)
    (hnd.erase i) (by rw[List.length_erase_of_mem hiU];omega) I1
   exact⟨m',w',tmps',hS1.trans hS,I'⟩
end
theorem sim_drawn {E:Env} {call:CallV} (hcall:CallSim E.P call) (hmono:CallMono call) (hmix:E.P.follows .mixedOrders=true) {nt:Nat} {ops:Array Oper} {fr fr':Fr} {h h':IH} (hr:runDrawn E call nt ops.toList fr h=some (fr',h'))
  {B:Nat} {w0:World} {m:Mp} {w:World} (R:Rel B w0 m h w) {tmps:Array Value} (hf:FrRel m fr tmps) (hn:nt≤tmps.size) (hfr:Fresh m h.n h'.n) (b:Frame) (k:List Item) (ds:List Deferred) (cs:List Frame) (id:Nat) :
  h.n≤h'.n ∧ ∃m' w' tmps',Steps E.P (lone (on b tmps (.code (.region id ops true) :: k) ds) cs w) (lone (on b tmps' k ds) cs w')∧FrRel m' fr' tmps'∧nt≤tmps'.size∧Rel B w0 m' h' w'∧Step m h w m' h' w':=by
 unfold runDrawn at hr
 cases htr:trace E call nt ops.toList ops.toList fr h with
 | none=>rw[htr] at hr;cases hr
 | some tr =>
  rw[htr] at hr
  simp only[cond_eq_ite,Bool.and_eq_true] at hr
  by_cases hc:orderOK ops.toList=true∧steady E.P ops.toList tr (plan ops.toList)=true
  ·rw[if_pos hc] at hr
   have O:=orderOK_spec hc.1
   obtain⟨hlen,h0,hstep⟩:=trace_spec ops.toList fr h tr htr
   have hlen':tr.length=ops.size+1:=by simpa using hlen
   let FA:Nat→Fr:=fun i=>((tr[i]?).map (·.1)).getD fr
   let HA:Nat→IH:=fun i=>((tr[i]?).map (·.2)).getD h
   have htrA : ∀i,i≤ops.size→tr[i]?=some (FA i,HA i):=by
    intro i hi
    have:tr[i]?=some tr[i]:=List.getElem?_eq_getElem (by omega)
    simp only[FA,HA,this,Option.map_some,Option.getD_some]
   have T:Text E call nt ops FA HA:=by
    refine⟨hmono,fun i o ho=>?_⟩
    obtain⟨fr1,h1,fr2,h2,e1,e2,e3⟩:=hstep i o (by simpa using ho)
    have hin:i<ops.size:=(Array.getElem?_eq_some_iff.1 ho).1
    rw[htrA i (by omega)] at e1;rw[htrA (i+1) (by omega)] at e2
    cases e1;cases e2;exact e3
   have S:=steady_spec (E:=E) hc.2 htrA
   have e0:FA 0=fr∧HA 0=h:=by
    have:=htrA 0 (Nat.zero_le _)
    rw[h0] at this;exact⟨(Prod.mk.inj (Option.some.inj this)).1.symm,(Prod.mk.inj (Option.some.inj this)).2.symm⟩
   have en:FA ops.size=fr'∧HA ops.size=h':=by
    have:=htrA ops.size (Nat.le_refl _)
    simp only[Array.length_toList] at hr
    rw[hr] at this;exact⟨(Prod.mk.inj (Option.some.inj this)).1.symm,(Prod.mk.inj (Option.some.inj this)).2.symm⟩
   have R1:Rel B w0 m (HA 0) { w with drawn:=w.drawn+1 }:=by rw[e0.2];exact R.congr rfl (below_drew R.below _)
   have hmono':h.n≤h'.n:=by have:=T.nle ops.size 0 (Nat.zero_le _) (Nat.le_refl _);rw[e0.2,en.2] at this;exact this
   have H0:=HInv.first T R1 (by rw[e0.2,en.2];exact hfr)
   have I0:OInv nt ops FA HA B w0 m { w with drawn:=w.drawn+1 } (fun j:Nat=>(Array.replicate ops.size false)[j]?=some true) m { w with drawn:=w.drawn+1 } tmps:=by
    have e:(fun j:Nat=>(Array.replicate ops.size false)[j]?=some true)=fun _=>False:=by
     funext j;apply propext
     rw[Array.getElem?_replicate]
     constructor
     ·intro h;split at h
      ·cases h
      ·cases h
     ·exact False.elim
    rw[e]
    refine⟨fun _ _ h=>h.elim,fun t=>⟨0,Nat.zero_le _,fun j o _ _=>by simp,fun v hv=>by rw[e0.1] at hv;exact hf t v hv⟩,?_,hn⟩
    exact H0.norm T _ 0 (Nat.le_refl _) (Nat.zero_le _) (fun j _=>by simp)
   obtain⟨m',w',tmps',hS,I'⟩:=open_go hcall T O S b k ds cs ops.size (w.tape w.drawn (.order b.fn id)) (Array.replicate ops.size false) (List.range ops.size) m { w with drawn:=w.drawn+1 } tmps (by simp)
    (fun j=>by
     rw[List.mem_range,Array.getElem?_replicate]
     constructor
     ·intro h;refine⟨h,?_⟩;rw[if_pos h];simp
     ·exact fun h=>h.1)
    List.nodup_range (by simp) I0
   obtain⟨a,h1,h2,h3,H⟩:=I'.chain
   have ha:a=ops.size:=by
    rcases h3 with h|h
    ·exact h
    ·have hlt:a<ops.size:=by
      obtain⟨o,ho,_⟩:=h
      exact(Array.getElem?_eq_some_iff.1 ho).1
     have:=(h2 a h).1 hlt;omega
   subst ha
   refine⟨hmono',m',w',tmps',?_,?_,I'.size,by rw[←en.2];exact H.rel,?_⟩
   ·refine .head st_region_draw ?_
    have:Region.schedule (E.P.follows .mixedOrders) ops (w.tape w.drawn (.order b.fn id))=Region.linearise.go .any ops ops.size (w.tape w.drawn (.order b.fn id)) (Array.replicate ops.size false) []:=by
     rw[hmix];simp only[Region.schedule,Bool.true_or,if_true,Region.linearise]
    rw[this]
    exact hS.trans (.one st_region_end)
   ·intro t v hv
    obtain⟨p,hp,hw,hrel⟩:=I'.slots t
    have:fget (FA ops.size) t=fget (FA p) t:=T.keeps ops.size hp (Nat.le_refl _) fun j o h4 h5 h6 h7=>by
     have:=(hw j o h6 h7).1 h5;omega
    rw[←en.1,this] at hv
    exact hrel v hv
   ·refine Step.congr (w1:={ w with drawn:=w.drawn+1 }) ?_ rfl
    rw[←e0.2,←en.2]
    exact⟨H.le,H.new,T.nle _ _ (Nat.zero_le _) (Nat.le_refl _),H.base,H.frame,H.idle,H.size,H.img,H.idleF⟩
  ·rw[if_neg hc] at hr;cases hr
end Go.Id

namespace Go.Id
open Go Go.RowKit
theorem trace_n {E:Env} {call:CallV} (hc:CallMono call) {nt:Nat} {ops:List Oper} : ∀(l:List Oper) (fr:Fr) (h:IH) (tr:List (Fr×IH)),trace E call nt ops l fr h=some tr → ∀x∈tr,h.n≤x.2.n
 | [],fr,h,tr,ht=>by simp only[trace] at ht;cases ht;simp
 | o :: l,fr,h,tr,ht=>by
  rw[trace] at ht
  split at ht
  ·rename_i fr' h' hs
   obtain⟨tr',h1,rfl⟩:=Option.map_eq_some_iff.1 ht
   intro x hx
   rcases List.mem_cons.1 hx with rfl|hx
   ·exact Nat.le_refl _
   ·exact Nat.le_trans (stepOp_n hc hs) (trace_n hc l fr' h' tr' h1 x hx)
  ·cases ht
theorem runDrawn_n {E:Env} {call:CallV} (hc:CallMono call) {nt:Nat} {ops:List Oper} {fr fr':Fr} {h h':IH} (hr:runDrawn E call nt ops fr h=some (fr',h')):h.n≤h'.n:=by
 unfold runDrawn at hr
 cases ht:trace E call nt ops ops fr h with
 | none=>rw[ht] at hr;cases hr
 | some tr =>
  rw[ht] at hr
  simp only[cond_eq_ite] at hr
  split at hr
  ·exact trace_n hc _ _ _ _ ht _ (List.mem_of_getElem? hr)
  ·cases hr
theorem loopN_n {b:Fr→IH→Out} (hb : ∀fr h e fr' h',b fr h=some (e,fr',h')→h.n≤h'.n) : ∀(n:Nat) (fr:Fr) (h:IH) (e:IExit) (fr':Fr) (h':IH),loopN b n fr h=some (e,fr',h')→h.n≤h'.n
 | 0,fr,h,e,fr',h',hr=>by simp[loopN] at hr
 | n+1,fr,h,e,fr',h',hr=>by
  rw[loopN] at hr
  split at hr
  ·rename_i fr1 h1 hb1;exact Nat.le_trans (hb _ _ _ _ _ hb1) (loopN_n hb n _ _ _ _ _ hr)
  ·rename_i hb1;cases hr;exact hb _ _ _ _ _ hb1
  ·rename_i hb1;cases hr;exact hb _ _ _ _ _ hb1
  ·cases hr
theorem rangeFn_inv {E:Env} {call:CallV} {fn:FuncId} {nt:Nat} {rd:Option Nat} {f:Operand} {ps:List Nat} {a b:Code} {fr fr':Fr} {h h':IH} {e:IExit} (hr:rangeFn E call fn nt rd f ps a b fr h=some (e,fr',h')) :
  roundOK h rd=true∧fr'=fr ∧ ∃fv v h1 r,opd fr f=some fv∧call fv [.func (.yield (2*h.n)) #[] #[]] (h.new (.loop { state:=.ready,pending:=none,fn,nt,fr,params:=ps,assign:=a,body:=b }))=some (v,h1) ∧
   loopOf h1 h.n=some r∧r.state≠.busy∧exitOf r.pending=some e∧h' = { h1 with ext:=h1.ext.set h.n .dead }:=by
 unfold rangeFn at hr
 simp only[cond_eq_ite] at hr
 by_cases hro:roundOK h rd=true
 ·simp only[hro,if_true] at hr
  split at hr
  ·cases hr
  ·rename_i fv hfv
   split at hr
   ·cases hr
   ·rename_i v h1 hcall
    split at hr
    ·cases hr
    ·rename_i r hl
     split at hr
     ·cases hr
     ·rename_i hb
      split at hr
      ·cases hr
      ·rename_i e' he
       cases hr
       exact⟨hro,rfl,fv,v,h1,r,hfv,hcall,hl,fun h=>hb (by rw[h];rfl),he,rfl⟩
 ·simp[hro] at hr
theorem rangeFn_n {E:Env} {call:CallV} (hc:CallMono call) {fn:FuncId} {nt:Nat} {rd:Option Nat} {f:Operand} {ps:List Nat} {a b:Code} {fr fr':Fr} {h h':IH} {e:IExit} (hr:rangeFn E call fn nt rd f ps a b fr h=some (e,fr',h')):h.n≤h'.n:=by
 obtain⟨_,_,fv,v,h1,r,_,h2,_,_,_,rfl⟩:=rangeFn_inv hr
 have:=hc _ _ _ _ _ h2
 have e : ∀o,(h.new o).n=h.n+1:=fun _=>rfl
 rw[e] at this
 show h.n≤h1.n
 omega
def headOf:Code→Option (Nat×Nat×Nat×Nat×Code)
 | .seq (.region id ops draw) rest=>(nextOf ops.toList draw).map fun p=>(id,p.1,p.2.1,p.2.2,rest)
 | _=>none
theorem evC_loop {E:Env} {call:CallV} {fn:FuncId} {nt:Nat} {rd:Option Nat} {n:Nat} (b:Code) (fr:Fr) (h:IH):evC E call fn nt rd n (.loop b) fr h =
  match headOf b with
  | some p=>mapLoop (evC E call fn nt rd n p.2.2.2.2) (headFr E fn p.1) nt p.2.1 p.2.2.1 p.2.2.2.1 fr h
  | none=>loopN (evC E call fn nt rd n b) n fr h:=by
 cases b with
 | seq x y =>
  cases x with
  | region id ops draw =>
   simp only[evC,headOf]
   cases nextOf ops.toList draw with
   | none=>rfl
   | some p=>obtain⟨a,b,c⟩:=p;rfl
  | _=>rfl
 | _=>rfl
theorem sizeInd {motive:Code→Prop} (h : ∀c,(∀c',SizeOf.sizeOf c'<SizeOf.sizeOf c→motive c')→motive c) (c:Code):motive c :=
 (measure (SizeOf.sizeOf:Code→Nat)).wf.induction (C:=motive) c h
theorem headOf_size {b:Code} {p:Nat×Nat×Nat×Nat×Code} (h:headOf b=some p):SizeOf.sizeOf p.2.2.2.2<SizeOf.sizeOf b:=by
 unfold headOf at h
 split at h
 ·obtain⟨q,_,rfl⟩:=Option.map_eq_some_iff.1 h
  simp
  omega
 ·cases h
theorem fget_filterMap {g:Nat→Option (Nat×Value)} (hg : ∀s x,g s=some x→x.1=s) : ∀(l:List Nat) (t:Nat) (v:Value),fget (l.filterMap g) t=some v→g t=some (t,v)
 | [],t,v,h=>by simp[fget] at h
 | a :: l,t,v,h=>by
  cases ha:g a with
  | none=>rw[List.filterMap_cons_none ha] at h;exact fget_filterMap hg l t v h
  | some x =>
   obtain⟨s,u⟩:=x
   obtain rfl:s=a:=hg a _ ha
   rw[List.filterMap_cons_some ha] at h
   simp only[fget,cond_eq_ite,beq_iff_eq] at h
   by_cases e:s=t
   ·subst e;simp at h;subst h;exact ha
   ·rw[if_neg e] at h;exact fget_filterMap hg l t v h
theorem common_some {nt n:Nat} {R:List Nat→Out} {e:IExit} {fr':Fr} {h':IH} (hc:common nt n R=some (e,fr',h')) : ∀l:List Nat,l.Perm (List.range n) → ∃fr,R l=some (e,fr,h') ∧ ∀t v,fget fr' t=some v→fget fr t=some v:=by
 unfold common at hc
 split at hc
 case isFalse=>cases hc
 rename_i c
 cases hc
 intro l hl
 obtain⟨fr,hR⟩:=c.choose_spec l hl
 refine⟨fr,hR,fun t v hv=>?_⟩
 have:=fget_filterMap (by
  intro s x hx
  split at hx
  ·cases hx;rfl
  ·cases hx) _ _ _ hv
 split at this
 ·rename_i d
  cases this
  exact d.choose_spec l hl _ _ _ hR
 ·cases this
theorem mapRounds_n {rest:Fr→IH→Out} (hr : ∀fr h e fr' h',rest fr h=some (e,fr',h')→h.n≤h'.n) {hd:Fr→Fr} {nt it nx more kb k:Nat} {es:List (Value×Value)} :
  ∀(l seen:List Nat) (fr:Fr) (h:IH) (e:IExit) (fr':Fr) (h':IH),mapRounds rest hd nt it nx more kb k es l seen fr h=some (e,fr',h')→h.n≤h'.n
 | [],seen,fr,h,e,fr',h',hx=>by
  unfold mapRounds at hx
  split at hx
  case isFalse=>cases hx
  split at hx
  ·cases hx
  ·split at hx
   ·cases hx
   ·exact hr _ _ _ _ _ hx
 | i :: l,seen,fr,h,e,fr',h',hx=>by
  unfold mapRounds at hx
  split at hx
  case isFalse=>cases hx
  split at hx
  ·cases hx
  ·split at hx
   ·cases hx
   ·split at hx
    ·rename_i hy
     have q:=hr _ _ _ _ _ hy;exact Nat.le_trans q (mapRounds_n hr l _ _ _ _ _ _ hx)
    ·have q:=hr _ _ _ _ _ hx;exact q
theorem mapLoop_some {rest:Fr→IH→Out} {hd:Fr→Fr} {nt it nx more:Nat} {fr:Fr} {h:IH} {e:IExit} {fr':Fr} {h':IH} (hx:mapLoop rest hd nt it nx more fr h=some (e,fr',h')) :
  ∃kb k since seen last es,fget (hd fr) it=some (ptr (2*kb) 0)∧h.ext.get kb=some (.iter k since seen last)∧mapOf h k=some es ∧
   ∀l:List Nat,l.Perm (List.range es.length) → ∃frl hl,mapRounds rest hd nt it nx more kb k es l [] fr h=some (e,frl,hl)∧(∃k0 a0 b0 c0,hl.ext.get kb=some (.iter k0 a0 b0 c0))∧h' = { hl with ext:=hl.ext.set kb .dead } ∧ ∀t v,fget fr' t=some v→fget frl t=some v:=by
 unfold mapLoop at hx
 split at hx
 case h_2=>cases hx
 rename_i b hb
 simp only[cond_eq_ite,beq_iff_eq] at hx
 split at hx
 ·cases hx
 ·rename_i hodd
  split at hx
  case h_2=>cases hx
  rename_i k since seen last hit
  split at hx
  case h_2=>cases hx
  rename_i es hes
  refine⟨b / 2,k,since,seen,last,es,by rw[hb,show 2*(b / 2)=b from by omega];rfl,hit,hes,fun l hl=>?_⟩
  obtain⟨frl,h1,h2⟩:=common_some hx l hl
  rw[if_pos hl] at h1
  unfold killIter at h1
  split at h1
  ·cases h1
  ·rename_i p h3
   split at h1
   ·rename_i k0 a0 b0 c0 hg
    cases h1
    exact⟨_,_,h3,⟨k0,a0,b0,c0,hg⟩,rfl,h2⟩
   ·cases h1
theorem mapLoop_n {rest:Fr→IH→Out} (hr : ∀fr h e fr' h',rest fr h=some (e,fr',h')→h.n≤h'.n) {hd:Fr→Fr} {nt it nx more:Nat} {fr:Fr} {h:IH} {e:IExit} {fr':Fr} {h':IH} (hx:mapLoop rest hd nt it nx more fr h=some (e,fr',h')):h.n≤h'.n:=by
 obtain⟨kb,k,since,seen,last,es,_,_,_,ha⟩:=mapLoop_some hx
 obtain⟨frl,hl,h1,_,rfl,_⟩:=ha _ (List.Perm.refl _)
 exact show h.n≤hl.n from mapRounds_n hr _ _ _ _ _ _ _ h1
theorem evC_n {E:Env} {call:CallV} (hc:CallMono call) {fn:FuncId} {nt:Nat} {rd:Option Nat} {n:Nat} : ∀(c:Code) (fr:Fr) (h:IH) (e:IExit) (fr':Fr) (h':IH),evC E call fn nt rd n c fr h=some (e,fr',h')→h.n≤h'.n:=by
 intro c
 induction c using sizeInd with
 | h c IH =>
 cases c with
 | skip=>intro fr h e fr' h' hr;simp only[evC] at hr;cases hr;exact Nat.le_refl _
 | label l=>intro fr h e fr' h' hr;simp only[evC] at hr;cases hr;exact Nat.le_refl _
 | region id ops draw =>
  intro fr h e fr' h' hr
  simp only[evC] at hr
  split at hr
  ·rename_i fr1 h1 hx
   cases hr
   cases draw with
   | true=>exact runDrawn_n hc hx
   | false=>exact runOps_n hc _ _ _ _ _ hx
  ·cases hr
 | seq a b =>
  have iha:=IH a (by simp<;>omega)
  have ihb:=IH b (by simp<;>omega)
  intro fr h e fr' h' hr
  simp only[evC] at hr
  split at hr
  ·rename_i fr1 h1 hx;exact Nat.le_trans (iha _ _ _ _ _ hx) (ihb _ _ _ _ _ hr)
  ·rename_i hx;cases hr;exact iha _ _ _ _ _ hx
  ·rename_i hx;cases hr;exact iha _ _ _ _ _ hx
  ·cases hr
 | cond x a b =>
  have iha:=IH a (by simp<;>omega)
  have ihb:=IH b (by simp<;>omega)
  intro fr h e fr' h' hr
  simp only[evC] at hr
  split at hr
  ·exact iha _ _ _ _ _ hr
  ·exact ihb _ _ _ _ _ hr
  ·cases hr
 | block id b =>
  have ih:=IH b (by simp<;>omega)
  intro fr h e fr' h' hr
  simp only[evC,cond_eq_ite] at hr
  split at hr
  ·rename_i hx
   split at hr<;>(cases hr;exact ih _ _ _ _ _ hx)
  ·rename_i hx;cases hr;exact ih _ _ _ _ _ hx
  ·rename_i hx;cases hr;exact ih _ _ _ _ _ hx
  ·cases hr
 | loop b =>
  have ih:=IH b (by simp<;>omega)
  intro fr h e fr' h' hr
  rw[evC_loop] at hr
  split at hr
  ·rename_i p hp
   exact mapLoop_n (IH _ (Nat.lt_trans (headOf_size hp) (by simp<;>omega))) hr
  ·exact loopN_n (fun fr h e fr' h' hx=>ih fr h e fr' h' hx) n _ _ _ _ _ hr
 | scope b=>have ih:=IH b (by simp<;>omega);intro fr h e fr' h' hr;simp only[evC] at hr;exact ih _ _ _ _ _ hr
 | rangeFunc f ps a b=>intro fr h e fr' h' hr;simp only[evC] at hr;exact rangeFn_n hc hr
 | exit i=>intro fr h e fr' h' hr;simp only[evC] at hr;cases hr;exact Nat.le_refl _
 | ret=>intro fr h e fr' h' hr;simp only[evC] at hr;cases hr;exact Nat.le_refl _
 | goto i=>intro fr h e fr' h' hr;simp only[evC] at hr;cases hr
 | refuse i=>intro fr h e fr' h' hr;simp only[evC] at hr;cases hr
theorem Rel.keep {B:Nat} {w0:World} {m:Mp} {h:IH} {w w':World} (R:Rel B w0 m h w) (hb:Below B w0 w') (hs:w.heap.size≤w'.heap.size)
  (hk : ∀r,(r<B ∨ ∃k s,k<h.n∧m (2*k)=some (r,s))→w'.heap[r]?=w.heap[r]?):Rel B w0 m h w':=by
 refine⟨hb,Nat.le_trans R.size hs,fun b cs hx=>?_,R.odd,fun k r s hm=>⟨(R.even k r s hm).1,Nat.lt_of_lt_of_le (R.even k r s hm).2 hs⟩,R.dom,fun k o r s ho hm=>?_,R.own,R.famdom,R.fam,R.long,R.whole⟩
 ·obtain⟨r0,s0,m0,a,c,el,fz,d,e⟩:=R.base b cs hx
  exact⟨r0,s0,m0,a,c,el,fz,by rw[hk r0 (.inl a)];exact d,e⟩
 ·have hkn:k<h.n:=by
   rcases Nat.lt_or_ge k h.n with e|e
   ·exact e
   ·rw[R.dom k e] at ho;cases ho
  exact(R.obj k o r s ho hm).mono (Mp.le_refl m) (hk r (.inr ⟨k,s,hkn,hm⟩)) rfl
theorem Rel.ghost {B:Nat} {w0:World} {m:Mp} {h:IH} {w:World} (R:Rel B w0 m h w) (O:Obj):Rel B w0 m h (w.alloc O)∧Step m h w m h (w.alloc O):=by
 have hold : ∀r,r<w.heap.size→(w.alloc O).heap[r]?=w.heap[r]?:=fun r hr=>by rw[heap_alloc,if_neg (by omega)]
 refine⟨R.keep (below_alloc R.below R.size O) (by rw[size_alloc];omega) ?_,⟨Mp.le_refl m,fun b hb=>absurd rfl hb,Nat.le_refl _,rfl,fun r hr _=>hold r hr,fun _ _ _=>rfl,by rw[size_alloc];omega,fun k r s a b=>by omega,fun _ _ _ h=>h⟩⟩
 rintro r (hr|⟨k,s,_,hm⟩)
 ·exact hold r (Nat.lt_of_lt_of_le hr R.size)
 ·exact hold r (R.even k r s hm).2
def markOf (r:Nat):Deferred:={ target:=.collected r,args:=#[] }
def DefOK (z:Nat) (m:Mp) (h:IH) (w:World) (ds:List Deferred):Prop :=
 ∃rs:List Nat,ds=rs.map markOf∧rs.Nodup ∧ ∀r∈rs,z≤r∧w.heap[r]?=some (.deferred (some [])) ∧ ∀k s,k<h.n→m (2*k)≠some (r,s)
theorem heap_lt {w:World} {r:Nat} {o:Obj} (h:w.heap[r]?=some o):r<w.heap.size:=(Array.getElem?_eq_some_iff.1 h).1
theorem DefOK.step {z:Nat} {m m':Mp} {h h':IH} {w w':World} {ds:List Deferred} (d:DefOK z m h w ds) (s:Step m h w m' h' w'):DefOK z m' h' w' ds:=by
 obtain⟨rs,h1,h2,h3⟩:=d
 refine⟨rs,h1,h2,fun r hr=>?_⟩
 obtain⟨a,b,c⟩:=h3 r hr
 refine⟨a,by rw[s.frame r (heap_lt b) c];exact b,fun k x hk hm=>?_⟩
 by_cases hkn:k<h.n
 ·rw[s.old hkn] at hm;exact c k x hkn hm
 ·rcases s.img k r x (by omega) hk hm with e|⟨k0,s0,e1,e2⟩
  ·have:=heap_lt b;omega
  ·exact c k0 s0 e1 e2
theorem DefOK.nil (z:Nat) (m:Mp) (h:IH) (w:World):DefOK z m h w []:=⟨[],rfl,List.nodup_nil,by simp⟩
theorem DefOK.push {B:Nat} {w0:World} {z:Nat} {m:Mp} {h:IH} {w:World} {ds:List Deferred} (d:DefOK z m h w ds) (R:Rel B w0 m h w) (hz:z≤w.heap.size):DefOK z m h (w.alloc (.deferred (some []))) (markOf w.heap.size :: ds):=by
 obtain⟨rs,h1,h2,h3⟩:=d.step (R.ghost (.deferred (some []))).2
 refine⟨w.heap.size :: rs,by rw[h1];rfl,List.nodup_cons.2 ⟨fun hm=>?_,h2⟩,fun r hr=>?_⟩
 ·obtain⟨rs',e1,e2,e3⟩:=d
  have:rs'=rs:=by
   have e:=e1.symm.trans h1
   have inj : ∀a b,markOf a=markOf b→a=b:=by intro a b h;simp[markOf] at h;exact h
   exact List.map_inj_right (fun a b=>inj a b) |>.1 e
  subst this
  have:=heap_lt (e3 _ hm).2.1
  omega
 ·rcases List.mem_cons.1 hr with rfl|hr
  ·refine⟨hz,by rw[heap_alloc,if_pos rfl],fun k s _ hm=>?_⟩
   have:=(R.even k _ s hm).2;omega
  ·exact h3 r hr
end Go.Id

namespace Go.Id
open Go Go.RowKit
theorem run_chooseNext (P:Program) (w:World) {n:Nat} (hn:0<n) : ∃i d,i<n∧(choose (.mapNext n)).run P w=.ok i { w with drawn:=d }:=by
 simp only[choose,Sem.run]
 by_cases h:(Question.mapNext n).forced=true
 ·rw[if_pos h];exact⟨0,w.drawn,hn,rfl⟩
 ·rw[if_neg h];exact⟨_,_,Nat.mod_lt _ hn,rfl⟩
theorem run_setObj_iter (P:Program) {w:World} {r:Nat} {a:Option Nat} {b d:Nat} {c:Array Nat} (h:w.heap[r]?=some (.mapIter a b c d)) (o:Obj):(Go.setObj r o).run P w=.ok () (World.put w r o):=by
 simp only[Go.setObj,Sem.run,h];rfl
theorem born_lt {m:Mp} {es:List (Value×Value)} {c:Array MapEntry} (h:MapRel m es c) {e:MapEntry} (he:e∈c):e.born<es.length∧c[e.born]?=some e:=by
 obtain⟨i,hi,rfl⟩:=Array.mem_iff_getElem.1 he
 have:=h.born i c[i] (Array.getElem?_eq_getElem hi)
 rw[this]
 exact⟨by have:=h.1;omega,Array.getElem?_eq_getElem hi⟩
theorem run_next (P:Program) {m:Mp} {es:List (Value×Value)} {c:Array MapEntry} (hcm:MapRel m es c) {w:World} {r rm:Nat} {seen:List Nat}
  (hit:w.heap[r]?=some (.mapIter (some rm) es.length seen.toArray es.length)) (hmap:w.heap[rm]?=some (.map c es.length)) (t:TypeId) :
  ((∀i,i<es.length→i∈seen) ∧ ∃d,(Instr.next (.pointer (some ⟨r,0,none⟩)) false t).run P w=.ok (.tuple #[.bool false]) { w with drawn:=d }) ∨
  ∃i e' d,i∉seen∧c[i]?=some e'∧(Instr.next (.pointer (some ⟨r,0,none⟩)) false t).run P w=.ok (.tuple #[.bool true,e'.key,e'.val]) (World.put { w with drawn:=d } r (.mapIter (some rm) es.length (seen.toArray.push i) es.length)):=by
 have hcond:(!seen.toArray.isEmpty && !c.isEmpty && c.all fun e=>decide (e.born ≥ es.length))=false:=by
  cases hc:c.isEmpty with
  | true=>simp
  | false =>
   have hpos:0<c.size:=by
    rcases Nat.eq_zero_or_pos c.size with h|h
    ·rw[Array.isEmpty_iff_size_eq_zero.2 h] at hc;cases hc
    ·exact h
   have hb:=hcm.born 0 c[0] (Array.getElem?_eq_getElem hpos)
   have:(c.all fun e=>decide (e.born ≥ es.length))=false:=by
    rw[Bool.eq_false_iff]
    intro hall
    have:=Array.all_eq_true.1 hall 0 hpos
    rw[hb] at this
    have h1:=of_decide_eq_true this
    have:=hcm.1
    omega
   rw[this];simp
 obtain⟨left,hleft⟩ : ∃l,l=c.filter fun e => !seen.toArray.contains e.born:=⟨_,rfl⟩
 have hmem : ∀e∈left,e∈c∧e.born∉seen:=by
  intro e he
  rw[hleft,Array.mem_filter] at he
  exact⟨he.1,by simpa using he.2⟩
 have hold:(left.filter fun e=>decide (e.born<es.length))=left:=by
  rw[Array.filter_eq_self]
  intro e he
  simpa using (born_lt hcm (hmem e he).1).1
 have hnew:(left.filter fun e=>decide (e.born ≥ es.length)) = #[]:=by
  rw[Array.filter_eq_empty_iff]
  intro e he
  have:=(born_lt hcm (hmem e he).1).1
  simp;omega
 have hrun : ∀i d,i<((if left.isEmpty then #[none] else #[]) ++ (left ++ #[]).map some:Array (Option MapEntry)).size →
   (choose (.mapNext ((if left.isEmpty then #[none] else #[]) ++ (left ++ #[]).map some:Array (Option MapEntry)).size)).run P w=.ok i { w with drawn:=d } →
   (Instr.next (.pointer (some ⟨r,0,none⟩)) false t).run P w=(match ((if left.isEmpty then #[none] else #[]) ++ (left ++ #[]).map some:Array (Option MapEntry))[i]? with
    | some (some e)=>.ok (.tuple #[.bool true,e.key,e.val]) (World.put { w with drawn:=d } r (.mapIter (some rm) es.length (seen.toArray.push e.born) es.length))
    | some none=>.ok (.tuple #[.bool false]) { w with drawn:=d }
    | none=>(stuck "Next: no such candidate" : Sem Value).run P { w with drawn:=d }):=by
  intro i d hi hch
  have hit2:({ w with drawn:=d }:World).heap[r]?=some (.mapIter (some rm) es.length seen.toArray es.length):=hit
  simp only[Instr.next,Sem.run_bind,run_getObj_iter P hit,Result.andThen_ok,run_getObj_map P hmap,hcond,Bool.false_eq_true,if_false,←hleft,hold,hnew,hch]
  generalize ((if left.isEmpty then #[none] else #[]) ++ (left ++ #[]).map some:Array (Option MapEntry))[i]?=y
  cases y with
  | none=>rfl
  | some y=>cases y with
   | none=>rfl
   | some e =>
    simp only[Sem.run_bind,run_setObj_iter P hit2,Result.andThen_ok,Sem.run_pure]
 by_cases hem:left.isEmpty=true
 ·left
  have hl0:left = #[]:=by simpa using hem
  refine⟨fun i hi=>?_,?_⟩
  ·apply Classical.byContradiction
   intro hns
   have hic:i<c.size:=by have:=hcm.1;omega
   have hb:=hcm.born i c[i] (Array.getElem?_eq_getElem hic)
   have:c[i]∈left:=by
    rw[hleft,Array.mem_filter]
    exact⟨Array.getElem_mem hic,by rw[hb];simpa using hns⟩
   rw[hl0] at this
   simp at this
  ·obtain⟨i,d,hi,hch⟩:=run_chooseNext P w (n:=((if left.isEmpty then #[none] else #[]) ++ (left ++ #[]).map some:Array (Option MapEntry)).size) (by simp[hl0])
   refine⟨d,?_⟩
   rw[hrun i d hi hch]
   simp only[hl0] at hi ⊢
   simp at hi
   subst hi
   simp
 ·right
  have hne:left.isEmpty=false:=by simpa using hem
  have hcand:((if left.isEmpty then #[none] else #[]) ++ (left ++ #[]).map some:Array (Option MapEntry))=left.map some:=by simp[hne]
  have hpos:0<left.size:=by
   rcases Nat.eq_zero_or_pos left.size with h|h
   ·rw[Array.isEmpty_iff_size_eq_zero.2 h] at hne;cases hne
   ·exact h
  obtain⟨i,d,hi,hch⟩:=run_chooseNext P w (n:=((if left.isEmpty then #[none] else #[]) ++ (left ++ #[]).map some:Array (Option MapEntry)).size) (by rw[hcand];simpa using hpos)
  have hr:=hrun i d hi hch
  rw[hcand] at hr hi
  have hil:i<left.size:=by simpa using hi
  have hgi:(left.map some)[i]?=some (some left[i]):=by simp[hil]
  rw[hgi] at hr
  obtain⟨h1,h2⟩:=hmem left[i] (Array.getElem_mem hil)
  obtain⟨_,h3⟩:=born_lt hcm h1
  exact⟨left[i].born,left[i],d,h2,h3,hr⟩
theorem put_same {w:World} {r:Nat} {o:Obj} (h:w.heap[r]?=some o):World.put w r o=w:=by
 have hr:r<w.heap.size:=by
  rcases Nat.lt_or_ge r w.heap.size with h'|h'
  ·exact h'
  ·rw[Array.getElem?_eq_none h'] at h;cases h
 have he:w.heap[r]=o:=by rw[Array.getElem?_eq_getElem hr] at h;exact Option.some.inj h
 subst he
 show { w with heap:=w.heap.setIfInBounds r w.heap[r] }=w
 rw[Array.setIfInBounds_def,dif_pos hr,Array.set_getElem_self]
end Go.Id
