/-
  The ideal machine: small laws for regions whose order is open. The ideal machine: a region whose order is open: what is known of the memory while some of its operations are done.
-/
import Derived.Test.YtnanhedgenokpaaGreatTemperDetailedAi
set_option linter.unusedVariables false
set_option linter.unusedSimpArgs false
set_option linter.defProp false
set_option linter.deprecated false
namespace Go.Id
open Go Go.RowKit
theorem eqS_eq {a b:Value} (h:eqS a b=true):a=b:=by
 unfold eqS at h
 split at h
 case h_3 a b =>
  simp only[beq_iff_eq] at h
  have:a=b:=by cases a;cases b;simp only at h;rw[Array.toList_inj.1 h]
  rw[this]
 all_goals simp_all
theorem eqL_eq : ∀{a b:List Value},eqL a b=true→a=b
 | [],[],_=>rfl
 | [],_ :: _,h=>by simp[eqL] at h
 | _ :: _,[],h=>by simp[eqL] at h
 | x :: a,y :: b,h=>by
  simp only[eqL,Bool.and_eq_true] at h
  rw[eqS_eq h.1,eqL_eq h.2]
theorem eqA_eq {a b:Value} (h:eqA a b=true):a=b:=by
 unfold eqA at h
 split at h
 ·rw[Array.toList_inj.1 (eqL_eq h)]
 ·simp only[Bool.and_eq_true,beq_iff_eq] at h
  rw[h.1.1,Array.toList_inj.1 (eqL_eq h.1.2),Array.toList_inj.1 (eqL_eq h.2)]
 ·exact eqS_eq h
theorem eqT_eq : ∀{a b:List Value},eqT a b=true→a=b
 | [],[],_=>rfl
 | [],_ :: _,h=>by simp[eqT] at h
 | _ :: _,[],h=>by simp[eqT] at h
 | x :: a,y :: b,h=>by
  simp only[eqT,Bool.and_eq_true] at h
  rw[eqA_eq h.1,eqT_eq h.2]
theorem eqV0_eq {a b:Value} (h:eqV0 a b=true):a=b:=by
 unfold eqV0 at h
 split at h
 ·rw[Array.toList_inj.1 (eqT_eq h)]
 ·exact eqA_eq h
theorem eqV_eq {a b:Value} (h:eqV a b=true):a=b:=by
 simp only[eqV,Bool.or_eq_true,decide_eq_true_eq] at h
 exact h.elim eqV0_eq id
theorem fget_keepOnly (fr:Fr) : ∀(l:List Nat) (t:Nat),fget (keepOnly fr l) t=if t∈l then fget fr t else none
 | [],t=>by simp[keepOnly,fget]
 | a :: l,t=>by
  rw[keepOnly]
  cases ha:fget fr a with
  | none =>
   simp only[fget_keepOnly fr l t]
   by_cases h1:t∈l
   ·simp[h1]
   ·by_cases h2:t=a
    ·subst h2;simp[h1,ha]
    ·simp[h1,h2]
  | some v =>
   simp only[fget,cond_eq_ite,beq_iff_eq,fget_keepOnly fr l t]
   by_cases h2:a=t
   ·subst h2;simp[ha]
   ·by_cases h1:t∈l
    ·simp[h1,h2]
    ·have : ¬t=a:=fun e=>h2 e.symm
     simp[h1,h2,this]
theorem opds_congr {fr fr2:Fr} : ∀(l:List Operand),(∀x∈l,opd fr x=opd fr2 x)→opds fr l=opds fr2 l
 | [],_=>rfl
 | x :: l,h=>by rw[opds,opds,h x (by simp),opds_congr l (fun y hy=>h y (by simp[hy]))]
theorem partsOf_congr {fr fr2:Fr} : ∀(l:List (Nat×Operand)),(∀x∈l.map (·.2),opd fr x=opd fr2 x)→partsOf fr l=partsOf fr2 l
 | [],_=>rfl
 | (i,x) :: l,h=>by rw[partsOf,partsOf,h x (by simp),partsOf_congr l (fun y hy=>h y (by simp only[List.map_cons,List.mem_cons];exact .inr hy))]
theorem optOpd_congr {fr fr2:Fr} {o:Option Operand} (h : ∀x∈o.toArray,opd fr x=opd fr2 x):optOpd fr o=optOpd fr2 o:=by
 cases o with
 | none=>rfl
 | some x=>simp only[optOpd];rw[h x (by simp)]
theorem iop_congr {P:Program} {fr fr2:Fr} {o:Op} (h : ∀x∈o.operands,opd fr x=opd fr2 x) (hp:IH):iop P fr o hp=iop P fr2 o hp:=by
 cases o<;>simp only[Op.operands] at h<;>simp only[iop]
 case move x=>rw[h x (by simp)]
 case assign x=>rw[h x (by simp)]
 case pick c a b=>rw[h c (by simp),h a (by simp),h b (by simp)]
 case box t x=>rw[h x (by simp)]
 case build t ps=>rw[partsOf_congr ps.toList (fun x hx=>h x (by simpa using hx))]
 case buildSlice t n ps=>rw[partsOf_congr ps.toList (fun x hx=>h x (by simpa using hx))]
 case load t a=>rw[h a (by simp)]
 case store t a v=>rw[h a (by simp),h v (by simp)]
 case nilCheck x=>rw[h x (by simp)]
 case binOp op t x y yt=>rw[h x (by simp),h y (by simp)]
 case unOp op t x=>rw[h x (by simp)]
 case convert s d x=>rw[h x (by simp)]
 case sliceToArrayPointer t x=>rw[h x (by simp)]
 case makeFunc fn first cap =>
  rw[opds_congr first.toList (fun x hx=>h x (by simp at hx ⊢;exact .inl hx)),opds_congr cap.toList (fun x hx=>h x (by simp at hx ⊢;exact .inr hx))]
 case makeMap t r=>cases r with
  | none=>rfl
  | some x=>simp only;rw[h x (by simp)]
 case makeSlice t l c=>rw[h l (by simp),h c (by simp)]
 case slice t x lo hi mx =>
  rw[h x (by simp),optOpd_congr (o:=lo) (fun y hy=>h y (by simp at hy ⊢;simp[hy])),optOpd_congr (o:=hi) (fun y hy=>h y (by simp at hy ⊢;simp[hy])),optOpd_congr (o:=mx) (fun y hy=>h y (by simp at hy ⊢;simp[hy]))]
 case fieldAddr t x f=>rw[h x (by simp)]
 case field t x f=>rw[h x (by simp)]
 case indexAddr t x i=>rw[h x (by simp),h i (by simp)]
 case index t x i=>rw[h x (by simp),h i (by simp)]
 case lookup t m k ok=>rw[h m (by simp),h k (by simp)]
 case mapUpdate t m k v=>rw[h m (by simp),h k (by simp),h v (by simp)]
 case insert t m k v=>rw[h m (by simp),h k (by simp),h v (by simp)]
 case extract x i=>rw[h x (by simp)]
 case range t x=>rw[h x (by simp)]
 case entry x=>rw[h x (by simp)]
 case call c =>
  cases hc:c.callee with
  | builtin b=>simp only;rw[opds_congr c.args.toList (fun x hx=>h x (by simp[Call.operands,hc];simpa using hx))]
  | value f=>rfl
  | invoke r n=>rfl
theorem runOp_congr {E:Env} {call:CallV} {fr fr2:Fr} {o:Op} (h : ∀x∈o.operands,opd fr x=opd fr2 x) (hp:IH):runOp E call fr o hp=runOp E call fr2 o hp:=by
 unfold runOp
 split
 ·rename_i c
  split
  ·rename_i f hc
   simp only[Op.operands,Call.operands,hc] at h
   rw[h f (by simp),opds_congr c.args.toList (fun x hx=>h x (by simp;exact .inr (by simpa using hx)))]
  ·exact iop_congr h hp
 ·exact iop_congr h hp
theorem opd_keep (fr:Fr) (ops:List Oper) (o:Oper) : ∀x∈o.op.operands,opd (keepOnly fr (reads ops o)) x=opd fr x:=by
 intro x hx
 cases x with
 | tmp t =>
  simp only[opd,fget_keepOnly]
  rw[if_pos ?_]
  unfold reads tmpsOf
  exact List.mem_append_left _ (List.mem_filterMap.2 ⟨.tmp t,by simpa using hx,rfl⟩)
 | _=>rfl
theorem wanted_keep (fr:Fr) (ops:List Oper) (o:Oper):wantedI ops o (keepOnly fr (reads ops o))=wantedI ops o fr:=by
 unfold wantedI
 cases hg:o.guard with
 | none=>rfl
 | some jw =>
  obtain⟨j,want⟩:=jw
  simp only
  cases hd:(ops[j]?).bind (·.dst) with
  | none=>rfl
  | some d =>
   simp only
   rw[fget_keepOnly,if_pos ?_]
   unfold reads
   exact List.mem_append_right _ (by simp[hg,hd])
theorem trace_spec {E:Env} {call:CallV} {nt:Nat} {ops:List Oper} : ∀(l:List Oper) (fr:Fr) (h:IH) (tr:List (Fr×IH)),trace E call nt ops l fr h=some tr →
  tr.length=l.length+1∧tr[0]?=some (fr,h) ∧ ∀(i:Nat) (o:Oper),l[i]?=some o → ∃fr1 h1 fr2 h2,tr[i]?=some (fr1,h1)∧tr[i+1]?=some (fr2,h2)∧stepOp E call nt ops o fr1 h1=some (fr2,h2)
 | [],fr,h,tr,ht=>by simp only[trace] at ht;cases ht;exact⟨rfl,rfl,by simp⟩
 | o :: l,fr,h,tr,ht=>by
  rw[trace] at ht
  split at ht
  ·rename_i fr' h' hs
   obtain⟨tr',h1,rfl⟩:=Option.map_eq_some_iff.1 ht
   obtain⟨a,b,c⟩:=trace_spec l fr' h' tr' h1
   refine⟨by simp[a],rfl,fun i o' hi=>?_⟩
   cases i with
   | zero=>simp at hi;subst hi;exact⟨fr,h,fr',h',rfl,by simpa using b,hs⟩
   | succ i=>simp at hi;obtain⟨x1,x2,x3,x4,y1,y2,y3⟩:=c i o' hi;exact⟨x1,x2,x3,x4,by simpa using y1,by simpa using y2,y3⟩
  ·cases ht
theorem testBit_mask (acc:List Nat) (i:Nat) : ∀(es:List Edge),(es.foldr (fun e s=>bif Region.binds .any e then s ||| 2 ^ e.on ||| acc.getD e.on 0 else s) 0).testBit i=es.any (fun e=>Region.binds .any e && (e.on == i || (acc.getD e.on 0).testBit i))
 | []=>by simp
 | e :: es=>by
  rw[List.foldr_cons,List.any_cons,←testBit_mask acc i es]
  cases hb:Region.binds .any e with
  | false=>simp
  | true =>
   simp only[cond_true,Nat.testBit_or,Nat.testBit_two_pow,Bool.true_and]
   have:decide (e.on=i)=(e.on == i):=by by_cases h:e.on=i<;>simp[h]
   rw[this]
   cases(List.foldr (fun e s=>bif Region.binds .any e then s ||| 2 ^ e.on ||| acc.getD e.on 0 else s) 0 es).testBit i<;>cases(e.on == i)<;>cases(acc.getD e.on 0).testBit i<;>rfl
theorem masks_spec : ∀(l:List Oper) (acc:List Nat),(masks acc l).length=acc.length+l.length∧(masks acc l).take acc.length=acc ∧
  ∀(j:Nat) (o:Oper),l[j]?=some o→(masks acc l)[acc.length+j]?=some (maskOf ((masks acc l).take (acc.length+j)) o)
 | [],acc=>by simp[masks]
 | o :: l,acc=>by
  obtain⟨h1,h2,h3⟩:=masks_spec l (acc ++ [maskOf acc o])
  rw[masks]
  simp only[List.length_append,List.length_cons,List.length_nil] at h1 h2 h3
  have hpre:(masks (acc ++ [maskOf acc o]) l).take acc.length=acc:=by
   have:=congrArg (List.take acc.length) h2
   rw[List.take_take,List.take_append_of_le_length (Nat.le_refl _),List.take_length] at this
   rw[Nat.min_eq_left (by omega)] at this
   exact this
  refine⟨by rw[h1,List.length_cons];omega,hpre,fun j o' hj=>?_⟩
  cases j with
  | zero =>
   simp at hj;subst hj
   rw[Nat.add_zero,hpre]
   have:((masks (acc ++ [maskOf acc o]) l).take (acc.length+1))[acc.length]?=some (maskOf acc o):=by rw[h2];simp
   rw[List.getElem?_take] at this
   simpa using this
  | succ j =>
   simp at hj
   have:=h3 j o' hj
   rw[show acc.length+(j+1)=acc.length+(0+1)+j from by omega]
   exact this
def beforeB (ops:List Oper) (j i:Nat):Bool:=((masks [] ops).getD j 0).testBit i
theorem beforeB_iff {ops:List Oper} {j i:Nat} {o:Oper} (ho:ops[j]?=some o) (hlt : ∀e∈o.after,Region.binds .any e=true→e.on<j) :
  beforeB ops j i=true ↔ ∃e∈o.after,Region.binds .any e=true∧(e.on=i∨beforeB ops e.on i=true):=by
 obtain⟨_,_,h3⟩:=masks_spec ops []
 have hm:=h3 j o ho
 simp only[List.length_nil,Nat.zero_add] at hm
 unfold beforeB
 rw[List.getD_eq_getElem?_getD,hm,Option.getD_some]
 unfold maskOf
 rw[testBit_mask,List.any_eq_true]
 constructor
 ·rintro⟨e,he,hb⟩
  simp only[Bool.and_eq_true,Bool.or_eq_true,beq_iff_eq] at hb
  refine⟨e,by simpa using he,hb.1,?_⟩
  have:=hlt e (by simpa using he) hb.1
  rcases hb.2 with h|h
  ·exact .inl h
  ·right;rw[List.getD_eq_getElem?_getD,List.getElem?_take,if_pos this] at h;rw[List.getD_eq_getElem?_getD];exact h
 ·rintro⟨e,he,hb,h⟩
  have hl:=hlt e he hb
  refine⟨e,by simpa using he,?_⟩
  simp only[Bool.and_eq_true,Bool.or_eq_true,beq_iff_eq]
  refine⟨hb,?_⟩
  rcases h with h|h
  ·exact .inl h
  ·right;rw[List.getD_eq_getElem?_getD,List.getElem?_take,if_pos hl];rw[List.getD_eq_getElem?_getD] at h;exact h
theorem Rel.addObj {B:Nat} {w0:World} {m:Mp} {h:IH} {w:World} (R:Rel B w0 m h w) (o:IObj) (hl:o.lone=true)
  (hm:m (2*h.n)=none ∨ ∃r,m (2*h.n)=some (r,0)∧ObjRel m w r 0 (m.ez (2*h.n)) o ∧ ∀k s,k<h.n→m (2*k)≠some (r,s)):Rel B w0 m (h.new o) w:=by
 have hget : ∀k,(h.new o).ext.get k=if k=h.n then some o else h.ext.get k:=fun k=>Tr.get_set _ _ _ _
 have hdn:=R.dom h.n (Nat.le_refl _)
 have hn:(h.new o).n=h.n+1:=rfl
 have hlt : ∀{k x},h.ext.get k=some x→k<h.n:=by
  intro k x hk
  rcases Nat.lt_or_ge k h.n with e|e
  ·exact e
  ·rw[R.dom k e] at hk;cases hk
 refine⟨R.below,R.size,R.base,R.odd,R.even,?_,?_,?_,?_,?_,?_,R.whole⟩
 ·intro k hk;rw[hget,if_neg (by omega)];exact R.dom k (by omega)
 ·intro k x r s hk hr
  rw[hget] at hk
  by_cases e:k=h.n
  ·subst e;rw[if_pos rfl] at hk;cases hk
   rcases hm with e|⟨r',h1,h2,_⟩
   ·rw[e] at hr;cases hr
   ·rw[h1] at hr;cases hr;exact h2
  ·rw[if_neg e] at hk;exact R.obj k x r s hk hr
 ·intro k k' x x' r s s' hne hk hk' ha ha' hr hr'
  rw[hget] at hk hk'
  by_cases e:k=h.n
  ·subst e
   rw[if_neg (fun e=>hne e.symm)] at hk'
   rcases hm with e|⟨r',h1,_,h3⟩
   ·rw[e] at hr;cases hr
   ·rw[h1] at hr;cases hr
    exact absurd hr' (h3 k' s' (hlt hk'))
  ·by_cases e':k'=h.n
   ·subst e'
    rw[if_neg e] at hk
    rcases hm with e|⟨r',h1,_,h3⟩
    ·rw[e] at hr';cases hr'
    ·rw[h1] at hr';cases hr'
     exact absurd hr (h3 k s (hlt hk))
   ·rw[if_neg e] at hk;rw[if_neg e'] at hk'
    exact(R.own k k' x x' r s s' hne hk hk' ha ha' hr hr').imp (kin_new hdn) id
 ·intro f st hf
  obtain⟨a,b,c⟩:=R.famdom f st hf
  exact⟨Nat.lt_succ_of_lt a,fun x hx=>Nat.lt_succ_of_lt (b x hx),c⟩
 ·intro k cs t f hk
  rw[hget] at hk
  by_cases e:k=h.n
  ·rw[if_pos e] at hk;cases hk;simp[IObj.lone] at hl
  ·rw[if_neg e] at hk;exact R.fam k cs t f hk
 ·intro f st hf
  have hltf:=(R.famdom f st hf).2.1
  refine(R.long f st hf).imp_of_mem fun {x y} hx hy hxy=>?_
  intro cs t g cs' t' g' r s s' h1 h2 h3 h4
  rw[hget,if_neg (by have:=hltf x hx;omega)] at h1;rw[hget,if_neg (by have:=hltf y hy;omega)] at h2
  exact hxy cs t g cs' t' g' r s s' h1 h2 h3 h4
theorem Rel.mapIn {B:Nat} {w0:World} {m:Mp} {h:IH} {w:World} (R:Rel B w0 m h w) (k:Nat) (O:Obj) (z:Nat×Nat) (hm:m (2*k)=none)
  (hobj : ∀o,h.ext.get k=some o→o.lone=true∧ObjRel m (w.alloc O) w.heap.size 0 z o) (hst : ∀f st,h.fams.get f=some st→k∉st):Rel B w0 (m.upd (2*k) (w.heap.size,0) z) h (w.alloc O):=by
 have hle:m.le (m.upd (2*k) (w.heap.size,0) z):=Mp.le_upd hm
 have hold : ∀r,r<w.heap.size→(w.alloc O).heap[r]?=w.heap[r]?:=fun r hr=>by rw[heap_alloc,if_neg (by omega)]
 refine⟨below_alloc R.below R.size O,by rw[size_alloc];have:=R.size;omega,?_,?_,?_,R.dom,?_,?_,R.famdom,R.fam,?_,?_⟩
 ·intro b cs hb
  obtain⟨r0,s0,hm0,hb1,c,el,fz,hc,hr⟩:=R.base b cs hb
  refine⟨r0,s0,by rw[Mp.upd_ne _ _ _ (by omega)];exact hm0,hb1,c,el,fz,?_,hr.1,fun i v hv=>let ⟨v',x,y⟩:=hr.2 i v hv;⟨v',x,y.mono hle⟩⟩
  rw[hold r0 (by have:=R.size;omega),hc]
 ·intro b hb;rw[Mp.upd_ne _ _ _ (by omega)];exact R.odd b hb
 ·intro j r s hj
  rw[size_alloc]
  by_cases e:j=k
  ·subst e;rw[Mp.upd_self] at hj;cases hj;exact⟨R.size,by omega⟩
  ·rw[Mp.upd_ne _ _ _ (by omega)] at hj
   have:=R.even j r s hj;omega
 ·intro j x r s hx hj
  by_cases e:j=k
  ·subst e
   rw[Mp.upd_self] at hj;cases hj
   exact(hobj x hx).2.mono hle rfl (Mp.ez_self _ _ _ _)
  ·rw[Mp.upd_ne _ _ _ (by omega)] at hj
   exact(R.obj j x r s hx hj).mono hle (hold r (R.even j r s hj).2) (Mp.ez_ne _ _ _ (by omega))
 ·intro j j' x x' r s s' hne hx hx' ha ha' hj hj'
  by_cases e:j=k
  ·subst e
   rw[Mp.upd_self] at hj;cases hj
   rw[Mp.upd_ne _ _ _ (by omega)] at hj'
   have:=R.even _ _ _ hj';omega
  ·by_cases e':j'=k
   ·subst e'
    rw[Mp.upd_self] at hj';cases hj'
    rw[Mp.upd_ne _ _ _ (by omega)] at hj
    have:=R.even _ _ _ hj;omega
   ·rw[Mp.upd_ne _ _ _ (by omega)] at hj hj'
    exact R.own j j' x x' r s s' hne hx hx' ha ha' hj hj'
 ·intro f st hf
  refine(R.long f st hf).imp_of_mem fun {x y} hx hy hxy=>?_
  have hx':x≠k:=fun e=>hst f st hf (e▸hx)
  have hy':y≠k:=fun e=>hst f st hf (e▸hy)
  intro cs t g cs' t' g' r s s' h1 h2 h3 h4
  rw[Mp.upd_ne _ _ _ (by omega)] at h3 h4
  exact hxy cs t g cs' t' g' r s s' h1 h2 h3 h4
 ·intro f st x y hf hx hy
  have hx':x≠k:=fun e=>hst f st hf (e▸hx)
  have hy':y≠k:=fun e=>hst f st hf (e▸hy)
  rw[Mp.upd_ne _ _ _ (by omega),Mp.upd_ne _ _ _ (by omega)]
  exact R.whole f st x y hf hx hy
end Go.Id

namespace Go.Id
open Go Go.RowKit
theorem iop_alloc_new {P:Program} {fr:Fr} {o:Op} {h h':IH} {v:Value} (hk:kindOf o=.alloc) (hi:iop P fr o h=some (v,h')) : ∃obj,h'=h.new obj∧obj.lone=true:=by
 cases o<;>simp only[kindOf,reduceCtorEq] at hk<;>simp only[iop] at hi
 case alloc t=>obtain⟨z,_,e⟩:=Option.map_eq_some_iff.1 hi;cases e;exact⟨_,rfl,rfl⟩
 case box t x=>obtain⟨z,_,e⟩:=Option.map_eq_some_iff.1 hi;cases e;exact⟨_,rfl,rfl⟩
 case buildSlice t len parts =>
  split at hi
  ·unfold Id.buildSlice at hi;simp only[cond_eq_ite] at hi;repeat' (split at hi)
   all_goals first|(cases hi;done)|(cases hi;exact⟨_,rfl,rfl⟩)
  ·cases hi
 case makeMap t r =>
  repeat' (split at hi)
  all_goals first|(cases hi;done)|(cases hi;exact⟨_,rfl,rfl⟩)
 case makeSlice t l c =>
  split at hi
  ·unfold Id.makeSlice at hi;simp only[cond_eq_ite] at hi;repeat' (split at hi)
   all_goals first|(cases hi;done)|(cases hi;exact⟨_,rfl,rfl⟩)
  ·cases hi
 case call c=>cases hc:c.callee with
  | builtin b=>cases b<;>simp_all
  | value f=>simp_all
  | invoke r n=>simp_all
theorem runOp_plain {E:Env} {call:CallV} {fr:Fr} {o:Op} {h:IH} (hk:kindOf o≠.chain):runOp E call fr o h=iop E.P fr o h:=by
 unfold runOp
 split
 ·rename_i c
  split
  ·rename_i f hc;simp[kindOf,hc] at hk
  ·rfl
 ·rfl
structure Text (E:Env) (call:CallV) (nt:Nat) (ops:Array Oper) (FA:Nat→Fr) (HA:Nat→IH):Prop where
 mono:CallMono call
 step : ∀i o,ops[i]?=some o→stepOp E call nt ops.toList o (FA i) (HA i)=some (FA (i+1),HA (i+1))
def AllocAt (ops:Array Oper) (FA:Nat→Fr) (i:Nat):Prop:=∃o,ops[i]?=some o∧kindOf o.op=.alloc∧wantedI ops.toList o (FA i)=some true
def ChainAt (ops:Array Oper) (i:Nat):Prop:=∃o,ops[i]?=some o∧kindOf o.op=.chain
section
variable {E:Env} {call:CallV} {nt:Nat} {ops:Array Oper} {FA:Nat→Fr} {HA:Nat→IH}
theorem Text.nle (T:Text E call nt ops FA HA) : ∀(j i:Nat),i≤j→j≤ops.size→(HA i).n≤(HA j).n
 | 0,i,h1,_=>by
  have e:i=0:=by omega
  rw[e]
  exact Nat.le_refl _
 | j+1,i,h1,h2=>by
  by_cases e:i=j+1
  ·subst e;exact Nat.le_refl _
  ·have ho:ops[j]?=some ops[j]:=Array.getElem?_eq_getElem (by omega)
   exact Nat.le_trans (T.nle j i (by omega) (by omega)) (stepOp_n T.mono (T.step j _ ho))
theorem Text.alloc (T:Text E call nt ops FA HA) {i:Nat} (h:AllocAt ops FA i) : ∃obj,HA (i+1)=(HA i).new obj∧obj.lone=true:=by
 obtain⟨o,ho,hk,hw⟩:=h
 have hs:=T.step i o ho
 unfold stepOp at hs
 rw[hw] at hs
 simp only at hs
 split at hs
 ·rename_i v h2 hrun
  obtain⟨a,_,e⟩:=Option.map_eq_some_iff.1 hs
  rw[runOp_plain (by rw[hk];simp)] at hrun
  obtain⟨obj,h3,h4⟩:=iop_alloc_new hk hrun
  have e2:h2=HA (i+1):=(Prod.mk.inj e).2
  exact⟨obj,by rw[←e2,h3],h4⟩
 ·cases hs
theorem Text.same (T:Text E call nt ops FA HA) {i:Nat} {o:Oper} (ho:ops[i]?=some o) (hc : ¬ChainAt ops i) (ha : ¬AllocAt ops FA i):HA (i+1)=HA i:=by
 have hs:=T.step i o ho
 unfold stepOp at hs
 split at hs
 ·rename_i hw
  split at hs
  ·rename_i v h2 hrun
   obtain⟨a,_,e⟩:=Option.map_eq_some_iff.1 hs
   have e2:h2=HA (i+1):=(Prod.mk.inj e).2
   have hk:kindOf o.op≠.chain:=fun e=>hc ⟨o,ho,e⟩
   rw[runOp_plain hk] at hrun
   rw[←e2]
   cases hkk:kindOf o.op with
   | pure=>exact(iop_pure hkk hrun).1
   | load=>exact iop_load hkk hrun
   | alloc=>exact absurd ⟨o,ho,hkk,hw⟩ ha
   | chain=>exact absurd hkk hk
  ·cases hs
 ·obtain⟨a,_,e⟩:=Option.map_eq_some_iff.1 hs
  exact(Prod.mk.inj e).2.symm
 ·cases hs
theorem chain_not_alloc {i:Nat} (h:ChainAt ops i) : ¬AllocAt ops FA i:=by
 rintro⟨o,ho,hk,_⟩
 obtain⟨o',ho',hk'⟩:=h
 rw[ho] at ho';cases ho';rw[hk] at hk';cases hk'
end
structure HInv (ops:Array Oper) (FA:Nat→Fr) (HA:Nat→IH) (B:Nat) (w0:World) (m0:Mp) (wi:World) (D:Nat→Prop) (a:Nat) (m:Mp) (w:World):Prop where
 rel:Rel B w0 m (HA a) w
 none_ : ∀i,i<ops.size→AllocAt ops FA i → ¬D i→m (2*(HA i).n)=none
 pend : ∀i,i<a→i<ops.size→AllocAt ops FA i → ¬D i→(∃obj,HA (i+1)=(HA i).new obj∧(HA a).ext.get (HA i).n=some obj) ∧ ∀f st,(HA a).fams.get f=some st→(HA i).n∉st
 extra : ∀i,a≤i→i<ops.size→AllocAt ops FA i→D i → ∃obj r,HA (i+1)=(HA i).new obj∧m (2*(HA i).n)=some (r,0)∧ObjRel m w r 0 (m.ez (2*(HA i).n)) obj
 inj : ∀k k' r s s',(HA a).n≤k→k<(HA ops.size).n→k'<(HA ops.size).n→k≠k'→m (2*k)=some (r,s)→m (2*k')≠some (r,s')
 fresh : ∀k,(HA a).n≤k→k<(HA ops.size).n→m (2*k)=none ∨ ∃i,a≤i∧i<ops.size∧AllocAt ops FA i∧D i∧k=(HA i).n
 le:m0.le m
 new : ∀b,m b≠m0 b → ∃k,b=2*k∧(HA 0).n≤k∧k<(HA ops.size).n
 base:(HA a).base=(HA 0).base
 frame : ∀r,r<wi.heap.size→(∀k s,k<(HA 0).n→m0 (2*k)≠some (r,s))→w.heap[r]?=wi.heap[r]?
 idle : ∀k,k<(HA 0).n→m0 (2*k)=none→(HA a).ext.get k=(HA 0).ext.get k
 size:wi.heap.size≤w.heap.size
 img : ∀k r s,(HA 0).n≤k→k<(HA ops.size).n→m (2*k)=some (r,s)→wi.heap.size≤r ∨ ∃k0 s0,k0<(HA 0).n∧m0 (2*k0)=some (r,s0)
 idleF : ∀k,k<(HA 0).n→m0 (2*k)=none→(∀f st,(HA 0).fams.get f=some st→k∉st) → ∀f st,(HA a).fams.get f=some st→k∉st
section
variable {E:Env} {call:CallV} {nt:Nat} {ops:Array Oper} {FA:Nat→Fr} {HA:Nat→IH} {B:Nat} {w0:World} {m0:Mp} {wi:World} {D:Nat→Prop} {a:Nat} {m:Mp} {w:World}
theorem HInv.old (I:HInv ops FA HA B w0 m0 wi D a m w) {k:Nat} (hk:k<(HA 0).n):m (2*k)=m0 (2*k):=by
 apply Classical.byContradiction;intro hne
 obtain⟨k',e,h1,_⟩:=I.new _ hne
 omega
theorem HInv.go (T:Text E call nt ops FA HA) (I:HInv ops FA HA B w0 m0 wi D a m w) {c:Nat} (hac:a≤c) (hc:c≤ops.size) (hno : ∀i,a≤i→i<c → ¬AllocAt ops FA i) {m':Mp} {w':World} (R:Rel B w0 m' (HA c) w') (S:Step m (HA a) w m' (HA c) w') :
  HInv ops FA HA B w0 m0 wi D c m' w':=by
 have nac:(HA a).n≤(HA c).n:=S.n
 have n0a:(HA 0).n≤(HA a).n:=T.nle a 0 (Nat.zero_le _) (Nat.le_trans hac hc)
 have ncN:(HA c).n≤(HA ops.size).n:=T.nle _ _ hc (Nat.le_refl _)
 have hsame : ∀k,(k<(HA a).n∨(HA c).n≤k)→m' (2*k)=m (2*k):=by
  intro k hk
  apply Classical.byContradiction;intro hne
  obtain⟨k',e,h1,h2⟩:=S.new _ hne
  omega
 have low : ∀i,i<ops.size→AllocAt ops FA i→(HA i).n<(HA a).n∨(HA c).n≤(HA i).n:=by
  intro i hi ha
  by_cases h1:i<a
  ·obtain⟨obj,e,_⟩:=T.alloc ha
   have h2:(HA (i+1)).n≤(HA a).n:=T.nle a (i+1) h1 (by omega)
   rw[e] at h2
   have:((HA i).new obj).n=(HA i).n+1:=rfl
   left;omega
  ·right
   by_cases h2:i<c
   ·exact absurd ha (hno i (by omega) h2)
   ·exact T.nle i c (by omega) (by omega)
 refine⟨R,?_,?_,?_,?_,?_,Mp.le_trans I.le S.le,?_,S.base.trans I.base,?_,?_,Nat.le_trans I.size S.size,?_,?_⟩
 ·intro i hi ha hd;rw[hsame _ (low i hi ha)];exact I.none_ i hi ha hd
 ·intro i hic hi ha hd
  have hia:i<a:=by
   rcases Nat.lt_or_ge i a with h|h
   ·exact h
   ·exact absurd ha (hno i h hic)
  obtain⟨⟨obj,e,hg⟩,hst⟩:=I.pend i hia hi ha hd
  have hlt:(HA i).n<(HA a).n:=by
   have h2:(HA (i+1)).n≤(HA a).n:=T.nle a (i+1) hia (by omega)
   rw[e] at h2
   have:((HA i).new obj).n=(HA i).n+1:=rfl
   omega
  have hm:=I.none_ i hi ha hd
  exact⟨⟨obj,e,by rw[S.idle _ hlt hm];exact hg⟩,S.idleF _ hlt hm hst⟩
 ·intro i hic hi ha hd
  obtain⟨obj,r,e,hm,ho⟩:=I.extra i (by omega) hi ha hd
  obtain⟨h1,h2⟩:=S.le _ _ hm
  refine⟨obj,r,e,h1,ho.mono S.le ?_ h2⟩
  refine S.frame r (I.rel.even _ _ _ hm).2 ?_
  intro k s hk hmk
  have hge:(HA a).n≤(HA i).n:=T.nle i a (by omega) (by omega)
  have hlt:(HA i).n<(HA ops.size).n:=by
   have h2:(HA (i+1)).n≤(HA ops.size).n:=T.nle _ (i+1) hi (Nat.le_refl _)
   rw[e] at h2
   have:((HA i).new obj).n=(HA i).n+1:=rfl
   omega
  exact I.inj _ k r 0 s hge hlt (by omega) (by omega) hm hmk
 ·intro k k' r s s' hk hkN hkN' hne hm hm'
  rw[hsame k (.inr hk)] at hm
  by_cases h1:k'<(HA a).n∨(HA c).n≤k'
  ·rw[hsame k' h1] at hm'
   exact I.inj k k' r s s' (by omega) hkN hkN' hne hm hm'
  ·rcases S.img k' r s' (by omega) (by omega) hm' with e|⟨k0,s0,e1,e2⟩
   ·have:=(I.rel.even k r s hm).2;omega
   ·exact I.inj k k0 r s s0 (by omega) hkN (by omega) (by omega) hm e2
 ·intro k hk hkN
  rw[hsame k (.inr hk)]
  rcases I.fresh k (by omega) hkN with e|⟨i,h1,h2,h3,h4,h5⟩
  ·exact .inl e
  ·refine .inr ⟨i,?_,h2,h3,h4,h5⟩
   rcases Nat.lt_or_ge i c with h|h
   ·exact absurd h3 (hno i h1 h)
   ·exact h
 ·intro b hb
  by_cases h1:m' b=m b
  ·rw[h1] at hb;exact I.new b hb
  ·obtain⟨k,e,h2,h3⟩:=S.new b h1
   exact⟨k,e,by omega,by omega⟩
 ·intro r hr hk
  rw[S.frame r (Nat.lt_of_lt_of_le hr I.size) ?_,I.frame r hr hk]
  intro k s hka hmk
  by_cases h1:k<(HA 0).n
  ·rw[I.old h1] at hmk;exact hk k s h1 hmk
  ·rcases I.img k r s (by omega) (by omega) hmk with e|⟨k0,s0,e1,e2⟩
   ·omega
   ·exact hk k0 s0 e1 e2
 ·intro k hk hm
  rw[S.idle k (by omega) (by rw[I.old hk,hm]),I.idle k hk hm]
 ·intro k r s hk hkN hm
  by_cases h1:k<(HA a).n∨(HA c).n≤k
  ·rw[hsame k h1] at hm;exact I.img k r s hk hkN hm
  ·rcases S.img k r s (by omega) (by omega) hm with e|⟨k0,s0,e1,e2⟩
   ·exact .inl (Nat.le_trans I.size e)
   ·by_cases h2:k0<(HA 0).n
    ·rw[I.old h2] at e2;exact .inr ⟨k0,s0,h2,e2⟩
    ·exact I.img k0 r s0 (by omega) (by omega) e2
 ·intro k hk hm hst
  exact S.idleF k (by omega) (by rw[I.old hk,hm]) (I.idleF k hk hm hst)
theorem HInv.next (T:Text E call nt ops FA HA) (I:HInv ops FA HA B w0 m0 wi D a m w) (ha:a<ops.size) (hc : ¬ChainAt ops a):HInv ops FA HA B w0 m0 wi D (a+1) m w:=by
 have ho:ops[a]?=some ops[a]:=Array.getElem?_eq_getElem ha
 by_cases hal:AllocAt ops FA a
 ·obtain⟨obj,e,hl⟩:=T.alloc hal
  have hn1:(HA (a+1)).n=(HA a).n+1:=by rw[e];rfl
  have hN:(HA (a+1)).n≤(HA ops.size).n:=T.nle _ _ ha (Nat.le_refl _)
  have n0a:(HA 0).n≤(HA a).n:=T.nle a 0 (Nat.zero_le _) (by omega)
  have hget : ∀k,(HA (a+1)).ext.get k=if k=(HA a).n then some obj else (HA a).ext.get k:=fun k=>by rw[e];exact Tr.get_set _ _ _ _
  have hfam:(HA (a+1)).fams=(HA a).fams:=by rw[e];rfl
  have hltid : ∀i,i<a→AllocAt ops FA i→(HA i).n<(HA a).n:=by
   intro i hia h3
   obtain⟨obj',e',_⟩:=T.alloc h3
   have h2:(HA (i+1)).n≤(HA a).n:=T.nle a (i+1) hia (by omega)
   rw[e'] at h2
   have:((HA i).new obj').n=(HA i).n+1:=rfl
   omega
  have hcond:m (2*(HA a).n)=none ∨ ∃r,m (2*(HA a).n)=some (r,0)∧ObjRel m w r 0 (m.ez (2*(HA a).n)) obj ∧ ∀k s,k<(HA a).n→m (2*k)≠some (r,s):=by
   by_cases hd:D a
   ·obtain⟨obj',r,e',hm,hO⟩:=I.extra a (Nat.le_refl _) ha hal hd
    have:obj'=obj:=by
     rw[e] at e'
     have h1:=hget (HA a).n
     rw[if_pos rfl,e] at h1
     have h2:((HA a).new obj').ext.get (HA a).n=some obj':=by show((HA a).ext.set (HA a).n obj').get (HA a).n=_;rw[Tr.get_set,if_pos rfl]
     rw[←e',h1] at h2;cases h2;rfl
    subst this
    exact .inr ⟨r,hm,hO,fun k s hk hmk=>I.inj (HA a).n k r 0 s (Nat.le_refl _) (by omega) (by omega) (by omega) hm hmk⟩
   ·exact .inl (I.none_ a ha hal hd)
  refine⟨by rw[e];exact I.rel.addObj obj hl hcond,I.none_,?_,?_,?_,?_,I.le,I.new,by rw[e];exact I.base,I.frame,?_,I.size,I.img,?_⟩
  ·intro i hi1 hi h3 hd
   by_cases hia:i=a
   ·subst hia
    exact⟨⟨obj,e,by rw[hget,if_pos rfl]⟩,fun f st hf=>by rw[hfam] at hf;have:=(I.rel.famdom f st hf).2.1;intro hx;have:=this _ hx;omega⟩
   ·obtain⟨⟨obj',e',hg⟩,hst⟩:=I.pend i (by omega) hi h3 hd
    have hlt:=hltid i (by omega) h3
    exact⟨⟨obj',e',by rw[hget,if_neg (by omega)];exact hg⟩,by rw[hfam];exact hst⟩
  ·intro i hi1 hi h3 hd;exact I.extra i (by omega) hi h3 hd
  ·intro k k' r s s' hk;exact I.inj k k' r s s' (by omega)
  ·intro k hk hkN
   rcases I.fresh k (by omega) hkN with h|⟨i,h1,h2,h3,h4,h5⟩
   ·exact .inl h
   ·refine .inr ⟨i,?_,h2,h3,h4,h5⟩
    rcases Nat.lt_or_ge a i with h|h
    ·exact h
    ·obtain rfl:i=a:=by omega
     omega
  ·intro k hk hm;rw[hget,if_neg (by omega)];exact I.idle k hk hm
  ·intro k hk hm hst;rw[hfam];exact I.idleF k hk hm hst
 ·have e:=T.same ho hc hal
  refine⟨by rw[e];exact I.rel,I.none_,?_,?_,?_,?_,I.le,I.new,by rw[e];exact I.base,I.frame,by rw[e];exact I.idle,I.size,I.img,by rw[e];exact I.idleF⟩
  ·intro i hi1 hi h3 hd
   have:i≠a:=fun h=>hal (h▸h3)
   rw[e];exact I.pend i (by omega) hi h3 hd
  ·intro i hi1 hi h3 hd;exact I.extra i (by omega) hi h3 hd
  ·rw[e];exact I.inj
  ·rw[e];intro k hk hkN
   rcases I.fresh k hk hkN with h|⟨i,h1,h2,h3,h4,h5⟩
   ·exact .inl h
   ·refine .inr ⟨i,?_,h2,h3,h4,h5⟩
    have:i≠a:=fun h=>hal (h▸h3)
    omega
theorem HInv.make (T:Text E call nt ops FA HA) (I:HInv ops FA HA B w0 m0 wi D a m w) (hae:a≤ops.size) {i:Nat} (hi:i<ops.size) (hal:AllocAt ops FA i) (hd : ¬D i) {obj:IObj} (e:HA (i+1)=(HA i).new obj) (hl:obj.lone=true) {O:Obj} {z:Nat×Nat}
  (hO:ObjRel m (w.alloc O) w.heap.size 0 z obj):HInv ops FA HA B w0 m0 wi (fun j=>D j∨j=i) a (m.upd (2*(HA i).n) (w.heap.size,0) z) (w.alloc O):=by
 have hm:=I.none_ i hi hal hd
 have hle:m.le (m.upd (2*(HA i).n) (w.heap.size,0) z):=Mp.le_upd hm
 have hne : ∀k,k≠(HA i).n→(m.upd (2*(HA i).n) (w.heap.size,0) z) (2*k)=m (2*k):=fun k hk=>Mp.upd_ne _ _ _ (by omega)
 have hsame : ∀r,r<w.heap.size→(w.alloc O).heap[r]?=w.heap[r]?:=fun r hr=>by rw[heap_alloc,if_neg (by omega)]
 have hidN:(HA i).n<(HA ops.size).n:=by
  have h2:(HA (i+1)).n≤(HA ops.size).n:=T.nle _ (i+1) hi (Nat.le_refl _)
  rw[e] at h2
  have:((HA i).new obj).n=(HA i).n+1:=rfl
  omega
 have h0i:(HA 0).n≤(HA i).n:=T.nle i 0 (Nat.zero_le _) (by omega)
 have hids : ∀j,j<ops.size→AllocAt ops FA j→j≠i→(HA j).n≠(HA i).n:=by
  intro j hj h3 hji
  rcases Nat.lt_or_gt_of_ne hji with h|h
  ·obtain⟨obj',e',_⟩:=T.alloc h3
   have h2:(HA (j+1)).n≤(HA i).n:=T.nle i (j+1) h (by omega)
   rw[e'] at h2
   have:((HA j).new obj').n=(HA j).n+1:=rfl
   omega
  ·have h2:(HA (i+1)).n≤(HA j).n:=T.nle j (i+1) h (by omega)
   rw[e] at h2
   have:((HA i).new obj).n=(HA i).n+1:=rfl
   omega
 refine⟨?_,?_,?_,?_,?_,?_,Mp.le_trans I.le hle,?_,I.base,?_,I.idle,by rw[size_alloc];have:=I.size;omega,?_,I.idleF⟩
 ·refine I.rel.mapIn (HA i).n O z hm ?_ ?_
  ·intro o hg
   by_cases hia:i<a
   ·obtain⟨⟨obj',e',hg'⟩,_⟩:=I.pend i hia hi hal hd
    rw[hg'] at hg;cases hg
    have:o=obj:=by
     rw[e] at e'
     have h1:((HA i).new obj).ext.get (HA i).n=some obj:=by show((HA i).ext.set (HA i).n obj).get (HA i).n=_;rw[Tr.get_set,if_pos rfl]
     have h2:((HA i).new o).ext.get (HA i).n=some o:=by show((HA i).ext.set (HA i).n o).get (HA i).n=_;rw[Tr.get_set,if_pos rfl]
     rw[←e',h1] at h2;cases h2;rfl
    subst this
    exact⟨hl,hO⟩
   ·have:(HA a).n≤(HA i).n:=T.nle i a (by omega) (by omega)
    rw[I.rel.dom _ this] at hg;cases hg
  ·intro f st hf
   by_cases hia:i<a
   ·exact(I.pend i hia hi hal hd).2 f st hf
   ·have:(HA a).n≤(HA i).n:=T.nle i a (by omega) (by omega)
    intro hx;have:=(I.rel.famdom f st hf).2.1 _ hx;omega
 ·intro j hj h3 hdj
  have hji:j≠i:=fun e=>hdj (.inr e)
  rw[hne _ (hids j hj h3 hji)]
  exact I.none_ j hj h3 (fun h=>hdj (.inl h))
 ·intro j hja hj h3 hdj
  exact I.pend j hja hj h3 (fun h=>hdj (.inl h))
 ·intro j hja hj h3 hdj
  by_cases hji:j=i
  ·subst hji
   exact⟨obj,w.heap.size,e,Mp.upd_self _ _ _ _,hO.mono hle rfl (Mp.ez_self _ _ _ _)⟩
  ·obtain⟨obj',r,e',hmr,hO'⟩:=I.extra j hja hj h3 (hdj.resolve_right hji)
   obtain⟨h1,h2⟩:=hle _ _ hmr
   exact⟨obj',r,e',h1,hO'.mono hle (hsame r (I.rel.even _ _ _ hmr).2) h2⟩
 ·intro k k' r s s' hk hkN hkN' hkk h1 h2
  by_cases c1:k=(HA i).n
  ·subst c1
   rw[Mp.upd_self] at h1;cases h1
   rw[hne _ (fun e=>hkk e.symm)] at h2
   have:=(I.rel.even _ _ _ h2).2;omega
  ·rw[hne _ c1] at h1
   by_cases c2:k'=(HA i).n
   ·subst c2
    rw[Mp.upd_self] at h2;cases h2
    have:=(I.rel.even _ _ _ h1).2;omega
   ·rw[hne _ c2] at h2
    exact I.inj k k' r s s' hk hkN hkN' hkk h1 h2
 ·intro k hk hkN
  by_cases c1:k=(HA i).n
  ·subst c1
   have hia:a≤i:=by
    rcases Nat.lt_or_ge i a with h|h
    ·have h2:(HA (i+1)).n≤(HA a).n:=T.nle a (i+1) h hae
     rw[e] at h2
     have:((HA i).new obj).n=(HA i).n+1:=rfl
     omega
    ·exact h
   exact .inr ⟨i,hia,hi,hal,.inr rfl,rfl⟩
  ·rw[hne _ c1]
   rcases I.fresh k hk hkN with h|⟨j,h1,h2,h3,h4,h5⟩
   ·exact .inl h
   ·exact .inr ⟨j,h1,h2,h3,.inl h4,h5⟩
 ·intro b hb
  by_cases h1:b=2*(HA i).n
  ·exact⟨_,h1,h0i,hidN⟩
  ·rw[Mp.upd_ne _ _ _ h1] at hb;exact I.new b hb
 ·intro r hr hk
  rw[hsame r (Nat.lt_of_lt_of_le hr I.size)];exact I.frame r hr hk
 ·intro k r s hk hkN h1
  by_cases c1:k=(HA i).n
  ·subst c1
   rw[Mp.upd_self] at h1;cases h1
   exact .inl I.size
  ·rw[hne _ c1] at h1;exact I.img k r s hk hkN h1
end
end Go.Id
