/-
  The ideal machine: literals, addresses, parts, maps, builtins. The ideal machine: maps, builtins, and every operation that calls no function.
-/
import Derived.Test.YthpefnfbnaekaaaGreatBracketDividesAb
set_option linter.unusedVariables false
set_option linter.unusedSimpArgs false
set_option linter.defProp false
set_option linter.deprecated false
namespace Go.Id
open Go Go.RowKit
theorem buildSlice_makes (P:Program) {m:Mp} {h h':IH} {t:TypeId} {len:Nat} {parts:Array (Nat×Operand)} {ps:List (Nat×Value)} {fr:Fr} {ρ:Operand→Value} {v:Value}
  (hρ : ∀x v,opd fr x=some v→VRel m v (ρ x)) (hps:partsOf fr parts.toList=some ps) (hs:buildSlice P h t len ps=some (v,h')) (w:World) :
  MakesRow m w h h' ((Instr.buildSlice t len (parts.map fun(i,x)=>(i,ρ x))).run P w) v:=by
 unfold Id.buildSlice at hs
 cases hu:P.underlying t with
 | none=>simp[hu] at hs
 | some d =>
  rw[hu] at hs
  cases d with
  | slice e =>
   simp only at hs
   cases hsz:sizeT P e with
   | none=>simp[hsz] at hs
   | some n =>
   cases hz:zeroCellsT P e with
   | none=>simp[hsz,hz] at hs
   | some z =>
   simp only[hsz,hz,cond_eq_ite] at hs
   by_cases hcond:(Nat.ble (len*n) cellsMost && z.length == n)=true
   ·rw[if_pos hcond] at hs
    simp only[Bool.and_eq_true,Nat.ble_eq,beq_iff_eq] at hcond
    obtain⟨hmost,hzn⟩:=hcond
    obtain⟨zv,hz0,hzp,rfl⟩:=zeroCellsT_spec hz
    cases hf:fillP (fun i=>some (i*n,n)) (repl len zv.cells.toList) ps with
    | none=>simp[hf] at hs
    | some cells =>
     simp only[hf] at hs;cases hs
     have hcells : ∃zc:Array Value,(if len*n=0 then pure #[] else do pure (←zeroValue e).cells:Sem (Array Value)).run P w=.ok zc w∧((Array.range (len*n)).map (fun i=>zc[i % zc.size]!)).toList=repl len zv.cells.toList:=by
      by_cases h0:len*n=0
      ·rw[if_pos h0]
       refine⟨#[],rfl,?_⟩
       rw[h0]
       have:(repl len zv.cells.toList).length=0:=by rw[repl_length,hzn,h0]
       rw[List.length_eq_zero_iff.1 this];simp
      ·rw[if_neg h0]
       refine⟨zv.cells,by simp[run_zeroT w hz0],?_⟩
       have hs:zv.cells.size=n:=by simpa using hzn
       rw[←hs]
       exact range_repl zv.cells len (by rw[hs];intro e;apply h0;rw[e,Nat.mul_zero])
     obtain⟨zc,hcrun,hclist⟩:=hcells
     have hLz:LRel m (repl len zv.cells.toList) (((Array.range (len*n)).map (fun i=>zc[i % zc.size]!))).toList:=by
      rw[hclist];exact LRel.repl (VRel.plain_mk (m:=m) hzp).cells len
     obtain⟨hl,hp⟩:=partsOf_rel hρ _ _ hps
     obtain⟨r',hfill,hL⟩:=fill_rel (fun i=>some (i*n,n)) ps (parts.toList.map fun p=>(p.1,ρ p.2)) _ _ _ hLz (by simp[hl]) hp hf
     have hmap:(parts.map fun(x:Nat×Operand)=>match x with|(i,x)=>(i,ρ x)).toList=parts.toList.map fun p=>(p.1,ρ p.2):=by rw[Array.toList_map]
     refine⟨_,r'.toList,n,e,.slice (some ⟨w.heap.size,0,none⟩) len len,rfl,hL,?_,fun m' hm=>?_⟩
     ·simp only[Instr.buildSlice,Sem.run_bind,Go.run_underlying hu,Result.andThen_ok,run_sizeT w hsz]
      rw[if_neg (by unfold cellsMost at hmost;omega)]
      by_cases h0:len*n=0
      ·rw[if_pos h0] at hcrun ⊢
       simp only[Sem.run_pure] at hcrun;cases hcrun
       simp only[Sem.run_bind,Sem.run_pure,Result.andThen_ok,hmap,hfill,Go.newRow,run_newObj]
       rfl
      ·rw[if_neg h0] at hcrun ⊢
       simp only[Sem.run_bind,run_zeroT w hz0,Result.andThen_ok,Sem.run_pure] at hcrun;cases hcrun
       simp only[Sem.run_bind,run_zeroT w hz0,Sem.run_pure,Result.andThen_ok,hmap,hfill,Go.newRow,run_newObj]
       rfl
     ·exact .slice (s:=0) hm (by omega) (by omega) (by omega) (by intro _;omega) (by intro e;omega)
   ·rw[if_neg hcond] at hs;cases hs
  | _=>simp at hs
theorem idxOf_rel {m:Mp} {i i':Value} {n:Int} (h:VRel m i i') (hi:idxOf i=some n) : ∃k,i'=.int k n:=by
 unfold idxOf at hi
 split at hi
 ·cases hi;exact⟨_,h.scal_eq rfl⟩
 ·cases hi
theorem sim_indexAddr {m:Mp} (P:Program) {t:TypeId} {x x' i i' v:Value} (hs:indexAddr P t x i=some v) (hx:VRel m x x') (hi:VRel m i i') (w:World) :
  ∃v',(Instr.indexAt t x' i').run P w=.ok v' w∧VRel m v v':=by
 unfold Id.indexAddr at hs
 split at hs
 ·rename_i n e b o j hu hj
  obtain⟨k,rfl⟩:=idxOf_rel hi hj
  obtain⟨r,s,hm,rfl⟩:=hx.ptr_inv
  split at hs
  ·rename_i size j hsz
   simp only[cond_eq_ite,Nat.blt_eq] at hs
   by_cases hlt:j<n
   ·rw[if_pos hlt] at hs;cases hs
    refine⟨.pointer (some ⟨r,s+(o+j*size),none⟩),?_,.ptr hm⟩
    have h2:(0:Int)≤Int.ofNat j∧Int.ofNat j<(n:Int):=by constructor<;>simp<;>omega
    simp only[Instr.indexAt,asIntOf,Sem.run_bind,Sem.run_pure,Result.andThen_ok,Go.run_underlying hu,Instr.sureAddr]
    rw[if_pos h2]
    simp[run_sizeT w hsz,addr_add,Nat.add_assoc]
   ·rw[if_neg hlt] at hs;cases hs
  ·cases hs
 ·rename_i e b o n k j hu hj
  obtain⟨ki,rfl⟩:=idxOf_rel hi hj
  split at hs
  ·rename_i size j hsz
   simp only[cond_eq_ite,Nat.blt_eq] at hs
   by_cases hlt:j<n
   ·rw[if_pos hlt] at hs;cases hs
    rcases hx.slice_inv with⟨r,s,cap,hm,_,_,_,_,_,rfl⟩|⟨h0,_⟩
    ·refine⟨.pointer (some ⟨r,s+(o+j*size),none⟩),?_,.ptr hm⟩
     have h2:(0:Int)≤Int.ofNat j∧Int.ofNat j<(n:Int):=by constructor<;>simp<;>omega
     simp only[Instr.indexAt,asIntOf,Sem.run_bind,Sem.run_pure,Result.andThen_ok,Go.run_underlying hu]
     rw[if_pos h2]
     simp[run_sizeT w hsz,addr_add,Nat.add_assoc]
    ·omega
   ·rw[if_neg hlt] at hs;cases hs
  ·cases hs
 ·cases hs
theorem sim_part {m:Mp} (P:Program) {t:TypeId} {cs cs':Array Value} {off:Nat} {v:Value} (hs:partOf P t cs off=some v) (hx:LRel m cs.toList cs'.toList) (w:World) :
  ∃v',(part t cs' off).run P w=.ok v' w∧VRel m v v':=by
 unfold Id.partOf at hs
 split at hs
 ·rename_i n ha hsz
  cases hs
  refine⟨.agg (cs'.extract off (off+n)),?_,VRel.agg_iff ?_⟩
  ·simp[part,run_isAggT w ha,run_sizeT w hsz]
  ·simp only[Array.toList_extract]
   have:=(hx.drop off).take (off+n - off)
   simpa [List.extract_eq_take_drop] using this
 ·rename_i ha
  obtain⟨v',h1,h2⟩:=hx.get (i:=off) (v:=v) (by simpa using hs)
  refine⟨v',?_,h2⟩
  have:cs'[off]?=some v':=by simpa using h1
  simp[part,run_isAggT w ha,this]
 ·cases hs
theorem findNow_keys (kind:TypeDesc) (k:Value) : ∀(es es':List MapEntry) (i:Nat),es.map (·.key)=es'.map (·.key) →
  (Instr.findNow kind k es i).map (fun o=>o.map (·.1))=(Instr.findNow kind k es' i).map (fun o=>o.map (·.1))
 | [],[],i,_=>rfl
 | [],_ :: _,i,h=>by simp at h
 | _ :: _,[],i,h=>by simp at h
 | e :: es,e' :: es',i,h=>by
  simp only[List.map_cons,List.cons.injEq] at h
  have ih:=findNow_keys kind k es es' (i+1) h.2
  simp only[Instr.findNow,h.1]
  cases Instr.sameNow kind k e'.key with
  | none=>rfl
  | some b=>cases b<;>simp[ih]
theorem findNow_at (kind:TypeDesc) (k:Value) : ∀(es:List MapEntry) (i j:Nat) (v:Value),Instr.findNow kind k es i=some (some (j,v))→i≤j ∧ ∃e,es[j - i]?=some e∧e.val=v
 | [],i,j,v,h=>by simp[Instr.findNow] at h
 | e :: es,i,j,v,h=>by
  simp only[Instr.findNow] at h
  split at h
  ·simp only[Option.some.injEq,Prod.mk.injEq] at h
   obtain⟨rfl,rfl⟩:=h
   exact⟨Nat.le_refl _,e,by simp,rfl⟩
  ·obtain⟨h1,e',h2,h3⟩:=findNow_at kind k es (i+1) j v h
   refine⟨by omega,e',?_,h3⟩
   rw[show j - i=(j - (i+1))+1 from by omega]
   simpa using h2
  ·cases h
theorem findAsking_keys (P:Program) (w:World) (kt:TypeId) (k:Value) : ∀(es es':List MapEntry) (i:Nat) (r:Option (Nat×Value)),es.map (·.key)=es'.map (·.key)→pureRun P (Instr.findAsking kt k es i)=some r →
  ∃r',(Instr.findAsking kt k es' i).run P w=.ok r' w∧r'.map (·.1)=r.map (·.1) ∧ ∀j v,r'=some (j,v)→i≤j ∧ ∃e,es'[j - i]?=some e∧e.val=v
 | [],[],i,r,_,h=>by
  simp only[Instr.findAsking] at h
  cases h
  exact⟨none,rfl,rfl,by simp⟩
 | [],_ :: _,i,r,h,_=>by simp at h
 | _ :: _,[],i,r,h,_=>by simp at h
 | e :: es,e' :: es',i,r,h,hp=>by
  simp only[List.map_cons,List.cons.injEq] at h
  have pb : ∀{α β:Type} (s:Sem α) (f:α→Sem β) (b:β),pureRun P (s.bind f)=some b → ∃a,pureRun P s=some a∧pureRun P (f a)=some b:=by
   intro α β s f b
   induction s with
   | pure a=>intro h;exact⟨a,rfl,h⟩
   | program g ih=>intro h;simp only[Sem.bind,pureRun] at h ⊢;exact ih P h
   | _=>intro h;simp[Sem.bind,pureRun] at h
  have hp':pureRun P ((Op.equal kt k e.key).bind fun b=>if b=true then pure (some (i,e.val)) else Instr.findAsking kt k es (i+1))=some r:=hp
  obtain⟨b,hb,hrest⟩:=pb _ _ _ hp'
  have hrun:=pureRun_run P _ _ hb w
  rw[h.1] at hrun
  cases b with
  | true =>
   have hr:r=some (i,e.val):=by
    have:pureRun P (Sem.pure (some (i,e.val)))=some r:=hrest
    simp only[pureRun] at this;cases this;rfl
   subst hr
   refine⟨some (i,e'.val),?_,rfl,?_⟩
   ·simp[Instr.findAsking,hrun]
   ·intro j v hjv;cases hjv;exact⟨Nat.le_refl _,e',by simp,rfl⟩
  | false =>
   obtain⟨r',h1,h2,h3⟩:=findAsking_keys P w kt k es es' (i+1) r h.2 hrest
   refine⟨r',?_,h2,?_⟩
   ·simp[Instr.findAsking,hrun,h1]
   ·intro j v hjv
    obtain⟨a,e'',c,d⟩:=h3 j v hjv
    refine⟨by omega,e'',?_,d⟩
    rw[show j - i=(j - (i+1))+1 from by omega]
    simpa using c
theorem pureRun_bind {P:Program} {α β:Type} {s:Sem α} {f:α→Sem β} {b:β} (h:pureRun P (s >>= f)=some b) : ∃a,pureRun P s=some a∧pureRun P (f a)=some b:=by
 have h':pureRun P (s.bind f)=some b:=h
 clear h
 revert h'
 induction s with
 | pure a=>intro h;exact⟨a,rfl,h⟩
 | program g ih=>intro h;simp only[Sem.bind,pureRun] at h ⊢;exact ih P h
 | _=>intro h;simp[Sem.bind,pureRun] at h
theorem sim_findK {P:Program} {m:Mp} {kt:TypeId} {k:Value} {es:List (Value×Value)} {c:Array MapEntry} {r:Option Nat} (hf:findK P kt k es=some r) (hm:MapRel m es c) (w:World) :
  plain k=true∧(Instr.checkKey c.isEmpty 10000 kt k).run P w=.ok () w ∧ ∃r',(Instr.findKey kt k c.toList).run P w=.ok r' w∧r'.map (·.1)=r ∧ ∀j v,r'=some (j,v) → ∃e,c[j]?=some e∧e.val=v:=by
 unfold findK at hf
 simp only[cond_eq_ite] at hf
 by_cases hp:plain k=true
 ·rw[if_pos hp] at hf
  have hempty:c.isEmpty=es.isEmpty:=by
   have:=hm.1
   rw[Bool.eq_iff_iff,Array.isEmpty_iff_size_eq_zero,List.isEmpty_iff,←List.length_eq_zero_iff];omega
  cases h1:pureRun P (Instr.checkKey es.isEmpty 10000 kt k) with
  | none=>simp[h1] at hf
  | some u =>
   cases h2:pureRun P (Instr.findKey kt k (keyEntries es)) with
   | none=>simp[h1,h2] at hf
   | some r0 =>
    simp only[h1,h2] at hf;cases hf
    have hkeys:(keyEntries es).map (·.key)=c.toList.map (·.key):=by
     apply List.ext_getElem?
     intro i
     simp only[keyEntries,List.map_map,List.getElem?_map,Array.getElem?_toList]
     by_cases hi:i<es.length
     ·have hi':i<c.size:=by have:=hm.1;omega
      have:=hm.2 i es[i] c[i] (List.getElem?_eq_getElem hi) (by simp[hi'])
      simp[hi,hi',this.1.1]
     ·have hi' : ¬i<c.size:=by have:=hm.1;omega
      simp[List.getElem?_eq_none (Nat.le_of_not_lt hi),Array.getElem?_eq_none (Nat.le_of_not_lt hi')]
    refine⟨hp,by rw[hempty];exact pureRun_run P _ _ h1 w,?_⟩
    unfold Instr.findKey at h2 ⊢
    obtain⟨d,hd,h3⟩:=pureRun_bind h2
    have hdrun:=pureRun_run P _ _ hd w
    simp only[Sem.run_bind,hdrun,Result.andThen_ok]
    have hk:=findNow_keys d k (keyEntries es) c.toList 0 hkeys
    cases h4:Instr.findNow d k (keyEntries es) 0 with
    | some r1 =>
     rw[h4] at h3 hk
     have hr1:r1=r0:=by
      have:pureRun P (Sem.pure r1)=some r0:=h3
      simp only[pureRun] at this;cases this;rfl
     subst hr1
     cases h5:Instr.findNow d k c.toList 0 with
     | none=>rw[h5] at hk;simp at hk
     | some r2 =>
      rw[h5] at hk
      simp only[Option.map_some,Option.some.injEq] at hk
      refine⟨r2,rfl,hk.symm,fun j v hjv=>?_⟩
      subst hjv
      obtain⟨_,e,a,b⟩:=findNow_at d k c.toList 0 j v h5
      exact⟨e,by simpa using a,b⟩
    | none =>
     rw[h4] at h3 hk
     cases h5:Instr.findNow d k c.toList 0 with
     | some r2=>rw[h5] at hk;simp at hk
     | none =>
      obtain⟨r',a,b,c'⟩:=findAsking_keys P w kt k (keyEntries es) c.toList 0 r0 hkeys h3
      exact⟨r',a,b,fun j v hjv=>let ⟨_,e,x,y⟩:=c' j v hjv;⟨e,by simpa using x,y⟩⟩
 ·rw[if_neg hp] at hf;cases hf
end Go.Id

namespace Go.Id
open Go Go.RowKit
theorem Rel.mapAt {B:Nat} {w0:World} {m:Mp} {h:IH} {w:World} (R:Rel B w0 m h w) {k r s:Nat} {es:List (Value×Value)} (hk:mapOf h k=some es) (hm:m k=some (r,s)) :
  h.ext.get (k / 2)=some (.map es)∧2*(k / 2)=k ∧ ∃c,w.heap[r]?=some (.map c es.length)∧MapRel m es c:=by
 unfold mapOf at hk
 simp only[cond_eq_ite,beq_iff_eq] at hk
 by_cases hb:k % 2=1
 ·rw[if_pos hb] at hk;cases hk
 ·rw[if_neg hb] at hk
  have hkk:2*(k / 2)=k:=by omega
  cases hg:h.ext.get (k / 2) with
  | none=>simp[hg] at hk
  | some o =>
   rw[hg] at hk
   cases o with
   | map es' =>
    simp only at hk;cases hk
    obtain⟨_,c,h1,h2⟩:=R.obj (k / 2) _ r s hg (by rw[hkk];exact hm)
    exact⟨rfl,hkk,c,h1,h2⟩
   | _=>simp at hk
theorem run_getObj_map (P:Program) {w:World} {r:Nat} {c:Array MapEntry} {clock:Nat} (h:w.heap[r]?=some (.map c clock)):(getObj r).run P w=.ok (.map c clock) w:=by
 simp only[getObj,Sem.run,h]
theorem run_setObj_map (P:Program) {w:World} {r:Nat} {c:Array MapEntry} {clock:Nat} (h:w.heap[r]?=some (.map c clock)) (o:Obj):(Go.setObj r o).run P w=.ok () (World.put w r o):=by
 simp only[Go.setObj,Sem.run,h];rfl
def lookTail (kt et:TypeId) (k:Value) (ok:Bool) (c:Array MapEntry):Sem Value:=do
 Instr.checkKey c.isEmpty 10000 kt k
 let (v,ok') ←match ←Instr.findKey kt k c.toList with
  | some (_,v)=>pure (v,true)
  | none=>pure (←zeroValue et,false)
 pure (if ok then .tuple #[v,.bool ok'] else v)
theorem sim_lookTail {m:Mp} (P:Program) (w:World) {kt et:TypeId} {k k' v:Value} {ok:Bool} {es:List (Value×Value)} {c:Array MapEntry} (hcm:MapRel m es c) (hk:VRel m k k')
  (hl:(match findK P kt k es with
   | none=>none
   | some none=>match zeroT P et with
    | some z=>bif plain z then some (bif ok then Value.tuple #[z,.bool false] else z) else none
    | none=>none
   | some (some i)=>(es[i]?).map fun e=>bif ok then .tuple #[e.2,.bool true] else e.2)=some v) :
  ∃v',(lookTail kt et k' ok c).run P w=.ok v' w∧VRel m v v':=by
 cases hf:findK P kt k es with
 | none=>simp[hf] at hl
 | some ri =>
  obtain⟨hp,hck,r',hfind,hr',hat⟩:=sim_findK hf hcm w
  have ek:=hk.plain_eq hp
  subst ek
  simp only[hf] at hl
  cases ri with
  | none =>
   have hn:r'=none:=by cases r'<;>simp_all
   subst hn
   simp only at hl
   cases hz:zeroT P et with
   | none=>simp[hz] at hl
   | some z =>
    simp only[hz,cond_eq_ite] at hl
    by_cases hzp:plain z=true
    ·rw[if_pos hzp] at hl
     cases ok with
     | false =>
      simp only[Bool.false_eq_true,if_false] at hl;cases hl
      exact⟨_,by simp[lookTail,hck,hfind,run_zeroT w hz],.plain_mk hzp⟩
     | true =>
      simp only[if_true] at hl;cases hl
      exact⟨_,by simp[lookTail,hck,hfind,run_zeroT w hz],VRel.tuple_iff (.cons (.plain_mk hzp) (.cons (.scal rfl) (.nil m)))⟩
    ·rw[if_neg hzp] at hl;cases hl
  | some i =>
   simp only at hl
   cases hei:es[i]? with
   | none=>simp[hei] at hl
   | some e =>
    simp only[hei,Option.map_some,cond_eq_ite] at hl
    obtain⟨x,hx⟩ : ∃x,r'=some (i,x):=by
     cases r' with
     | none=>simp at hr'
     | some p=>obtain⟨a,b⟩:=p;simp at hr';subst hr';exact⟨b,rfl⟩
    subst hx
    obtain⟨e',he',hev⟩:=hat i x rfl
    have hE:=hcm.2 i e e' hei he'
    have hv:VRel m e.2 x:=by rw[←hev];exact hE.1.2.2
    cases ok with
    | false =>
     simp only[Bool.false_eq_true,if_false] at hl;cases hl
     exact⟨x,by simp[lookTail,hck,hfind],hv⟩
    | true =>
     simp only[if_true] at hl;cases hl
     exact⟨.tuple #[x,.bool true],by simp[lookTail,hck,hfind],VRel.tuple_iff (.cons hv (.cons (.scal rfl) (.nil m)))⟩
theorem Rel.lookup {B:Nat} {w0:World} {m:Mp} {h:IH} {w:World} (R:Rel B w0 m h w) (P:Program) {mt:TypeId} {mv mv' k k' v:Value} {ok:Bool} (hl:lookup P h mt mv k ok=some v) (hmv:VRel m mv mv') (hk:VRel m k k') :
  ∃v',(Instr.lookup mt mv' k' ok).run P w=.ok v' w∧VRel m v v':=by
 unfold Id.lookup at hl
 cases hu:P.underlying mt with
 | none=>simp[hu] at hl
 | some d =>
  rw[hu] at hl
  cases d with
  | map kt et =>
   simp only at hl
   cases hes:entriesOf h mv with
   | none=>rw[hes] at hl;cases hl
   | some es =>
    rw[hes] at hl
    simp only at hl
    unfold entriesOf at hes
    split at hes
    ·cases hes
     have:=hmv.scal_eq rfl
     subst this
     obtain⟨v',h1,h2⟩:=sim_lookTail P w (c:=#[]) ⟨rfl,by simp⟩ hk hl
     refine⟨v',?_,h2⟩
     rw[←h1]
     simp only[Instr.lookup,lookTail,Sem.run_bind,Go.run_underlying hu,Result.andThen_ok,Sem.run_pure]
     congr 1
    ·rename_i r
     cases hmv with
     | scal h=>simp[Id.scal] at h
     | map hm =>
      obtain⟨_,_,c,hobj,hcm⟩:=R.mapAt hes hm
      obtain⟨v',h1,h2⟩:=sim_lookTail P w hcm hk hl
      refine⟨v',?_,h2⟩
      rw[←h1]
      simp only[Instr.lookup,lookTail,Sem.run_bind,Go.run_underlying hu,Result.andThen_ok,Sem.run_pure,run_getObj_map P hobj]
      congr 1
    ·cases hes
  | _=>simp at hl
theorem Rel.mapUpdate {B:Nat} {w0:World} {m:Mp} {h h':IH} {w:World} (R:Rel B w0 m h w) (P:Program) {mt:TypeId} {mv mv' k k' v v':Value} (hl:mapUpdate P h mt mv k v=some h') (hmv:VRel m mv mv') (hk:VRel m k k') (hv:VRel m v v') :
  ∃w',(Instr.mapUpdate mt mv' k' v').run P w=.ok () w'∧Rel B w0 m h' w'∧Step m h w m h' w':=by
 unfold Id.mapUpdate at hl
 split at hl
 ·rename_i kt et r hu
  cases hmv with
  | scal h=>simp[Id.scal] at h
  | @map _ r' s hm =>
   cases hes:mapOf h r with
   | none=>simp[hes] at hl
   | some es =>
    simp only[hes,cond_eq_ite] at hl
    obtain⟨hg,hrr,c,hobj,hcm⟩:=R.mapAt hes hm
    have hm':m (2*(r / 2))=some (r',s):=by rw[hrr];exact hm
    have hs0:s=0:=(R.obj (r / 2) _ r' s hg hm').1
    by_cases hck:okUnit (pureRun P (Instr.checkKey false 10000 kt k))=true
    ·rw[if_pos hck] at hl
     have hck' : ∀w:World,(Instr.checkKey false 10000 kt k).run P w=.ok () w:=by
      cases hx:pureRun P (Instr.checkKey false 10000 kt k) with
      | none=>rw[hx] at hck;cases hck
      | some u=>exact pureRun_run P _ _ hx
     cases hf:findK P kt k es with
     | none=>simp[hf] at hl
     | some ri =>
      obtain⟨hp,_,r0,hfind,hr0,hat⟩:=sim_findK hf hcm w
      have ek:=hk.plain_eq hp
      subst ek
      simp only[hf] at hl
      cases ri with
      | none =>
       simp only at hl;cases hl
       have hn:r0=none:=by cases r0<;>simp_all
       subst hn
       obtain⟨R1,S1⟩:=R.setObj hg rfl rfl hm' (o1:=.map (es ++ [(k',v)])) (o':=.map (c.push { key:=k',val:=v',born:=es.length }) (es.length+1)) rfl
        (fun w' z hw'=>⟨hs0,c.push { key:=k',val:=v',born:=es.length },by rw[hw',List.length_append];rfl,by simp[hcm.1],fun i e e' he he'=>by
         rw[Array.getElem?_push] at he'
         by_cases hi:i<es.length
         ·rw[List.getElem?_append_left hi] at he
          rw[if_neg (by have:=hcm.1;omega)] at he'
          exact hcm.2 i e e' he he'
         ·rw[List.getElem?_append_right (by omega)] at he
          have hi0:i - es.length=0:=by
           rcases Nat.eq_zero_or_pos (i - es.length) with h|h
           ·exact h
           ·rw[List.getElem?_eq_none (by simp;omega)] at he;cases he
          rw[hi0] at he;simp at he;subst he
          rw[if_pos (by have:=hcm.1;omega)] at he';cases he'
          exact⟨⟨rfl,hp,hv⟩,by show es.length=i;omega⟩⟩)
       refine⟨_,?_,R1,S1⟩
       simp[Instr.mapUpdate,Go.run_underlying hu,run_getObj_map P hobj,hck',hfind,run_setObj_map P hobj]
      | some i =>
       simp only at hl
       cases hei:es[i]? with
       | none=>simp[hei] at hl
       | some e =>
        simp only[hei] at hl
        by_cases hsame:Instr.sameBits 10000 e.1 k'=true
        ·rw[if_pos hsame] at hl;cases hl
         obtain⟨x,hx⟩ : ∃x,r0=some (i,x):=by
          cases r0 with
          | none=>simp at hr0
          | some p=>obtain⟨a,b⟩:=p;simp at hr0;subst hr0;exact⟨b,rfl⟩
         subst hx
         obtain⟨e',he',_⟩:=hat i x rfl
         have hE:=hcm.2 i e e' hei he'
         have hil:i<es.length:=by
          rcases Nat.lt_or_ge i es.length with h|h
          ·exact h
          ·rw[List.getElem?_eq_none h] at hei;cases hei
         obtain⟨R1,S1⟩:=R.setObj hg rfl rfl hm' (o1:=.map (es.set i (k',v))) (o':=.map (c.modify i fun e => { e with key:=k',val:=v' }) es.length) rfl
          (fun w' z hw'=>⟨hs0,c.modify i fun e => { e with key:=k',val:=v' },by rw[hw',List.length_set],by simp[hcm.1],fun j a a' ha ha'=>by
           rw[Array.getElem?_modify] at ha'
           by_cases hj:i=j
           ·subst hj
            rw[List.getElem?_set_self (by simpa using hil)] at ha;cases ha
            simp only[if_true,he',Option.map_some,Option.some.injEq] at ha'
            subst ha'
            exact⟨⟨rfl,hp,hv⟩,hE.2⟩
           ·rw[List.getElem?_set_ne hj] at ha
            simp only[hj,if_false] at ha'
            exact hcm.2 j a a' ha ha'⟩)
         refine⟨_,?_,R1,S1⟩
         have hkt:(Instr.keyThatStays (((c[i]?).map (·.key)).getD k') k').run P w=.ok k' w:=by
          simp only[he',Option.map_some,Option.getD_some,Instr.keyThatStays,hE.1.1,hsame,if_true,Sem.run_pure]
         simp[Instr.mapUpdate,Go.run_underlying hu,run_getObj_map P hobj,hck',hfind,hkt,run_setObj_map P hobj]
        ·rw[if_neg hsame] at hl;cases hl
    ·rw[if_neg hck] at hl;cases hl
 ·cases hl
theorem sim_nilEq {P:Program} {m:Mp} {t:TypeId} {x y x' y':Value} {b:Bool} (h:nilEq P t x y=some b) (hx:VRel m x x') (hy:VRel m y y') (w:World):(Op.equal t x' y').run P w=.ok b w:=by
 unfold nilEq at h
 cases hu:P.underlying t with
 | none=>simp[hu] at h
 | some d =>
  simp only[hu] at h
  show(Op.equalIn (9999+1) t x' y').run P w=_
  generalize 9999=depth
  unfold nilEqV at h
  split at h<;>cases h<;>cases hx<;>cases hy<;>first
   | (simp_all [Id.scal];done)
   | simp[Op.equalIn,Go.run_underlying hu]
end Go.Id

namespace Go.Id
open Go Go.RowKit
theorem VRel.unit (m:Mp):VRel m (.tuple #[]) (.tuple #[]):=.tuple rfl fun i v v' h=>by simp at h
theorem repl_mem {z:List Value} {v:Value} : ∀{n:Nat},v∈repl n z→v∈z
 | 0,h=>by cases h
 | n+1,h=>by
  rw[repl,List.mem_append] at h
  rcases h with h|h
  ·exact h
  ·exact repl_mem h
theorem zeroCells_repl (z:Array Value) (n:Nat) (hz:z.size≠0):(Builtin.zeroCells z n).toList=repl n z.toList:=by
 rw[←range_repl z n hz]
 simp[Builtin.zeroCells]
theorem Rel.clear {B:Nat} {w0:World} {m:Mp} {h h':IH} {w:World} (R:Rel B w0 m h w) (P:Program) {ts:Array TypeId} {ty t:TypeId} {x x' v:Value}
  (h0:ts[0]?=some t) (hc:clearOp P h t x=some (v,h')) (hx:VRel m x x') :
  ∃w',(Builtin.clear_ ts ty #[x']).run P w=.ok v w'∧VRel m v v∧Rel B w0 m h' w'∧Step m h w m h' w':=by
 unfold clearOp at hc
 have e0 : ∀y:Value,(#[y]:Array Value)[0]?=some y:=fun _=>rfl
 cases hdt:P.underlying t with
 | none=>simp[hdt] at hc
 | some td =>
  rw[hdt] at hc
  cases td with
  | slice e =>
   split at hc
   ·cases hc
    obtain⟨rfl,rfl,rfl⟩:=hx.nil_inv
    refine⟨w,?_,.unit m,R,Step.refl _ _ _⟩
    simp only[Builtin.clear_,h0,e0,Sem.run_bind,Go.run_underlying hdt,Result.andThen_ok,Sem.run_pure]
   ·rename_i h1 h2 b o dl dk he
    cases he
    have hdv : ∃r q cap a,x'=.slice (some a) dl cap∧(0<dk→m b=some (r,q)∧a=⟨r,q+o,none⟩)∧(dk=0→dl=0):=by
     rcases hx.slice_inv with⟨r,q,cap,hm,h1,_,_,_,_,rfl⟩|⟨hl,hk,a,cap,rfl⟩
     ·exact⟨r,q,cap,_,rfl,fun _=>⟨hm,rfl⟩,fun e=>by omega⟩
     ·subst hl;exact⟨0,0,cap,a,rfl,fun e=>by omega,fun _=>rfl⟩
    obtain⟨r,q,cap,a,rfl,hpos,hzero⟩:=hdv
    simp only[cond_eq_ite,beq_iff_eq] at hc
    by_cases hn:dl=0
    ·rw[if_pos hn] at hc;cases hc
     subst hn
     refine⟨w,?_,.unit m,R,Step.refl _ _ _⟩
     simp only[Builtin.clear_,h0,e0,Sem.run_bind,Go.run_underlying hdt,Result.andThen_ok,Sem.run_pure]
    ·rw[if_neg hn] at hc
     cases hz:zeroCellsT P e with
     | none=>simp[hz] at hc
     | some z =>
      simp only[hz] at hc
      by_cases hall:(z.isEmpty || !(z.all cellOK))=true
      ·rw[if_pos hall] at hc;cases hc
      rw[if_neg hall] at hc
      simp only[Bool.or_eq_true,not_or,Bool.not_eq_true,Bool.not_eq_false'] at hall
      obtain⟨h1w,hw1,hv1⟩:=Option.map_eq_some_iff.1 hc
      cases hv1
      obtain⟨zv,hz0,hzp,rfl⟩:=zeroCellsT_spec hz
      have hk:0<dk:=by
       rcases Nat.eq_zero_or_pos dk with e|e
       ·exact absurd (hzero e) hn
       ·exact e
      obtain⟨hm,rfl⟩:=hpos hk
      have hL:LRel m (repl dl zv.cells.toList) (repl dl zv.cells.toList):=LRel.repl (VRel.plain_mk (m:=m) hzp).cells dl
      obtain⟨w',hr1,R1,S1⟩:=R.wr hw1 hm hL (fun v hv=>List.all_eq_true.1 hall.2 v (repl_mem hv)) P
      have hsz:zv.cells.size≠0:=by
       intro e
       have:zv.cells.toList = []:=List.eq_nil_of_length_eq_zero (by rw[Array.length_toList];exact e)
       rw[this] at hall;simp at hall
      rw[←zeroCells_repl _ _ hsz] at hr1
      refine⟨w',?_,.unit m,R1,S1⟩
      obtain⟨n,rfl⟩ : ∃n,dl=n+1:=⟨dl - 1,by omega⟩
      simp only[Builtin.clear_,h0,e0,Sem.run_bind,Go.run_underlying hdt,Result.andThen_ok,run_zeroT w hz0,hr1,Sem.run_pure]
   ·cases hc
  | _=>simp at hc
theorem Rel.cap {m:Mp} {w:World} (P:Program) {ts:Array TypeId} {ty t:TypeId} {x x' v:Value} (h0:ts[0]?=some t) (hc:capB P t x=some v) (hx:VRel m x x') :
  (Builtin.cap_ ts ty #[x']).run P w=.ok v w∧plain v=true:=by
 unfold capB at hc
 have e0 : ∀y:Value,(#[y]:Array Value)[0]?=some y:=fun _=>rfl
 cases hdt:P.underlying t with
 | none=>simp[hdt] at hc
 | some td =>
  rw[hdt] at hc
  cases td with
  | slice e =>
   split at hc
   ·cases hc
    obtain⟨rfl,rfl,rfl⟩:=hx.nil_inv
    refine⟨?_,rfl⟩
    simp only[Builtin.cap_,h0,e0,Sem.run_bind,Go.run_underlying hdt,Result.andThen_ok,Sem.run_pure]
    rfl
   ·rename_i h1 h2 a dl dk he
    cases he
    simp only[cond_eq_ite,beq_iff_eq] at hc
    by_cases hn:dk % 2=1
    ·rw[if_pos hn] at hc;cases hc
     obtain⟨b,o,i⟩:=a
     cases i with
     | some i=>cases hx<;>simp_all [scal]
     | none =>
      rcases hx.slice_inv with⟨r,q,cap,hm,h3,h4,h5,h6,h7,rfl⟩|⟨hl,hk,a,cap,rfl⟩
      ·refine⟨?_,rfl⟩
       simp only[Builtin.cap_,h0,e0,Sem.run_bind,Go.run_underlying hdt,Result.andThen_ok,Sem.run_pure,h6 hn]
       rfl
      ·omega
    ·rw[if_neg hn] at hc;cases hc
   ·cases hc
  | _=>simp at hc
end Go.Id

namespace Go.Id
open Go Go.RowKit
theorem opds_rel {m:Mp} {fr:Fr} {ρ:Operand→Value} (hρ : ∀x v,opd fr x=some v→VRel m v (ρ x)) : ∀(l:List Operand) (vs:List Value),opds fr l=some vs→LRel m vs (l.map ρ)
 | [],vs,h=>by simp only[opds] at h;cases h;exact .nil m
 | x :: l,vs,h=>by
  rw[opds] at h
  cases hx:opd fr x with
  | none=>simp[hx] at h
  | some v =>
   cases hl:opds fr l with
   | none=>simp[hx,hl] at h
   | some vs' =>
    simp only[hx,hl] at h;cases h
    exact .cons (hρ x v hx) (opds_rel hρ l vs' hl)
theorem optOpd_rel {m:Mp} {fr:Fr} {ρ:Operand→Value} (hρ : ∀x v,opd fr x=some v→VRel m v (ρ x)) {o:Option Operand} {v:Option Value} (h:optOpd fr o=some v):OptRel m v (o.map ρ):=by
 cases o with
 | none=>simp only[optOpd] at h;cases h;trivial
 | some x =>
  simp only[optOpd] at h
  obtain⟨u,hu,rfl⟩:=Option.map_eq_some_iff.1 h
  exact hρ x u hu
theorem sim_binop {P:Program} {m:Mp} {op:BinOp} {t:TypeId} {ox oy:Operand} {x y x' y' v:Value} (h:binop P op t ox oy x y=some v) (hx:VRel m x x') (hy:VRel m y y') (w:World) :
  (do eqGuard op t ox oy x' y';Go.binOp op t x' y':Sem Value).run P w=.ok v w∧plain v=true:=by
 unfold binop at h
 simp only[cond_eq_ite] at h
 by_cases hp:(plain x && plain y)=true
 ·rw[if_pos hp] at h
  simp only[Bool.and_eq_true] at hp
  rw[hx.plain_eq hp.1,hy.plain_eq hp.2]
  obtain⟨a,b⟩:=pureVal_run h
  exact⟨b w,a⟩
 ·rw[if_neg hp] at h
  have guard : ∀(op:BinOp) {b:Bool},nilEq P t x y=some b→(eqGuard op t ox oy x' y').run P w=.ok () w:=by
   intro op b hb
   have hd : ∃d,nilEqV d x y=some b:=by
    unfold nilEq at hb
    split at hb
    ·exact⟨_,hb⟩
    ·cases hb
   obtain⟨d,hd⟩:=hd
   unfold nilEqV at hd
   split at hd<;>cases hd<;>cases hx<;>cases hy<;>first
    | (simp_all [Id.scal];done)
    | (unfold eqGuard;split<;>rfl)
  have noint : ∀{b:Bool},nilEq P t x y=some b→(∀o,Go.binOp .eql t x' y'=(do pure (.bool (←Op.equal t x' y')))∨o)∧(∀o,Go.binOp .neq t x' y'=(do pure (.bool (!(←Op.equal t x' y'))))∨o):=by
   intro b hb
   have hd : ∃d,nilEqV d x y=some b:=by
    unfold nilEq at hb
    split at hb
    ·exact⟨_,hb⟩
    ·cases hb
   obtain⟨d,hd⟩:=hd
   unfold nilEqV at hd
   split at hd<;>cases hd<;>cases hx<;>cases hy<;>first
    | (simp_all [Id.scal];done)
    | exact⟨fun _=>.inl rfl,fun _=>.inl rfl⟩
  cases op with
  | eql =>
   simp only at h
   obtain⟨b,hb,rfl⟩:=Option.map_eq_some_iff.1 h
   refine⟨?_,rfl⟩
   have e:=((noint hb).1 False).resolve_right id
   simp[guard _ hb,e,sim_nilEq hb hx hy w]
  | neq =>
   simp only at h
   obtain⟨b,hb,rfl⟩:=Option.map_eq_some_iff.1 h
   refine⟨?_,rfl⟩
   have e:=((noint hb).2 False).resolve_right id
   simp[guard _ hb,e,sim_nilEq hb hx hy w]
  | _=>cases h
theorem Rel.lenB {B:Nat} {w0:World} {m:Mp} {h:IH} {w:World} (R:Rel B w0 m h w) (P:Program) {t:TypeId} {ts:Array TypeId} {ty:TypeId} {x x' v:Value} (hl:lenB P h t x=some v) (ht:ts[0]?=some t) (hx:VRel m x x') :
  (Builtin.len_ ts ty #[x']).run P w=.ok v w∧plain v=true:=by
 unfold Id.lenB at hl
 have e0:(#[x']:Array Value)[0]?=some x':=rfl
 split at hl
 ·rename_i hu;cases hl
  have:=hx.scal_eq rfl;subst this
  exact⟨by simp[Builtin.len_,ht,Go.run_underlying hu,goInt],rfl⟩
 ·rename_i n e hu;cases hl
  exact⟨by simp[Builtin.len_,ht,Go.run_underlying hu,goInt],rfl⟩
 ·rename_i a hu
  split at hl
  ·rename_i n e hu2;cases hl
   exact⟨by simp[Builtin.len_,ht,Go.run_underlying hu,Go.run_underlying hu2,goInt],rfl⟩
  ·cases hl
 ·rename_i e a n c hu;cases hl
  obtain⟨a',c',rfl⟩:=lenOf_rel hx (show Id.lenOf (.slice a n c)=some n from rfl)
  exact⟨by simp[Builtin.len_,ht,Go.run_underlying hu,goInt],rfl⟩
 ·rename_i k e hu;cases hl
  have:=hx.scal_eq rfl;subst this
  exact⟨by simp[Builtin.len_,ht,Go.run_underlying hu,goInt],rfl⟩
 ·rename_i k e r hu
  obtain⟨es,hes,rfl⟩:=Option.map_eq_some_iff.1 hl
  cases hx with
  | scal h=>simp[Id.scal] at h
  | map hm =>
   obtain⟨_,_,c,hobj,hcm⟩:=R.mapAt hes hm
   exact⟨by simp[Builtin.len_,ht,Go.run_underlying hu,run_getObj_map P hobj,goInt,hcm.1],rfl⟩
 ·cases hl
theorem args1 {m:Mp} {x:Value} {vs':Array Value} (hv:LRel m [x] vs'.toList) : ∃x',vs' = #[x']∧VRel m x x':=by
 obtain⟨l⟩:=vs'
 match l,hv with
 | [x'],hv=>exact⟨x',rfl,hv.2 0 x x' rfl rfl⟩
 | [],hv=>have:=hv.1;simp at this
 | _ :: _ :: _,hv=>have:=hv.1;simp at this
theorem args2 {m:Mp} {x y:Value} {vs':Array Value} (hv:LRel m [x,y] vs'.toList) : ∃x' y',vs' = #[x',y']∧VRel m x x'∧VRel m y y':=by
 obtain⟨l⟩:=vs'
 match l,hv with
 | [x',y'],hv=>exact⟨x',y',rfl,hv.2 0 x x' rfl rfl,hv.2 1 y y' rfl rfl⟩
 | [],hv=>have:=hv.1;simp at this
 | [_],hv=>have:=hv.1;simp at this
 | _ :: _ :: _ :: _,hv=>have:=hv.1;simp at this
theorem LRel.plain_eq {m:Mp} : ∀{l l':List Value},LRel m l l'→l.all plain=true→l'=l
 | [],[],_,_=>rfl
 | [],_ :: _,h,_=>by have:=h.1;simp at this
 | _ :: _,[],h,_=>by have:=h.1;simp at this
 | a :: l,b :: l',h,hp=>by
  simp only[List.all_cons,Bool.and_eq_true] at hp
  rw[(h.2 0 a b rfl rfl).plain_eq hp.1,LRel.plain_eq (l:=l) (l':=l') ⟨by have:=h.1;simpa using this,fun i v v' x y=>h.2 (i+1) v v' (by simpa using x) (by simpa using y)⟩ hp.2]
theorem Rel.builtin {B:Nat} {w0:World} {m:Mp} {h h':IH} {w:World} (R:Rel B w0 m h w) (P:Program) {b:Builtin} {ts:Array TypeId} {ty:TypeId} {consts:Array Bool} {vs:List Value} {vs':Array Value} {v:Value}
  (hb:Id.builtin P h b ts vs=some (v,h')) (hv:LRel m vs vs'.toList) (hfresh:Fresh m h.n h'.n) :
  SimOp B w0 m h w ((Go.builtin b ts ty consts vs').run P w) v h':=by
 unfold Id.builtin at hb
 split at hb
 ·-- len
  rename_i x
  obtain⟨x',rfl,hx⟩:=args1 hv
  cases hts:ts[0]? with
  | none=>simp[hts] at hb
  | some t =>
   simp only[hts] at hb
   obtain⟨u,hu,he⟩:=Option.map_eq_some_iff.1 hb
   cases he
   obtain⟨h1,h2⟩:=R.lenB P (ty:=ty) hu hts hx
   exact .quiet R (by simp[Go.builtin,h1]) (.plain_mk h2)
 ·-- append
  rename_i s x
  obtain⟨s',x',rfl,hs,hx⟩:=args2 hv
  simp only[cond_eq_ite] at hb
  by_cases hsl:isSliceT P ts[1]?=true
  ·rw[if_pos hsl] at hb
   cases hts:ts[0]? with
   | none=>simp[hts] at hb
   | some st =>
    simp only[hts] at hb
    have hxt : ∃xt xe,ts[1]?=some xt∧P.underlying xt=some (.slice xe):=by
     unfold isSliceT at hsl
     split at hsl
     ·rename_i xt h1
      split at hsl
      ·rename_i xe h2;exact⟨xt,xe,h1,h2⟩
      ·cases hsl
     ·cases hsl
    obtain⟨xt,xe,h1,h2⟩:=hxt
    obtain⟨v',m',w',hr,a,b,c⟩:=R.append P (ty:=ty) hts h1 h2 hb hs hx hfresh
    exact⟨_,v',m',w',by simp[Go.builtin,hr],.inl rfl,a,b,c⟩
  ·rw[if_neg hsl] at hb;cases hb
 ·-- copy
  rename_i d s
  obtain⟨d',s',rfl,hd,hs⟩:=args2 hv
  cases hts:ts[0]? with
  | none=>simp[hts] at hb
  | some dt =>
   simp only[hts] at hb
   obtain⟨w',hr,a,b,c⟩:=R.copy P (ty:=ty) hts hb hd hs
   exact⟨_,_,m,w',by simp[Go.builtin,hr],.inl rfl,a,b,c⟩
 ·-- clear
  rename_i x
  obtain⟨x',rfl,hx⟩:=args1 hv
  cases hts:ts[0]? with
  | none=>simp[hts] at hb
  | some t =>
   simp only[hts] at hb
   obtain⟨w',hr,a,b,c⟩:=R.clear P (ty:=ty) hts hb hx
   exact⟨_,_,m,w',by simp[Go.builtin,hr],.inl rfl,a,b,c⟩
 ·-- cap
  rename_i x
  obtain⟨x',rfl,hx⟩:=args1 hv
  cases hts:ts[0]? with
  | none=>simp[hts] at hb
  | some t =>
   simp only[hts] at hb
   obtain⟨u,hu,he⟩:=Option.map_eq_some_iff.1 hb
   cases he
   obtain⟨h1,h2⟩:=Rel.cap (w:=w) P (ty:=ty) hts hu hx
   exact .quiet R (by simp[Go.builtin,h1]) (.plain_mk h2)
 ·simp only[cond_eq_ite] at hb
  by_cases hp:vs.all plain=true
  ·rw[if_pos hp] at hb
   obtain⟨u,hu,he⟩:=Option.map_eq_some_iff.1 hb
   cases he
   obtain⟨h1,h2⟩:=pureVal_run hu
   have e:vs'=vs.toArray:=by rw[←hv.plain_eq hp]
   subst e
   exact .quiet R (by simp only[Go.builtin,Sem.run_bind];rw[show(Builtin.max_ ts ty vs.toArray)=(Builtin.max_ ts 0 vs.toArray) from rfl,h2 w];rfl) (.plain_mk h1)
  ·rw[if_neg hp] at hb;cases hb
 ·simp only[cond_eq_ite] at hb
  by_cases hp:vs.all plain=true
  ·rw[if_pos hp] at hb
   obtain⟨u,hu,he⟩:=Option.map_eq_some_iff.1 hb
   cases he
   obtain⟨h1,h2⟩:=pureVal_run hu
   have e:vs'=vs.toArray:=by rw[←hv.plain_eq hp]
   subst e
   exact .quiet R (by simp only[Go.builtin,Sem.run_bind];rw[show(Builtin.min_ ts ty vs.toArray)=(Builtin.min_ ts 0 vs.toArray) from rfl,h2 w];rfl) (.plain_mk h1)
  ·rw[if_neg hp] at hb;cases hb
 ·cases hb
end Go.Id

namespace Go.Id
open Go Go.RowKit
set_option maxHeartbeats 16000000
theorem VRel.some_inv {m:Mp} {a:Addr} {v':Value} (h:VRel m (.pointer (some a)) v') : ∃a',v'=.pointer (some a'):=by
 cases h with
 | scal h=>simp[Id.scal] at h
 | ptr=>exact⟨_,rfl⟩
theorem VRel.map_inv {m:Mp} {r:Option Nat} {v':Value} (h:VRel m (.map r) v') : ∃r',v'=.map r':=by
 cases h with
 | scal h=>exact⟨_,rfl⟩
 | map=>exact⟨_,rfl⟩
theorem find_born {c:Array MapEntry} {i:Nat} {e:MapEntry} (hb : ∀(j:Nat) (e':MapEntry),c[j]?=some e'→e'.born=j) (hi:c[i]?=some e):c.find? (fun x=>x.born == i)=some e:=by
 have hil:i<c.size:=by
  rcases Nat.lt_or_ge i c.size with h|h
  ·exact h
  ·rw[Array.getElem?_eq_none h] at hi;cases hi
 rw[Array.find?_eq_some_iff_getElem]
 refine⟨by simp[hb i e hi],i,hil,?_,?_⟩
 ·rw[Array.getElem?_eq_getElem hil] at hi;exact Option.some.inj hi
 ·intro j hj
  have:=hb j c[j] (Array.getElem?_eq_getElem (by omega))
  simp[this];omega
theorem run_getObj_iter (P:Program) {w:World} {r:Nat} {a:Option Nat} {b d:Nat} {c:Array Nat} (h:w.heap[r]?=some (.mapIter a b c d)):(getObj r).run P w=.ok (.mapIter a b c d) w:=by
 simp only[getObj,Sem.run,h]
theorem MapRel.born {m:Mp} {es:List (Value×Value)} {c:Array MapEntry} (h:MapRel m es c) (j:Nat) (e':MapEntry) (he:c[j]?=some e'):e'.born=j:=by
 have hj:j<c.size:=by
  rcases Nat.lt_or_ge j c.size with h|h
  ·exact h
  ·rw[Array.getElem?_eq_none h] at he;cases he
 have hj2:j<es.length:=by have:=h.1;omega
 exact(h.2 j es[j] e' (List.getElem?_eq_getElem hj2) he).2
theorem iop_sim {B:Nat} {w0:World} {m:Mp} {h h':IH} {w:World} (R:Rel B w0 m h w) (P:Program) {fr:Fr} {ρ:Operand→Value} (hρ : ∀x v,opd fr x=some v→VRel m v (ρ x)) (oper:Oper) {v:Value}
  (hi:iop P fr oper.op h=some (v,h')) (hfresh:Fresh m h.n h'.n):SimOp B w0 m h w ((execOp ρ oper).run P w) v h':=by
 obtain⟨dst,op,ty,pos,aft,gd⟩:=oper
 simp only at hi ⊢
 have q : ∀{x:Operand} {u:Value},(opd fr x).map (·,h)=some (v,h')→h'=h∧VRel m v (ρ x):=by
  intro x u hx
  obtain⟨a,ha,he⟩:=Option.map_eq_some_iff.1 hx
  cases he;exact⟨rfl,hρ x _ ha⟩
 unfold iop at hi
 split at hi
 ·-- move
  obtain⟨rfl,hv⟩:=q (u:=.nilFunc) hi
  exact .quiet R (by simp[execOp]) hv
 ·obtain⟨rfl,hv⟩:=q (u:=.nilFunc) hi
  exact .quiet R (by simp[execOp]) hv
 ·-- pick
  rename_i c a b
  split at hi
  ·rename_i hc
   obtain⟨rfl,hv⟩:=q (u:=.nilFunc) hi
   have:=(hρ c _ hc).scal_eq rfl
   exact .quiet R (by simp[execOp,this,asBool]) hv
  ·rename_i hc
   obtain⟨rfl,hv⟩:=q (u:=.nilFunc) hi
   have:=(hρ c _ hc).scal_eq rfl
   exact .quiet R (by simp[execOp,this,asBool]) hv
  ·cases hi
 ·-- alloc
  rename_i t
  obtain⟨z,hz,he⟩:=Option.map_eq_some_iff.1 hi
  cases he
  obtain⟨zv,hz0,hzp,rfl⟩:=zeroCellsT_spec hz
  obtain⟨R1,S1⟩:=R.newRow (hfresh h.n (Nat.le_refl _) (Nat.lt_succ_self _)) (VRel.plain_mk (m:=m) hzp).cells 0 t
  refine⟨.value (.pointer (some ⟨w.heap.size,0,none⟩)),_,_,_,?_,.inl rfl,?_,R1,S1⟩
  ·simp only[execOp,Instr.alloc,Sem.run_bind,run_zeroT w hz0,Result.andThen_ok,newVar,Go.newRow,run_newObj,Sem.run_pure];rfl
  ·exact VRel.ptr (s:=0) (o:=0) (Mp.upd_self _ _ _ _)
 ·-- box
  rename_i t x
  obtain⟨a,ha,he⟩:=Option.map_eq_some_iff.1 hi
  cases he
  have hv:=hρ x a ha
  obtain⟨R1,S1⟩:=R.newRow (hfresh h.n (Nat.le_refl _) (Nat.lt_succ_self _)) hv.cells 0 t
  refine⟨.value (.pointer (some ⟨w.heap.size,0,none⟩)),_,_,_,?_,.inl rfl,?_,R1,S1⟩
  ·simp only[execOp,Instr.box,Sem.run_bind,Result.andThen_ok,newVar,Go.newRow,run_newObj,Sem.run_pure];rfl
  ·exact VRel.ptr (s:=0) (o:=0) (Mp.upd_self _ _ _ _)
 ·-- build
  rename_i t parts
  split at hi
  ·rename_i z ps hz hps
   simp only[cond_eq_ite] at hi
   by_cases ha:allSized P t=true
   ·rw[if_pos ha] at hi
    obtain⟨cs,hcs,he⟩:=Option.map_eq_some_iff.1 hi
    cases he
    obtain⟨cs',h1,h2⟩:=sim_build hρ hz hps ha hcs w
    exact .quiet R (by simp only[execOp,Sem.run_bind,h1];rfl) h2
   ·rw[if_neg ha] at hi;cases hi
  ·cases hi
 ·-- buildSlice
  rename_i t len parts
  split at hi
  ·rename_i ps hps
   obtain⟨v',m',w',h1,h2,h3,h4⟩:=(buildSlice_makes P hρ hps hi w).rel R hfresh
   exact⟨_,v',m',w',by simp only[execOp,Sem.run_bind,h1];rfl,.inl rfl,h2,h3,h4⟩
  ·cases hi
 ·-- load
  rename_i t x
  split at hi
  ·rename_i a ha
   obtain⟨u,hu,he⟩:=Option.map_eq_some_iff.1 hi
   cases he
   obtain⟨v',h1,h2⟩:=R.load hu (hρ x a ha)
   exact .quiet R (by simp[execOp,h1]) h2
  ·cases hi
 ·-- store
  rename_i t x y
  split at hi
  ·rename_i a u ha hu
   obtain⟨hx,hhx,he⟩:=Option.map_eq_some_iff.1 hi
   cases he
   obtain⟨w',h1,h2,h3⟩:=R.store hhx (hρ x a ha) (hρ y u hu)
   exact⟨.skip,undef,m,w',by simp[execOp,h1],.inr ⟨rfl,rfl⟩,.undef m,h2,h3⟩
  ·cases hi
 ·-- nilCheck
  rename_i x
  split at hi
  ·rename_i a ha
   cases hi
   have hv:=hρ x _ ha
   obtain⟨a',e⟩:=hv.some_inv
   exact .quiet R (v':=ρ x) (by simp[execOp,e]) hv
  ·rename_i f xs ys ha
   cases hi
   have hv:=hρ x _ ha
   obtain⟨fn',xs',ys',e,hf,h1,h2⟩:=hv.func_inv
   cases fn'<;>simp[FnRel] at hf
   subst hf
   exact .quiet R (v':=ρ x) (by simp[execOp,e]) hv
  ·rename_i f xs ys ha
   cases hi
   have hv:=hρ x _ ha
   obtain⟨fn',xs',ys',e,hf,h1,h2⟩:=hv.func_inv
   cases fn'<;>simp[FnRel] at hf
   exact .quiet R (v':=ρ x) (by simp[execOp,e]) hv
  ·rename_i r ha
   cases hi
   have hv:=hρ x _ ha
   obtain⟨r',e⟩:=hv.map_inv
   exact .quiet R (v':=ρ x) (by simp[execOp,e]) hv
  ·cases hi
 ·-- binOp
  rename_i op t x y yt
  split at hi
  ·rename_i a b ha hb
   obtain⟨u,hu,he⟩:=Option.map_eq_some_iff.1 hi
   cases he
   obtain⟨h1,h2⟩:=sim_binop hu (hρ x a ha) (hρ y b hb) w
   exact .quiet R (by simp only[execOp,Sem.run_bind] at h1 ⊢;rw[h1];rfl) (.plain_mk h2)
  ·cases hi
 ·-- unOp
  rename_i op t x
  split at hi
  ·rename_i a ha
   simp only[cond_eq_ite] at hi
   by_cases hp:plain a=true
   ·rw[if_pos hp] at hi
    obtain⟨u,hu,he⟩:=Option.map_eq_some_iff.1 hi
    cases he
    obtain⟨h1,h2⟩:=pureVal_run hu
    exact .quiet R (by simp only[execOp,(hρ x a ha).plain_eq hp,Sem.run_bind,h2 w];rfl) (.plain_mk h1)
   ·rw[if_neg hp] at hi;cases hi
  ·cases hi
 ·-- convert
  rename_i s d x
  split at hi
  ·rename_i a ha
   simp only[cond_eq_ite] at hi
   by_cases hp:plain a=true
   ·rw[if_pos hp] at hi
    obtain⟨u,hu,he⟩:=Option.map_eq_some_iff.1 hi
    cases he
    obtain⟨h1,h2⟩:=pureVal_run hu
    exact .quiet R (by simp only[execOp,(hρ x a ha).plain_eq hp,Sem.run_bind,h2 w];rfl) (.plain_mk h1)
   ·rw[if_neg hp] at hi;cases hi
  ·cases hi
 ·-- sliceToArrayPointer
  rename_i t x
  split at hi
  ·rename_i n e b o len k hu ha
   simp only[cond_eq_ite] at hi
   by_cases hc:(Nat.ble n len && Nat.blt 0 k)=true
   ·rw[if_pos hc] at hi;cases hi
    simp only[Bool.and_eq_true,Nat.ble_eq,Nat.blt_eq] at hc
    rcases(hρ x _ ha).slice_inv with⟨r,s,cap,hm,_,_,_,_,_,e⟩|⟨_,hk,_⟩
    ·exact .quiet R (v':=.pointer (some ⟨r,s+o,none⟩)) (by simp[execOp,e,Instr.arrayAt,Go.run_underlying hu];omega) (.ptr hm)
    ·omega
   ·rw[if_neg hc] at hi;cases hi
  ·cases hi
 ·-- makeFunc
  rename_i fn first cap
  split at hi
  ·rename_i a b ha hb
   split at hi
   ·rename_i f
    cases hi
    have h1:=opds_rel hρ _ _ ha
    have h2:=opds_rel hρ _ _ hb
    exact .quiet R (v':=.func (.func f) (first.map ρ) (cap.map ρ)) (by simp[execOp,Instr.makeFunc]) (VRel.func_mk rfl (by simpa using h1) (by simpa using h2))
   ·cases hi
  ·cases hi
 ·-- makeMap
  rename_i t r
  have fin : ∀{v h'},some (Value.map (some (2*h.n)),h.new (.map []))=some (v,h')→Fresh m h.n h'.n→((Instr.makeMap t (r.map ρ)).run P w=.ok (.map (some w.heap.size)) (w.alloc (.map #[] 0))) →
    SimOp B w0 m h w ((execOp ρ { dst:=dst,op:=.makeMap t r,type:=ty,pos:=pos,after:=aft,guard:=gd }).run P w) v h':=by
   intro v h' e hfresh hrun
   cases e
   obtain⟨R1,S1⟩:=R.new (.map []) (.map #[] 0) (0,0) (hfresh h.n (Nat.le_refl _) (Nat.lt_succ_self _)) ⟨rfl,#[],by rw[heap_alloc,if_pos rfl];rfl,rfl,by simp⟩ rfl
   exact⟨.value (.map (some w.heap.size)),_,_,_,by simp[execOp,hrun],.inl rfl,.map (Mp.upd_self _ _ _ _),R1,S1⟩
  split at hi
  ·exact fin hi hfresh (by simp only[Option.map_none,Instr.makeMap,Sem.run_bind,Sem.run_pure,Result.andThen_ok,run_newObj];rfl)
  ·rename_i x
   split at hi
   ·rename_i k n kt et hx hu
    have:=(hρ x _ hx).scal_eq rfl
    exact fin hi hfresh (by simp only[Option.map_some,this,Instr.makeMap,Sem.run_bind,Go.run_underlying hu,asInt,asIntOf,Sem.run_pure,Result.andThen_ok,run_newObj];rfl)
   ·cases hi
 ·-- makeSlice
  rename_i t l c
  split at hi
  ·rename_i a b ha hb
   obtain⟨v',m',w',h1,h2,h3,h4⟩:=(makeSlice_makes P hi (hρ l a ha) (hρ c b hb) w).rel R hfresh
   exact⟨_,v',m',w',by simp only[execOp,Sem.run_bind,h1];rfl,.inl rfl,h2,h3,h4⟩
  ·cases hi
 ·-- slice
  rename_i t x lo hi' mx
  split at hi
  ·rename_i a b c d ha hb hc hd
   obtain⟨u,hu,he⟩:=Option.map_eq_some_iff.1 hi
   cases he
   obtain⟨v',h1,h2⟩:=R.sliceOp P hu (hρ x a ha) (optOpd_rel hρ hb) (optOpd_rel hρ hc) (optOpd_rel hρ hd)
   exact .quiet R (by simp only[execOp,Sem.run_bind,h1];rfl) h2
  ·cases hi
 ·-- fieldAddr
  rename_i t x f
  split at hi
  ·rename_i a fd ha hf
   split at hi
   ·rename_i b o n hA hS
    simp only[cond_eq_ite,beq_iff_eq] at hi
    by_cases h0:n=0
    ·rw[if_pos h0] at hi;cases hi
    ·rw[if_neg h0] at hi;cases hi
     have hp:a=.pointer (some ⟨b,o,none⟩):=by unfold Id.asAddr at hA;split at hA<;>simp_all
     subst hp
     obtain⟨r,s,hm,e⟩:=(hρ x _ ha).ptr_inv
     unfold fieldOf at hf
     cases hu:P.underlying t with
     | none=>simp[hu] at hf
     | some d =>
      rw[hu] at hf
      cases d with
      | struct fs =>
       simp only at hf
       refine .quiet R (v':=.pointer (some ⟨r,s+(o+fd.offset),none⟩)) ?_ (.ptr hm)
       simp[execOp,e,Instr.fieldAt,Go.run_underlying hu,hf,Instr.sureAddr,fieldPlace,run_sizeT w hS,h0,addr_add,Nat.add_assoc]
      | _=>simp at hf
   ·cases hi
  ·cases hi
 ·-- field
  rename_i t x f
  split at hi
  ·rename_i cs fd ha hf
   obtain⟨u,hu,he⟩:=Option.map_eq_some_iff.1 hi
   cases he
   obtain⟨cs',e,hL⟩:=(hρ x _ ha).agg_inv
   obtain⟨v',h1,h2⟩:=sim_part P hu hL w
   unfold fieldOf at hf
   cases hut:P.underlying t with
   | none=>simp[hut] at hf
   | some d =>
    rw[hut] at hf
    cases d with
    | struct fs =>
     simp only at hf
     exact .quiet R (by simp[execOp,e,Instr.field,Go.run_underlying hut,hf,asAgg,h1]) h2
    | _=>simp at hf
  ·cases hi
 ·-- indexAddr
  rename_i t x i
  split at hi
  ·rename_i a b ha hb
   obtain⟨u,hu,he⟩:=Option.map_eq_some_iff.1 hi
   cases he
   obtain⟨v',h1,h2⟩:=sim_indexAddr P hu (hρ x a ha) (hρ i b hb) w
   exact .quiet R (by simp only[execOp,Sem.run_bind,h1];rfl) h2
  ·cases hi
 ·-- index
  rename_i t x i
  split at hi
  ·rename_i cs b ha hb
   split at hi
   ·rename_i n e j hu hj
    simp only[cond_eq_ite,Nat.blt_eq] at hi
    by_cases hlt:j<n
    ·rw[if_pos hlt] at hi
     split at hi
     ·rename_i size hS
      obtain⟨u,hu2,he⟩:=Option.map_eq_some_iff.1 hi
      cases he
      obtain⟨cs',e1,hL⟩:=(hρ x _ ha).agg_inv
      obtain⟨k,e2⟩:=idxOf_rel (hρ i b hb) hj
      obtain⟨v',h1,h2⟩:=sim_part P hu2 hL w
      refine .quiet R (v':=v') ?_ h2
      have h3:(0:Int)≤Int.ofNat j∧Int.ofNat j<(n:Int):=by constructor<;>simp<;>omega
      simp only[execOp,e1,e2,Instr.index,asIntOf,Sem.run_bind,Sem.run_pure,Result.andThen_ok,Go.run_underlying hu]
      rw[if_pos h3]
      simp[run_sizeT w hS,h1]
     ·cases hi
    ·rw[if_neg hlt] at hi;cases hi
   ·cases hi
  ·rename_i s b ha hb
   simp only[cond_eq_ite] at hi
   by_cases hp:plain b=true
   ·rw[if_pos hp] at hi
    obtain⟨u,hu,he⟩:=Option.map_eq_some_iff.1 hi
    cases he
    obtain⟨h1,h2⟩:=pureVal_run hu
    have e1:=(hρ x _ ha).scal_eq rfl
    exact .quiet R (by simp only[execOp,(hρ i b hb).plain_eq hp,e1,Sem.run_bind,h2 w];rfl) (.plain_mk h1)
   ·rw[if_neg hp] at hi;cases hi
  ·cases hi
 ·-- lookup
  rename_i t x k ok
  split at hi
  ·rename_i a b ha hb
   obtain⟨u,hu,he⟩:=Option.map_eq_some_iff.1 hi
   cases he
   obtain⟨v',h1,h2⟩:=R.lookup P hu (hρ x a ha) (hρ k b hb)
   exact .quiet R (by simp only[execOp,Sem.run_bind,h1];rfl) h2
  ·cases hi
 ·-- mapUpdate
  rename_i t x k y
  split at hi
  ·rename_i a b c ha hb hc
   obtain⟨hx,hhx,he⟩:=Option.map_eq_some_iff.1 hi
   cases he
   obtain⟨w',h1,h2,h3⟩:=R.mapUpdate P hhx (hρ x a ha) (hρ k b hb) (hρ y c hc)
   exact⟨.skip,undef,m,w',by simp only[execOp,Sem.run_bind,h1];rfl,.inr ⟨rfl,rfl⟩,.undef m,h2,h3⟩
  ·cases hi
 ·-- insert
  rename_i t x k y
  split at hi
  ·rename_i a b c ha hb hc
   obtain⟨hx,hhx,he⟩:=Option.map_eq_some_iff.1 hi
   cases he
   obtain⟨w',h1,h2,h3⟩:=R.mapUpdate P hhx (hρ x a ha) (hρ k b hb) (hρ y c hc)
   exact⟨.skip,undef,m,w',by simp only[execOp,Sem.run_bind,h1];rfl,.inr ⟨rfl,rfl⟩,.undef m,h2,h3⟩
  ·cases hi
 ·-- extract
  rename_i x i
  split at hi
  ·rename_i vs ha
   obtain⟨u,hu,he⟩:=Option.map_eq_some_iff.1 hi
   cases he
   obtain⟨vs',e,hL⟩:=(hρ x _ ha).tuple_inv
   obtain⟨v',h1,h2⟩:=hL.get (i:=i) (by simpa using hu)
   have h3:vs'[i]?=some v':=by simpa using h1
   exact .quiet R (v':=v') (by simp[execOp,e,Instr.extract,h3]) h2
  ·cases hi
 ·-- range over a map
  rename_i t x
  split at hi
  ·rename_i kt et k hu hx
   obtain⟨es,hes,he⟩:=Option.map_eq_some_iff.1 hi
   cases he
   obtain⟨rm,s,hm,hρx⟩ : ∃rm s,m k=some (rm,s)∧ρ x=.map (some rm):=by
    have:=hρ x _ hx
    generalize ρ x=y at this
    cases this with
    | scal h=>simp[Id.scal] at h
    | map hm=>exact⟨_,_,hm,rfl⟩
   obtain⟨hg,hkk,c,hobj,hcm⟩:=R.mapAt hes hm
   have hs0:s=0:=(R.obj (k / 2) _ rm s hg (by rw[hkk];exact hm)).1
   subst hs0
   obtain⟨R1,S1⟩:=R.new (.iter k es.length [] es.length) (.mapIter (some rm) es.length #[] es.length) (0,0) (hfresh h.n (Nat.le_refl _) (Nat.lt_succ_self _)) ⟨rfl,rm,by rw[heap_alloc,if_pos rfl],hm⟩ rfl
   refine⟨.value (.pointer (some ⟨w.heap.size,0,none⟩)),_,_,_,?_,.inl rfl,.ptr (s:=0) (o:=0) (Mp.upd_self _ _ _ _),R1,S1⟩
   simp only[execOp,Instr.range,hρx,Sem.run_bind,Go.run_underlying hu,Result.andThen_ok,run_getObj_map P hobj,run_newObj,Sem.run_pure]
   rfl
  ·cases hi
 ·-- a map's entry
  rename_i x
  split at hi
  ·rename_i b hx
   simp only[cond_eq_ite,beq_iff_eq] at hi
   split at hi
   ·cases hi
   ·rename_i hb
    split at hi
    ·rename_i k since seen last hit
     split at hi
     ·rename_i es i hes hseen
      split at hi
      ·rename_i hlast
       obtain⟨e,hei,he⟩:=Option.map_eq_some_iff.1 hi
       cases he
       obtain⟨r,s,hm,hρx⟩:=(hρ x _ hx).ptr_inv
       obtain⟨hs0,rm,hobj,hmk⟩:=R.obj (b / 2) _ r s hit (by rw[show 2*(b / 2)=b from by omega];exact hm)
       subst hs0
       obtain⟨hg,hkk,c,hmap,hcm⟩:=R.mapAt hes hmk
       have hil:i<es.length:=by
        rcases Nat.lt_or_ge i es.length with h|h
        ·exact h
        ·rw[List.getElem?_eq_none h] at hei;cases hei
       have hic:i<c.size:=by have:=hcm.1;omega
       have hE:=(hcm.2 i e c[i] hei (Array.getElem?_eq_getElem hic)).1
       have hfind:=find_born hcm.born (Array.getElem?_eq_getElem hic)
       have hback:seen.toArray.back?=some i:=by rw[←hseen];simp[Array.back?,List.getLast?_eq_getElem?]
       refine .quiet R (v':=.tuple #[c[i].key,c[i].val]) ?_ (VRel.tuple_iff (.cons ?_ (.cons hE.2.2 (.nil m))))
       ·subst hlast
        simp only[execOp,Instr.entry,hρx,Nat.zero_add,Sem.run_bind,run_getObj_iter P hobj,hback,run_getObj_map P hmap,Result.andThen_ok,bne_self_eq_false,Bool.false_eq_true,if_false,hfind,Sem.run_pure]
       ·rw[hE.1];exact VRel.plain_mk hE.2.1
      ·cases hi
     ·cases hi
    ·cases hi
  ·cases hi
 ·-- call of a builtin
  rename_i c
  split at hi
  ·rename_i b hb
   split at hi
   ·rename_i vs hvs
    have hL:=opds_rel hρ _ _ hvs
    have:=R.builtin P (ty:=ty) (consts:=c.args.map fun|.const _=>true|_=>false) (vs':=c.args.map ρ) hi (by simpa using hL) hfresh
    obtain⟨nx,v',m',w',h1,h2⟩:=this
    refine⟨nx,v',m',w',?_,h2⟩
    rw[←h1]
    simp only[execOp,resolve,hb,Sem.run_bind,Sem.run_pure,Result.andThen_ok,invoke]
    rfl
   ·cases hi
  ·cases hi
 ·cases hi
end Go.Id

namespace Go.Id
open Go Go.RowKit
def on (b:Frame) (tmps:Array Value) (todo:List Item) (ds:List Deferred):Frame :=
 { fn:=b.fn,tmps,todo,defers:=ds,mode:=.run,kind:=b.kind,roundOf:=b.roundOf }
def evalT (tmps:Array Value):Operand→Value
 | .tmp t=>tmps.getD t undef
 | .const v=>v
 | .global g=>.pointer (some ⟨g,0,none⟩)
 | .func f=>.func (.func f) #[] #[]
theorem eval_on (b:Frame) (tmps:Array Value) (todo:List Item) (ds:List Deferred):(on b tmps todo ds).eval=evalT tmps:=by
 funext x;cases x<;>rfl
theorem opd_evalT {B:Nat} {w0:World} {m:Mp} {h:IH} {w:World} (R:Rel B w0 m h w) {fr:Fr} {tmps:Array Value} (hf:FrRel m fr tmps) : ∀x v,opd fr x=some v→VRel m v (evalT tmps x):=by
 intro x v hx
 cases x with
 | tmp t =>
  simp only[opd] at hx
  obtain⟨v',h1,h2⟩:=hf t v hx
  simp only[evalT,Array.getD_eq_getD_getElem?,h1,Option.getD_some]
  exact h2
 | const u =>
  simp only[opd,cond_eq_ite] at hx
  by_cases hp:plain u=true
  ·rw[if_pos hp] at hx;cases hx;exact .plain_mk hp
  ·rw[if_neg hp] at hx;cases hx
 | global g =>
  simp only[opd,cond_eq_ite,Nat.blt,Nat.ble_eq] at hx
  split at hx
  case isFalse=>cases hx
  rename_i hg
  cases hx
  have:=VRel.ptr (m:=m) (o:=0) (R.odd g hg)
  simpa [evalT] using this
 | func f =>
  simp only[opd] at hx;cases hx
  exact VRel.func_mk rfl (.nil m) (.nil m)
section
variable {P:Program} {b:Frame} {tmps:Array Value} {ds:List Deferred} {k:List Item} {cs:List Frame} {w:World}
theorem st_skip:step P (lone (on b tmps (.code .skip :: k) ds) cs w)=.next (lone (on b tmps k ds) cs w):=step_lone_go (by simp[stepG,stepG.exec,on])
theorem st_label {l:Nat}:step P (lone (on b tmps (.code (.label l) :: k) ds) cs w)=.next (lone (on b tmps k ds) cs w):=step_lone_go (by simp[stepG,stepG.exec,on])
theorem st_inBlock {id:Nat}:step P (lone (on b tmps (.inBlock id :: k) ds) cs w)=.next (lone (on b tmps k ds) cs w):=step_lone_go (by simp[stepG,stepG.exec,on])
theorem st_inScope {c:Code}:step P (lone (on b tmps (.inScope c :: k) ds) cs w)=.next (lone (on b tmps k ds) cs w):=step_lone_go (by simp[stepG,stepG.exec,on])
theorem st_seq {x y:Code}:step P (lone (on b tmps (.code (.seq x y) :: k) ds) cs w)=.next (lone (on b tmps (.code x :: .code y :: k) ds) cs w):=step_lone_go (by simp[stepG,stepG.exec,on])
theorem st_cond {c:Operand} {x y:Code} {t:Bool} (h:evalT tmps c=.bool t) :
  step P (lone (on b tmps (.code (.cond c x y) :: k) ds) cs w)=.next (lone (on b tmps (.code (if t then x else y) :: k) ds) cs w) :=
 step_lone_go (by
  have:=congrFun (eval_on b tmps (.code (.cond c x y) :: k) ds) c
  simp only[on] at this
  simp[stepG,stepG.exec,on,this,h])
theorem st_block {id:Nat} {c:Code}:step P (lone (on b tmps (.code (.block id c) :: k) ds) cs w)=.next (lone (on b tmps (.code c :: .inBlock id :: k) ds) cs w):=step_lone_go (by simp[stepG,stepG.exec,on])
theorem st_scope {c:Code}:step P (lone (on b tmps (.code (.scope c) :: k) ds) cs w)=.next (lone (on b tmps (.code c :: .inScope c :: k) ds) cs w):=step_lone_go (by simp[stepG,stepG.exec,on])
theorem st_loop {c:Code}:step P (lone (on b tmps (.code (.loop c) :: k) ds) cs w)=.next (lone (on b tmps (.code c :: .inLoop c :: k) ds) cs w):=step_lone_go (by simp[stepG,stepG.exec,on])
theorem st_inLoop {c:Code}:step P (lone (on b tmps (.inLoop c :: k) ds) cs w)=.next (lone (on b tmps (.code c :: .inLoop c :: k) ds) cs w):=step_lone_go (by simp[stepG,stepG.exec,on])
theorem st_exit {id:Nat} {k':List Item} (h:exitTo id k=some k'):step P (lone (on b tmps (.code (.exit id) :: k) ds) cs w)=.next (lone (on b tmps k' ds) cs w):=step_lone_go (by simp[stepG,stepG.exec,on,h])
theorem st_region {id:Nat} {ops:Array Oper}:step P (lone (on b tmps (.code (.region id ops false) :: k) ds) cs w)=.next (lone (on b tmps (.inRegion ops (List.range ops.size) :: k) ds) cs w) :=
 step_lone_go (by simp[stepG,stepG.exec,on])
theorem st_region_draw {id:Nat} {ops:Array Oper}:step P (lone (on b tmps (.code (.region id ops true) :: k) ds) cs w) =
  .next (lone (on b tmps (.inRegion ops (Region.schedule (P.follows .mixedOrders) ops (w.tape w.drawn (.order b.fn id))) :: k) ds) cs { w with drawn:=w.drawn+1 }) :=
 step_lone_go (by simp[stepG,stepG.exec,on,choose,Sem.run,Question.forced,Question.cut])
theorem st_region_end {ops:Array Oper}:step P (lone (on b tmps (.inRegion ops [] :: k) ds) cs w)=.next (lone (on b tmps k ds) cs w):=step_lone_go (by simp[stepG,stepG.exec,on])
def putT (tmps:Array Value) (dst:Option Tmp) (v:Value):Array Value :=
 match dst with
 | some d=>tmps.setIfInBounds d v
 | none=>tmps
theorem finish_on {ops:Array Oper} {i:Nat} {o:Oper} {rest:List Nat} (ho:ops[i]?=some o) (v:Value):(on b tmps (.inRegion ops (i :: rest) :: k) ds).finish v=on b (putT tmps o.dst v) (.inRegion ops rest :: k) ds:=by
 unfold Frame.finish on
 simp only[ho,Option.bind_some]
 cases o.dst<;>rfl
theorem st_off {ops:Array Oper} {i:Nat} {o:Oper} {rest:List Nat} (ho:ops[i]?=some o) (hw:Region.wanted o (yielded ops tmps)=false) :
  step P (lone (on b tmps (.inRegion ops (i :: rest) :: k) ds) cs w)=.next (lone (on b (putT tmps o.dst undef) (.inRegion ops rest :: k) ds) cs w):=by
 rw[←finish_on ho]
 exact step_lone_go (by
  have h':((ops[i]?).map (Region.wanted · (yielded ops tmps))).getD false=false:=by simp[ho,hw]
  simp only[on] at *
  simp[stepG,stepG.exec,h'])
theorem stepG_on {ops:Array Oper} {i:Nat} {o:Oper} {rest:List Nat} (ho:ops[i]?=some o) (hw:Region.wanted o (yielded ops tmps)=true) (hnd : ∀c,o.op≠.defer c) :
  stepG P true { frame:=on b tmps (.inRegion ops (i :: rest) :: k) ds,callers:=cs,status:=.running,dying:=none } w =
   stepG.apply P true (on b tmps (.inRegion ops (i :: rest) :: k) ds) cs none (execOp (evalT tmps) o) w:=by
 have he:=eval_on b tmps (.inRegion ops (i :: rest) :: k) ds
 simp only[on] at he
 simp only[stepG,stepG.exec,on,ho,Option.map_some,hw,Option.getD_some,if_true,stepG.oper,Frame.oper?,he]
 cases hr:b.roundOf with
 | none=>simp
 | some l =>
  cases hop:o.op<;>simp_all
theorem st_value {ops:Array Oper} {i:Nat} {o:Oper} {rest:List Nat} {v:Value} {w':World} (ho:ops[i]?=some o) (hw:Region.wanted o (yielded ops tmps)=true) (hnd : ∀c,o.op≠.defer c)
  (hr:(execOp (evalT tmps) o).run P w=.ok (.value v) w') :
  step P (lone (on b tmps (.inRegion ops (i :: rest) :: k) ds) cs w)=.next (lone (on b (putT tmps o.dst v) (.inRegion ops rest :: k) ds) cs w'):=by
 rw[←finish_on ho]
 refine step_lone_go ?_
 rw[stepG_on ho hw hnd]
 simp[stepG.apply,hr]
theorem st_skipop {ops:Array Oper} {i:Nat} {o:Oper} {rest:List Nat} {w':World} (ho:ops[i]?=some o) (hw:Region.wanted o (yielded ops tmps)=true) (hnd : ∀c,o.op≠.defer c)
  (hr:(execOp (evalT tmps) o).run P w=.ok .skip w') :
  step P (lone (on b tmps (.inRegion ops (i :: rest) :: k) ds) cs w)=.next (lone (on b (putT tmps o.dst undef) (.inRegion ops rest :: k) ds) cs w'):=by
 rw[←finish_on ho]
 refine step_lone_go ?_
 rw[stepG_on ho hw hnd]
 simp[stepG.apply,hr]
theorem st_enter {ops:Array Oper} {i:Nat} {o:Oper} {rest:List Nat} {f:FuncId} {args:Array Value} {w':World} (ho:ops[i]?=some o) (hw:Region.wanted o (yielded ops tmps)=true) (hnd : ∀c,o.op≠.defer c)
  (hr:(execOp (evalT tmps) o).run P w=.ok (.enter f args) w') :
  step P (lone (on b tmps (.inRegion ops (i :: rest) :: k) ds) cs w)=.next (lone (Frame.enter P f args .normal) (on b tmps (.inRegion ops (i :: rest) :: k) ds :: cs) w'):=by
 refine step_lone_go ?_
 rw[stepG_on ho hw hnd]
 simp[stepG.apply,hr,on]
theorem st_round {ops:Array Oper} {i:Nat} {o:Oper} {rest:List Nat} {l:Nat} {f:FuncId} {ts:Array Value} {a c:Code} {w':World} (ho:ops[i]?=some o) (hw:Region.wanted o (yielded ops tmps)=true) (hnd : ∀c,o.op≠.defer c)
  (hr:(execOp (evalT tmps) o).run P w=.ok (.round l f ts a c) w') :
  step P (lone (on b tmps (.inRegion ops (i :: rest) :: k) ds) cs w)=.next (lone (Frame.round l f ts a c .normal) (on b tmps (.inRegion ops (i :: rest) :: k) ds :: cs) w'):=by
 refine step_lone_go ?_
 rw[stepG_on ho hw hnd]
 simp[stepG.apply,hr,on]
end
theorem wr_n {h h':IH} {b o:Nat} {vs:List Value} (hw:h.wr b o vs=some h'):h'.n=h.n:=by
 unfold IH.wr at hw
 simp only[cond_eq_ite] at hw
 split at hw
 ·cases hw
 ·split at hw
  ·split at hw
   ·split at hw
    ·cases hw;rfl
    ·split at hw
     ·cases hw;rfl
     ·cases hw
   ·cases hw
  ·cases hw
theorem append_n {P:Program} {h h':IH} {st:TypeId} {s x v:Value} (ha:append P h st s x=some (v,h')):h.n≤h'.n:=by
 unfold Id.append at ha
 simp only[cond_eq_ite] at ha
 repeat' (split at ha)
 all_goals first
  | (cases ha;done)
  | (cases ha;exact Nat.le_refl _)
  | (cases ha;exact Nat.le_succ _)
  | (obtain⟨h1,h2,h3⟩:=Option.map_eq_some_iff.1 ha;cases h3;exact Nat.le_of_eq (wr_n h2).symm)
theorem copy_n {P:Program} {h h':IH} {dt:TypeId} {d s v:Value} (ha:copyOp P h dt d s=some (v,h')):h.n≤h'.n:=by
 unfold Id.copyOp at ha
 simp only[cond_eq_ite] at ha
 repeat' (split at ha)
 all_goals first
  | (cases ha;done)
  | (cases ha;exact Nat.le_refl _)
  | (obtain⟨h1,h2,h3⟩:=Option.map_eq_some_iff.1 ha;cases h3;exact Nat.le_of_eq (wr_n h2).symm)
theorem clear_n {P:Program} {h h':IH} {t:TypeId} {x v:Value} (ha:clearOp P h t x=some (v,h')):h.n≤h'.n:=by
 unfold Id.clearOp at ha
 simp only[cond_eq_ite] at ha
 repeat' (split at ha)
 all_goals first
  | (cases ha;done)
  | (cases ha;exact Nat.le_refl _)
  | (obtain⟨h1,h2,h3⟩:=Option.map_eq_some_iff.1 ha;cases h3;exact Nat.le_of_eq (wr_n h2).symm)
theorem map2_n {h h':IH} {v:Value} {o:Option Value} (ha:o.map (·,h)=some (v,h')):h.n≤h'.n:=by
 obtain⟨a,_,h3⟩:=Option.map_eq_some_iff.1 ha;cases h3;exact Nat.le_refl _
theorem builtin_n {P:Program} {h h':IH} {b:Builtin} {ts:Array TypeId} {vs:List Value} {v:Value} (ha:builtin P h b ts vs=some (v,h')):h.n≤h'.n:=by
 unfold Id.builtin at ha
 simp only[cond_eq_ite] at ha
 repeat' (split at ha)
 all_goals first
  | (cases ha;done)
  | exact append_n ha
  | exact copy_n ha
  | exact clear_n ha
  | exact map2_n ha
theorem store_n {P:Program} {h h':IH} {t:TypeId} {a v:Value} (hs:store P h t a v=some h'):h.n≤h'.n:=by
 unfold Id.store at hs
 simp only[cond_eq_ite] at hs
 repeat' (split at hs)
 all_goals first
  | (cases hs;done)
  | exact Nat.le_of_eq (wr_n hs).symm
theorem mapUpdate_n {P:Program} {h h':IH} {t:TypeId} {m k v:Value} (hs:mapUpdate P h t m k v=some h'):h.n≤h'.n:=by
 unfold Id.mapUpdate at hs
 simp only[cond_eq_ite] at hs
 repeat' (split at hs)
 all_goals first
  | (cases hs;done)
  | (cases hs;exact Nat.le_refl _)
theorem buildSlice_n {P:Program} {h h':IH} {t:TypeId} {len:Nat} {ps:List (Nat×Value)} {v:Value} (hs:buildSlice P h t len ps=some (v,h')):h.n≤h'.n:=by
 unfold Id.buildSlice at hs
 simp only[cond_eq_ite] at hs
 repeat' (split at hs)
 all_goals first
  | (cases hs;done)
  | (cases hs;exact Nat.le_succ _)
theorem makeSlice_n {P:Program} {h h':IH} {t:TypeId} {l c v:Value} (hs:makeSlice P h t l c=some (v,h')):h.n≤h'.n:=by
 unfold Id.makeSlice at hs
 simp only[cond_eq_ite] at hs
 repeat' (split at hs)
 all_goals first
  | (cases hs;done)
  | (cases hs;exact Nat.le_succ _)
theorem iop_n {P:Program} {fr:Fr} {o:Op} {h h':IH} {v:Value} (hi:iop P fr o h=some (v,h')):h.n≤h'.n:=by
 unfold iop at hi
 simp only[cond_eq_ite] at hi
 split at hi
 all_goals try (exact map2_n hi)
 all_goals repeat' (split at hi)
 all_goals first
  | (cases hi;done)
  | (cases hi;exact Nat.le_refl _)
  | (cases hi;exact Nat.le_succ _)
  | exact map2_n hi
  | exact builtin_n hi
  | (obtain⟨h1,h2,h3⟩:=Option.map_eq_some_iff.1 hi;cases h3;exact Nat.le_succ _)
  | (obtain⟨h1,h2,h3⟩:=Option.map_eq_some_iff.1 hi;cases h3;exact Nat.le_refl _)
  | (obtain⟨h1,h2,h3⟩:=Option.map_eq_some_iff.1 hi;cases h3;first|exact store_n h2|exact mapUpdate_n h2)
  | exact buildSlice_n hi
  | exact makeSlice_n hi
def CallMono (call:CallV):Prop:=∀(fv:Value) (vs:List Value) (h h':IH) (v:Value),call fv vs h=some (v,h')→h.n≤h'.n
theorem runOp_n {E:Env} {call:CallV} (hc:CallMono call) {fr:Fr} {o:Op} {h h':IH} {v:Value} (hr:runOp E call fr o h=some (v,h')):h.n≤h'.n:=by
 unfold runOp at hr
 split at hr
 ·split at hr
  ·split at hr
   ·exact hc _ _ _ _ _ hr
   ·cases hr
  ·exact iop_n hr
 ·exact iop_n hr
theorem stepOp_n {E:Env} {call:CallV} (hc:CallMono call) {nt:Nat} {ops:List Oper} {o:Oper} {fr fr':Fr} {h h':IH} (hs:stepOp E call nt ops o fr h=some (fr',h')):h.n≤h'.n:=by
 unfold stepOp at hs
 split at hs
 ·split at hs
  ·rename_i v h2 hrun
   obtain⟨a,_,e⟩:=Option.map_eq_some_iff.1 hs;cases e
   exact runOp_n hc hrun
  ·cases hs
 ·obtain⟨a,_,e⟩:=Option.map_eq_some_iff.1 hs;cases e;exact Nat.le_refl _
 ·cases hs
theorem runOps_n {E:Env} {call:CallV} (hc:CallMono call) {nt:Nat} {ops:List Oper} : ∀(l:List Oper) (fr fr':Fr) (h h':IH),runOps E call nt ops l fr h=some (fr',h')→h.n≤h'.n
 | [],fr,fr',h,h',hr=>by simp only[runOps] at hr;cases hr;exact Nat.le_refl _
 | o :: l,fr,fr',h,h',hr=>by
  rw[runOps] at hr
  split at hr
  ·rename_i fr1 h1 hs
   exact Nat.le_trans (stepOp_n hc hs) (runOps_n hc l _ _ _ _ hr)
  ·cases hr
def Invoked (P:Program) (fv:Value) (args:Array Value) (B:Nat) (w0:World) (m:Mp) (h:IH) (w:World) (v:Value) (h':IH):Prop :=
 ∃nx,(do let d ←Deferred.ofValue fv args;invoke d.target d.args:Sem Next).run P w=.ok nx w ∧
  ((∃v',nx=.value v'∧h'=h∧VRel m v v' ∧ ∀a∈args.toList,∃k n,a=Value.int k n) ∨
  ∃fr0,((∃f as,nx=.enter f as∧fr0=Frame.enter P f as .normal)∨(∃l f ts a c,nx=.round l f ts a c∧fr0=Frame.round l f ts a c .normal)) ∧
   ∀(c:Frame) (cs:List Frame),∃v' m' w',VRel m' v v'∧Rel B w0 m' h' w'∧Step m h w m' h' w'∧Steps P (lone fr0 (c :: cs) w) (lone (c.finish v') cs w'))
def CallSim (P:Program) (call:CallV):Prop :=
 ∀(fv:Value) (vs:List Value) (h h':IH) (v:Value),call fv vs h=some (v,h') → ∀(B:Nat) (w0:World) (m:Mp) (w:World) (fv':Value) (vs':Array Value),
  Rel B w0 m h w→VRel m fv fv'→LRel m vs vs'.toList→Fresh m h.n h'.n→Invoked P fv' vs' B w0 m h w v h'
theorem Fresh.sub {m:Mp} {a b c d:Nat} (h:Fresh m a d) (h1:a≤b) (h2:c≤d):Fresh m b c:=fun k x y=>h k (Nat.le_trans h1 x) (Nat.lt_of_lt_of_le y h2)
theorem Step.fresh {m m':Mp} {h h':IH} {w w':World} (s:Step m h w m' h' w') {c:Nat} (hf:Fresh m h.n c):Fresh m' h'.n c:=by
 intro k a b
 have h1:=hf k (Nat.le_trans s.n a) b
 apply Classical.byContradiction
 intro hne
 have hch:m' (2*k)≠m (2*k):=by rw[h1];exact hne
 obtain⟨k',e,_,c⟩:=s.new _ hch
 omega
theorem fput_rel {m:Mp} {nt:Nat} {fr fr':Fr} {tmps:Array Value} {dst:Option Tmp} {v v':Value} (hp:fput nt fr dst v=some fr') (hf:FrRel m fr tmps) (ht:nt≤tmps.size) (hv:VRel m v v'):FrRel m fr' (putT tmps dst v')∧nt≤(putT tmps dst v').size:=by
 unfold fput at hp
 cases dst with
 | none=>cases hp;exact⟨hf,ht⟩
 | some d =>
  simp only[cond_eq_ite,Nat.blt_eq] at hp
  by_cases hd:d<nt
  ·rw[if_pos hd] at hp;cases hp
   have hd2:d<tmps.size:=Nat.lt_of_lt_of_le hd ht
   refine⟨fun t x hx=>?_,by simpa [putT] using ht⟩
   simp only[fget,cond_eq_ite,beq_iff_eq] at hx
   by_cases e:d=t
   ·subst e
    rw[if_pos rfl] at hx;cases hx
    exact⟨v',by simp[putT,hd2],hv⟩
   ·rw[if_neg e] at hx
    obtain⟨x',h1,h2⟩:=hf t x hx
    exact⟨x',by simp[putT,e,h1],h2⟩
  ·rw[if_neg hd] at hp;cases hp
theorem FrRel.mono {m m':Mp} (hm:m.le m') {fr:Fr} {tmps:Array Value} (h:FrRel m fr tmps):FrRel m' fr tmps:=fun t v hv=>let ⟨v',a,b⟩:=h t v hv;⟨v',a,b.mono hm⟩
theorem wanted_rel {m:Mp} {fr:Fr} {tmps:Array Value} (hf:FrRel m fr tmps) {ops:Array Oper} {o:Oper} {t:Bool} (hw:wantedI ops.toList o fr=some t):Region.wanted o (yielded ops tmps)=t:=by
 unfold wantedI at hw
 unfold Region.wanted
 cases hg:o.guard with
 | none=>simp only[hg] at hw ⊢;cases hw;rfl
 | some jw =>
  obtain⟨j,want⟩:=jw
  simp only[hg] at hw ⊢
  split at hw
  ·rename_i d hd
   split at hw
   ·rename_i bb hb
    cases hw
    obtain⟨v',h1,h2⟩:=hf d _ hb
    have e:=h2.scal_eq rfl
    subst e
    have hd':(ops[j]?).bind (·.dst)=some d:=by simpa using hd
    simp only[yielded,hd',Option.bind_some,h1]
    cases bb<;>cases want<;>rfl
   ·rename_i bb hb
    cases hw
    obtain⟨v',h1,h2⟩:=hf d _ hb
    obtain⟨cs',rfl,_⟩:=h2.tuple_inv
    have hd':(ops[j]?).bind (·.dst)=some d:=by simpa using hd
    simp only[yielded,hd',Option.bind_some,h1]
    rfl
   ·cases hw
  ·cases hw
theorem runOp_notDefer {E:Env} {call:CallV} {fr:Fr} {o:Op} {h h':IH} {v:Value} (hr:runOp E call fr o h=some (v,h')) : ∀c,o≠.defer c:=by
 intro c e;subst e;simp[runOp,iop] at hr
theorem sim_op {E:Env} {call:CallV} (hcall:CallSim E.P call) {ops:Array Oper} {i:Nat} {o:Oper} (ho:ops[i]?=some o) {fr:Fr} {h h':IH} {v:Value}
  (hw:wantedI ops.toList o fr=some true) (hr:runOp E call fr o.op h=some (v,h'))
  {B:Nat} {w0:World} {m:Mp} {w:World} (R:Rel B w0 m h w) {tmps:Array Value} (hf:FrRel m fr tmps) (hfresh:Fresh m h.n h'.n) (b:Frame) (rest:List Nat) (k:List Item) (ds:List Deferred) (cs:List Frame) :
  ∃v' m' w',Steps E.P (lone (on b tmps (.inRegion ops (i :: rest) :: k) ds) cs w) (lone (on b (putT tmps o.dst v') (.inRegion ops rest :: k) ds) cs w')∧VRel m' v v'∧Rel B w0 m' h' w'∧Step m h w m' h' w':=by
 have hwr:=wanted_rel hf hw
 have hnd:=runOp_notDefer hr
 have hρ:=opd_evalT R hf
 have plainOp:iop E.P fr o.op h=some (v,h') → ∃v' m' w',Steps E.P (lone (on b tmps (.inRegion ops (i :: rest) :: k) ds) cs w) (lone (on b (putT tmps o.dst v') (.inRegion ops rest :: k) ds) cs w')∧VRel m' v v'∧Rel B w0 m' h' w'∧Step m h w m' h' w':=by
  intro hi
  obtain⟨nx,v',m',w',hrun,hy,h1,h2,h3⟩:=iop_sim R E.P hρ o hi hfresh
  refine⟨v',m',w',?_,h1,h2,h3⟩
  rcases hy with rfl|⟨rfl,rfl⟩
  ·exact .one (st_value ho hwr hnd hrun)
  ·exact .one (st_skipop ho hwr hnd hrun)
 unfold runOp at hr
 split at hr
 ·rename_i c hc
  split at hr
  ·rename_i f hcal
   split at hr
   ·rename_i fv vs hfv hvs
    have hL:=opds_rel hρ _ _ hvs
    obtain⟨nx,hinv,halt⟩:=hcall fv vs h h' v hr B w0 m w (evalT tmps f) (c.args.map (evalT tmps)) R (hρ f fv hfv) (by simpa using hL) hfresh
    have hexec:(execOp (evalT tmps) o).run E.P w=.ok nx w:=by
     rw[←hinv]
     obtain⟨dst,op,ty,pos,aft,gd⟩:=o
     simp only at hc;subst hc
     simp only[execOp,resolve,hcal,Sem.run_bind]
    rcases halt with⟨v',rfl,rfl,h1,_⟩|⟨fr0,hfr0,hrun⟩
    ·exact⟨v',m,w,.one (st_value ho hwr hnd hexec),h1,R,Step.refl _ _ _⟩
    obtain⟨v',m',w',h1,h2,h3,h4⟩:=hrun (on b tmps (.inRegion ops (i :: rest) :: k) ds) cs
    rw[finish_on ho] at h4
    refine⟨v',m',w',?_,h1,h2,h3⟩
    rcases hfr0 with⟨f',as,rfl,rfl⟩|⟨l,f',ts,a,c',rfl,rfl⟩
    ·exact .head (st_enter ho hwr hnd hexec) h4
    ·exact .head (st_round ho hwr hnd hexec) h4
   ·cases hr
  ·rename_i hcal
   rw[←hc] at hr
   exact plainOp hr
 ·exact plainOp hr
theorem sim_ops {E:Env} {call:CallV} (hcall:CallSim E.P call) (hmono:CallMono call) {nt:Nat} {ops:Array Oper} (b:Frame) (k:List Item) (ds:List Deferred) (cs:List Frame) {B:Nat} {w0:World} :
  ∀(l:List Oper) (j:Nat) (fr:Fr) (h:IH) (fr':Fr) (h':IH) (m:Mp) (w:World) (tmps:Array Value),ops.toList.drop j=l→runOps E call nt ops.toList l fr h=some (fr',h') →
   Rel B w0 m h w→FrRel m fr tmps→nt≤tmps.size→Fresh m h.n h'.n →
   ∃m' w' tmps',Steps E.P (lone (on b tmps (.inRegion ops (List.range' j l.length) :: k) ds) cs w) (lone (on b tmps' k ds) cs w')∧FrRel m' fr' tmps'∧nt≤tmps'.size∧Rel B w0 m' h' w'∧Step m h w m' h' w'
 | [],j,fr,h,fr',h',m,w,tmps,hl,hr,R,hf,ht,hfresh=>by
  simp only[runOps] at hr;cases hr
  exact⟨m,w,tmps,.one st_region_end,hf,ht,R,Step.refl _ _ _⟩
 | o :: l,j,fr,h,fr',h',m,w,tmps,hl,hr,R,hf,ht,hfresh=>by
  have ho:ops[j]?=some o:=by
   have:(ops.toList.drop j)[0]?=some o:=by rw[hl];rfl
   simpa using this
  have hl':ops.toList.drop (j+1)=l:=by
   rw[←List.drop_drop (i:=1) (j:=j),hl];rfl
  rw[runOps] at hr
  cases hs:stepOp E call nt ops.toList o fr h with
  | none=>simp[hs] at hr
  | some p =>
   obtain⟨fr1,h1⟩:=p
   simp only[hs] at hr
   unfold stepOp at hs
   rw[List.length_cons,List.range'_succ]
   split at hs
   ·rename_i hw
    split at hs
    ·rename_i v h2 hrun
     obtain⟨fr2,hput,he⟩:=Option.map_eq_some_iff.1 hs
     cases he
     have hn1:=runOp_n hmono hrun
     have hn2:=runOps_n hmono l _ _ _ _ hr
     obtain⟨v',m1,w1,hS1,hv',R1,S1⟩:=sim_op hcall ho hw hrun R hf (hfresh.sub (Nat.le_refl _) hn2) b (List.range' (j+1) l.length) k ds cs
     obtain⟨hf2,ht2⟩:=fput_rel hput (hf.mono S1.le) ht hv'
     obtain⟨m',w',tmps',hS,a,b',c,d⟩:=sim_ops hcall hmono b k ds cs l (j+1) _ _ fr' h' m1 w1 _ hl' hr R1 hf2 ht2 ((S1.fresh hfresh))
     exact⟨m',w',tmps',hS1.trans hS,a,b',c,S1.trans d⟩
    ·cases hs
   ·rename_i hw
    obtain⟨fr2,hput,he⟩:=Option.map_eq_some_iff.1 hs
    cases he
    obtain⟨hf2,ht2⟩:=fput_rel hput hf ht (VRel.undef m)
    obtain⟨m',w',tmps',hS,a,b',c,d⟩:=sim_ops hcall hmono b k ds cs l (j+1) _ _ fr' h' m w _ hl' hr R hf2 ht2 hfresh
    exact⟨m',w',tmps',.head (st_off ho (wanted_rel hf hw)) hS,a,b',c,d⟩
   ·cases hs
end Go.Id

namespace Go.Id
open Go Go.RowKit
theorem map_h {α : Type} {h h' : IH} {v : α} {o : Option α} (hm : o.map (·, h) = some (v, h')) : o = some v ∧ h' = h := by
  obtain ⟨a, ha, e⟩ := Option.map_eq_some_iff.1 hm; cases e; exact ⟨ha, rfl⟩
theorem iop_pure {P : Program} {fr : Fr} {o : Op} {h h' : IH} {v : Value} (hk : kindOf o = .pure) (hi : iop P fr o h = some (v, h')) : h' = h ∧ ∀ h2, iop P fr o h2 = some (v, h2) := by
  have mp : ∀ {o : Option Value}, o.map (·, h) = some (v, h') → h' = h ∧ ∀ h2 : IH, o.map (·, h2) = some (v, h2) := by
    intro o hm; obtain ⟨rfl, rfl⟩ := map_h hm; exact ⟨rfl, fun _ => rfl⟩
  unfold iop at hi ⊢
  cases o <;> simp only [kindOf, reduceCtorEq] at hk <;> simp only [cond_eq_ite] at hi ⊢
  case call c =>
    cases hc : c.callee with
    | builtin b =>
      simp only [hc] at hk hi ⊢
      cases b <;> simp only [reduceCtorEq] at hk
      all_goals
        split at hi
        · rename_i vs hvs
          simp only [Id.builtin, cond_eq_ite] at hi ⊢
          by_cases hp : vs.all plain = true
          · simp only [hp, if_true] at hi ⊢; exact mp hi
          · rw [if_neg hp] at hi; cases hi
        · cases hi
    | value f => simp [hc] at hk
    | invoke r n => simp [hc] at hk
  all_goals first
    | exact mp hi
    | (repeat' (split at hi)
       all_goals first
         | (cases hi; done)
         | exact mp hi
         | (cases hi; exact ⟨rfl, fun _ => rfl⟩)
         | (cases hi; refine ⟨rfl, fun _ => ?_⟩; simp_all; done)
         | (obtain ⟨a, ha, e⟩ := Option.map_eq_some_iff.1 hi; cases e; simp_all))
theorem iop_load {P : Program} {fr : Fr} {o : Op} {h h' : IH} {v : Value} (hk : kindOf o = .load) (hi : iop P fr o h = some (v, h')) : h' = h := by
  unfold iop at hi
  cases o <;> simp only [kindOf, reduceCtorEq] at hk <;> simp only [] at hi
  case call c =>
    cases hc : c.callee with
    | builtin b =>
      simp only [hc] at hk hi
      cases b <;> simp only [reduceCtorEq] at hk
      split at hi
      · rename_i vs hvs
        unfold Id.builtin at hi
        split at hi
        · split at hi
          · exact (map_h hi).2
          · cases hi
        all_goals first
          | (cases hi; done)
          | (rename_i hb; cases hb)
      · cases hi
    | value f => simp [hc] at hk
    | invoke r n => simp [hc] at hk
  all_goals
    repeat' (split at hi)
    all_goals first
      | (cases hi; done)
      | exact (map_h hi).2
def MakesOne (P : Program) (m : Mp) (w : World) (run : Result Next) (v : Value) (h h' : IH) (obj : IObj) : Prop :=
  h' = h.new obj ∧ obj.lone = true ∧ ∃ O v' z, run = .ok (.value v') (w.alloc O) ∧ ObjRel m (w.alloc O) w.heap.size 0 z obj ∧
    ∀ m' : Mp, m' (2 * h.n) = some (w.heap.size, 0) → VRel m' v v'
theorem rowNew {m : Mp} {w : World} {cs cs' : List Value} (hv : LRel m cs cs') (e : Nat) (t : TypeId) : ObjRel m (w.alloc (.cells cs'.toArray t)) w.heap.size 0 (e, 0) (.cells cs e none) :=
  ⟨cs'.toArray, t, by rw [heap_alloc, if_pos rfl], ⟨by simp [hv.1], fun i v hi => by obtain ⟨v', a, b⟩ := hv.get hi; exact ⟨v', by simpa using a, b⟩⟩, rfl, Nat.zero_le _⟩
theorem fromRow {P : Program} {m : Mp} {w : World} {h h' : IH} {run : Result Value} {nrun : Result Next} {v : Value} (M : MakesRow m w h h' run v) (hn : nrun = run.andThen fun a w' => .ok (.value a) w') :
    ∃ obj, MakesOne P m w nrun v h h' obj := by
  obtain ⟨cs, cs', e, t, v', rfl, hL, hrun, hv⟩ := M
  exact ⟨_, rfl, rfl, _, v', (e, 0), by rw [hn, hrun]; rfl, rowNew hL e t, hv⟩
theorem iop_alloc {P : Program} {fr : Fr} {m : Mp} {ρ : Operand → Value} (hρ : ∀ x v, opd fr x = some v → VRel m v (ρ x)) (oper : Oper) {h h' : IH} {v : Value} (hk : kindOf oper.op = .alloc) (hi : iop P fr oper.op h = some (v, h')) (w : World) :
    ∃ obj, MakesOne P m w ((execOp ρ oper).run P w) v h h' obj := by
  obtain ⟨dst, op, ty, pos, aft, gd⟩ := oper
  simp only at hk hi ⊢
  cases op <;> simp only [kindOf, reduceCtorEq] at hk
  case alloc t =>
    simp only [iop] at hi
    obtain ⟨z, hz, he⟩ := Option.map_eq_some_iff.1 hi
    cases he
    obtain ⟨zv, hz0, hzp, rfl⟩ := zeroCellsT_spec hz
    refine ⟨_, rfl, rfl, .cells zv.cells.toList.toArray t, .pointer (some ⟨w.heap.size, 0, none⟩), (0, 0), ?_, rowNew (VRel.plain_mk (m := m) hzp).cells 0 t, fun m' hm => VRel.ptr (s := 0) (o := 0) hm⟩
    simp only [execOp, Instr.alloc, Sem.run_bind, run_zeroT w hz0, Result.andThen_ok, newVar, Go.newRow, run_newObj, Sem.run_pure]; rfl
  case box t x =>
    simp only [iop] at hi
    obtain ⟨a, ha, he⟩ := Option.map_eq_some_iff.1 hi
    cases he
    refine ⟨_, rfl, rfl, .cells (ρ x).cells.toList.toArray t, .pointer (some ⟨w.heap.size, 0, none⟩), (0, 0), ?_, rowNew (hρ x a ha).cells 0 t, fun m' hm => VRel.ptr (s := 0) (o := 0) hm⟩
    simp only [execOp, Instr.box, Sem.run_bind, Result.andThen_ok, newVar, Go.newRow, run_newObj, Sem.run_pure]; rfl
  case buildSlice t len parts =>
    simp only [iop] at hi
    split at hi
    · rename_i ps hps
      exact fromRow (buildSlice_makes P hρ hps hi w) (by simp [execOp])
    · cases hi
  case makeMap t r =>
    have fin : ∀ {v h'}, some (Value.map (some (2 * h.n)), h.new (.map [])) = some (v, h') → ((Instr.makeMap t (r.map ρ)).run P w = .ok (.map (some w.heap.size)) (w.alloc (.map #[] 0))) →
        ∃ obj, MakesOne P m w ((execOp ρ { dst := dst, op := .makeMap t r, type := ty, pos := pos, after := aft, guard := gd }).run P w) v h h' obj := by
      intro v h' e hrun
      cases e
      exact ⟨_, rfl, rfl, .map #[] 0, .map (some w.heap.size), (0, 0), by simp [execOp, hrun], ⟨rfl, #[], by rw [heap_alloc, if_pos rfl]; rfl, rfl, by simp⟩, fun m' hm => .map hm⟩
    simp only [iop] at hi
    split at hi
    · exact fin hi (by simp only [Option.map_none, Instr.makeMap, Sem.run_bind, Sem.run_pure, Result.andThen_ok, run_newObj]; rfl)
    · rename_i x
      split at hi
      · rename_i k n kt et hx hu
        have := (hρ x _ hx).scal_eq rfl
        exact fin hi (by simp only [Option.map_some, this, Instr.makeMap, Sem.run_bind, Go.run_underlying hu, asInt, asIntOf, Sem.run_pure, Result.andThen_ok, run_newObj]; rfl)
      · cases hi
  case makeSlice t l c =>
    simp only [iop] at hi
    split at hi
    · rename_i a b ha hb
      exact fromRow (makeSlice_makes P hi (hρ l a ha) (hρ c b hb) w) (by simp [execOp])
    · cases hi
  case call c => cases hc : c.callee with
    | builtin b => cases b <;> simp_all
    | value f => simp_all
    | invoke r n => simp_all
end Go.Id
