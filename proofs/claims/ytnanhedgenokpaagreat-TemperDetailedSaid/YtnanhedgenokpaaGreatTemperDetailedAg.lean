/-
  The ideal machine: literals, addresses, parts, maps, builtins. The ideal machine: maps, builtins, and every operation that calls no function.
-/
import Derived.Test.YtnanhedgenokpaaGreatTemperDetailedAf
set_option linter.unusedVariables false
set_option linter.unusedSimpArgs false
set_option linter.defProp false
set_option linter.deprecated false
namespace Go.Id
open Go Go.RowKit
theorem buildSlice_makes (P:Program) {m:Mp} {h h':IH} {t:TypeId} {len:Nat} {parts:Array (Nat×Operand)} {ps:List (Nat×Value)} {fr:Fr} {ρ:Operand→Value} {v:Value}
  (hρ : ∀x v,opd fr x=some v→VRel m v (ρ x)) (hps:partsOf fr parts.toList=some ps) (hs:buildSlice P h t len ps=some (v,h')) (w:World) :
  MakesRow m w h h' ((Instr.buildSlice t len (parts.map fun(i,x)=>(i,ρ x))).run P w) v:=by
 unfold Id.buildSlice at hs
 cases hu:P.underlying t with
 | none=>simp[hu] at hs
 | some d =>
  rw[hu] at hs
  cases d with
  | slice e =>
   simp only at hs
   cases hsz:sizeT P e with
   | none=>simp[hsz] at hs
   | some n =>
   cases hz:zeroCellsT P e with
   | none=>simp[hsz,hz] at hs
   | some z =>
   simp only[hsz,hz,cond_eq_ite] at hs
   by_cases hcond:(Nat.ble (len*n) cellsMost && z.length == n)=true
   ·rw[if_pos hcond] at hs
    simp only[Bool.and_eq_true,Nat.ble_eq,beq_iff_eq] at hcond
    obtain⟨hmost,hzn⟩:=hcond
    obtain⟨zv,hz0,hzp,rfl⟩:=zeroCellsT_spec hz
    cases hf:fillP (fun i=>some (i*n,n)) (repl len zv.cells.toList) ps with
    | none=>simp[hf] at hs
    | some cells =>
     simp only[hf] at hs;cases hs
     have hcells : ∃zc:Array Value,(if len*n=0 then pure #[] else do pure (←zeroValue e).cells:Sem (Array Value)).run P w=.ok zc w∧((Array.range (len*n)).map (fun i=>zc[i % zc.size]!)).toList=repl len zv.cells.toList:=by
      by_cases h0:len*n=0
      ·rw[if_pos h0]
       refine⟨#[],rfl,?_⟩
       rw[h0]
       have:(repl len zv.cells.toList).length=0:=by rw[repl_length,hzn,h0]
       rw[List.length_eq_zero_iff.1 this];simp
      ·rw[if_neg h0]
       refine⟨zv.cells,by simp[run_zeroT w hz0],?_⟩
       have hs:zv.cells.size=n:=by simpa using hzn
       rw[←hs]
       exact range_repl zv.cells len (by rw[hs];intro e;apply h0;rw[e,Nat.mul_zero])
     obtain⟨zc,hcrun,hclist⟩:=hcells
     have hLz:LRel m (repl len zv.cells.toList) (((Array.range (len*n)).map (fun i=>zc[i % zc.size]!))).toList:=by
      rw[hclist];exact LRel.repl (VRel.plain_mk (m:=m) hzp).cells len
     obtain⟨hl,hp⟩:=partsOf_rel hρ _ _ hps
     obtain⟨r',hfill,hL⟩:=fill_rel (fun i=>some (i*n,n)) ps (parts.toList.map fun p=>(p.1,ρ p.2)) _ _ _ hLz (by simp[hl]) hp hf
     have hmap:(parts.map fun(x:Nat×Operand)=>match x with|(i,x)=>(i,ρ x)).toList=parts.toList.map fun p=>(p.1,ρ p.2):=by rw[Array.toList_map]
     refine⟨_,r'.toList,n,e,.slice (some ⟨w.heap.size,0,none⟩) len len,rfl,hL,?_,fun m' hm=>?_⟩
     ·simp only[Instr.buildSlice,Sem.run_bind,Go.run_underlying hu,Result.andThen_ok,run_sizeT w hsz]
      rw[if_neg (by unfold cellsMost at hmost;omega)]
      by_cases h0:len*n=0
      ·rw[if_pos h0] at hcrun ⊢
       simp only[Sem.run_pure] at hcrun;cases hcrun
       simp only[Sem.run_bind,Sem.run_pure,Result.andThen_ok,hmap,hfill,Go.newRow,run_newObj]
       rfl
      ·rw[if_neg h0] at hcrun ⊢
       simp only[Sem.run_bind,run_zeroT w hz0,Result.andThen_ok,Sem.run_pure] at hcrun;cases hcrun
       simp only[Sem.run_bind,run_zeroT w hz0,Sem.run_pure,Result.andThen_ok,hmap,hfill,Go.newRow,run_newObj]
       rfl
     ·exact .slice (s:=0) hm (by omega) (by omega) (by omega) (by intro _;omega) (by intro e;omega)
   ·rw[if_neg hcond] at hs;cases hs
  | _=>simp at hs
theorem idxOf_rel {m:Mp} {i i':Value} {n:Int} (h:VRel m i i') (hi:idxOf i=some n) : ∃k,i'=.int k n:=by
 unfold idxOf at hi
 split at hi
 ·cases hi;exact⟨_,h.scal_eq rfl⟩
 ·cases hi
theorem sim_indexAddr {m:Mp} (P:Program) {t:TypeId} {x x' i i' v:Value} (hs:indexAddr P t x i=some v) (hx:VRel m x x') (hi:VRel m i i') (w:World) :
  ∃v',(Instr.indexAt t x' i').run P w=.ok v' w∧VRel m v v':=by
 unfold Id.indexAddr at hs
 split at hs
 ·rename_i n e b o j hu hj
  obtain⟨k,rfl⟩:=idxOf_rel hi hj
  obtain⟨r,s,hm,rfl⟩:=hx.ptr_inv
  split at hs
  ·rename_i size j hsz
   simp only[cond_eq_ite,Nat.blt_eq] at hs
   by_cases hlt:j<n
   ·rw[if_pos hlt] at hs;cases hs
    refine⟨.pointer (some ⟨r,s+(o+j*size),none⟩),?_,.ptr hm⟩
    have h2:(0:Int)≤Int.ofNat j∧Int.ofNat j<(n:Int):=by constructor<;>simp<;>omega
    simp only[Instr.indexAt,asIntOf,Sem.run_bind,Sem.run_pure,Result.andThen_ok,Go.run_underlying hu,Instr.sureAddr]
    rw[if_pos h2]
    simp[run_sizeT w hsz,addr_add,Nat.add_assoc]
   ·rw[if_neg hlt] at hs;cases hs
  ·cases hs
 ·rename_i e b o n k j hu hj
  obtain⟨ki,rfl⟩:=idxOf_rel hi hj
  split at hs
  ·rename_i size j hsz
   simp only[cond_eq_ite,Nat.blt_eq] at hs
   by_cases hlt:j<n
   ·rw[if_pos hlt] at hs;cases hs
    rcases hx.slice_inv with⟨r,s,cap,hm,_,_,_,_,_,rfl⟩|⟨h0,_⟩
    ·refine⟨.pointer (some ⟨r,s+(o+j*size),none⟩),?_,.ptr hm⟩
     have h2:(0:Int)≤Int.ofNat j∧Int.ofNat j<(n:Int):=by constructor<;>simp<;>omega
     simp only[Instr.indexAt,asIntOf,Sem.run_bind,Sem.run_pure,Result.andThen_ok,Go.run_underlying hu]
     rw[if_pos h2]
     simp[run_sizeT w hsz,addr_add,Nat.add_assoc]
    ·omega
   ·rw[if_neg hlt] at hs;cases hs
  ·cases hs
 ·cases hs
theorem sim_part {m:Mp} (P:Program) {t:TypeId} {cs cs':Array Value} {off:Nat} {v:Value} (hs:partOf P t cs off=some v) (hx:LRel m cs.toList cs'.toList) (w:World) :
  ∃v',(part t cs' off).run P w=.ok v' w∧VRel m v v':=by
 unfold Id.partOf at hs
 split at hs
 ·rename_i n ha hsz
  cases hs
  refine⟨.agg (cs'.extract off (off+n)),?_,VRel.agg_iff ?_⟩
  ·simp[part,run_isAggT w ha,run_sizeT w hsz]
  ·simp only[Array.toList_extract]
   have:=(hx.drop off).take (off+n - off)
   simpa [List.extract_eq_take_drop] using this
 ·rename_i ha
  obtain⟨v',h1,h2⟩:=hx.get (i:=off) (v:=v) (by simpa using hs)
  refine⟨v',?_,h2⟩
  have:cs'[off]?=some v':=by simpa using h1
  simp[part,run_isAggT w ha,this]
 ·cases hs
theorem findNow_keys (kind:TypeDesc) (k:Value) : ∀(es es':List MapEntry) (i:Nat),es.map (·.key)=es'.map (·.key) →
  (Instr.findNow kind k es i).map (fun o=>o.map (·.1))=(Instr.findNow kind k es' i).map (fun o=>o.map (·.1))
 | [],[],i,_=>rfl
 | [],_ :: _,i,h=>by simp at h
 | _ :: _,[],i,h=>by simp at h
 | e :: es,e' :: es',i,h=>by
  simp only[List.map_cons,List.cons.injEq] at h
  have ih:=findNow_keys kind k es es' (i+1) h.2
  simp only[Instr.findNow,h.1]
  cases Instr.sameNow kind k e'.key with
  | none=>rfl
  | some b=>cases b<;>simp[ih]
theorem findNow_at (kind:TypeDesc) (k:Value) : ∀(es:List MapEntry) (i j:Nat) (v:Value),Instr.findNow kind k es i=some (some (j,v))→i≤j ∧ ∃e,es[j - i]?=some e∧e.val=v
 | [],i,j,v,h=>by simp[Instr.findNow] at h
 | e :: es,i,j,v,h=>by
  simp only[Instr.findNow] at h
  split at h
  ·simp only[Option.some.injEq,Prod.mk.injEq] at h
   obtain⟨rfl,rfl⟩:=h
   exact⟨Nat.le_refl _,e,by simp,rfl⟩
  ·obtain⟨h1,e',h2,h3⟩:=findNow_at kind k es (i+1) j v h
   refine⟨by omega,e',?_,h3⟩
   rw[show j - i=(j - (i+1))+1 from by omega]
   simpa using h2
  ·cases h
theorem findAsking_keys (P:Program) (w:World) (kt:TypeId) (k:Value) : ∀(es es':List MapEntry) (i:Nat) (r:Option (Nat×Value)),es.map (·.key)=es'.map (·.key)→pureRun P (Instr.findAsking kt k es i)=some r →
  ∃r',(Instr.findAsking kt k es' i).run P w=.ok r' w∧r'.map (·.1)=r.map (·.1) ∧ ∀j v,r'=some (j,v)→i≤j ∧ ∃e,es'[j - i]?=some e∧e.val=v
 | [],[],i,r,_,h=>by
  simp only[Instr.findAsking] at h
  cases h
  exact⟨none,rfl,rfl,by simp⟩
 | [],_ :: _,i,r,h,_=>by simp at h
 | _ :: _,[],i,r,h,_=>by simp at h
 | e :: es,e' :: es',i,r,h,hp=>by
  simp only[List.map_cons,List.cons.injEq] at h
  have pb : ∀{α β:Type} (s:Sem α) (f:α→Sem β) (b:β),pureRun P (s.bind f)=some b → ∃a,pureRun P s=some a∧pureRun P (f a)=some b:=by
   intro α β s f b
   induction s with
   | pure a=>intro h;exact⟨a,rfl,h⟩
   | program g ih=>intro h;simp only[Sem.bind,pureRun] at h ⊢;exact ih P h
   | _=>intro h;simp[Sem.bind,pureRun] at h
  have hp':pureRun P ((Op.equal kt k e.key).bind fun b=>if b=true then pure (some (i,e.val)) else Instr.findAsking kt k es (i+1))=some r:=hp
  obtain⟨b,hb,hrest⟩:=pb _ _ _ hp'
  have hrun:=pureRun_run P _ _ hb w
  rw[h.1] at hrun
  cases b with
  | true =>
   have hr:r=some (i,e.val):=by
    have:pureRun P (Sem.pure (some (i,e.val)))=some r:=hrest
    simp only[pureRun] at this;cases this;rfl
   subst hr
   refine⟨some (i,e'.val),?_,rfl,?_⟩
   ·simp[Instr.findAsking,hrun]
   ·intro j v hjv;cases hjv;exact⟨Nat.le_refl _,e',by simp,rfl⟩
  | false =>
   obtain⟨r',h1,h2,h3⟩:=findAsking_keys P w kt k es es' (i+1) r h.2 hrest
   refine⟨r',?_,h2,?_⟩
   ·simp[Instr.findAsking,hrun,h1]
   ·intro j v hjv
    obtain⟨a,e'',c,d⟩:=h3 j v hjv
    refine⟨by omega,e'',?_,d⟩
    rw[show j - i=(j - (i+1))+1 from by omega]
    simpa using c
theorem pureRun_bind {P:Program} {α β:Type} {s:Sem α} {f:α→Sem β} {b:β} (h:pureRun P (s >>= f)=some b) : ∃a,pureRun P s=some a∧pureRun P (f a)=some b:=by
 have h':pureRun P (s.bind f)=some b:=h
 clear h
 revert h'
 induction s with
 | pure a=>intro h;exact⟨a,rfl,h⟩
 | program g ih=>intro h;simp only[Sem.bind,pureRun] at h ⊢;exact ih P h
 | _=>intro h;simp[Sem.bind,pureRun] at h
theorem sim_findK {P:Program} {m:Mp} {kt:TypeId} {k:Value} {es:List (Value×Value)} {c:Array MapEntry} {r:Option Nat} (hf:findK P kt k es=some r) (hm:MapRel m es c) (w:World) :
  plain k=true∧(Instr.checkKey c.isEmpty 10000 kt k).run P w=.ok () w ∧ ∃r',(Instr.findKey kt k c.toList).run P w=.ok r' w∧r'.map (·.1)=r ∧ ∀j v,r'=some (j,v) → ∃e,c[j]?=some e∧e.val=v:=by
 unfold findK at hf
 simp only[cond_eq_ite] at hf
 by_cases hp:plain k=true
 ·rw[if_pos hp] at hf
  have hempty:c.isEmpty=es.isEmpty:=by
   have:=hm.1
   rw[Bool.eq_iff_iff,Array.isEmpty_iff_size_eq_zero,List.isEmpty_iff,←List.length_eq_zero_iff];omega
  cases h1:pureRun P (Instr.checkKey es.isEmpty 10000 kt k) with
  | none=>simp[h1] at hf
  | some u =>
   cases h2:pureRun P (Instr.findKey kt k (keyEntries es)) with
   | none=>simp[h1,h2] at hf
   | some r0 =>
    simp only[h1,h2] at hf;cases hf
    have hkeys:(keyEntries es).map (·.key)=c.toList.map (·.key):=by
     apply List.ext_getElem?
     intro i
     simp only[keyEntries,List.map_map,List.getElem?_map,Array.getElem?_toList]
     by_cases hi:i<es.length
     ·have hi':i<c.size:=by have:=hm.1;omega
      have:=hm.2 i es[i] c[i] (List.getElem?_eq_getElem hi) (by simp[hi'])
      simp[hi,hi',this.1.1]
     ·have hi' : ¬i<c.size:=by have:=hm.1;omega
      simp[List.getElem?_eq_none (Nat.le_of_not_lt hi),Array.getElem?_eq_none (Nat.le_of_not_lt hi')]
    refine⟨hp,by rw[hempty];exact pureRun_run P _ _ h1 w,?_⟩
    unfold Instr.findKey at h2 ⊢
    obtain⟨d,hd,h3⟩:=pureRun_bind h2
    have hdrun:=pureRun_run P _ _ hd w
    simp only[Sem.run_bind,hdrun,Result.andThen_ok]
    have hk:=findNow_keys d k (keyEntries es) c.toList 0 hkeys
    cases h4:Instr.findNow d k (keyEntries es) 0 with
    | some r1 =>
     rw[h4] at h3 hk
     have hr1:r1=r0:=by
      have:pureRun P (Sem.pure r1)=some r0:=h3
      simp only[pureRun] at this;cases this;rfl
     subst hr1
     cases h5:Instr.findNow d k c.toList 0 with
     | none=>rw[h5] at hk;simp at hk
     | some r2 =>
      rw[h5] at hk
      simp only[Option.map_some,Option.some.injEq] at hk
      refine⟨r2,rfl,hk.symm,fun j v hjv=>?_⟩
      subst hjv
      obtain⟨_,e,a,b⟩:=findNow_at d k c.toList 0 j v h5
      exact⟨e,by simpa using a,b⟩
    | none =>
     rw[h4] at h3 hk
     cases h5:Instr.findNow d k c.toList 0 with
     | some r2=>rw[h5] at hk;simp at hk
     | none =>
      obtain⟨r',a,b,c'⟩:=findAsking_keys P w kt k (keyEntries es) c.toList 0 r0 hkeys h3
      exact⟨r',a,b,fun j v hjv=>let ⟨_,e,x,y⟩:=c' j v hjv;⟨e,by simpa using x,y⟩⟩
 ·rw[if_neg hp] at hf;cases hf
end Go.Id

namespace Go.Id
open Go Go.RowKit
theorem Rel.mapAt {B:Nat} {w0:World} {m:Mp} {h:IH} {w:World} (R:Rel B w0 m h w) {k r s:Nat} {es:List (Value×Value)} (hk:mapOf h k=some es) (hm:m k=some (r,s)) :
  h.ext.get (k / 2)=some (.map es)∧2*(k / 2)=k ∧ ∃c,w.heap[r]?=some (.map c es.length)∧MapRel m es c:=by
 unfold mapOf at hk
 simp only[cond_eq_ite,beq_iff_eq] at hk
 by_cases hb:k % 2=1
 ·rw[if_pos hb] at hk;cases hk
 ·rw[if_neg hb] at hk
  have hkk:2*(k / 2)=k:=by omega
  cases hg:h.ext.get (k / 2) with
  | none=>simp[hg] at hk
  | some o =>
   rw[hg] at hk
   cases o with
   | map es' =>
    simp only at hk;cases hk
    obtain⟨_,c,h1,h2⟩:=R.obj (k / 2) _ r s hg (by rw[hkk];exact hm)
    exact⟨rfl,hkk,c,h1,h2⟩
   | _=>simp at hk
theorem run_getObj_map (P:Program) {w:World} {r:Nat} {c:Array MapEntry} {clock:Nat} (h:w.heap[r]?=some (.map c clock)):(getObj r).run P w=.ok (.map c clock) w:=by
 simp only[getObj,Sem.run,h]
theorem run_setObj_map (P:Program) {w:World} {r:Nat} {c:Array MapEntry} {clock:Nat} (h:w.heap[r]?=some (.map c clock)) (o:Obj):(Go.setObj r o).run P w=.ok () (World.put w r o):=by
 simp only[Go.setObj,Sem.run,h];rfl
def lookTail (kt et:TypeId) (k:Value) (ok:Bool) (c:Array MapEntry):Sem Value:=do
 Instr.checkKey c.isEmpty 10000 kt k
 let (v,ok') ←match ←Instr.findKey kt k c.toList with
  | some (_,v)=>pure (v,true)
  | none=>pure (←zeroValue et,false)
 pure (if ok then .tuple #[v,.bool ok'] else v)
theorem sim_lookTail {m:Mp} (P:Program) (w:World) {kt et:TypeId} {k k' v:Value} {ok:Bool} {es:List (Value×Value)} {c:Array MapEntry} (hcm:MapRel m es c) (hk:VRel m k k')
  (hl:(match findK P kt k es with
   | none=>none
   | some none=>match zeroT P et with
    | some z=>bif plain z then some (bif ok then Value.tuple #[z,.bool false] else z) else none
    | none=>none
   | some (some i)=>(es[i]?).map fun e=>bif ok then .tuple #[e.2,.bool true] else e.2)=some v) :
  ∃v',(lookTail kt et k' ok c).run P w=.ok v' w∧VRel m v v':=by
 cases hf:findK P kt k es with
 | none=>simp[hf] at hl
 | some ri =>
  obtain⟨hp,hck,r',hfind,hr',hat⟩:=sim_findK hf hcm w
  have ek:=hk.plain_eq hp
  subst ek
  simp only[hf] at hl
  cases ri with
  | none =>
   have hn:r'=none:=by cases r'<;>simp_all
   subst hn
   simp only at hl
   cases hz:zeroT P et with
   | none=>simp[hz] at hl
   | some z =>
    simp only[hz,cond_eq_ite] at hl
    by_cases hzp:plain z=true
    ·rw[if_pos hzp] at hl
     cases ok with
     | false =>
      simp only[Bool.false_eq_true,if_false] at hl;cases hl
      exact⟨_,by simp[lookTail,hck,hfind,run_zeroT w hz],.plain_mk hzp⟩
     | true =>
      simp only[if_true] at hl;cases hl
      exact⟨_,by simp[lookTail,hck,hfind,run_zeroT w hz],VRel.tuple_iff (.cons (.plain_mk hzp) (.cons (.scal rfl) (.nil m)))⟩
    ·rw[if_neg hzp] at hl;cases hl
  | some i =>
   simp only at hl
   cases hei:es[i]? with
   | none=>simp[hei] at hl
   | some e =>
    simp only[hei,Option.map_some,cond_eq_ite] at hl
    obtain⟨x,hx⟩ : ∃x,r'=some (i,x):=by
     cases r' with
     | none=>simp at hr'
     | some p=>obtain⟨a,b⟩:=p;simp at hr';subst hr';exact⟨b,rfl⟩
    subst hx
    obtain⟨e',he',hev⟩:=hat i x rfl
    have hE:=hcm.2 i e e' hei he'
    have hv:VRel m e.2 x:=by rw[←hev];exact hE.1.2.2
    cases ok with
    | false =>
     simp only[Bool.false_eq_true,if_false] at hl;cases hl
     exact⟨x,by simp[lookTail,hck,hfind],hv⟩
    | true =>
     simp only[if_true] at hl;cases hl
     exact⟨.tuple #[x,.bool true],by simp[lookTail,hck,hfind],VRel.tuple_iff (.cons hv (.cons (.scal rfl) (.nil m)))⟩
theorem Rel.lookup {B:Nat} {w0:World} {m:Mp} {h:IH} {w:World} (R:Rel B w0 m h w) (P:Program) {mt:TypeId} {mv mv' k k' v:Value} {ok:Bool} (hl:lookup P h mt mv k ok=some v) (hmv:VRel m mv mv') (hk:VRel m k k') :
  ∃v',(Instr.lookup mt mv' k' ok).run P w=.ok v' w∧VRel m v v':=by
 unfold Id.lookup at hl
 cases hu:P.underlying mt with
 | none=>simp[hu] at hl
 | some d =>
  rw[hu] at hl
  cases d with
  | map kt et =>
   simp only at hl
   cases hes:entriesOf h mv with
   | none=>rw[hes] at hl;cases hl
   | some es =>
    rw[hes] at hl
    simp only at hl
    unfold entriesOf at hes
    split at hes
    ·cases hes
     have:=hmv.scal_eq rfl
     subst this
     obtain⟨v',h1,h2⟩:=sim_lookTail P w (c:=#[]) ⟨rfl,by simp⟩ hk hl
     refine⟨v',?_,h2⟩
     rw[←h1]
     simp only[Instr.lookup,lookTail,Sem.run_bind,Go.run_underlying hu,Result.andThen_ok,Sem.run_pure]
     congr 1
    ·rename_i r
     cases hmv with
     | scal h=>simp[Id.scal] at h
     | map hm =>
      obtain⟨_,_,c,hobj,hcm⟩:=R.mapAt hes hm
      obtain⟨v',h1,h2⟩:=sim_lookTail P w hcm hk hl
      refine⟨v',?_,h2⟩
      rw[←h1]
      simp only[Instr.lookup,lookTail,Sem.run_bind,Go.run_underlying hu,Result.andThen_ok,Sem.run_pure,run_getObj_map P hobj]
      congr 1
    ·cases hes
  | _=>simp at hl
theorem Rel.mapUpdate {B:Nat} {w0:World} {m:Mp} {h h':IH} {w:World} (R:Rel B w0 m h w) (P:Program) {mt:TypeId} {mv mv' k k' v v':Value} (hl:mapUpdate P h mt mv k v=some h') (hmv:VRel m mv mv') (hk:VRel m k k') (hv:VRel m v v') :
  ∃w',(Instr.mapUpdate mt mv' k' v').run P w=.ok () w'∧Rel B w0 m h' w'∧Step m h w m h' w':=by
 unfold Id.mapUpdate at hl
 split at hl
 ·rename_i kt et r hu
  cases hmv with
  | scal h=>simp[Id.scal] at h
  | @map _ r' s hm =>
   cases hes:mapOf h r with
   | none=>simp[hes] at hl
   | some es =>
    simp only[hes,cond_eq_ite] at hl
    obtain⟨hg,hrr,c,hobj,hcm⟩:=R.mapAt hes hm
    have hm':m (2*(r / 2))=some (r',s):=by rw[hrr];exact hm
    have hs0:s=0:=(R.obj (r / 2) _ r' s hg hm').1
    by_cases hck:okUnit (pureRun P (Instr.checkKey false 10000 kt k))=true
    ·rw[if_pos hck] at hl
     have hck' : ∀w:World,(Instr.checkKey false 10000 kt k).run P w=.ok () w:=by
      cases hx:pureRun P (Instr.checkKey false 10000 kt k) with
      | none=>rw[hx] at hck;cases hck
      | some u=>exact pureRun_run P _ _ hx
     cases hf:findK P kt k es with
     | none=>simp[hf] at hl
     | some ri =>
      obtain⟨hp,_,r0,hfind,hr0,hat⟩:=sim_findK hf hcm w
      have ek:=hk.plain_eq hp
      subst ek
      simp only[hf] at hl
      cases ri with
      | none =>
       simp only at hl;cases hl
       have hn:r0=none:=by cases r0<;>simp_all
       subst hn
       obtain⟨R1,S1⟩:=R.setObj hg rfl rfl hm' (o1:=.map (es ++ [(k',v)])) (o':=.map (c.push { key:=k',val:=v',born:=es.length }) (es.length+1)) rfl
        (fun w' z hw'=>⟨hs0,c.push { key:=k',val:=v',born:=es.length },by rw[hw',List.length_append];rfl,by simp[hcm.1],fun i e e' he he'=>by
         rw[Array.getElem?_push] at he'
         by_cases hi:i<es.length
         ·rw[List.getElem?_append_left hi] at he
          rw[if_neg (by have:=hcm.1;omega)] at he'
          exact hcm.2 i e e' he he'
         ·rw[List.getElem?_append_right (by omega)] at he
          have hi0:i - es.length=0:=by
           rcases Nat.eq_zero_or_pos (i - es.length) with h|h
           ·exact h
           ·rw[List.getElem?_eq_none (by simp;omega)] at he;cases he
          rw[hi0] at he;simp at he;subst he
          rw[if_pos (by have:=hcm.1;omega)] at he';cases he'
          exact⟨⟨rfl,hp,hv⟩,by show es.length=i;omega⟩⟩)
       refine⟨_,?_,R1,S1⟩
       simp[Instr.mapUpdate,Go.run_underlying hu,run_getObj_map P hobj,hck',hfind,run_setObj_map P hobj]
      | some i =>
       simp only at hl
       cases hei:es[i]? with
       | none=>simp[hei] at hl
       | some e =>
        simp only[hei] at hl
        by_cases hsame:Instr.sameBits 10000 e.1 k'=true
        ·rw[if_pos hsame] at hl;cases hl
         obtain⟨x,hx⟩ : ∃x,r0=some (i,x):=by
          cases r0 with
          | none=>simp at hr0
          | some p=>obtain⟨a,b⟩:=p;simp at hr0;subst hr0;exact⟨b,rfl⟩
         subst hx
         obtain⟨e',he',_⟩:=hat i x rfl
         have hE:=hcm.2 i e e' hei he'
         have hil:i<es.length:=by
          rcases Nat.lt_or_ge i es.length with h|h
          ·exact h
          ·rw[List.getElem?_eq_none h] at hei;cases hei
         obtain⟨R1,S1⟩:=R.setObj hg rfl rfl hm' (o1:=.map (es.set i (k',v))) (o':=.map (c.modify i fun e => { e with key:=k',val:=v' }) es.length) rfl
          (fun w' z hw'=>⟨hs0,c.modify i fun e => { e with key:=k',val:=v' },by rw[hw',List.length_set],by simp[hcm.1],fun j a a' ha ha'=>by
           rw[Array.getElem?_modify] at ha'
           by_cases hj:i=j
           ·subst hj
            rw[List.getElem?_set_self (by simpa using hil)] at ha;cases ha
            simp only[if_true,he',Option.map_some,Option.some.injEq] at ha'
            subst ha'
            exact⟨⟨rfl,hp,hv⟩,hE.2⟩
           ·rw[List.getElem?_set_ne hj] at ha
            simp only[hj,if_false] at ha'
            exact hcm.2 j a a' ha ha'⟩)
         refine⟨_,?_,R1,S1⟩
         have hkt:(Instr.keyThatStays (((c[i]?).map (·.key)).getD k') k').run P w=.ok k' w:=by
          simp only[he',Option.map_some,Option.getD_some,Instr.keyThatStays,hE.1.1,hsame,if_true,Sem.run_pure]
         simp[Instr.mapUpdate,Go.run_underlying hu,run_getObj_map P hobj,hck',hfind,hkt,run_setObj_map P hobj]
        ·rw[if_neg hsame] at hl;cases hl
    ·rw[if_neg hck] at hl;cases hl
 ·cases hl
theorem sim_nilEq {P:Program} {m:Mp} {t:TypeId} {x y x' y':Value} {b:Bool} (h:nilEq P t x y=some b) (hx:VRel m x x') (hy:VRel m y y') (w:World):(Op.equal t x' y').run P w=.ok b w:=by
 unfold nilEq at h
 cases hu:P.underlying t with
 | none=>simp[hu] at h
 | some d =>
  simp only[hu] at h
  show(Op.equalIn (9999+1) t x' y').run P w=_
  generalize 9999=depth
  unfold nilEqV at h
  split at h<;>cases h<;>cases hx<;>cases hy<;>first
   | (simp_all [Id.scal];done)
   | simp[Op.equalIn,Go.run_underlying hu]
end Go.Id

namespace Go.Id
open Go Go.RowKit
theorem VRel.unit (m:Mp):VRel m (.tuple #[]) (.tuple #[]):=.tuple rfl fun i v v' h=>by simp at h
theorem repl_mem {z:List Value} {v:Value} : ∀{n:Nat},v∈repl n z→v∈z
 | 0,h=>by cases h
 | n+1,h=>by
  rw[repl,List.mem_append] at h
  rcases h with h|h
  ·exact h
  ·exact repl_mem h
theorem zeroCells_repl (z:Array Value) (n:Nat) (hz:z.size≠0):(Builtin.zeroCells z n).toList=repl n z.toList:=by
 rw[←range_repl z n hz]
 simp[Builtin.zeroCells]
theorem Rel.clear {B:Nat} {w0:World} {m:Mp} {h h':IH} {w:World} (R:Rel B w0 m h w) (P:Program) {ts:Array TypeId} {ty t:TypeId} {x x' v:Value}
  (h0:ts[0]?=some t) (hc:clearOp P h t x=some (v,h')) (hx:VRel m x x') :
  ∃w',(Builtin.clear_ ts ty #[x']).run P w=.ok v w'∧VRel m v v∧Rel B w0 m h' w'∧Step m h w m h' w':=by
 unfold clearOp at hc
 have e0 : ∀y:Value,(#[y]:Array Value)[0]?=some y:=fun _=>rfl
 cases hdt:P.underlying t with
 | none=>simp[hdt] at hc
 | some td =>
  rw[hdt] at hc
  cases td with
  | slice e =>
   split at hc
   ·cases hc
    obtain⟨rfl,rfl,rfl⟩:=hx.nil_inv
    refine⟨w,?_,.unit m,R,Step.refl _ _ _⟩
    simp only[Builtin.clear_,h0,e0,Sem.run_bind,Go.run_underlying hdt,Result.andThen_ok,Sem.run_pure]
   ·rename_i h1 h2 b o dl dk he
    cases he
    have hdv : ∃r q cap a,x'=.slice (some a) dl cap∧(0<dk→m b=some (r,q)∧a=⟨r,q+o,none⟩)∧(dk=0→dl=0):=by
     rcases hx.slice_inv with⟨r,q,cap,hm,h1,_,_,_,_,rfl⟩|⟨hl,hk,a,cap,rfl⟩
     ·exact⟨r,q,cap,_,rfl,fun _=>⟨hm,rfl⟩,fun e=>by omega⟩
     ·subst hl;exact⟨0,0,cap,a,rfl,fun e=>by omega,fun _=>rfl⟩
    obtain⟨r,q,cap,a,rfl,hpos,hzero⟩:=hdv
    simp only[cond_eq_ite,beq_iff_eq] at hc
    by_cases hn:dl=0
    ·rw[if_pos hn] at hc;cases hc
     subst hn
     refine⟨w,?_,.unit m,R,Step.refl _ _ _⟩
     simp only[Builtin.clear_,h0,e0,Sem.run_bind,Go.run_underlying hdt,Result.andThen_ok,Sem.run_pure]
    ·rw[if_neg hn] at hc
     cases hz:zeroCellsT P e with
     | none=>simp[hz] at hc
     | some z =>
      simp only[hz] at hc
      by_cases hall:(z.isEmpty || !(z.all cellOK))=true
      ·rw[if_pos hall] at hc;cases hc
      rw[if_neg hall] at hc
      simp only[Bool.or_eq_true,not_or,Bool.not_eq_true,Bool.not_eq_false'] at hall
      obtain⟨h1w,hw1,hv1⟩:=Option.map_eq_some_iff.1 hc
      cases hv1
      obtain⟨zv,hz0,hzp,rfl⟩:=zeroCellsT_spec hz
      have hk:0<dk:=by
       rcases Nat.eq_zero_or_pos dk with e|e
       ·exact absurd (hzero e) hn
       ·exact e
      obtain⟨hm,rfl⟩:=hpos hk
      have hL:LRel m (repl dl zv.cells.toList) (repl dl zv.cells.toList):=LRel.repl (VRel.plain_mk (m:=m) hzp).cells dl
      obtain⟨w',hr1,R1,S1⟩:=R.wr hw1 hm hL (fun v hv=>List.all_eq_true.1 hall.2 v (repl_mem hv)) P
      have hsz:zv.cells.size≠0:=by
       intro e
       have:zv.cells.toList = []:=List.eq_nil_of_length_eq_zero (by rw[Array.length_toList];exact e)
       rw[this] at hall;simp at hall
      rw[←zeroCells_repl _ _ hsz] at hr1
      refine⟨w',?_,.unit m,R1,S1⟩
      obtain⟨n,rfl⟩ : ∃n,dl=n+1:=⟨dl - 1,by omega⟩
      simp only[Builtin.clear_,h0,e0,Sem.run_bind,Go.run_underlying hdt,Result.andThen_ok,run_zeroT w hz0,hr1,Sem.run_pure]
   ·cases hc
  | _=>simp at hc
theorem Rel.cap {m:Mp} {w:World} (P:Program) {ts:Array TypeId} {ty t:TypeId} {x x' v:Value} (h0:ts[0]?=some t) (hc:capB P t x=some v) (hx:VRel m x x') :
  (Builtin.cap_ ts ty #[x']).run P w=.ok v w∧plain v=true:=by
 unfold capB at hc
 have e0 : ∀y:Value,(#[y]:Array Value)[0]?=some y:=fun _=>rfl
 cases hdt:P.underlying t with
 | none=>simp[hdt] at hc
 | some td =>
  rw[hdt] at hc
  cases td with
  | slice e =>
   split at hc
   ·cases hc
    obtain⟨rfl,rfl,rfl⟩:=hx.nil_inv
    refine⟨?_,rfl⟩
    simp only[Builtin.cap_,h0,e0,Sem.run_bind,Go.run_underlying hdt,Result.andThen_ok,Sem.run_pure]
    rfl
   ·rename_i h1 h2 b o dl dk he
    cases he
    simp only[cond_eq_ite,beq_iff_eq] at hc
    by_cases hn:dk % 2=1
    ·rw[if_pos hn] at hc;cases hc
     rcases hx.slice_inv with⟨r,q,cap,hm,h3,h4,h5,h6,h7,rfl⟩|⟨hl,hk,a,cap,rfl⟩
     ·refine⟨?_,rfl⟩
      simp only[Builtin.cap_,h0,e0,Sem.run_bind,Go.run_underlying hdt,Result.andThen_ok,Sem.run_pure,h6 hn]
      rfl
     ·omega
    ·rw[if_neg hn] at hc;cases hc
   ·cases hc
  | _=>simp at hc
end Go.Id

namespace Go.Id
open Go Go.RowKit
theorem zeroCells_replZ (z:Array Value) (n:Nat) (hz:z.size≠0):Builtin.zeroCells z n=(repl n z.toList).toArray:=by
 rw[←range_repl z n hz]
 rfl
theorem run_append_zeros (P:Program) (w:World) (ts:Array TypeId) (ty:TypeId) (st xt elem:TypeId) (ik k:IntKind) (size bytes:Nat) (z:Value) (n:Nat)
  (h0:ts[0]?=some st) (h1:ts[1]?=some xt) (hst:P.underlying st=some (.slice elem)) (hxt:P.underlying xt=some (.int ik)) (hsz:sizeT P elem=some size) (hby:bytesT P elem=some bytes) (hz:zeroT P elem=some z)
  (hn:0<n) (hs0:0<size) (hzs:z.cells.size=size) (hb:bytes≤65536) (hmost:n*(bytes+1)≤sizeMost) :
  ∃d newCap rest,(Builtin.append_ ts ty #[.slice none 0 0,.int k n]).run P w=.ok (.slice (some ⟨w.heap.size,0,none⟩) n newCap) ((({ w with drawn:=d }:World)).alloc (.cells (repl n z.cells.toList ++ rest).toArray elem))∧n≤newCap∧rest.length=(newCap - n)*z.cells.size:=by
 unfold bytesT at hby
 obtain⟨i,hi,hib⟩:=Option.map_eq_some_iff.1 hby
 have hcap : ¬(0+n≤0):=by omega
 have hN:=nextslicecap_le (0+n) 0 (by omega)
 have h4:n*(bytes+1)=n*bytes+n:=by rw[Nat.mul_add,Nat.mul_one]
 have hlim : ¬(Builtin.nextslicecap (0+n) 0*bytes > 2 ^ 48):=by
  have h2:Builtin.nextslicecap (0+n) 0*bytes≤(2*(0+n)+1024)*bytes:=Nat.mul_le_mul_right _ hN
  have h3:(2*(0+n)+1024)*bytes=2*(n*bytes)+1024*bytes:=by rw[Nat.zero_add,Nat.add_mul,Nat.mul_assoc]
  unfold sizeMost at hmost
  omega
 have hi64 : ¬((0+n:Nat):Int) > IntKind.i64.max:=by
  unfold sizeMost at hmost
  have e:IntKind.i64.max=9223372036854775807:=by decide
  rw[e];omega
 have hwrap:IntKind.i64.wrap (n:Int)=(n:Int):=wrap64_nat n (by unfold sizeMost at hmost;omega)
 let q:=Question.appendCap n 0 elem
 have hcut:n≤q.cut (w.tape w.drawn q):=Nat.le_add_right _ _
 refine⟨w.drawn+1,q.cut (w.tape w.drawn q),(Builtin.zeroCells z.cells (q.cut (w.tape w.drawn q) - n)).toList,?_,hcut,by simp[Builtin.zeroCells]⟩
 have e0:(#[Value.slice none 0 0,Value.int k n]:Array Value)[0]?=some (.slice none 0 0):=rfl
 have e1:(#[Value.slice none 0 0,Value.int k n]:Array Value)[1]?=some (.int k n):=rfl
 have hl0 : ¬((n:Int)<0):=by omega
 have hl1 : ¬((n:Int)*(bytes:Int) > 2 ^ 48):=by
  have:(n:Int)*(bytes:Int)=((n*bytes:Nat):Int):=by simp
  rw[this]
  unfold sizeMost at hmost
  omega
 have hns : ¬(n*size=0):=by
  have:=Nat.mul_pos hn hs0
  omega
 have hold : ∀d,(Builtin.firstCells size 0 (.slice none 0 0)).run P { w with drawn:=d }=.ok #[] { w with drawn:=d }:=fun d=>rfl
 simp only[Builtin.append_,h0,h1,e0,e1,Sem.run_bind,Go.run_underlying hst,Result.andThen_ok,run_sizeT w hsz,Go.run_underlying hxt,Sem.run_pure,asInt,asIntOf,hwrap,if_true,if_neg hl0,run_typeInfo w hi,hib,if_neg hl1,Int.toNat_natCast,hcap,if_false,true_or]
 rw[if_neg (fun h=>hi64 h.1)]
 simp only[Sem.run_bind,run_typeInfo w hi,hib,Result.andThen_ok]
 rw[if_neg hlim]
 simp only[Sem.run_bind,run_typeInfo _ hi,Result.andThen_ok,run_choose,Question.forced,Bool.false_eq_true,if_false,run_askRoom,hold,Bool.not_true,if_neg hns,run_zeroT _ hz,Sem.run_pure,Go.newRow,run_newObj,Nat.zero_add,zeroCells_replZ z.cells n (by omega)]
 have earr : ∀Z:Array Value,(#[]:Array Value) ++ (repl n z.cells.toList).toArray ++ Z=(repl n z.cells.toList ++ Z.toList).toArray:=fun Z=>by rw[←Array.toList_inj];simp
 rw[earr]
 rfl
theorem Rel.appendZ {B:Nat} {w0:World} {m:Mp} {h h':IH} {w:World} (R:Rel B w0 m h w) (P:Program) {ts:Array TypeId} {ty st xt:TypeId} {ik:IntKind} {s s' x x' v:Value}
  (h0:ts[0]?=some st) (h1:ts[1]?=some xt) (hxt:P.underlying xt=some (.int ik)) (ha:appendZ P h st s x=some (v,h')) (hs:VRel m s s') (hx:VRel m x x') (hfresh:Fresh m h.n h'.n) :
  ∃v' m' w',(Builtin.append_ ts ty #[s',x']).run P w=.ok v' w'∧VRel m' v v'∧Rel B w0 m' h' w'∧Step m h w m' h' w':=by
 unfold Id.appendZ at ha
 cases hst:P.underlying st with
 | none=>simp[hst] at ha
 | some d =>
  rw[hst] at ha
  cases d with
  | slice elem =>
   cases hsz:sizeT P elem with
   | none=>simp[hsz] at ha
   | some size =>
   cases hby:bytesT P elem with
   | none=>simp[hsz,hby] at ha
   | some bytes =>
   cases hz:zeroCellsT P elem with
   | none=>simp[hsz,hby,hz] at ha
   | some zs =>
   cases hn:natOf x sizeMost with
   | none=>simp[hsz,hby,hz,hn] at ha
   | some n =>
   obtain⟨z,hz0,hzp,rfl⟩:=zeroCellsT_spec hz
   obtain⟨k,rfl,hn1⟩:=natOf_spec hn hx
   simp only[hsz,hby,hz,hn,cond_eq_ite] at ha
   split at ha
   ·rename_i a c
    split at ha
    ·rename_i hc
     cases ha
     simp only[Bool.and_eq_true,beq_iff_eq,Nat.ble_eq,Nat.blt_eq] at hc
     obtain⟨⟨⟨⟨rfl,rfl⟩,hn0,hs0⟩,hb65,hzl⟩,hall,hmost⟩:=hc
     obtain⟨_,_,rfl⟩:=hs.nil_inv
     have hzs:z.cells.size=size:=by simpa using hzl
     obtain⟨d,newCap,rest,hrun,hcap,hrest⟩:=run_append_zeros P w ts ty st xt elem ik k size bytes z n h0 h1 hst hxt hsz hby hz0 hn0 hs0 hzs hb65 hmost
     have hm0:m (2*h.n)=none:=hfresh h.n (Nat.le_refl _) (Nat.lt_succ_self _)
     have hL:LRel m (repl n z.cells.toList) (repl n z.cells.toList):=LRel.repl (VRel.plain_mk (m:=m) hzp).cells n
     have hlen:(repl n z.cells.toList).length=n*size:=by rw[repl_length,hzl]
     have hdrew:Rel B w0 m h { w with drawn:=d }:=R.congr rfl (below_drew R.below d)
     obtain⟨R1,S1⟩:=hdrew.new (.cells (repl n z.cells.toList) size none) (.cells (repl n z.cells.toList ++ rest).toArray elem) (size,(repl n z.cells.toList ++ rest).length) hm0
      ⟨(repl n z.cells.toList ++ rest).toArray,elem,by rw[heap_alloc,if_pos rfl],⟨by simp,fun i v hi=>by
       obtain⟨v',a,b⟩:=hL.get hi
       refine⟨v',?_,b⟩
       have hi':i<(repl n z.cells.toList).length:=by
        rcases Nat.lt_or_ge i (repl n z.cells.toList).length with h|h
        ·exact h
        ·rw[List.getElem?_eq_none h] at a;cases a
       simp only[List.getElem?_toArray,Nat.zero_add]
       rw[List.getElem?_append_left hi'];exact a⟩,rfl,by simp⟩ rfl
     refine⟨_,_,_,hrun,?_,R1,S1.congr rfl⟩
     exact VRel.slice (m:=m.upd (2*h.n) (w.heap.size,0) (size,(repl n z.cells.toList ++ rest).length)) (b:=2*h.n) (o:=0) (r:=w.heap.size) (s:=0) (len:=n) (k:=2*n) (cap:=newCap) (Mp.upd_self _ _ _ _) (by omega) (by omega) (by omega) (by omega) (by intro _;rw[Mp.ez_self];simp only[List.length_append,hrest,hlen,hzs];rw[←Nat.add_mul];simp only[Nat.zero_add];exact Nat.mul_le_mul_right _ (by omega))
    ·cases ha
   ·cases ha
  | _=>simp at ha
end Go.Id
