/-
  The ideal machine: literals, addresses, parts, maps, builtins.
-/
import Derived.Test.YtnnmjocmapilaaaGreatOutlierRisesAc
set_option linter.unusedVariables false
set_option linter.unusedSimpArgs false
set_option linter.defProp false
set_option linter.deprecated false
namespace Go.Id
open Go Go.RowKit
variable {t:TypeId}{v:Value}{m:Mp}
def oY (P:Program) {h h':IH} {len:Nat} {parts:Array (Nat×Operand)} {ps:List (Nat×Value)} {fr:Fr} {ρ:Operand→Value} 
  (hρ : ∀x v,opd fr x=some v→aG m v (ρ x)) (hps:partsOf fr parts.toList=some ps) (hs:buildSlice P h t len ps=some (v,h')) (w:World) :
  rY m w h h' ((Instr.buildSlice t len (parts.map fun(i,x)=>(i,ρ x))).run P w) v:=by
 unfold Id.buildSlice at hs
 cases hu:P.underlying t with
 | none=>simp[hu] at hs
 | some d =>
  rw[hu] at hs
  cases d with
  | slice e =>
   simp only at hs
   cases hsz:aO P e with
   | none=>simp[hsz] at hs
   | some n =>
   cases hz:aE P e with
   | none=>simp[hsz,hz] at hs
   | some z =>
   simp only[hsz,hz,cond_eq_ite] at hs
   by_cases oR:(Nat.ble (len*n) jv && z.length == n)=true
   ·rw[if_pos oR] at hs
    simp only[Bool.and_eq_true,Nat.ble_eq,beq_iff_eq] at oR
    obtain⟨jM,hzn⟩:=oR
    obtain⟨zv,hz0,hzp,rfl⟩:=dc hz
    cases hf:ck (fun i=>some (i*n,n)) (bB len zv.cells.toList) ps with
    | none=>simp[hf] at hs
    | some cells =>
     simp only[hf] at hs;cases hs
     have uz : ∃zc:Array Value,(if len*n=0 then pure #[] else do pure (←zeroValue e).cells:Sem (Array Value)).run P w=.ok zc w∧((Array.range (len*n)).map (fun i=>zc[i % zc.size]!)).toList=bB len zv.cells.toList:=by
      by_cases h0:len*n=0
      ·rw[if_pos h0]
       refine⟨#[],rfl,?_⟩
       rw[h0]
       have:(bB len zv.cells.toList).length=0:=by rw[nw,hzn,h0]
       rw[List.length_eq_zero_iff.1 this];simp
      ·rw[if_neg h0]
       refine⟨zv.cells,by simp[dY w hz0],?_⟩
       have hs:zv.cells.size=n:=by simpa using hzn
       rw[←hs]
       exact pL zv.cells len (by rw[hs];intro e;apply h0;rw[e,Nat.mul_zero])
     obtain⟨zc,oQ,Kj⟩:=uz
     have hLz:bw m (bB len zv.cells.toList) (((Array.range (len*n)).map (fun i=>zc[i % zc.size]!))).toList:=by
      rw[Kj];exact bw.bB (aG.bV (m:=m) hzp).cells len
     obtain⟨hl,hp⟩:=rf hρ _ _ hps
     obtain⟨r',WW,hL⟩:=Bb (fun i=>some (i*n,n)) ps (parts.toList.map fun p=>(p.1,ρ p.2)) _ _ _ hLz (by simp[hl]) hp hf
     have B5:(parts.map fun(x:Nat×Operand)=>match x with|(i,x)=>(i,ρ x)).toList=parts.toList.map fun p=>(p.1,ρ p.2):=by rw[Array.toList_map]
     refine⟨_,r'.toList,n,e,.slice (some ⟨w.heap.size,0,none⟩) len len,rfl,hL,?_,fun m' hm=>?_⟩
     ·simp only[Instr.buildSlice,Sem.run_bind,Go.run_underlying hu,Result.andThen_ok,cd w hsz]
      rw[if_neg (by unfold jv at jM;omega)]
      by_cases h0:len*n=0
      ·rw[if_pos h0] at oQ ⊢
       simp only[Sem.run_pure] at oQ;cases oQ
       simp only[Sem.run_bind,Sem.run_pure,Result.andThen_ok,B5,WW,Go.newRow,run_newObj]
       rfl
      ·rw[if_neg h0] at oQ ⊢
       simp only[Sem.run_bind,dY w hz0,Result.andThen_ok,Sem.run_pure] at oQ;cases oQ
       simp only[Sem.run_bind,dY w hz0,Sem.run_pure,Result.andThen_ok,B5,WW,Go.newRow,run_newObj]
       rfl
     ·exact .slice (s:=0) hm (by omega) (by omega) (by omega) (by intro _;omega) (by intro e;omega)
   ·rw[if_neg oR] at hs;cases hs
  | _=>simp at hs
variable {i' i:Value}
def xh {n:Int} (h:aG m i i') (hi:idxOf i=some n) : ∃k,i'=.int k n:=by
 unfold idxOf at hi
 split at hi
 ·cases hi;exact⟨_,h.cu rfl⟩
 ·cases hi
def BU (P:Program) {x x':Value} (hs:indexAddr P t x i=some v) (hx:aG m x x') (hi:aG m i i') (w:World) :
  ∃v',(Instr.indexAt t x' i').run P w=.ok v' w∧aG m v v':=by
 unfold Id.indexAddr at hs
 split at hs
 ·rename_i n e b o j hu hj
  obtain⟨k,rfl⟩:=xh hi hj
  obtain⟨r,s,hm,rfl⟩:=hx.kH
  split at hs
  ·rename_i size j hsz
   simp only[cond_eq_ite,Nat.blt_eq] at hs
   by_cases hlt:j<n
   ·rw[if_pos hlt] at hs;cases hs
    refine⟨.pointer (some ⟨r,s+(o+j*size),none⟩),?_,.ptr hm⟩
    have h2:(0:Int)≤Int.ofNat j∧Int.ofNat j<(n:Int):=by constructor<;>simp<;>omega
    simp only[Instr.indexAt,asIntOf,Sem.run_bind,Sem.run_pure,Result.andThen_ok,Go.run_underlying hu,Instr.sureAddr]
    rw[if_pos h2]
    simp[cd w hsz,kY,Nat.add_assoc]
   ·rw[if_neg hlt] at hs;cases hs
  ·cases hs
 ·rename_i e b o n k j hu hj
  obtain⟨ki,rfl⟩:=xh hi hj
  split at hs
  ·rename_i size j hsz
   simp only[cond_eq_ite,Nat.blt_eq] at hs
   by_cases hlt:j<n
   ·rw[if_pos hlt] at hs;cases hs
    rcases hx.dI with⟨r,s,cap,hm,_,_,_,_,_,rfl⟩|⟨h0,_⟩
    ·refine⟨.pointer (some ⟨r,s+(o+j*size),none⟩),?_,.ptr hm⟩
     have h2:(0:Int)≤Int.ofNat j∧Int.ofNat j<(n:Int):=by constructor<;>simp<;>omega
     simp only[Instr.indexAt,asIntOf,Sem.run_bind,Sem.run_pure,Result.andThen_ok,Go.run_underlying hu]
     rw[if_pos h2]
     simp[cd w hsz,kY,Nat.add_assoc]
    ·omega
   ·rw[if_neg hlt] at hs;cases hs
  ·cases hs
 ·cases hs
def GV (P:Program) {cs cs':Array Value} {off:Nat} (hs:partOf P t cs off=some v) (hx:bw m cs.toList cs'.toList) (w:World) :
  ∃v',(part t cs' off).run P w=.ok v' w∧aG m v v':=by
 unfold Id.partOf at hs
 split at hs
 ·rename_i n ha hsz
  cases hs
  refine⟨.agg (cs'.extract off (off+n)),?_,aG.iV ?_⟩
  ·simp[part,pE w ha,cd w hsz]
  ·simp only[Array.toList_extract]
   have:=(hx.drop off).take (off+n - off)
   simpa [List.extract_eq_take_drop] using this
 ·rename_i ha
  obtain⟨v',h1,h2⟩:=hx.get (i:=off) (v:=v) (by simpa using hs)
  refine⟨v',?_,h2⟩
  have:cs'[off]?=some v':=by simpa using h1
  simp[part,pE w ha,this]
 ·cases hs
def vW (kind:TypeDesc) (k:Value) : ∀(es es':List MapEntry) (i:Nat),es.map (·.key)=es'.map (·.key) →
  (Instr.findNow kind k es i).map (fun o=>o.map (·.1))=(Instr.findNow kind k es' i).map (fun o=>o.map (·.1))
 | [],[],i,_=>rfl
 | [],_ :: _,i,h=>by simp at h
 | _ :: _,[],i,h=>by simp at h
 | e :: es,e' :: es',i,h=>by
  simp only[List.map_cons,List.cons.injEq] at h
  have ih:=vW kind k es es' (i+1) h.2
  simp only[Instr.findNow,h.1]
  cases Instr.sameNow kind k e'.key with
  | none=>rfl
  | some b=>cases b<;>simp[ih]
def A8 (kind:TypeDesc) (k:Value) : ∀(es:List MapEntry) (i j:Nat) (v:Value),Instr.findNow kind k es i=some (some (j,v))→i≤j ∧ ∃e,es[j - i]?=some e∧e.val=v
 | [],i,j,v,h=>by simp[Instr.findNow] at h
 | e :: es,i,j,v,h=>by
  simp only[Instr.findNow] at h
  split at h
  ·simp only[Option.some.injEq,Prod.mk.injEq] at h
   obtain⟨rfl,rfl⟩:=h
   exact⟨Nat.le_refl _,e,by simp,rfl⟩
  ·obtain⟨h1,e',h2,h3⟩:=A8 kind k es (i+1) j v h
   refine⟨by omega,e',?_,h3⟩
   rw[show j - i=(j - (i+1))+1 from by omega]
   simpa using h2
  ·cases h
def qk (P:Program) (w:World) (kt:TypeId) (k:Value) : ∀(es es':List MapEntry) (i:Nat) (r:Option (Nat×Value)),es.map (·.key)=es'.map (·.key)→ar P (Instr.findAsking kt k es i)=some r →
  ∃r',(Instr.findAsking kt k es' i).run P w=.ok r' w∧r'.map (·.1)=r.map (·.1) ∧ ∀j v,r'=some (j,v)→i≤j ∧ ∃e,es'[j - i]?=some e∧e.val=v
 | [],[],i,r,_,h=>by
  simp only[Instr.findAsking] at h
  cases h
  exact⟨none,rfl,rfl,by simp⟩
 | [],_ :: _,i,r,h,_=>by simp at h
 | _ :: _,[],i,r,h,_=>by simp at h
 | e :: es,e' :: es',i,r,h,hp=>by
  simp only[List.map_cons,List.cons.injEq] at h
  have pb : ∀{α β:Type} (s:Sem α) (f:α→Sem β) (b:β),ar P (s.bind f)=some b → ∃a,ar P s=some a∧ar P (f a)=some b:=by
   intro α β s f b
   induction s with
   | pure a=>intro h;exact⟨a,rfl,h⟩
   | program g ih=>intro h;simp only[Sem.bind,ar] at h ⊢;exact ih P h
   | _=>intro h;simp[Sem.bind,ar] at h
  have hp':ar P ((Op.equal kt k e.key).bind fun b=>if b=true then pure (some (i,e.val)) else Instr.findAsking kt k es (i+1))=some r:=hp
  obtain⟨b,hb,rH⟩:=pb _ _ _ hp'
  have bD:=jr P _ _ hb w
  rw[h.1] at bD
  cases b with
  | true =>
   have hr:r=some (i,e.val):=by
    have:ar P (Sem.pure (some (i,e.val)))=some r:=rH
    simp only[ar] at this;cases this;rfl
   subst hr
   refine⟨some (i,e'.val),?_,rfl,?_⟩
   ·simp[Instr.findAsking,bD]
   ·intro j v hjv;cases hjv;exact⟨Nat.le_refl _,e',by simp,rfl⟩
  | false =>
   obtain⟨r',h1,h2,h3⟩:=qk P w kt k es es' (i+1) r h.2 rH
   refine⟨r',?_,h2,?_⟩
   ·simp[Instr.findAsking,bD,h1]
   ·intro j v hjv
    obtain⟨a,e'',c,d⟩:=h3 j v hjv
    refine⟨by omega,e'',?_,d⟩
    rw[show j - i=(j - (i+1))+1 from by omega]
    simpa using c
variable {P:Program}
def EA {α β:Type} {s:Sem α} {f:α→Sem β} {b:β} (h:ar P (s >>= f)=some b) : ∃a,ar P s=some a∧ar P (f a)=some b:=by
 have h':ar P (s.bind f)=some b:=h
 clear h
 revert h'
 induction s with
 | pure a=>intro h;exact⟨a,rfl,h⟩
 | program g ih=>intro h;simp only[Sem.bind,ar] at h ⊢;exact ih P h
 | _=>intro h;simp[Sem.bind,ar] at h
def Cw {kt:TypeId} {k:Value} {es:List (Value×Value)} {c:Array MapEntry} {r:Option Nat} (hf:Ba P kt k es=some r) (hm:rX m es c) (w:World) :
  plain k=true∧(Instr.checkKey c.isEmpty 10000 kt k).run P w=.ok () w ∧ ∃r',(Instr.findKey kt k c.toList).run P w=.ok r' w∧r'.map (·.1)=r ∧ ∀j v,r'=some (j,v) → ∃e,c[j]?=some e∧e.val=v:=by
 unfold Ba at hf
 simp only[cond_eq_ite] at hf
 by_cases hp:plain k=true
 ·rw[if_pos hp] at hf
  have YU:c.isEmpty=es.isEmpty:=by
   have:=hm.1
   rw[Bool.eq_iff_iff,Array.isEmpty_iff_size_eq_zero,List.isEmpty_iff,←List.length_eq_zero_iff];omega
  cases h1:ar P (Instr.checkKey es.isEmpty 10000 kt k) with
  | none=>simp[h1] at hf
  | some u =>
   cases h2:ar P (Instr.findKey kt k (je es)) with
   | none=>simp[h1,h2] at hf
   | some r0 =>
    simp only[h1,h2] at hf;cases hf
    have WU:(je es).map (·.key)=c.toList.map (·.key):=by
     apply List.ext_getElem?
     intro i
     simp only[je,List.map_map,List.getElem?_map,Array.getElem?_toList]
     by_cases hi:i<es.length
     ·have hi':i<c.size:=by have:=hm.1;omega
      have:=hm.2 i es[i] c[i] (List.getElem?_eq_getElem hi) (by simp[hi'])
      simp[hi,hi',this.1.1]
     ·have hi' : ¬i<c.size:=by have:=hm.1;omega
      simp[List.getElem?_eq_none (Nat.le_of_not_lt hi),Array.getElem?_eq_none (Nat.le_of_not_lt hi')]
    refine⟨hp,by rw[YU];exact jr P _ _ h1 w,?_⟩
    unfold Instr.findKey at h2 ⊢
    obtain⟨d,hd,h3⟩:=EA h2
    have ZbS:=jr P _ _ hd w
    simp only[Sem.run_bind,ZbS,Result.andThen_ok]
    have hk:=vW d k (je es) c.toList 0 WU
    cases h4:Instr.findNow d k (je es) 0 with
    | some r1 =>
     rw[h4] at h3 hk
     have hr1:r1=r0:=by
      have:ar P (Sem.pure r1)=some r0:=h3
      simp only[ar] at this;cases this;rfl
     subst hr1
     cases h5:Instr.findNow d k c.toList 0 with
     | none=>rw[h5] at hk;simp at hk
     | some r2 =>
      rw[h5] at hk
      simp only[Option.map_some,Option.some.injEq] at hk
      refine⟨r2,rfl,hk.symm,fun j v hjv=>?_⟩
      subst hjv
      obtain⟨_,e,a,b⟩:=A8 d k c.toList 0 j v h5
      exact⟨e,by simpa using a,b⟩
    | none =>
     rw[h4] at h3 hk
     cases h5:Instr.findNow d k c.toList 0 with
     | some r2=>rw[h5] at hk;simp at hk
     | none =>
      obtain⟨r',a,b,c'⟩:=qk P w kt k (je es) c.toList 0 r0 WU h3
      exact⟨r',a,b,fun j v hjv=>let ⟨_,e,x,y⟩:=c' j v hjv;⟨e,by simpa using x,y⟩⟩
 ·rw[if_neg hp] at hf;cases hf
variable {r:Nat}{h:IH}{m:Mp}{es:List (Value×Value)}{w0 w:World}{B:Nat}
def Rel.CX (R:Rel B w0 m h w) {k s:Nat} (hk:mapOf h k=some es) (hm:m k=some (r,s)) :
  h.ext.get (k / 2)=some (.map es)∧2*(k / 2)=k ∧ ∃c,w.heap[r]?=some (.map c es.length)∧rX m es c:=by
 unfold mapOf at hk
 simp only[cond_eq_ite,beq_iff_eq] at hk
 by_cases hb:k % 2=1
 ·rw[if_pos hb] at hk;cases hk
 ·rw[if_neg hb] at hk
  have hkk:2*(k / 2)=k:=by omega
  cases hg:h.ext.get (k / 2) with
  | none=>simp[hg] at hk
  | some o =>
   rw[hg] at hk
   cases o with
   | map es' =>
    simp only at hk;cases hk
    obtain⟨_,c,h1,h2⟩:=R.obj (k / 2) _ r s hg (by rw[hkk];exact hm)
    exact⟨rfl,hkk,c,h1,h2⟩
   | _=>simp at hk
variable {c:Array MapEntry}{clock:Nat}
def run_getObj_map (P:Program) (h:w.heap[r]?=some (.map c clock)):(getObj r).run P w=.ok (.map c clock) w:=by
 simp only[getObj,Sem.run,h]
def run_setObj_map (P:Program) (h:w.heap[r]?=some (.map c clock)) (o:Obj):(Go.setObj r o).run P w=.ok () (World.put w r o):=by
 simp only[Go.setObj,Sem.run,h];rfl
def mK (kt et:TypeId) (k:Value) (ok:Bool) (c:Array MapEntry):Sem Value:=do
 Instr.checkKey c.isEmpty 10000 kt k
 let (v,ok') ←match ←Instr.findKey kt k c.toList with
  | some (_,v)=>pure (v,true)
  | none=>pure (←zeroValue et,false)
 pure (if ok then .tuple #[v,.bool ok'] else v)
variable {v k k':Value}{ok:Bool}
def vc (P:Program) (w:World) {kt et:TypeId} (hcm:rX m es c) (hk:aG m k k')
  (hl:(match Ba P kt k es with
   | none=>none
   | some none=>match qz P et with
    | some z=>bif plain z then some (bif ok then Value.tuple #[z,.bool false] else z) else none
    | none=>none
   | some (some i)=>(es[i]?).map fun e=>bif ok then .tuple #[e.2,.bool true] else e.2)=some v) :
  ∃v',(mK kt et k' ok c).run P w=.ok v' w∧aG m v v':=by
 cases hf:Ba P kt k es with
 | none=>simp[hf] at hl
 | some ri =>
  obtain⟨hp,hck,r',vU,hr',hat⟩:=Cw hf hcm w
  have ek:=hk.di hp
  subst ek
  simp only[hf] at hl
  cases ri with
  | none =>
   have hn:r'=none:=by cases r'<;>simp_all
   subst hn
   simp only at hl
   cases hz:qz P et with
   | none=>simp[hz] at hl
   | some z =>
    simp only[hz,cond_eq_ite] at hl
    by_cases hzp:plain z=true
    ·rw[if_pos hzp] at hl
     cases ok with
     | false =>
      simp only[Bool.false_eq_true,if_false] at hl;cases hl
      exact⟨_,by simp[mK,hck,vU,dY w hz],.bV hzp⟩
     | true =>
      simp only[if_true] at hl;cases hl
      exact⟨_,by simp[mK,hck,vU,dY w hz],aG.fI (.cons (.bV hzp) (.cons (.bA rfl) (.nil m)))⟩
    ·rw[if_neg hzp] at hl;cases hl
  | some i =>
   simp only at hl
   cases hei:es[i]? with
   | none=>simp[hei] at hl
   | some e =>
    simp only[hei,Option.map_some,cond_eq_ite] at hl
    obtain⟨x,hx⟩ : ∃x,r'=some (i,x):=by
     cases r' with
     | none=>simp at hr'
     | some p=>obtain⟨a,b⟩:=p;simp at hr';subst hr';exact⟨b,rfl⟩
    subst hx
    obtain⟨e',he',hev⟩:=hat i x rfl
    have hE:=hcm.2 i e e' hei he'
    have hv:aG m e.2 x:=by rw[←hev];exact hE.1.2.2
    cases ok with
    | false =>
     simp only[Bool.false_eq_true,if_false] at hl;cases hl
     exact⟨x,by simp[mK,hck,vU],hv⟩
    | true =>
     simp only[if_true] at hl;cases hl
     exact⟨.tuple #[x,.bool true],by simp[mK,hck,vU],aG.fI (.cons hv (.cons (.bA rfl) (.nil m)))⟩
variable {mt:TypeId}{mv mv':Value}
def Rel.lookup (R:Rel B w0 m h w) (P:Program) (hl:lookup P h mt mv k ok=some v) (hmv:aG m mv mv') (hk:aG m k k') :
  ∃v',(Instr.lookup mt mv' k' ok).run P w=.ok v' w∧aG m v v':=by
 unfold Id.lookup at hl
 cases hu:P.underlying mt with
 | none=>simp[hu] at hl
 | some d =>
  rw[hu] at hl
  cases d with
  | map kt et =>
   simp only at hl
   cases hes:entriesOf h mv with
   | none=>rw[hes] at hl;cases hl
   | some es =>
    rw[hes] at hl
    simp only at hl
    unfold entriesOf at hes
    split at hes
    ·cases hes
     have:=hmv.cu rfl
     subst this
     obtain⟨v',h1,h2⟩:=vc P w (c:=#[]) ⟨rfl,by simp⟩ hk hl
     refine⟨v',?_,h2⟩
     rw[←h1]
     simp only[Instr.lookup,mK,Sem.run_bind,Go.run_underlying hu,Result.andThen_ok,Sem.run_pure]
     congr 1
    ·rename_i r
     cases hmv with
     | bA h=>simp[Id.bA] at h
     | map hm =>
      obtain⟨_,_,c,oP,hcm⟩:=R.CX hes hm
      obtain⟨v',h1,h2⟩:=vc P w hcm hk hl
      refine⟨v',?_,h2⟩
      rw[←h1]
      simp only[Instr.lookup,mK,Sem.run_bind,Go.run_underlying hu,Result.andThen_ok,Sem.run_pure,run_getObj_map P oP]
      congr 1
    ·cases hes
  | _=>simp at hl
def Rel.mapUpdate {h':IH} (R:Rel B w0 m h w) (P:Program) {v':Value} (hl:mapUpdate P h mt mv k v=some h') (hmv:aG m mv mv') (hk:aG m k k') (hv:aG m v v') :
  ∃w',(Instr.mapUpdate mt mv' k' v').run P w=.ok () w'∧Rel B w0 m h' w'∧Step m h w m h' w':=by
 unfold Id.mapUpdate at hl
 split at hl
 ·rename_i kt et r hu
  cases hmv with
  | bA h=>simp[Id.bA] at h
  | @map _ r' s hm =>
   cases hes:mapOf h r with
   | none=>simp[hes] at hl
   | some es =>
    simp only[hes,cond_eq_ite] at hl
    obtain⟨hg,hrr,c,oP,hcm⟩:=R.CX hes hm
    have hm':m (2*(r / 2))=some (r',s):=by rw[hrr];exact hm
    have hs0:s=0:=(R.obj (r / 2) _ r' s hg hm').1
    by_cases hck:Rt (ar P (Instr.checkKey false 10000 kt k))=true
    ·rw[if_pos hck] at hl
     have hck' : ∀w:World,(Instr.checkKey false 10000 kt k).run P w=.ok () w:=by
      cases hx:ar P (Instr.checkKey false 10000 kt k) with
      | none=>rw[hx] at hck;cases hck
      | some u=>exact jr P _ _ hx
     cases hf:Ba P kt k es with
     | none=>simp[hf] at hl
     | some ri =>
      obtain⟨hp,_,r0,vU,hr0,hat⟩:=Cw hf hcm w
      have ek:=hk.di hp
      subst ek
      simp only[hf] at hl
      cases ri with
      | none =>
       simp only at hl;cases hl
       have hn:r0=none:=by cases r0<;>simp_all
       subst hn
       obtain⟨R1,S1⟩:=R.setObj hg rfl rfl hm' (o1:=.map (es ++ [(k',v)])) (o':=.map (c.push { key:=k',val:=v',born:=es.length }) (es.length+1)) rfl
        (fun w' z hw'=>⟨hs0,c.push { key:=k',val:=v',born:=es.length },by rw[hw',List.length_append];rfl,by simp[hcm.1],fun i e e' he he'=>by
         rw[Array.getElem?_push] at he'
         by_cases hi:i<es.length
         ·rw[List.getElem?_append_left hi] at he
          rw[if_neg (by have:=hcm.1;omega)] at he'
          exact hcm.2 i e e' he he'
         ·rw[List.getElem?_append_right (by omega)] at he
          have hi0:i - es.length=0:=by
           rcases Nat.eq_zero_or_pos (i - es.length) with h|h
           ·exact h
           ·rw[List.getElem?_eq_none (by simp;omega)] at he;cases he
          rw[hi0] at he;simp at he;subst he
          rw[if_pos (by have:=hcm.1;omega)] at he';cases he'
          exact⟨⟨rfl,hp,hv⟩,by show es.length=i;omega⟩⟩)
       refine⟨_,?_,R1,S1⟩
       simp[Instr.mapUpdate,Go.run_underlying hu,run_getObj_map P oP,hck',vU,run_setObj_map P oP]
      | some i =>
       simp only at hl
       cases hei:es[i]? with
       | none=>simp[hei] at hl
       | some e =>
        simp only[hei] at hl
        by_cases eo:Instr.sameBits 10000 e.1 k'=true
        ·rw[if_pos eo] at hl;cases hl
         obtain⟨x,hx⟩ : ∃x,r0=some (i,x):=by
          cases r0 with
          | none=>simp at hr0
          | some p=>obtain⟨a,b⟩:=p;simp at hr0;subst hr0;exact⟨b,rfl⟩
         subst hx
         obtain⟨e',he',_⟩:=hat i x rfl
         have hE:=hcm.2 i e e' hei he'
         have hil:i<es.length:=by
          rcases Nat.lt_or_ge i es.length with h|h
          ·exact h
          ·rw[List.getElem?_eq_none h] at hei;cases hei
         obtain⟨R1,S1⟩:=R.setObj hg rfl rfl hm' (o1:=.map (es.set i (k',v))) (o':=.map (c.modify i fun e => { e with key:=k',val:=v' }) es.length) rfl
          (fun w' z hw'=>⟨hs0,c.modify i fun e => { e with key:=k',val:=v' },by rw[hw',List.length_set],by simp[hcm.1],fun j a a' ha ha'=>by
           rw[Array.getElem?_modify] at ha'
           by_cases hj:i=j
           ·subst hj
            rw[List.getElem?_set_self (by simpa using hil)] at ha;cases ha
            simp only[if_true,he',Option.map_some,Option.some.injEq] at ha'
            subst ha'
            exact⟨⟨rfl,hp,hv⟩,hE.2⟩
           ·rw[List.getElem?_set_ne hj] at ha
            simp only[hj,if_false] at ha'
            exact hcm.2 j a a' ha ha'⟩)
         refine⟨_,?_,R1,S1⟩
         have hkt:(Instr.keyThatStays (((c[i]?).map (·.key)).getD k') k').run P w=.ok k' w:=by
          simp only[he',Option.map_some,Option.getD_some,Instr.keyThatStays,hE.1.1,eo,if_true,Sem.run_pure]
         simp[Instr.mapUpdate,Go.run_underlying hu,run_getObj_map P oP,hck',vU,hkt,run_setObj_map P oP]
        ·rw[if_neg eo] at hl;cases hl
    ·rw[if_neg hck] at hl;cases hl
 ·cases hl
def Cv {P:Program} {t:TypeId} {x y x' y':Value} {b:Bool} (h:vG P t x y=some b) (hx:aG m x x') (hy:aG m y y') (w:World):(Op.equal t x' y').run P w=.ok b w:=by
 unfold vG at h
 cases hu:P.underlying t with
 | none=>simp[hu] at h
 | some d =>
  simp only[hu] at h
  show(Op.equalIn (9999+1) t x' y').run P w=_
  generalize 9999=depth
  unfold um at h
  split at h<;>cases h<;>cases hx<;>cases hy<;>first
   | (simp_all [Id.bA];done)
   | simp[Op.equalIn,Go.run_underlying hu]
def aG.unit (m:Mp):aG m (.tuple #[]) (.tuple #[]):=.tuple rfl fun i v v' h=>by simp at h
variable {v:Value}
def Hd {z:List Value} : ∀{n:Nat},v∈bB n z→v∈z
 | 0,h=>by cases h
 | n+1,h=>by
  rw[bB,List.mem_append] at h
  rcases h with h|h
  ·exact h
  ·exact Hd h
theorem zu (z:Array Value) (n:Nat) (hz:z.size≠0):(Builtin.zeroCells z n).toList=bB n z.toList:=by
 rw[←pL z n hz]
 simp[Builtin.zeroCells]
variable {ty:TypeId}{ts:Array TypeId}{m:Mp}{x:Value}{t:TypeId}{x':Value}{w:World}
def Rel.clear {B:Nat} {w0:World} {h h':IH} (R:Rel B w0 m h w) (P:Program) 
  (h0:ts[0]?=some t) (hc:wu P h t x=some (v,h')) (hx:aG m x x') :
  ∃w',(Builtin.clear_ ts ty #[x']).run P w=.ok v w'∧aG m v v∧Rel B w0 m h' w'∧Step m h w m h' w':=by
 unfold wu at hc
 have e0 : ∀y:Value,(#[y]:Array Value)[0]?=some y:=fun _=>rfl
 cases hdt:P.underlying t with
 | none=>simp[hdt] at hc
 | some td =>
  rw[hdt] at hc
  cases td with
  | slice e =>
   split at hc
   ·cases hc
    obtain⟨rfl,rfl,rfl⟩:=hx.lV
    refine⟨w,?_,.unit m,R,Step.refl _ _ _⟩
    simp only[Builtin.clear_,h0,e0,Sem.run_bind,Go.run_underlying hdt,Result.andThen_ok,Sem.run_pure]
   ·rename_i h1 h2 b o dl dk he
    cases he
    have hdv : ∃r q cap a,x'=.slice (some a) dl cap∧(0<dk→m b=some (r,q)∧a=⟨r,q+o,none⟩)∧(dk=0→dl=0):=by
     rcases hx.dI with⟨r,q,cap,hm,h1,_,_,_,_,rfl⟩|⟨hl,hk,a,cap,rfl⟩
     ·exact⟨r,q,cap,_,rfl,fun _=>⟨hm,rfl⟩,fun e=>by omega⟩
     ·subst hl;exact⟨0,0,cap,a,rfl,fun e=>by omega,fun _=>rfl⟩
    obtain⟨r,q,cap,a,rfl,vO,hzero⟩:=hdv
    simp only[cond_eq_ite,beq_iff_eq] at hc
    by_cases hn:dl=0
    ·rw[if_pos hn] at hc;cases hc
     subst hn
     refine⟨w,?_,.unit m,R,Step.refl _ _ _⟩
     simp only[Builtin.clear_,h0,e0,Sem.run_bind,Go.run_underlying hdt,Result.andThen_ok,Sem.run_pure]
    ·rw[if_neg hn] at hc
     cases hz:aE P e with
     | none=>simp[hz] at hc
     | some z =>
      simp only[hz] at hc
      by_cases eF:(z.isEmpty || !(z.all aB))=true
      ·rw[if_pos eF] at hc;cases hc
      rw[if_neg eF] at hc
      simp only[Bool.or_eq_true,not_or,Bool.not_eq_true,Bool.not_eq_false'] at eF
      obtain⟨h1w,hw1,hv1⟩:=Option.map_eq_some_iff.1 hc
      cases hv1
      obtain⟨zv,hz0,hzp,rfl⟩:=dc hz
      have hk:0<dk:=by
       rcases Nat.eq_zero_or_pos dk with e|e
       ·exact absurd (hzero e) hn
       ·exact e
      obtain⟨hm,rfl⟩:=vO hk
      have hL:bw m (bB dl zv.cells.toList) (bB dl zv.cells.toList):=bw.bB (aG.bV (m:=m) hzp).cells dl
      obtain⟨w',hr1,R1,S1⟩:=R.wr hw1 hm hL (fun v hv=>List.all_eq_true.1 eF.2 v (Hd hv)) P
      have hsz:zv.cells.size≠0:=by
       intro e
       have:zv.cells.toList = []:=List.eq_nil_of_length_eq_zero (by rw[Array.length_toList];exact e)
       rw[this] at eF;simp at eF
      rw[←zu _ _ hsz] at hr1
      refine⟨w',?_,.unit m,R1,S1⟩
      obtain⟨n,rfl⟩ : ∃n,dl=n+1:=⟨dl - 1,by omega⟩
      simp only[Builtin.clear_,h0,e0,Sem.run_bind,Go.run_underlying hdt,Result.andThen_ok,dY w hz0,hr1,Sem.run_pure]
   ·cases hc
  | _=>simp at hc
theorem Rel.cap (P:Program) (h0:ts[0]?=some t) (hc:Zq P t x=some v) (hx:aG m x x') :
  (Builtin.cap_ ts ty #[x']).run P w=.ok v w∧plain v=true:=by
 unfold Zq at hc
 have e0 : ∀y:Value,(#[y]:Array Value)[0]?=some y:=fun _=>rfl
 cases hdt:P.underlying t with
 | none=>simp[hdt] at hc
 | some td =>
  rw[hdt] at hc
  cases td with
  | slice e =>
   split at hc
   ·cases hc
    obtain⟨rfl,rfl,rfl⟩:=hx.lV
    refine⟨?_,rfl⟩
    simp only[Builtin.cap_,h0,e0,Sem.run_bind,Go.run_underlying hdt,Result.andThen_ok,Sem.run_pure]
    rfl
   ·rename_i h1 h2 b o dl dk he
    cases he
    simp only[cond_eq_ite,beq_iff_eq] at hc
    by_cases hn:dk % 2=1
    ·rw[if_pos hn] at hc;cases hc
     rcases hx.dI with⟨r,q,cap,hm,h3,h4,h5,h6,h7,rfl⟩|⟨hl,hk,a,cap,rfl⟩
     ·refine⟨?_,rfl⟩
      simp only[Builtin.cap_,h0,e0,Sem.run_bind,Go.run_underlying hdt,Result.andThen_ok,Sem.run_pure,h6 hn]
      rfl
     ·omega
    ·rw[if_neg hn] at hc;cases hc
   ·cases hc
  | _=>simp at hc
def yF (z:Array Value) (n:Nat) (hz:z.size≠0):Builtin.zeroCells z n=(bB n z.toList).toArray:=by
 rw[←pL z n hz]
 rfl
def wR (P:Program) (w:World) (ts:Array TypeId) (ty:TypeId) (st xt elem:TypeId) (ik k:IntKind) (size bytes:Nat) (z:Value) (n:Nat)
  (h0:ts[0]?=some st) (h1:ts[1]?=some xt) (hst:P.underlying st=some (.slice elem)) (hxt:P.underlying xt=some (.int ik)) (hsz:aO P elem=some size) (hby:ij P elem=some bytes) (hz:qz P elem=some z)
  (hn:0<n) (hs0:0<size) (hzs:z.cells.size=size) (hb:bytes≤65536) (jM:n*(bytes+1)≤aN) :
  ∃d jb rest,(Builtin.append_ ts ty #[.slice none 0 0,.int k n]).run P w=.ok (.slice (some ⟨w.heap.size,0,none⟩) n jb) ((({ w with drawn:=d }:World)).alloc (.cells (bB n z.cells.toList ++ rest).toArray elem))∧n≤jb∧rest.length=(jb - n)*z.cells.size:=by
 unfold ij at hby
 obtain⟨i,hi,hib⟩:=Option.map_eq_some_iff.1 hby
 have mQ : ¬(0+n≤0):=by omega
 have hN:=nextslicecap_le (0+n) 0 (by omega)
 have h4:n*(bytes+1)=n*bytes+n:=by rw[Nat.mul_add,Nat.mul_one]
 have YO : ¬(Builtin.nextslicecap (0+n) 0*bytes > 2 ^ 48):=by
  have h2:Builtin.nextslicecap (0+n) 0*bytes≤(2*(0+n)+1024)*bytes:=Nat.mul_le_mul_right _ hN
  have h3:(2*(0+n)+1024)*bytes=2*(n*bytes)+1024*bytes:=by rw[Nat.zero_add,Nat.add_mul,Nat.mul_assoc]
  unfold aN at jM
  omega
 have YS : ¬((0+n:Nat):Int) > IntKind.i64.max:=by
  unfold aN at jM
  have e:IntKind.i64.max=9223372036854775807:=by decide
  rw[e];omega
 have Zbo:IntKind.i64.wrap (n:Int)=(n:Int):=tU n (by unfold aN at jM;omega)
 let q:=Question.appendCap n 0 elem
 have YV:n≤q.cut (w.tape w.drawn q):=Nat.le_add_right _ _
 refine⟨w.drawn+1,q.cut (w.tape w.drawn q),(Builtin.zeroCells z.cells (q.cut (w.tape w.drawn q) - n)).toList,?_,YV,by simp[Builtin.zeroCells]⟩
 have e0:(#[Value.slice none 0 0,Value.int k n]:Array Value)[0]?=some (.slice none 0 0):=rfl
 have e1:(#[Value.slice none 0 0,Value.int k n]:Array Value)[1]?=some (.int k n):=rfl
 have hl0 : ¬((n:Int)<0):=by omega
 have hl1 : ¬((n:Int)*(bytes:Int) > 2 ^ 48):=by
  have:(n:Int)*(bytes:Int)=((n*bytes:Nat):Int):=by simp
  rw[this]
  unfold aN at jM
  omega
 have hns : ¬(n*size=0):=by
  have:=Nat.mul_pos hn hs0
  omega
 have hold : ∀d,(Builtin.firstCells size 0 (.slice none 0 0)).run P { w with drawn:=d }=.ok #[] { w with drawn:=d }:=fun d=>rfl
 simp only[Builtin.append_,h0,h1,e0,e1,Sem.run_bind,Go.run_underlying hst,Result.andThen_ok,cd w hsz,Go.run_underlying hxt,Sem.run_pure,asInt,asIntOf,Zbo,if_true,if_neg hl0,run_typeInfo w hi,hib,if_neg hl1,Int.toNat_natCast,mQ,if_false,true_or]
 rw[if_neg (fun h=>YS h.1)]
 simp only[Sem.run_bind,run_typeInfo w hi,hib,Result.andThen_ok]
 rw[if_neg YO]
 simp only[Sem.run_bind,run_typeInfo _ hi,Result.andThen_ok,run_choose,Question.forced,Bool.false_eq_true,if_false,run_askRoom,hold,Bool.not_true,if_neg hns,dY _ hz,Sem.run_pure,Go.newRow,run_newObj,Nat.zero_add,yF z.cells n (by omega)]
 have Zg : ∀Z:Array Value,(#[]:Array Value) ++ (bB n z.cells.toList).toArray ++ Z=(bB n z.cells.toList ++ Z.toList).toArray:=fun Z=>by rw[←Array.toList_inj];simp
 rw[Zg]
 rfl
def Rel.nU {B:Nat} {w0:World} {m:Mp} {h h':IH} {w:World} (R:Rel B w0 m h w) (P:Program) {ts:Array TypeId} {ty st xt:TypeId} {ik:IntKind} {s s' x x' v:Value}
  (h0:ts[0]?=some st) (h1:ts[1]?=some xt) (hxt:P.underlying xt=some (.int ik)) (ha:nU P h st s x=some (v,h')) (hs:aG m s s') (hx:aG m x x') (cH:eH m h.n h'.n) :
  ∃v' m' w',(Builtin.append_ ts ty #[s',x']).run P w=.ok v' w'∧aG m' v v'∧Rel B w0 m' h' w'∧Step m h w m' h' w':=by
 unfold Id.nU at ha
 cases hst:P.underlying st with
 | none=>simp[hst] at ha
 | some d =>
  rw[hst] at ha
  cases d with
  | slice elem =>
   cases hsz:aO P elem with
   | none=>simp[hsz] at ha
   | some size =>
   cases hby:ij P elem with
   | none=>simp[hsz,hby] at ha
   | some bytes =>
   cases hz:aE P elem with
   | none=>simp[hsz,hby,hz] at ha
   | some zs =>
   cases hn:iQ x aN with
   | none=>simp[hsz,hby,hz,hn] at ha
   | some n =>
   obtain⟨z,hz0,hzp,rfl⟩:=dc hz
   obtain⟨k,rfl,hn1⟩:=jc hn hx
   simp only[hsz,hby,hz,hn,cond_eq_ite] at ha
   split at ha
   ·rename_i a c
    split at ha
    ·rename_i hc
     cases ha
     simp only[Bool.and_eq_true,beq_iff_eq,Nat.ble_eq,Nat.blt_eq] at hc
     obtain⟨⟨⟨⟨rfl,rfl⟩,hn0,hs0⟩,Km,hzl⟩,eF,jM⟩:=hc
     obtain⟨_,_,rfl⟩:=hs.lV
     have hzs:z.cells.size=size:=by simpa using hzl
     obtain⟨d,jb,rest,bD,mQ,rH⟩:=wR P w ts ty st xt elem ik k size bytes z n h0 h1 hst hxt hsz hby hz0 hn0 hs0 hzs Km jM
     have hm0:m (2*h.n)=none:=cH h.n (Nat.le_refl _) (Nat.lt_succ_self _)
     have hL:bw m (bB n z.cells.toList) (bB n z.cells.toList):=bw.bB (aG.bV (m:=m) hzp).cells n
     have hlen:(bB n z.cells.toList).length=n*size:=by rw[nw,hzl]
     have MY:Rel B w0 m h { w with drawn:=d }:=R.congr rfl (kj R.below d)
     obtain⟨R1,S1⟩:=MY.new (.cells (bB n z.cells.toList) size none) (.cells (bB n z.cells.toList ++ rest).toArray elem) (size,(bB n z.cells.toList ++ rest).length) hm0
      ⟨(bB n z.cells.toList ++ rest).toArray,elem,by rw[heap_alloc,if_pos rfl],⟨by simp,fun i v hi=>by
       obtain⟨v',a,b⟩:=hL.get hi
       refine⟨v',?_,b⟩
       have hi':i<(bB n z.cells.toList).length:=by
        rcases Nat.lt_or_ge i (bB n z.cells.toList).length with h|h
        ·exact h
        ·rw[List.getElem?_eq_none h] at a;cases a
       simp only[List.getElem?_toArray,Nat.zero_add]
       rw[List.getElem?_append_left hi'];exact a⟩,rfl,by simp⟩ rfl
     refine⟨_,_,_,bD,?_,R1,S1.congr rfl⟩
     exact aG.slice (m:=m.upd (2*h.n) (w.heap.size,0) (size,(bB n z.cells.toList ++ rest).length)) (b:=2*h.n) (o:=0) (r:=w.heap.size) (s:=0) (len:=n) (k:=2*n) (cap:=jb) (Mp.bj _ _ _ _) (by omega) (by omega) (by omega) (by omega) (by intro _;rw[Mp.lZ];simp only[List.length_append,rH,hlen,hzs];rw[←Nat.add_mul];simp only[Nat.zero_add];exact Nat.mul_le_mul_right _ (by omega))
    ·cases ha
   ·cases ha
  | _=>simp at ha
variable {ρ:Operand→Value}{fr:Fr}{m:Mp}
def rh (hρ : ∀x v,opd fr x=some v→aG m v (ρ x)) : ∀(l:List Operand) (vs:List Value),gL fr l=some vs→bw m vs (l.map ρ)
 | [],vs,h=>by simp only[gL] at h;cases h;exact .nil m
 | x :: l,vs,h=>by
  rw[gL] at h
  cases hx:opd fr x with
  | none=>simp[hx] at h
  | some v =>
   cases hl:gL fr l with
   | none=>simp[hx,hl] at h
   | some vs' =>
    simp only[hx,hl] at h;cases h
    exact .cons (hρ x v hx) (rh hρ l vs' hl)
def ui (hρ : ∀x v,opd fr x=some v→aG m v (ρ x)) {o:Option Operand} {v:Option Value} (h:dr fr o=some v):im m v (o.map ρ):=by
 cases o with
 | none=>simp only[dr] at h;cases h;trivial
 | some x =>
  simp only[dr] at h
  obtain⟨u,hu,rfl⟩:=Option.map_eq_some_iff.1 h
  exact hρ x u hu
variable {t:TypeId}{v y x' x:Value}
def Oc {P:Program} {op:BinOp} {ox oy:Operand} {y':Value} (h:binop P op t ox oy x y=some v) (hx:aG m x x') (hy:aG m y y') (w:World) :
  (do eqGuard op t ox oy x' y';Go.binOp op t x' y':Sem Value).run P w=.ok v w∧plain v=true:=by
 unfold binop at h
 simp only[cond_eq_ite] at h
 by_cases hp:(plain x && plain y)=true
 ·rw[if_pos hp] at h
  simp only[Bool.and_eq_true] at hp
  rw[hx.di hp.1,hy.di hp.2]
  obtain⟨a,b⟩:=gY h
  exact⟨b w,a⟩
 ·rw[if_neg hp] at h
  have guard : ∀(op:BinOp) {b:Bool},vG P t x y=some b→(eqGuard op t ox oy x' y').run P w=.ok () w:=by
   intro op b hb
   have hd : ∃d,um d x y=some b:=by
    unfold vG at hb
    split at hb
    ·exact⟨_,hb⟩
    ·cases hb
   obtain⟨d,hd⟩:=hd
   unfold um at hd
   split at hd<;>cases hd<;>cases hx<;>cases hy<;>first
    | (simp_all [Id.bA];done)
    | (unfold eqGuard;split<;>rfl)
  have WA : ∀{b:Bool},vG P t x y=some b→(∀o,Go.binOp .eql t x' y'=(do pure (.bool (←Op.equal t x' y')))∨o)∧(∀o,Go.binOp .neq t x' y'=(do pure (.bool (!(←Op.equal t x' y'))))∨o):=by
   intro b hb
   have hd : ∃d,um d x y=some b:=by
    unfold vG at hb
    split at hb
    ·exact⟨_,hb⟩
    ·cases hb
   obtain⟨d,hd⟩:=hd
   unfold um at hd
   split at hd<;>cases hd<;>cases hx<;>cases hy<;>first
    | (simp_all [Id.bA];done)
    | exact⟨fun _=>.inl rfl,fun _=>.inl rfl⟩
  cases op with
  | eql =>
   simp only at h
   obtain⟨b,hb,rfl⟩:=Option.map_eq_some_iff.1 h
   refine⟨?_,rfl⟩
   have e:=((WA hb).1 False).resolve_right id
   simp[guard _ hb,e,Cv hb hx hy w]
  | neq =>
   simp only at h
   obtain⟨b,hb,rfl⟩:=Option.map_eq_some_iff.1 h
   refine⟨?_,rfl⟩
   have e:=((WA hb).2 False).resolve_right id
   simp[guard _ hb,e,Cv hb hx hy w]
  | _=>cases h
variable {ty:TypeId}{h:IH}{ts:Array TypeId}{w0:World}{B:Nat}{w:World}
theorem Rel.ot (R:Rel B w0 m h w) (P:Program) (hl:ot P h t x=some v) (ht:ts[0]?=some t) (hx:aG m x x') :
  (Builtin.len_ ts ty #[x']).run P w=.ok v w∧plain v=true:=by
 unfold Id.ot at hl
 have e0:(#[x']:Array Value)[0]?=some x':=rfl
 split at hl
 ·rename_i hu;cases hl
  have:=hx.cu rfl;subst this
  exact⟨by simp[Builtin.len_,ht,Go.run_underlying hu,goInt],rfl⟩
 ·rename_i n e hu;cases hl
  exact⟨by simp[Builtin.len_,ht,Go.run_underlying hu,goInt],rfl⟩
 ·rename_i a hu
  split at hl
  ·rename_i n e hu2;cases hl
   exact⟨by simp[Builtin.len_,ht,Go.run_underlying hu,Go.run_underlying hu2,goInt],rfl⟩
  ·cases hl
 ·rename_i e a n c hu;cases hl
  obtain⟨a',c',rfl⟩:=xd hx (show Id.lenOf (.slice a n c)=some n from rfl)
  exact⟨by simp[Builtin.len_,ht,Go.run_underlying hu,goInt],rfl⟩
 ·rename_i k e hu;cases hl
  have:=hx.cu rfl;subst this
  exact⟨by simp[Builtin.len_,ht,Go.run_underlying hu,goInt],rfl⟩
 ·rename_i k e r hu
  obtain⟨es,hes,rfl⟩:=Option.map_eq_some_iff.1 hl
  cases hx with
  | bA h=>simp[Id.bA] at h
  | map hm =>
   obtain⟨_,_,c,oP,hcm⟩:=R.CX hes hm
   exact⟨by simp[Builtin.len_,ht,Go.run_underlying hu,run_getObj_map P oP,goInt,hcm.1],rfl⟩
 ·cases hl
variable {vs':Array Value}
def TE (hv:bw m [x] vs'.toList) : ∃x',vs' = #[x']∧aG m x x':=by
 obtain⟨l⟩:=vs'
 match l,hv with
 | [x'],hv=>exact⟨x',rfl,hv.2 0 x x' rfl rfl⟩
 | [],hv=>have:=hv.1;simp at this
 | _ :: _ :: _,hv=>have:=hv.1;simp at this
def Xm (hv:bw m [x,y] vs'.toList) : ∃x' y',vs' = #[x',y']∧aG m x x'∧aG m y y':=by
 obtain⟨l⟩:=vs'
 match l,hv with
 | [x',y'],hv=>exact⟨x',y',rfl,hv.2 0 x x' rfl rfl,hv.2 1 y y' rfl rfl⟩
 | [],hv=>have:=hv.1;simp at this
 | [_],hv=>have:=hv.1;simp at this
 | _ :: _ :: _ :: _,hv=>have:=hv.1;simp at this
theorem bw.di : ∀{l l':List Value},bw m l l'→l.all plain=true→l'=l
 | [],[],_,_=>rfl
 | [],_ :: _,h,_=>by have:=h.1;simp at this
 | _ :: _,[],h,_=>by have:=h.1;simp at this
 | a :: l,b :: l',h,hp=>by
  simp only[List.all_cons,Bool.and_eq_true] at hp
  rw[(h.2 0 a b rfl rfl).di hp.1,bw.di (l:=l) (l':=l') ⟨by have:=h.1;simpa using this,fun i v v' x y=>h.2 (i+1) v v' (by simpa using x) (by simpa using y)⟩ hp.2]
def Rel.builtin {h':IH} (R:Rel B w0 m h w) (P:Program) {b:Builtin} {consts:Array Bool} {vs:List Value} 
  (hb:Id.builtin P h b ts vs=some (v,h')) (hv:bw m vs vs'.toList) (cH:eH m h.n h'.n) :
  IU B w0 m h w ((Go.builtin b ts ty consts vs').run P w) v h':=by
 unfold Id.builtin at hb
 split at hb
 ·-- len
  rename_i x
  obtain⟨x',rfl,hx⟩:=TE hv
  cases hts:ts[0]? with
  | none=>simp[hts] at hb
  | some t =>
   simp only[hts] at hb
   obtain⟨u,hu,he⟩:=Option.map_eq_some_iff.1 hb
   cases he
   obtain⟨h1,h2⟩:=R.ot P (ty:=ty) hu hts hx
   exact .quiet R (by simp[Go.builtin,h1]) (.bV h2)
 ·-- append
  rename_i s x
  obtain⟨s',x',rfl,hs,hx⟩:=Xm hv
  simp only[cond_eq_ite] at hb
  by_cases hsl:cj P ts[1]?=true
  ·rw[if_pos hsl] at hb
   cases hts:ts[0]? with
   | none=>simp[hts] at hb
   | some st =>
    simp only[hts] at hb
    have hxt : ∃xt xe,ts[1]?=some xt∧P.underlying xt=some (.slice xe):=by
     unfold cj at hsl
     split at hsl
     ·rename_i xt h1
      split at hsl
      ·rename_i xe h2;exact⟨xt,xe,h1,h2⟩
      ·cases hsl
     ·cases hsl
    obtain⟨xt,xe,h1,h2⟩:=hxt
    obtain⟨v',m',w',hr,a,b,c⟩:=R.append P (ty:=ty) hts h1 h2 hb hs hx cH
    exact⟨_,v',m',w',by simp[Go.builtin,hr],.inl rfl,a,b,c⟩
  ·rw[if_neg hsl] at hb
   by_cases hil:Fc P ts[1]?=true
   ·rw[if_pos hil] at hb
    cases hts:ts[0]? with
    | none=>simp[hts] at hb
    | some st =>
     simp only[hts] at hb
     have hxt : ∃xt ik,ts[1]?=some xt∧P.underlying xt=some (.int ik):=by
      unfold Fc at hil
      split at hil
      ·rename_i xt h1
       split at hil
       ·rename_i ik h2;exact⟨xt,ik,h1,h2⟩
       ·cases hil
      ·cases hil
     obtain⟨xt,ik,h1,h2⟩:=hxt
     obtain⟨v',m',w',hr,a,b,c⟩:=R.nU P (ty:=ty) hts h1 h2 hb hs hx cH
     exact⟨_,v',m',w',by simp[Go.builtin,hr],.inl rfl,a,b,c⟩
   ·rw[if_neg hil] at hb;cases hb
 ·-- copy
  rename_i d s
  obtain⟨d',s',rfl,hd,hs⟩:=Xm hv
  cases hts:ts[0]? with
  | none=>simp[hts] at hb
  | some dt =>
   simp only[hts] at hb
   obtain⟨w',hr,a,b,c⟩:=R.copy P (ty:=ty) hts hb hd hs
   exact⟨_,_,m,w',by simp[Go.builtin,hr],.inl rfl,a,b,c⟩
 ·-- clear
  rename_i x
  obtain⟨x',rfl,hx⟩:=TE hv
  cases hts:ts[0]? with
  | none=>simp[hts] at hb
  | some t =>
   simp only[hts] at hb
   obtain⟨w',hr,a,b,c⟩:=R.clear P (ty:=ty) hts hb hx
   exact⟨_,_,m,w',by simp[Go.builtin,hr],.inl rfl,a,b,c⟩
 ·-- cap
  rename_i x
  obtain⟨x',rfl,hx⟩:=TE hv
  cases hts:ts[0]? with
  | none=>simp[hts] at hb
  | some t =>
   simp only[hts] at hb
   obtain⟨u,hu,he⟩:=Option.map_eq_some_iff.1 hb
   cases he
   obtain⟨h1,h2⟩:=Rel.cap (w:=w) P (ty:=ty) hts hu hx
   exact .quiet R (by simp[Go.builtin,h1]) (.bV h2)
 ·simp only[cond_eq_ite] at hb
  by_cases hp:vs.all plain=true
  ·rw[if_pos hp] at hb
   obtain⟨u,hu,he⟩:=Option.map_eq_some_iff.1 hb
   cases he
   obtain⟨h1,h2⟩:=gY hu
   have e:vs'=vs.toArray:=by rw[←hv.di hp]
   subst e
   exact .quiet R (by simp only[Go.builtin,Sem.run_bind];rw[show(Builtin.max_ ts ty vs.toArray)=(Builtin.max_ ts 0 vs.toArray) from rfl,h2 w];rfl) (.bV h1)
  ·rw[if_neg hp] at hb;cases hb
 ·simp only[cond_eq_ite] at hb
  by_cases hp:vs.all plain=true
  ·rw[if_pos hp] at hb
   obtain⟨u,hu,he⟩:=Option.map_eq_some_iff.1 hb
   cases he
   obtain⟨h1,h2⟩:=gY hu
   have e:vs'=vs.toArray:=by rw[←hv.di hp]
   subst e
   exact .quiet R (by simp only[Go.builtin,Sem.run_bind];rw[show(Builtin.min_ ts ty vs.toArray)=(Builtin.min_ ts 0 vs.toArray) from rfl,h2 w];rfl) (.bV h1)
  ·rw[if_neg hp] at hb;cases hb
 ·cases hb
set_option maxHeartbeats 16000000
variable {v':Value}{m:Mp}
def aG.my {a:Addr} (h:aG m (.pointer (some a)) v') : ∃a',v'=.pointer (some a'):=by
 cases h with
 | bA h=>simp[Id.bA] at h
 | ptr=>exact⟨_,rfl⟩
def aG.U7 {r:Option Nat} (h:aG m (.map r) v') : ∃r',v'=.map r':=by
 cases h with
 | bA h=>exact⟨_,rfl⟩
 | map=>exact⟨_,rfl⟩
variable {c:Array MapEntry}
def Po {i:Nat} {e:MapEntry} (hb : ∀(j:Nat) (e':MapEntry),c[j]?=some e'→e'.born=j) (hi:c[i]?=some e):c.find? (fun x=>x.born == i)=some e:=by
 have hil:i<c.size:=by
  rcases Nat.lt_or_ge i c.size with h|h
  ·exact h
  ·rw[Array.getElem?_eq_none h] at hi;cases hi
 rw[Array.find?_eq_some_iff_getElem]
 refine⟨by simp[hb i e hi],i,hil,?_,?_⟩
 ·rw[Array.getElem?_eq_getElem hil] at hi;exact Option.some.inj hi
 ·intro j hj
  have:=hb j c[j] (Array.getElem?_eq_getElem (by omega))
  simp[this];omega
variable {w:World}
def qf (P:Program) {r:Nat} {a:Option Nat} {b d:Nat} {c:Array Nat} (h:w.heap[r]?=some (.mapIter a b c d)):(getObj r).run P w=.ok (.mapIter a b c d) w:=by
 simp only[getObj,Sem.run,h]
def rX.born {es:List (Value×Value)} (h:rX m es c) (j:Nat) (e':MapEntry) (he:c[j]?=some e'):e'.born=j:=by
 have hj:j<c.size:=by
  rcases Nat.lt_or_ge j c.size with h|h
  ·exact h
  ·rw[Array.getElem?_eq_none h] at he;cases he
 have hj2:j<es.length:=by have:=h.1;omega
 exact(h.2 j es[j] e' (List.getElem?_eq_getElem hj2) he).2
def Vl {B:Nat} {w0:World} {h h':IH} (R:Rel B w0 m h w) (P:Program) {fr:Fr} {ρ:Operand→Value} (hρ : ∀x v,opd fr x=some v→aG m v (ρ x)) (oper:Oper) {v:Value}
  (hi:iop P fr oper.op h=some (v,h')) (cH:eH m h.n h'.n):IU B w0 m h w ((execOp ρ oper).run P w) v h':=by
 obtain⟨dst,op,ty,pos,aft,gd⟩:=oper
 simp only at hi ⊢
 have q : ∀{x:Operand} {u:Value},(opd fr x).map (·,h)=some (v,h')→h'=h∧aG m v (ρ x):=by
  intro x u hx
  obtain⟨a,ha,he⟩:=Option.map_eq_some_iff.1 hx
  cases he;exact⟨rfl,hρ x _ ha⟩
 unfold iop at hi
 split at hi
 ·-- move
  obtain⟨rfl,hv⟩:=q (u:=.nilFunc) hi
  exact .quiet R (by simp[execOp]) hv
 ·obtain⟨rfl,hv⟩:=q (u:=.nilFunc) hi
  exact .quiet R (by simp[execOp]) hv
 ·-- pick
  rename_i c a b
  split at hi
  ·rename_i hc
   obtain⟨rfl,hv⟩:=q (u:=.nilFunc) hi
   have:=(hρ c _ hc).cu rfl
   exact .quiet R (by simp[execOp,this,asBool]) hv
  ·rename_i hc
   obtain⟨rfl,hv⟩:=q (u:=.nilFunc) hi
   have:=(hρ c _ hc).cu rfl
   exact .quiet R (by simp[execOp,this,asBool]) hv
  ·cases hi
 ·-- alloc
  rename_i t
  obtain⟨z,hz,he⟩:=Option.map_eq_some_iff.1 hi
  cases he
  obtain⟨zv,hz0,hzp,rfl⟩:=dc hz
  obtain⟨R1,S1⟩:=R.newRow (cH h.n (Nat.le_refl _) (Nat.lt_succ_self _)) (aG.bV (m:=m) hzp).cells 0 t
  refine⟨.value (.pointer (some ⟨w.heap.size,0,none⟩)),_,_,_,?_,.inl rfl,?_,R1,S1⟩
  ·simp only[execOp,Instr.alloc,Sem.run_bind,dY w hz0,Result.andThen_ok,newVar,Go.newRow,run_newObj,Sem.run_pure];rfl
  ·exact aG.ptr (s:=0) (o:=0) (Mp.bj _ _ _ _)
 ·-- box
  rename_i t x
  obtain⟨a,ha,he⟩:=Option.map_eq_some_iff.1 hi
  cases he
  have hv:=hρ x a ha
  obtain⟨R1,S1⟩:=R.newRow (cH h.n (Nat.le_refl _) (Nat.lt_succ_self _)) hv.cells 0 t
  refine⟨.value (.pointer (some ⟨w.heap.size,0,none⟩)),_,_,_,?_,.inl rfl,?_,R1,S1⟩
  ·simp only[execOp,Instr.box,Sem.run_bind,Result.andThen_ok,newVar,Go.newRow,run_newObj,Sem.run_pure];rfl
  ·exact aG.ptr (s:=0) (o:=0) (Mp.bj _ _ _ _)
 ·-- build
  rename_i t parts
  split at hi
  ·rename_i z ps hz hps
   simp only[cond_eq_ite] at hi
   by_cases ha:cE P t=true
   ·rw[if_pos ha] at hi
    obtain⟨cs,hcs,he⟩:=Option.map_eq_some_iff.1 hi
    cases he
    obtain⟨cs',h1,h2⟩:=Oa hρ hz hps ha hcs w
    exact .quiet R (by simp only[execOp,Sem.run_bind,h1];rfl) h2
   ·rw[if_neg ha] at hi;cases hi
  ·cases hi
 ·-- buildSlice
  rename_i t len parts
  split at hi
  ·rename_i ps hps
   obtain⟨v',m',w',h1,h2,h3,h4⟩:=(oY P hρ hps hi w).rel R cH
   exact⟨_,v',m',w',by simp only[execOp,Sem.run_bind,h1];rfl,.inl rfl,h2,h3,h4⟩
  ·cases hi
 ·-- load
  rename_i t x
  split at hi
  ·rename_i a ha
   obtain⟨u,hu,he⟩:=Option.map_eq_some_iff.1 hi
   cases he
   obtain⟨v',h1,h2⟩:=R.load hu (hρ x a ha)
   exact .quiet R (by simp[execOp,h1]) h2
  ·cases hi
 ·-- store
  rename_i t x y
  split at hi
  ·rename_i a u ha hu
   obtain⟨hx,hhx,he⟩:=Option.map_eq_some_iff.1 hi
   cases he
   obtain⟨w',h1,h2,h3⟩:=R.store hhx (hρ x a ha) (hρ y u hu)
   exact⟨.skip,undef,m,w',by simp[execOp,h1],.inr ⟨rfl,rfl⟩,.undef m,h2,h3⟩
  ·cases hi
 ·-- nilCheck
  rename_i x
  split at hi
  ·rename_i a ha
   cases hi
   have hv:=hρ x _ ha
   obtain⟨a',e⟩:=hv.my
   exact .quiet R (v':=ρ x) (by simp[execOp,e]) hv
  ·rename_i f xs ys ha
   cases hi
   have hv:=hρ x _ ha
   obtain⟨fn',xs',ys',e,hf,h1,h2⟩:=hv.vV
   cases fn'<;>simp[si] at hf
   subst hf
   exact .quiet R (v':=ρ x) (by simp[execOp,e]) hv
  ·rename_i f xs ys ha
   cases hi
   have hv:=hρ x _ ha
   obtain⟨fn',xs',ys',e,hf,h1,h2⟩:=hv.vV
   cases fn'<;>simp[si] at hf
   exact .quiet R (v':=ρ x) (by simp[execOp,e]) hv
  ·rename_i r ha
   cases hi
   have hv:=hρ x _ ha
   obtain⟨r',e⟩:=hv.U7
   exact .quiet R (v':=ρ x) (by simp[execOp,e]) hv
  ·cases hi
 ·-- binOp
  rename_i op t x y yt
  split at hi
  ·rename_i a b ha hb
   obtain⟨u,hu,he⟩:=Option.map_eq_some_iff.1 hi
   cases he
   obtain⟨h1,h2⟩:=Oc hu (hρ x a ha) (hρ y b hb) w
   exact .quiet R (by simp only[execOp,Sem.run_bind] at h1 ⊢;rw[h1];rfl) (.bV h2)
  ·cases hi
 ·-- unOp
  rename_i op t x
  split at hi
  ·rename_i a ha
   simp only[cond_eq_ite] at hi
   by_cases hp:plain a=true
   ·rw[if_pos hp] at hi
    obtain⟨u,hu,he⟩:=Option.map_eq_some_iff.1 hi
    cases he
    obtain⟨h1,h2⟩:=gY hu
    exact .quiet R (by simp only[execOp,(hρ x a ha).di hp,Sem.run_bind,h2 w];rfl) (.bV h1)
   ·rw[if_neg hp] at hi;cases hi
  ·cases hi
 ·-- convert
  rename_i s d x
  split at hi
  ·rename_i a ha
   simp only[cond_eq_ite] at hi
   by_cases hp:plain a=true
   ·rw[if_pos hp] at hi
    obtain⟨u,hu,he⟩:=Option.map_eq_some_iff.1 hi
    cases he
    obtain⟨h1,h2⟩:=gY hu
    exact .quiet R (by simp only[execOp,(hρ x a ha).di hp,Sem.run_bind,h2 w];rfl) (.bV h1)
   ·rw[if_neg hp] at hi;cases hi
  ·cases hi
 ·-- sliceToArrayPointer
  rename_i t x
  split at hi
  ·rename_i n e b o len k hu ha
   simp only[cond_eq_ite] at hi
   by_cases hc:(Nat.ble n len && Nat.blt 0 k)=true
   ·rw[if_pos hc] at hi;cases hi
    simp only[Bool.and_eq_true,Nat.ble_eq,Nat.blt_eq] at hc
    rcases(hρ x _ ha).dI with⟨r,s,cap,hm,_,_,_,_,_,e⟩|⟨_,hk,_⟩
    ·exact .quiet R (v':=.pointer (some ⟨r,s+o,none⟩)) (by simp[execOp,e,Instr.arrayAt,Go.run_underlying hu];omega) (.ptr hm)
    ·omega
   ·rw[if_neg hc] at hi;cases hi
  ·cases hi
 ·-- makeFunc
  rename_i fn first cap
  split at hi
  ·rename_i a b ha hb
   split at hi
   ·rename_i f
    cases hi
    have h1:=rh hρ _ _ ha
    have h2:=rh hρ _ _ hb
    exact .quiet R (v':=.func (.func f) (first.map ρ) (cap.map ρ)) (by simp[execOp,Instr.makeFunc]) (aG.Fo rfl (by simpa using h1) (by simpa using h2))
   ·cases hi
  ·cases hi
 ·-- makeMap
  rename_i t r
  have fin : ∀{v h'},some (Value.map (some (2*h.n)),h.new (.map []))=some (v,h')→eH m h.n h'.n→((Instr.makeMap t (r.map ρ)).run P w=.ok (.map (some w.heap.size)) (w.alloc (.map #[] 0))) →
    IU B w0 m h w ((execOp ρ { dst:=dst,op:=.makeMap t r,type:=ty,pos:=pos,after:=aft,guard:=gd }).run P w) v h':=by
   intro v h' e cH bD
   cases e
   obtain⟨R1,S1⟩:=R.new (.map []) (.map #[] 0) (0,0) (cH h.n (Nat.le_refl _) (Nat.lt_succ_self _)) ⟨rfl,#[],by rw[heap_alloc,if_pos rfl];rfl,rfl,by simp⟩ rfl
   exact⟨.value (.map (some w.heap.size)),_,_,_,by simp[execOp,bD],.inl rfl,.map (Mp.bj _ _ _ _),R1,S1⟩
  split at hi
  ·exact fin hi cH (by simp only[Option.map_none,Instr.makeMap,Sem.run_bind,Sem.run_pure,Result.andThen_ok,run_newObj];rfl)
  ·rename_i x
   split at hi
   ·rename_i k n kt et hx hu
    have:=(hρ x _ hx).cu rfl
    exact fin hi cH (by simp only[Option.map_some,this,Instr.makeMap,Sem.run_bind,Go.run_underlying hu,asInt,asIntOf,Sem.run_pure,Result.andThen_ok,run_newObj];rfl)
   ·cases hi
 ·-- makeSlice
  rename_i t l c
  split at hi
  ·rename_i a b ha hb
   obtain⟨v',m',w',h1,h2,h3,h4⟩:=(qi P hi (hρ l a ha) (hρ c b hb) w).rel R cH
   exact⟨_,v',m',w',by simp only[execOp,Sem.run_bind,h1];rfl,.inl rfl,h2,h3,h4⟩
  ·cases hi
 ·-- slice
  rename_i t x lo hi' mx
  split at hi
  ·rename_i a b c d ha hb hc hd
   obtain⟨u,hu,he⟩:=Option.map_eq_some_iff.1 hi
   cases he
   obtain⟨v',h1,h2⟩:=R.cT P hu (hρ x a ha) (ui hρ hb) (ui hρ hc) (ui hρ hd)
   exact .quiet R (by simp only[execOp,Sem.run_bind,h1];rfl) h2
  ·cases hi
 ·-- fieldAddr
  rename_i t x f
  split at hi
  ·rename_i a fd ha hf
   split at hi
   ·rename_i b o n hA hS
    simp only[cond_eq_ite,beq_iff_eq] at hi
    by_cases h0:n=0
    ·rw[if_pos h0] at hi;cases hi
    ·rw[if_neg h0] at hi;cases hi
     have hp:a=.pointer (some ⟨b,o,none⟩):=by unfold Id.asAddr at hA;split at hA<;>simp_all
     subst hp
     obtain⟨r,s,hm,e⟩:=(hρ x _ ha).kH
     unfold fG at hf
     cases hu:P.underlying t with
     | none=>simp[hu] at hf
     | some d =>
      rw[hu] at hf
      cases d with
      | struct fs =>
       simp only at hf
       refine .quiet R (v':=.pointer (some ⟨r,s+(o+fd.offset),none⟩)) ?_ (.ptr hm)
       simp[execOp,e,Instr.fieldAt,Go.run_underlying hu,hf,Instr.sureAddr,fieldPlace,cd w hS,h0,kY,Nat.add_assoc]
      | _=>simp at hf
   ·cases hi
  ·cases hi
 ·-- field
  rename_i t x f
  split at hi
  ·rename_i cs fd ha hf
   obtain⟨u,hu,he⟩:=Option.map_eq_some_iff.1 hi
   cases he
   obtain⟨cs',e,hL⟩:=(hρ x _ ha).qa
   obtain⟨v',h1,h2⟩:=GV P hu hL w
   unfold fG at hf
   cases hut:P.underlying t with
   | none=>simp[hut] at hf
   | some d =>
    rw[hut] at hf
    cases d with
    | struct fs =>
     simp only at hf
     exact .quiet R (by simp[execOp,e,Instr.field,Go.run_underlying hut,hf,asAgg,h1]) h2
    | _=>simp at hf
  ·cases hi
 ·-- indexAddr
  rename_i t x i
  split at hi
  ·rename_i a b ha hb
   obtain⟨u,hu,he⟩:=Option.map_eq_some_iff.1 hi
   cases he
   obtain⟨v',h1,h2⟩:=BU P hu (hρ x a ha) (hρ i b hb) w
   exact .quiet R (by simp only[execOp,Sem.run_bind,h1];rfl) h2
  ·cases hi
 ·-- index
  rename_i t x i
  split at hi
  ·rename_i cs b ha hb
   split at hi
   ·rename_i n e j hu hj
    simp only[cond_eq_ite,Nat.blt_eq] at hi
    by_cases hlt:j<n
    ·rw[if_pos hlt] at hi
     split at hi
     ·rename_i size hS
      obtain⟨u,hu2,he⟩:=Option.map_eq_some_iff.1 hi
      cases he
      obtain⟨cs',e1,hL⟩:=(hρ x _ ha).qa
      obtain⟨k,e2⟩:=xh (hρ i b hb) hj
      obtain⟨v',h1,h2⟩:=GV P hu2 hL w
      refine .quiet R (v':=v') ?_ h2
      have h3:(0:Int)≤Int.ofNat j∧Int.ofNat j<(n:Int):=by constructor<;>simp<;>omega
      simp only[execOp,e1,e2,Instr.index,asIntOf,Sem.run_bind,Sem.run_pure,Result.andThen_ok,Go.run_underlying hu]
      rw[if_pos h3]
      simp[cd w hS,h1]
     ·cases hi
    ·rw[if_neg hlt] at hi;cases hi
   ·cases hi
  ·rename_i s b ha hb
   simp only[cond_eq_ite] at hi
   by_cases hp:plain b=true
   ·rw[if_pos hp] at hi
    obtain⟨u,hu,he⟩:=Option.map_eq_some_iff.1 hi
    cases he
    obtain⟨h1,h2⟩:=gY hu
    have e1:=(hρ x _ ha).cu rfl
    exact .quiet R (by simp only[execOp,(hρ i b hb).di hp,e1,Sem.run_bind,h2 w];rfl) (.bV h1)
   ·rw[if_neg hp] at hi;cases hi
  ·cases hi
 ·-- lookup
  rename_i t x k ok
  split at hi
  ·rename_i a b ha hb
   obtain⟨u,hu,he⟩:=Option.map_eq_some_iff.1 hi
   cases he
   obtain⟨v',h1,h2⟩:=R.lookup P hu (hρ x a ha) (hρ k b hb)
   exact .quiet R (by simp only[execOp,Sem.run_bind,h1];rfl) h2
  ·cases hi
 ·-- mapUpdate
  rename_i t x k y
  split at hi
  ·rename_i a b c ha hb hc
   obtain⟨hx,hhx,he⟩:=Option.map_eq_some_iff.1 hi
   cases he
   obtain⟨w',h1,h2,h3⟩:=R.mapUpdate P hhx (hρ x a ha) (hρ k b hb) (hρ y c hc)
   exact⟨.skip,undef,m,w',by simp only[execOp,Sem.run_bind,h1];rfl,.inr ⟨rfl,rfl⟩,.undef m,h2,h3⟩
  ·cases hi
 ·-- insert
  rename_i t x k y
  split at hi
  ·rename_i a b c ha hb hc
   obtain⟨hx,hhx,he⟩:=Option.map_eq_some_iff.1 hi
   cases he
   obtain⟨w',h1,h2,h3⟩:=R.mapUpdate P hhx (hρ x a ha) (hρ k b hb) (hρ y c hc)
   exact⟨.skip,undef,m,w',by simp only[execOp,Sem.run_bind,h1];rfl,.inr ⟨rfl,rfl⟩,.undef m,h2,h3⟩
  ·cases hi
 ·-- extract
  rename_i x i
  split at hi
  ·rename_i vs ha
   obtain⟨u,hu,he⟩:=Option.map_eq_some_iff.1 hi
   cases he
   obtain⟨vs',e,hL⟩:=(hρ x _ ha).oE
   obtain⟨v',h1,h2⟩:=hL.get (i:=i) (by simpa using hu)
   have h3:vs'[i]?=some v':=by simpa using h1
   exact .quiet R (v':=v') (by simp[execOp,e,Instr.extract,h3]) h2
  ·cases hi
 ·-- range over a map
  rename_i t x
  split at hi
  ·rename_i kt et k hu hx
   obtain⟨es,hes,he⟩:=Option.map_eq_some_iff.1 hi
   cases he
   obtain⟨rm,s,hm,hρx⟩ : ∃rm s,m k=some (rm,s)∧ρ x=.map (some rm):=by
    have:=hρ x _ hx
    generalize ρ x=y at this
    cases this with
    | bA h=>simp[Id.bA] at h
    | map hm=>exact⟨_,_,hm,rfl⟩
   obtain⟨hg,hkk,c,oP,hcm⟩:=R.CX hes hm
   have hs0:s=0:=(R.obj (k / 2) _ rm s hg (by rw[hkk];exact hm)).1
   subst hs0
   obtain⟨R1,S1⟩:=R.new (.iter k es.length [] es.length) (.mapIter (some rm) es.length #[] es.length) (0,0) (cH h.n (Nat.le_refl _) (Nat.lt_succ_self _)) ⟨rfl,rm,by rw[heap_alloc,if_pos rfl],hm⟩ rfl
   refine⟨.value (.pointer (some ⟨w.heap.size,0,none⟩)),_,_,_,?_,.inl rfl,.ptr (s:=0) (o:=0) (Mp.bj _ _ _ _),R1,S1⟩
   simp only[execOp,Instr.range,hρx,Sem.run_bind,Go.run_underlying hu,Result.andThen_ok,run_getObj_map P oP,run_newObj,Sem.run_pure]
   rfl
  ·cases hi
 ·-- a map's entry
  rename_i x
  split at hi
  ·rename_i b hx
   simp only[cond_eq_ite,beq_iff_eq] at hi
   split at hi
   ·cases hi
   ·rename_i hb
    split at hi
    ·rename_i k since seen last hit
     split at hi
     ·rename_i es i hes Zbw
      split at hi
      ·rename_i ZbJ
       obtain⟨e,hei,he⟩:=Option.map_eq_some_iff.1 hi
       cases he
       obtain⟨r,s,hm,hρx⟩:=(hρ x _ hx).kH
       obtain⟨hs0,rm,oP,hmk⟩:=R.obj (b / 2) _ r s hit (by rw[show 2*(b / 2)=b from by omega];exact hm)
       subst hs0
       obtain⟨hg,hkk,c,B5,hcm⟩:=R.CX hes hmk
       have hil:i<es.length:=by
        rcases Nat.lt_or_ge i es.length with h|h
        ·exact h
        ·rw[List.getElem?_eq_none h] at hei;cases hei
       have hic:i<c.size:=by have:=hcm.1;omega
       have hE:=(hcm.2 i e c[i] hei (Array.getElem?_eq_getElem hic)).1
       have vU:=Po hcm.born (Array.getElem?_eq_getElem hic)
       have AW:seen.toArray.back?=some i:=by rw[←Zbw];simp[Array.back?,List.getLast?_eq_getElem?]
       refine .quiet R (v':=.tuple #[c[i].key,c[i].val]) ?_ (aG.fI (.cons ?_ (.cons hE.2.2 (.nil m))))
       ·subst ZbJ
        simp only[execOp,Instr.entry,hρx,Nat.zero_add,Sem.run_bind,qf P oP,AW,run_getObj_map P B5,Result.andThen_ok,bne_self_eq_false,Bool.false_eq_true,if_false,vU,Sem.run_pure]
       ·rw[hE.1];exact aG.bV hE.2.1
      ·cases hi
     ·cases hi
    ·cases hi
  ·cases hi
 ·-- call of a builtin
  rename_i c
  split at hi
  ·rename_i b hb
   split at hi
   ·rename_i vs hvs
    have hL:=rh hρ _ _ hvs
    have:=R.builtin P (ty:=ty) (consts:=c.args.map fun|.const _=>true|_=>false) (vs':=c.args.map ρ) hi (by simpa using hL) cH
    obtain⟨nx,v',m',w',h1,h2⟩:=this
    refine⟨nx,v',m',w',?_,h2⟩
    rw[←h1]
    simp only[execOp,resolve,hb,Sem.run_bind,Sem.run_pure,Result.andThen_ok,invoke]
    rfl
   ·cases hi
  ·cases hi
 ·cases hi
end Go.Id
