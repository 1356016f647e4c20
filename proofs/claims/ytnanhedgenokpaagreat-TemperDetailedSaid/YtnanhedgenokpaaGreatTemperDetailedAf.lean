/-
  The ideal machine: the other operations, first part: parts, slices, makes. The ideal machine: slices' expressions, makes, addresses, maps.
-/
import Derived.Test.YtnanhedgenokpaaGreatTemperDetailedAe
import Derived.Laws.Tables
import Derived.Laws.BitsLemmas
set_option linter.unusedVariables false
set_option linter.unusedSimpArgs false
set_option linter.defProp false
set_option linter.deprecated false
namespace Go.Id
open Go Go.RowKit
theorem toList_setsA (c:Array Value) (q:Nat) (vs:List Value) (h:q+vs.length≤c.size):(setsA c q vs).toList=IH.splice c.toList q vs:=by
 apply List.ext_getElem?
 intro i
 rw[Array.getElem?_toList (xs:=setsA c q vs),get_setsA _ _ _ _ h,get_splice _ _ _ (by simpa using h)]
 split<;>simp
theorem fold_setsA (off:Nat) : ∀(l:List Value) (k:Nat) (c:Array Value),(l.zipIdx k).foldl (fun cs p=>cs.setIfInBounds (off+p.2) p.1) c=setsA c (off+k) l
 | [],k,c=>rfl
 | v :: l,k,c=>by
  rw[List.zipIdx_cons,List.foldl_cons,fold_setsA off l (k+1),setsA,Nat.add_assoc]
def PartRel (m:Mp) (a b:Nat×Value):Prop:=b.1=a.1∧VRel m a.2 b.2
theorem LRel.splice {m:Mp} {a a' b b':List Value} (h:LRel m a a') (k:LRel m b b') (o:Nat) (hb:o+b.length≤a.length):LRel m (IH.splice a o b) (IH.splice a' o b'):=by
 have h1:=h.1;have h2:=k.1
 unfold IH.splice
 rw[←h2]
 exact(h.take o).append (k.append (h.drop _))
theorem fill_rel {m:Mp} (place:Nat→Option (Nat×Nat)) : ∀(ps ps':List (Nat×Value)) (cs:List Value) (c':Array Value) (r:List Value),LRel m cs c'.toList →
  ps.length=ps'.length→(∀(i:Nat) (a b:Nat×Value),ps[i]?=some a→ps'[i]?=some b→PartRel m a b)→fillP place cs ps=some r → ∃r',Instr.fill place c' ps'=some r'∧LRel m r r'.toList
 | [],[],cs,c',r,h,_,_,hf=>by simp only[fillP] at hf;cases hf;exact⟨c',rfl,h⟩
 | [],_ :: _,_,_,_,_,hl,_,_=>by simp at hl
 | _ :: _,[],_,_,_,_,hl,_,_=>by simp at hl
 | (i,v) :: ps,(i',v') :: ps',cs,c',r,h,hl,hp,hf=>by
  obtain⟨h1,h2⟩:=hp 0 _ _ rfl rfl
  simp only at h1 h2;subst h1
  rw[fillP] at hf
  cases hpl:place i' with
  | none=>simp[hpl] at hf
  | some on =>
   obtain⟨o,n⟩:=on
   simp only[hpl,cond_eq_ite] at hf
   by_cases hc:(v.cells.size == n && Nat.ble (o+n) cs.length)=true
   ·rw[if_pos hc] at hf
    simp only[Bool.and_eq_true,beq_iff_eq,Nat.ble_eq] at hc
    have hcs:c'.size=cs.length:=by have:=h.1;simp at this;omega
    have hv':=cells_size h2
    have hlen:o+v'.cells.toList.length≤c'.size:=by rw[Array.length_toList,hv',hc.1,hcs];exact hc.2
    have hfold:v'.cells.zipIdx.foldl (fun cs x=>match x with|(c,j)=>cs.setIfInBounds (o+j) c) c'=setsA c' o v'.cells.toList:=by
     rw[←Array.foldl_toList,Array.toList_zipIdx]
     exact fold_setsA o v'.cells.toList 0 c'
    rw[Instr.fill,hpl]
    simp only
    rw[hfold,if_neg (by simp only[ne_eq,Bool.or_eq_true,decide_eq_true_eq,not_or,Decidable.not_not,gt_iff_lt,Nat.not_lt];exact⟨by rw[hv',hc.1],by rw[hv',hc.1,hcs];exact hc.2⟩)]
    refine fill_rel place ps ps' _ _ r ?_ (by simpa using hl) (fun j a b ha hb=>hp (j+1) a b (by simpa using ha) (by simpa using hb)) hf
    rw[toList_setsA _ _ _ hlen]
    exact h.splice h2.cells o (by rw[Array.length_toList,hc.1];exact hc.2)
   ·rw[if_neg hc] at hf;cases hf
theorem partsOf_rel {m:Mp} {fr:Fr} {ρ:Operand→Value} (hρ : ∀x v,opd fr x=some v→VRel m v (ρ x)) : ∀(l:List (Nat×Operand)) (ps:List (Nat×Value)),partsOf fr l=some ps →
  ps.length=l.length ∧ ∀(i:Nat) (a b:Nat×Value),ps[i]?=some a→(l.map fun p=>(p.1,ρ p.2))[i]?=some b→PartRel m a b
 | [],ps,h=>by simp only[partsOf] at h;cases h;exact⟨rfl,by simp⟩
 | (i,x) :: l,ps,h=>by
  rw[partsOf] at h
  cases hx:opd fr x with
  | none=>simp[hx] at h
  | some v =>
   cases hl:partsOf fr l with
   | none=>simp[hx,hl] at h
   | some vs =>
    simp only[hx,hl] at h;cases h
    obtain⟨h1,h2⟩:=partsOf_rel hρ l vs hl
    refine⟨by simp[h1],fun j a b ha hb=>?_⟩
    cases j with
    | zero=>simp at ha hb;subst ha;subst hb;exact⟨rfl,hρ x v hx⟩
    | succ j=>simp at ha hb;exact h2 j a b ha (by simpa using hb)
theorem sim_build {m:Mp} {P:Program} {t:TypeId} {fr:Fr} {ρ:Operand→Value} (hρ : ∀x v,opd fr x=some v→VRel m v (ρ x)) {parts:Array (Nat×Operand)} {z cs:List Value} {ps:List (Nat×Value)}
  (hz:zeroCellsT P t=some z) (hps:partsOf fr parts.toList=some ps) (ha:allSized P t=true) (hf:fillP (placeOf P t) z ps=some cs) (w:World) :
  ∃cs',(Instr.build t (parts.map fun(i,x)=>(i,ρ x))).run P w=.ok (.agg cs') w∧VRel m (.agg cs.toArray) (.agg cs'):=by
 obtain⟨zv,hz1,hz2,rfl⟩:=zeroCellsT_spec hz
 unfold zeroT at hz1
 obtain⟨it,hit,hz3⟩:=Option.bind_eq_some_iff.1 hz1
 obtain⟨hl,hp⟩:=partsOf_rel hρ _ _ hps
 have hL0:LRel m zv.cells.toList zv.cells.toList:=(VRel.plain_mk hz2).cells
 have hmap:(parts.map fun(x:Nat×Operand)=>match x with|(i,x)=>(i,ρ x)).toList=parts.toList.map fun p=>(p.1,ρ p.2):=by rw[Array.toList_map]
 have key : ∀place:Nat→Option (Nat×Nat),(∀i p,placeOf P t i=some p→place i=some p) → ∃r',Instr.fill place zv.cells (parts.toList.map fun p=>(p.1,ρ p.2))=some r'∧LRel m cs r'.toList:=by
  intro place hplace
  have up : ∀(ps:List (Nat×Value)) (a r:List Value),fillP (placeOf P t) a ps=some r→fillP place a ps=some r:=by
   intro ps
   induction ps with
   | nil=>intro a r h;exact h
   | cons p ps ih =>
    obtain⟨i,v⟩:=p
    intro a r h
    rw[fillP] at h ⊢
    cases hpi:placeOf P t i with
    | none=>simp[hpi] at h
    | some on =>
     rw[hplace i on hpi]
     rw[hpi] at h
     obtain⟨o,n⟩:=on
     simp only[cond_eq_ite] at h ⊢
     by_cases hc:(v.cells.size == n && Nat.ble (o+n) a.length)=true
     ·rw[if_pos hc] at h ⊢;exact ih _ _ h
     ·rw[if_neg hc] at h;cases h
  exact fill_rel place ps _ _ _ _ hL0 (by simp[hl]) hp (up ps _ _ hf)
 have hb : ∃r',P.built t (parts.map fun(x:Nat×Operand)=>match x with|(i,x)=>(i,ρ x)).toList=some r'∧LRel m cs r'.toList:=by
  rw[hmap]
  unfold Program.built allSized at *
  cases hu:P.underlying t with
  | none=>simp[hu] at ha
  | some d =>
   rw[hu] at ha
   cases d with
   | array n e =>
    simp only[Option.isSome_iff_exists] at ha
    obtain⟨ie,hie⟩:=ha
    obtain⟨r',h1,h2⟩:=key (fun i=>some (i*ie.size,ie.size)) (by
     intro i p hpi
     simp only[placeOf,hu,sizeT,hie,Option.map_some] at hpi
     exact hpi)
    refine⟨r',?_,h2⟩
    simp only[hit,hz3,hie]
    exact h1
   | struct fs =>
    simp only[Array.all_eq_true_iff_forall_mem,Option.isSome_iff_exists] at ha
    have hpl : ∀(l:List Field),(∀f∈l,∃i,P.info? f.type=some i) → ∃pl,l.mapM (fun f=>(P.info? f.type).map fun i=>(f.offset,i.size))=some pl ∧ ∀(j:Nat) (f:Field),l[j]?=some f → ∃i,P.info? f.type=some i∧pl[j]?=some (f.offset,i.size):=by
     intro l
     induction l with
     | nil=>intro _;exact⟨[],rfl,by simp⟩
     | cons f l ih =>
      intro h
      obtain⟨i,hi⟩:=h f (by simp)
      obtain⟨pl,h1,h2⟩:=ih (fun g hg=>h g (by simp[hg]))
      refine⟨(f.offset,i.size) :: pl,by simp[List.mapM_cons,hi,h1],fun j g hj=>?_⟩
      cases j with
      | zero=>simp at hj;subst hj;exact⟨i,hi,rfl⟩
      | succ j=>simp at hj;obtain⟨i',a,b⟩:=h2 j g hj;exact⟨i',a,by simpa using b⟩
    obtain⟨pl,hpl1,hpl2⟩:=hpl fs.toList (fun f hf=>ha f (by simpa using hf))
    obtain⟨r',h1,h2⟩:=key (pl.toArray[·]?) (by
     intro i p hpi
     simp only[placeOf,hu] at hpi
     cases hfi:fs[i]? with
     | none=>simp[hfi] at hpi
     | some f =>
      simp only[hfi,sizeT] at hpi
      obtain⟨i',a,b⟩:=hpl2 i f (by simpa using hfi)
      rw[a] at hpi
      simp only[Option.map_some] at hpi
      rw[←hpi]
      simpa using b)
    refine⟨r',?_,h2⟩
    simp only[hit,hz3,hpl1]
    exact h1
   | _=>simp at ha
 obtain⟨r',h1,h2⟩:=hb
 exact⟨r',run_build w t _ r' h1,VRel.agg_iff (by simpa using h2)⟩
end Go.Id

namespace Go.Id
open Go Go.RowKit
theorem natOf_spec {m:Mp} {v v':Value} {most n:Nat} (h:natOf v most=some n) (hv:VRel m v v') : ∃k,v'=.int k (n:Int)∧n≤most:=by
 unfold natOf at h
 split at h
 ·rename_i k i
  have hv':=hv.scal_eq rfl
  subst hv'
  cases i with
  | ofNat j =>
   simp only[cond_eq_ite,Nat.ble_eq] at h
   by_cases hj:j≤most
   ·rw[if_pos hj] at h;cases h;exact⟨k,rfl,hj⟩
   ·rw[if_neg hj] at h;cases h
  | negSucc j=>simp at h
 ·cases h
theorem run_bound (P:Program) (w:World) (k:IntKind) (n y:Nat) (code:BoundsCode) (h:n≤y):(Instr.sliceBound (.int k (n:Int)) y code).run P w=.ok n w:=by
 simp only[Instr.sliceBound,asIntOf,Sem.run_bind,Sem.run_pure,Result.andThen_ok]
 rw[if_pos (by omega)]
 simp
def OptRel (m:Mp):Option Value→Option Value→Prop
 | none,none=>True
 | some v,some v'=>VRel m v v'
 | _,_=>False
theorem OptRel.none_inv {m:Mp} {x:Option Value} (h:OptRel m none x):x=none:=by cases x<;>simp_all [OptRel]
theorem OptRel.some_inv {m:Mp} {v:Value} {x:Option Value} (h:OptRel m (some v) x) : ∃v',x=some v'∧VRel m v v':=by
 cases x with
 | none=>simp[OptRel] at h
 | some v'=>exact⟨v',rfl,h⟩
theorem boundsOf_sim (P:Program) (w:World) {m:Mp} (isSlice:Bool) {len cap c:Nat} {lo hi mx lo' hi' mx':Option Value} (hlo:OptRel m lo lo') (hhi:OptRel m hi hi') (hmx:OptRel m mx mx')
  {l h:Nat} {om:Option Nat} (hb:boundsOf len c lo hi mx=some (l,h,om)) (hc:c≤cap) (hlen:len≤c) :
  (Instr.sliceBounds isSlice len cap lo' hi' mx').run P w=.ok (l,h,om.getD cap) w∧l≤h∧h≤om.getD c∧om.getD c≤c:=by
 have low : ∀{h l:Nat},loOf lo h=some l→l≤h ∧ ∀code,(match lo' with|some v=>Instr.sliceBound v h code|none=>pure 0:Sem Nat).run P w=.ok l w:=by
  intro h l hl
  unfold loOf at hl
  cases lo with
  | none=>rw[hlo.none_inv];simp only at hl;cases hl;exact⟨Nat.zero_le _,fun _=>rfl⟩
  | some v =>
   obtain⟨v',rfl,hv⟩:=hlo.some_inv
   obtain⟨k,rfl,hle⟩:=natOf_spec hl hv
   exact⟨hle,fun code=>run_bound P w k l h code hle⟩
 unfold boundsOf at hb
 cases mx with
 | none =>
  rw[hmx.none_inv]
  simp only at hb
  cases hh:hiOf hi len c with
  | none=>simp[hh] at hb
  | some h1 =>
   simp only[hh] at hb
   cases hl:loOf lo h1 with
   | none=>simp[hl] at hb
   | some l1 =>
    simp only[hl] at hb;cases hb
    obtain⟨h2,hrun⟩:=low hl
    unfold hiOf at hh
    cases hi with
    | none =>
     rw[hhi.none_inv]
     simp only at hh;cases hh
     refine⟨?_,h2,hlen,Nat.le_refl _⟩
     have:=hrun .sliceB
     cases lo'<;>simp_all [Instr.sliceBounds]
    | some v =>
     obtain⟨v',rfl,hv⟩:=hhi.some_inv
     obtain⟨k,rfl,hle⟩:=natOf_spec hh hv
     refine⟨?_,h2,hle,Nat.le_refl _⟩
     have hb:=fun code=>run_bound P w k h cap code (by omega)
     have:=hrun .sliceB
     cases lo'<;>simp_all [Instr.sliceBounds]
 | some mv =>
  obtain⟨mv',rfl,hmv⟩:=hmx.some_inv
  simp only at hb
  cases hm:natOf mv c with
  | none=>simp[hm] at hb
  | some mm =>
   simp only[hm] at hb
   obtain⟨k,rfl,hmc⟩:=natOf_spec hm hmv
   have hb1:=fun code=>run_bound P w k mm cap code (by omega)
   cases hi with
   | none=>simp at hb
   | some hv =>
    obtain⟨hv',rfl,hhv⟩:=hhi.some_inv
    simp only at hb
    cases hh:natOf hv mm with
    | none=>simp[hh] at hb
    | some h1 =>
     simp only[hh] at hb
     obtain⟨k2,rfl,hhm⟩:=natOf_spec hh hhv
     have hb2:=fun code=>run_bound P w k2 h1 mm code hhm
     cases hl:loOf lo h1 with
     | none=>simp[hl] at hb
     | some l1 =>
      simp only[hl] at hb;cases hb
      obtain⟨h2,hrun⟩:=low hl
      refine⟨?_,h2,hhm,hmc⟩
      have:=hrun .slice3C
      cases lo'<;>simp_all [Instr.sliceBounds]
theorem addr_add' (r p n:Nat):Addr.add ⟨r,p,none⟩ n=⟨r,p+n,none⟩:=addr_add r p n
theorem resliced_sim {m:Mp} {size:Nat} {room:Bool} {b o len k r s cap:Nat} {lo hi mx lo' hi' mx':Option Value} {v:Value} (hr:resliced size room (.slice (some ⟨b,o,none⟩) len k) lo hi mx=some v)
  (hm:m b=some (r,s)) (hk0:0<k) (hl:len≤k / 2) (hkc:k / 2≤cap) (hx:k % 2=1→cap=k / 2) (hz:k % 2=0→s+o+cap*(m.ez b).1≤(m.ez b).2) (hroom:room=true→(m.ez b).1=size)
  (hlo:OptRel m lo lo') (hhi:OptRel m hi hi') (hmx:OptRel m mx mx') (P:Program) (isSlice:Bool) (w:World) :
  ∃l h mm,(Instr.sliceBounds isSlice len cap lo' hi' mx').run P w=.ok (l,h,mm) w∧VRel m v (.slice (some (if mm=l then ⟨r,s+o,none⟩ else Addr.add ⟨r,s+o,none⟩ (l*size))) (h - l) (mm - l)):=by
 unfold resliced at hr
 cases hb:boundsOf len (k / 2) lo hi mx with
 | none=>simp[hb] at hr
 | some lhm =>
  obtain⟨l,h,om⟩:=lhm
  simp only[hb,cond_eq_ite,beq_iff_eq] at hr
  obtain⟨hrun,h1,h2,h3⟩:=boundsOf_sim P w isSlice hlo hhi hmx hb hkc hl
  rw[if_neg (by omega)] at hr
  refine⟨l,h,_,hrun,?_⟩
  cases om with
  | none =>
   simp only[Option.getD_none] at hr h2 h3 ⊢
   by_cases hlk:l=k / 2
   ·rw[if_pos hlk] at hr
    have hh0:h - l=0:=by omega
    rw[hh0]
    by_cases hodd:k % 2=1
    ·rw[if_pos hodd] at hr;cases hr
     have:=hx hodd
     rw[if_pos (by omega)]
     rw[show cap - l=0 from by omega]
     exact .slice hm (by omega) (by omega) (by omega) (by intro _;rfl) (by intro e;omega)
    ·rw[if_neg hodd] at hr;cases hr
     exact .lost
   ·rw[if_neg hlk] at hr
    by_cases hod:(k % 2 == 1 || room)=true
    ·rw[if_pos hod] at hr;cases hr
     rw[if_neg (by omega),addr_add']
     have e1:s+o+l*size=s+(o+l*size):=by omega
     rw[e1]
     refine .slice hm (by omega) (by omega) (by omega) (fun e=>by have:=hx (by omega);omega) (fun e=>?_)
     have hev:k % 2=0:=by omega
     have hrm:room=true:=by
      simp only[Bool.or_eq_true,beq_iff_eq] at hod
      rcases hod with h|h
      ·omega
      ·exact h
     have hsz:=hroom hrm
     have h1:=hz hev
     rw[hsz] at h1 ⊢
     have:(cap - l)*size+l*size=cap*size:=by rw[←Nat.add_mul];congr 1;omega
     omega
    ·rw[if_neg hod] at hr;cases hr
  | some mm =>
   simp only[Option.getD_some] at hr h2 h3 ⊢
   by_cases hlm:l=mm
   ·rw[if_pos hlm] at hr;cases hr
    rw[if_pos hlm.symm,show h - l=0 from by omega,show mm - l=0 from by omega]
    exact .slice hm (by omega) (by omega) (by omega) (by intro _;rfl) (by intro e;omega)
   ·rw[if_neg hlm] at hr;cases hr
    rw[if_neg (fun e=>hlm e.symm),addr_add']
    have e1:s+o+l*size=s+(o+l*size):=by omega
    rw[e1]
    exact .slice hm (by omega) (by omega) (by omega) (by intro _;omega) (by intro e;omega)
theorem roomy_spec {B:Nat} {w0:World} {m:Mp} {h:IH} {w:World} (R:Rel B w0 m h w) {size b o len k r s:Nat} (hr:roomy h size (.slice (some ⟨b,o,none⟩) len k)=true) (hm:m b=some (r,s)):(m.ez b).1=size:=by
 unfold roomy at hr
 simp only[Bool.and_eq_true,beq_iff_eq] at hr
 obtain⟨hb,hr⟩:=hr
 cases hg:h.ext.get (b / 2) with
 | none=>simp[hg] at hr
 | some x =>
  rw[hg] at hr
  cases x with
  | cells cs e f =>
   simp only[beq_iff_eq] at hr
   have hb':2*(b / 2)=b:=by omega
   obtain⟨c,el,_,_,h1,_⟩:=R.obj (b / 2) _ r s hg (by rw[hb'];exact hm)
   rw[hb'] at h1
   rw[h1,hr]
  | _=>simp at hr
theorem Rel.sliceOp {B:Nat} {w0:World} {m:Mp} {h:IH} {w:World} (R:Rel B w0 m h w) (P:Program) {t:TypeId} {x x' v:Value} {lo hi mx lo' hi' mx':Option Value} (hs:sliceOp P h t x lo hi mx=some v)
  (hx:VRel m x x') (hlo:OptRel m lo lo') (hhi:OptRel m hi hi') (hmx:OptRel m mx mx') :
  ∃v',(Instr.sliceAt t x' lo' hi' mx').run P w=.ok v' w∧VRel m v v':=by
 unfold Id.sliceOp at hs
 cases hu:P.underlying t with
 | none=>simp[hu] at hs
 | some d =>
  rw[hu] at hs
  cases d with
  | slice e =>
   simp only at hs
   cases hsz:sizeT P e with
   | none=>simp[hsz] at hs
   | some size =>
    simp only[hsz] at hs
    cases x with
    | slice a len k =>
     cases a with
     | none =>
      obtain⟨rfl,rfl,rfl⟩:=hx.nil_inv
      unfold resliced at hs
      simp only[beq_self_eq_true,Bool.and_self,cond_true] at hs
      cases hb:boundsOf 0 0 lo hi mx with
      | none=>simp[hb] at hs
      | some lhm =>
       obtain⟨l,hh,om⟩:=lhm
       simp only[hb] at hs;cases hs
       obtain⟨hrun,h1,h2,h3⟩:=boundsOf_sim P w true hlo hhi hmx hb (Nat.le_refl 0) (Nat.le_refl 0)
       have hl0:l=0:=by omega
       have hh0:hh=0:=by omega
       subst hl0;subst hh0
       refine⟨.slice none 0 0,?_,.scal rfl⟩
       have hm0:om.getD 0=0:=by omega
       rw[hm0] at hrun
       simp[Instr.sliceAt,Go.run_underlying hu,Instr.slice,hrun,run_sizeT w hsz]
     | some a =>
      obtain⟨b,o,sp⟩:=a
      cases sp with
      | some q=>simp[resliced] at hs
      | none =>
      rcases hx.slice_inv with⟨r,s,cap,hm,h1,h2,h3,h4,h5,rfl⟩|⟨rfl,rfl,a,cap,rfl⟩
      ·obtain⟨l,hh,mm,hrun,hv⟩:=resliced_sim hs hm h1 h2 h3 h4 h5 (fun e=>roomy_spec R e hm) hlo hhi hmx P true w
       refine⟨_,?_,hv⟩
       simp[Instr.sliceAt,Go.run_underlying hu,Instr.slice,hrun,run_sizeT w hsz]
       split<;>simp
      ·-- a lost slice: it stays one
       unfold resliced at hs
       cases hb:boundsOf 0 (0 / 2) lo hi mx with
       | none=>simp[hb] at hs
       | some lhm =>
        obtain⟨l,hh,om⟩:=lhm
        simp only[hb,beq_self_eq_true,cond_true] at hs;cases hs
        obtain⟨hrun,h1,h2,h3⟩:=boundsOf_sim P w (cap:=cap) true hlo hhi hmx hb (by omega) (by omega)
        have hl0:l=0:=by omega
        have hh0:hh=0:=by omega
        subst hl0;subst hh0
        refine⟨.slice (some (if om.getD cap=0 then a else a.add (0*size))) 0 (om.getD cap - 0),?_,.lost⟩
        simp[Instr.sliceAt,Go.run_underlying hu,Instr.slice,hrun,run_sizeT w hsz]
        split<;>simp
    | _=>simp[resliced] at hs
  | array n e =>
   simp only at hs
   cases hsz:sizeT P e with
   | none=>simp[hsz] at hs
   | some size =>
    cases hA:asAddr x with
    | none=>simp[hsz,hA] at hs
    | some bo =>
     obtain⟨b,o⟩:=bo
     have hp:x=.pointer (some ⟨b,o,none⟩):=by unfold asAddr at hA;split at hA<;>simp_all
     subst hp
     obtain⟨r,s,hm,rfl⟩:=hx.ptr_inv
     simp only[hsz,hA] at hs
     obtain⟨l,hh,mm,hrun,hv⟩:=resliced_sim hs hm (by omega) (by omega) (cap:=n) (by omega) (by omega) (by omega) (by simp) hlo hhi hmx P false w
     refine⟨_,?_,hv⟩
     simp[Instr.sliceAt,Go.run_underlying hu,Instr.sureAddr,hrun,run_sizeT w hsz]
  | pointer arr =>
   simp only at hs
   cases hua:P.underlying arr with
   | none=>simp[hua] at hs
   | some da =>
    rw[hua] at hs
    cases da with
    | array n e =>
     simp only at hs
     cases hsz:sizeT P e with
     | none=>simp[hsz] at hs
     | some size =>
      cases hA:Id.asAddr x with
      | none=>simp[hsz,hA] at hs
      | some bo =>
       obtain⟨b,o⟩:=bo
       have hp:x=.pointer (some ⟨b,o,none⟩):=by unfold Id.asAddr at hA;split at hA<;>simp_all
       subst hp
       obtain⟨r,s,hm,rfl⟩:=hx.ptr_inv
       simp only[hsz,hA] at hs
       obtain⟨l,hh,mm,hrun,hv⟩:=resliced_sim hs hm (by omega) (by omega) (cap:=n) (by omega) (by omega) (by omega) (by simp) hlo hhi hmx P false w
       refine⟨_,?_,hv⟩
       simp[Instr.sliceAt,Go.run_underlying hu,Instr.slice,Go.asAddr,Go.run_underlying hua,hrun,run_sizeT w hsz]
    | _=>simp at hs
  | string =>
   simp only[cond_eq_ite] at hs
   by_cases hp:(plain x && (lo.all plain && hi.all plain && mx.all plain))=true
   ·rw[if_pos hp] at hs
    simp only[Bool.and_eq_true] at hp
    have e0:=hx.plain_eq hp.1
    have ep : ∀{a b:Option Value},OptRel m a b→a.all plain=true→b=a:=by
     intro a b hab ha
     cases a with
     | none=>exact hab.none_inv
     | some v=>obtain⟨v',rfl,hv⟩:=hab.some_inv;rw[hv.plain_eq (by simpa using ha)]
    rw[e0,ep hlo hp.2.1.1,ep hhi hp.2.1.2,ep hmx hp.2.2]
    obtain⟨hpv,hrun⟩:=pureVal_run hs
    refine⟨v,?_,.plain_mk hpv⟩
    have this:=hrun w
    simp only[Instr.sliceAt,Sem.run_bind,Go.run_underlying hu,Result.andThen_ok]
    exact this
   ·rw[if_neg hp] at hs;cases hs
  | _=>simp at hs
theorem repl_get (z:List Value) (hz:z ≠ []) : ∀(n i:Nat),(repl n z)[i]?=if i<n*z.length then z[i % z.length]? else none
 | 0,i=>by simp[repl]
 | n+1,i=>by
  have hpos:0<z.length:=List.length_pos_iff.2 hz
  rw[repl]
  by_cases h:i<z.length
  ·rw[List.getElem?_append_left h,if_pos (by rw[Nat.add_mul];omega),Nat.mod_eq_of_lt h]
  ·rw[List.getElem?_append_right (by omega),repl_get z hz n (i - z.length)]
   have e:(i - z.length) % z.length=i % z.length:=by rw[Nat.mod_eq_sub_mod (a:=i) (by omega)]
   rw[e]
   by_cases h2:i - z.length<n*z.length
   ·rw[if_pos h2,if_pos (by rw[Nat.add_mul];omega)]
   ·rw[if_neg h2,if_neg (by rw[Nat.add_mul];omega)]
theorem repl_length (z:List Value) : ∀n,(repl n z).length=n*z.length
 | 0=>by simp[repl]
 | n+1=>by rw[repl,List.length_append,repl_length z n,Nat.add_mul];omega
theorem range_repl (z:Array Value) (n:Nat) (hz:z.size≠0):((Array.range (n*z.size)).map (fun i=>z[i % z.size]!)).toList=repl n z.toList:=by
 apply List.ext_getElem?
 intro i
 have hz':z.toList ≠ []:=by intro e;apply hz;have:=congrArg List.length e;simpa using this
 rw[repl_get z.toList hz' n i,Array.getElem?_toList,Array.getElem?_map,Array.length_toList]
 by_cases h:i<n*z.size
 ·rw[if_pos h]
  have hm:i % z.size<z.size:=Nat.mod_lt _ (by omega)
  simp[h,hm]
 ·rw[if_neg h]
  simp[h]
theorem wrap64_nat (n:Nat) (h:n≤1099511627776):IntKind.i64.wrap (n:Int)=(n:Int):=by
 rw[IntKind.wrap_i64];omega
theorem LRel.repl {m:Mp} {z:List Value} (h:LRel m z z) : ∀n,LRel m (Id.repl n z) (Id.repl n z)
 | 0=>.nil m
 | n+1=>h.append (LRel.repl h n)
def MakesRow (m:Mp) (w:World) (h h':IH) (run:Result Value) (v:Value):Prop :=
 ∃cs cs' e t v',h'=h.new (.cells cs e none)∧LRel m cs cs'∧run=.ok v' (w.alloc (.cells cs'.toArray t)) ∧ ∀m':Mp,m' (2*h.n)=some (w.heap.size,0)→VRel m' v v'
theorem makeSlice_makes (P:Program) {m:Mp} {h h':IH} {t:TypeId} {l l' c c' v:Value} (hs:makeSlice P h t l c=some (v,h')) (hl:VRel m l l') (hc:VRel m c c') (w:World) :
  MakesRow m w h h' ((Instr.makeSlice t l' c').run P w) v:=by
 unfold Id.makeSlice at hs
 cases hu:P.underlying t with
 | none=>simp[hu] at hs
 | some d =>
  rw[hu] at hs
  cases d with
  | slice e =>
   simp only at hs
   cases hln:natOf l sizeMost with
   | none=>simp[hln] at hs
   | some ln =>
   cases hcn:natOf c sizeMost with
   | none=>simp[hln,hcn] at hs
   | some cn =>
   cases hsz:sizeT P e with
   | none=>simp[hln,hcn,hsz] at hs
   | some n =>
   cases hby:bytesT P e with
   | none=>simp[hln,hcn,hsz,hby] at hs
   | some by_ =>
   cases hz:zeroCellsT P e with
   | none=>simp[hln,hcn,hsz,hby,hz] at hs
   | some z =>
   simp only[hln,hcn,hsz,hby,hz,cond_eq_ite] at hs
   by_cases hcond:(Nat.ble ln cn && Nat.ble (cn*(by_+1)) sizeMost && z.length == n)=true
   ·rw[if_pos hcond] at hs;cases hs
    simp only[Bool.and_eq_true,Nat.ble_eq,beq_iff_eq] at hcond
    obtain⟨⟨hlc,hmost⟩,hzn⟩:=hcond
    obtain⟨zv,hz0,hzp,rfl⟩:=zeroCellsT_spec hz
    obtain⟨kl,rfl,hl1⟩:=natOf_spec hln hl
    obtain⟨kc,rfl,hc1⟩:=natOf_spec hcn hc
    unfold bytesT at hby
    obtain⟨i,hi,hib⟩:=Option.map_eq_some_iff.1 hby
    have hmul:cn*(by_+1)=cn*by_+cn:=by rw[Nat.mul_add,Nat.mul_one]
    have hbc:by_*cn=cn*by_:=Nat.mul_comm _ _
    unfold sizeMost at hmost hl1 hc1
    have hwrapl:=wrap64_nat ln hl1
    have hwrapc:=wrap64_nat cn hc1
    have hcells : ∃cells:Array Value,(if cn*n=0 then pure #[] else do pure (←zeroValue e).cells:Sem (Array Value)).run P w=.ok cells w∧((Array.range (cn*n)).map (fun i=>cells[i % cells.size]!)).toList=repl cn zv.cells.toList:=by
     by_cases h0:cn*n=0
     ·rw[if_pos h0]
      refine⟨#[],rfl,?_⟩
      rw[h0]
      have:(repl cn zv.cells.toList).length=0:=by rw[repl_length,hzn,h0]
      rw[List.length_eq_zero_iff.1 this];simp
     ·rw[if_neg h0]
      refine⟨zv.cells,by simp[run_zeroT w hz0],?_⟩
      have hs:zv.cells.size=n:=by simpa using hzn
      rw[←hs]
      exact range_repl zv.cells cn (by rw[hs];intro e;apply h0;rw[e,Nat.mul_zero])
    obtain⟨cells,hcrun,hclist⟩:=hcells
    have hLz:LRel m (repl cn zv.cells.toList) (repl cn zv.cells.toList):=LRel.repl (VRel.plain_mk (m:=m) hzp).cells cn
    refine⟨_,_,n,e,.slice (some ⟨w.heap.size,0,none⟩) ln cn,rfl,hLz,?_,fun m' hm=>?_⟩
    ·have e1:(Array.range (cn*n)).map (fun i=>cells[i % cells.size]!)=(repl cn zv.cells.toList).toArray:=by rw[←hclist]
     simp only[Instr.makeSlice,Sem.run_bind,Go.run_underlying hu,Result.andThen_ok,asInt,asIntOf,Sem.run_pure,run_typeInfo w hi,hib,hwrapl,hwrapc]
     have hprod:(by_:Int)*(cn:Int)=((by_*cn:Nat):Int):=by simp
     have hno : ¬((decide ((cn:Int)<0) || decide ((by_:Int)*(cn:Int) > 2 ^ 48) || decide ((ln:Int)<0) || decide ((ln:Int) > (cn:Int)))=true):=by
      simp only[Bool.or_eq_true,decide_eq_true_eq,hprod];omega
     rw[if_neg hno]
     simp only[Int.toNat_natCast,Sem.run_bind,run_askRoom,Result.andThen_ok,run_sizeT w hsz]
     by_cases h0:cn*n=0
     ·rw[if_pos h0] at hcrun ⊢
      simp only[Sem.run_pure] at hcrun;cases hcrun
      simp only[Sem.run_bind,Sem.run_pure,Result.andThen_ok,Go.newRow,run_newObj]
      rw[e1];rfl
     ·rw[if_neg h0] at hcrun ⊢
      simp only[Sem.run_bind,run_zeroT w hz0,Result.andThen_ok,Sem.run_pure] at hcrun;cases hcrun
      simp only[Sem.run_bind,run_zeroT w hz0,Sem.run_pure,Result.andThen_ok,Go.newRow,run_newObj]
      rw[e1];rfl
    ·exact .slice (s:=0) hm (by omega) (by omega) (by omega) (by intro _;omega) (by intro e;omega)
   ·rw[if_neg hcond] at hs;cases hs
  | _=>simp at hs
theorem MakesRow.rel {B:Nat} {w0:World} {m:Mp} {h h':IH} {w:World} {run:Result Value} {v:Value} (M:MakesRow m w h h' run v) (R:Rel B w0 m h w) (hfresh:Fresh m h.n h'.n) :
  ∃v' m' w',run=.ok v' w'∧VRel m' v v'∧Rel B w0 m' h' w'∧Step m h w m' h' w':=by
 obtain⟨cs,cs',e,t,v',rfl,hL,hrun,hv⟩:=M
 obtain⟨R1,S1⟩:=R.newRow (hfresh h.n (Nat.le_refl _) (Nat.lt_succ_self _)) hL e t
 exact⟨v',_,_,hrun,hv _ (Mp.upd_self _ _ _ _),R1,S1⟩
end Go.Id
