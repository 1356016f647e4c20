/-
  The ideal machine: every operation that calls no function is carried out alike. The ideal machine: one theorem for all operations that call no function.
-/
import Derived.Test.YtnanhedgenokpaaGreatTemperDetailedAg
set_option linter.unusedVariables false
set_option linter.unusedSimpArgs false
set_option linter.defProp false
set_option linter.deprecated false
namespace Go.Id
open Go Go.RowKit
theorem opds_rel {m:Mp} {fr:Fr} {ρ:Operand→Value} (hρ : ∀x v,opd fr x=some v→VRel m v (ρ x)) : ∀(l:List Operand) (vs:List Value),opds fr l=some vs→LRel m vs (l.map ρ)
 | [],vs,h=>by simp only[opds] at h;cases h;exact .nil m
 | x :: l,vs,h=>by
  rw[opds] at h
  cases hx:opd fr x with
  | none=>simp[hx] at h
  | some v =>
   cases hl:opds fr l with
   | none=>simp[hx,hl] at h
   | some vs' =>
    simp only[hx,hl] at h;cases h
    exact .cons (hρ x v hx) (opds_rel hρ l vs' hl)
theorem optOpd_rel {m:Mp} {fr:Fr} {ρ:Operand→Value} (hρ : ∀x v,opd fr x=some v→VRel m v (ρ x)) {o:Option Operand} {v:Option Value} (h:optOpd fr o=some v):OptRel m v (o.map ρ):=by
 cases o with
 | none=>simp only[optOpd] at h;cases h;trivial
 | some x =>
  simp only[optOpd] at h
  obtain⟨u,hu,rfl⟩:=Option.map_eq_some_iff.1 h
  exact hρ x u hu
theorem sim_binop {P:Program} {m:Mp} {op:BinOp} {t:TypeId} {ox oy:Operand} {x y x' y' v:Value} (h:binop P op t ox oy x y=some v) (hx:VRel m x x') (hy:VRel m y y') (w:World) :
  (do eqGuard op t ox oy x' y';Go.binOp op t x' y':Sem Value).run P w=.ok v w∧plain v=true:=by
 unfold binop at h
 simp only[cond_eq_ite] at h
 by_cases hp:(plain x && plain y)=true
 ·rw[if_pos hp] at h
  simp only[Bool.and_eq_true] at hp
  rw[hx.plain_eq hp.1,hy.plain_eq hp.2]
  obtain⟨a,b⟩:=pureVal_run h
  exact⟨b w,a⟩
 ·rw[if_neg hp] at h
  have guard : ∀(op:BinOp) {b:Bool},nilEq P t x y=some b→(eqGuard op t ox oy x' y').run P w=.ok () w:=by
   intro op b hb
   have hd : ∃d,nilEqV d x y=some b:=by
    unfold nilEq at hb
    split at hb
    ·exact⟨_,hb⟩
    ·cases hb
   obtain⟨d,hd⟩:=hd
   unfold nilEqV at hd
   split at hd<;>cases hd<;>cases hx<;>cases hy<;>first
    | (simp_all [Id.scal];done)
    | (unfold eqGuard;split<;>rfl)
  have noint : ∀{b:Bool},nilEq P t x y=some b→(∀o,Go.binOp .eql t x' y'=(do pure (.bool (←Op.equal t x' y')))∨o)∧(∀o,Go.binOp .neq t x' y'=(do pure (.bool (!(←Op.equal t x' y'))))∨o):=by
   intro b hb
   have hd : ∃d,nilEqV d x y=some b:=by
    unfold nilEq at hb
    split at hb
    ·exact⟨_,hb⟩
    ·cases hb
   obtain⟨d,hd⟩:=hd
   unfold nilEqV at hd
   split at hd<;>cases hd<;>cases hx<;>cases hy<;>first
    | (simp_all [Id.scal];done)
    | exact⟨fun _=>.inl rfl,fun _=>.inl rfl⟩
  cases op with
  | eql =>
   simp only at h
   obtain⟨b,hb,rfl⟩:=Option.map_eq_some_iff.1 h
   refine⟨?_,rfl⟩
   have e:=((noint hb).1 False).resolve_right id
   simp[guard _ hb,e,sim_nilEq hb hx hy w]
  | neq =>
   simp only at h
   obtain⟨b,hb,rfl⟩:=Option.map_eq_some_iff.1 h
   refine⟨?_,rfl⟩
   have e:=((noint hb).2 False).resolve_right id
   simp[guard _ hb,e,sim_nilEq hb hx hy w]
  | _=>cases h
theorem Rel.lenB {B:Nat} {w0:World} {m:Mp} {h:IH} {w:World} (R:Rel B w0 m h w) (P:Program) {t:TypeId} {ts:Array TypeId} {ty:TypeId} {x x' v:Value} (hl:lenB P h t x=some v) (ht:ts[0]?=some t) (hx:VRel m x x') :
  (Builtin.len_ ts ty #[x']).run P w=.ok v w∧plain v=true:=by
 unfold Id.lenB at hl
 have e0:(#[x']:Array Value)[0]?=some x':=rfl
 split at hl
 ·rename_i hu;cases hl
  have:=hx.scal_eq rfl;subst this
  exact⟨by simp[Builtin.len_,ht,Go.run_underlying hu,goInt],rfl⟩
 ·rename_i n e hu;cases hl
  exact⟨by simp[Builtin.len_,ht,Go.run_underlying hu,goInt],rfl⟩
 ·rename_i a hu
  split at hl
  ·rename_i n e hu2;cases hl
   exact⟨by simp[Builtin.len_,ht,Go.run_underlying hu,Go.run_underlying hu2,goInt],rfl⟩
  ·cases hl
 ·rename_i e a n c hu;cases hl
  obtain⟨a',c',rfl⟩:=lenOf_rel hx (show Id.lenOf (.slice a n c)=some n from rfl)
  exact⟨by simp[Builtin.len_,ht,Go.run_underlying hu,goInt],rfl⟩
 ·rename_i k e hu;cases hl
  have:=hx.scal_eq rfl;subst this
  exact⟨by simp[Builtin.len_,ht,Go.run_underlying hu,goInt],rfl⟩
 ·rename_i k e r hu
  obtain⟨es,hes,rfl⟩:=Option.map_eq_some_iff.1 hl
  cases hx with
  | scal h=>simp[Id.scal] at h
  | map hm =>
   obtain⟨_,_,c,hobj,hcm⟩:=R.mapAt hes hm
   exact⟨by simp[Builtin.len_,ht,Go.run_underlying hu,run_getObj_map P hobj,goInt,hcm.1],rfl⟩
 ·cases hl
theorem args1 {m:Mp} {x:Value} {vs':Array Value} (hv:LRel m [x] vs'.toList) : ∃x',vs' = #[x']∧VRel m x x':=by
 obtain⟨l⟩:=vs'
 match l,hv with
 | [x'],hv=>exact⟨x',rfl,hv.2 0 x x' rfl rfl⟩
 | [],hv=>have:=hv.1;simp at this
 | _ :: _ :: _,hv=>have:=hv.1;simp at this
theorem args2 {m:Mp} {x y:Value} {vs':Array Value} (hv:LRel m [x,y] vs'.toList) : ∃x' y',vs' = #[x',y']∧VRel m x x'∧VRel m y y':=by
 obtain⟨l⟩:=vs'
 match l,hv with
 | [x',y'],hv=>exact⟨x',y',rfl,hv.2 0 x x' rfl rfl,hv.2 1 y y' rfl rfl⟩
 | [],hv=>have:=hv.1;simp at this
 | [_],hv=>have:=hv.1;simp at this
 | _ :: _ :: _ :: _,hv=>have:=hv.1;simp at this
theorem LRel.plain_eq {m:Mp} : ∀{l l':List Value},LRel m l l'→l.all plain=true→l'=l
 | [],[],_,_=>rfl
 | [],_ :: _,h,_=>by have:=h.1;simp at this
 | _ :: _,[],h,_=>by have:=h.1;simp at this
 | a :: l,b :: l',h,hp=>by
  simp only[List.all_cons,Bool.and_eq_true] at hp
  rw[(h.2 0 a b rfl rfl).plain_eq hp.1,LRel.plain_eq (l:=l) (l':=l') ⟨by have:=h.1;simpa using this,fun i v v' x y=>h.2 (i+1) v v' (by simpa using x) (by simpa using y)⟩ hp.2]
theorem Rel.builtin {B:Nat} {w0:World} {m:Mp} {h h':IH} {w:World} (R:Rel B w0 m h w) (P:Program) {b:Builtin} {ts:Array TypeId} {ty:TypeId} {consts:Array Bool} {vs:List Value} {vs':Array Value} {v:Value}
  (hb:Id.builtin P h b ts vs=some (v,h')) (hv:LRel m vs vs'.toList) (hfresh:Fresh m h.n h'.n) :
  SimOp B w0 m h w ((Go.builtin b ts ty consts vs').run P w) v h':=by
 unfold Id.builtin at hb
 split at hb
 ·-- len
  rename_i x
  obtain⟨x',rfl,hx⟩:=args1 hv
  cases hts:ts[0]? with
  | none=>simp[hts] at hb
  | some t =>
   simp only[hts] at hb
   obtain⟨u,hu,he⟩:=Option.map_eq_some_iff.1 hb
   cases he
   obtain⟨h1,h2⟩:=R.lenB P (ty:=ty) hu hts hx
   exact .quiet R (by simp[Go.builtin,h1]) (.plain_mk h2)
 ·-- append
  rename_i s x
  obtain⟨s',x',rfl,hs,hx⟩:=args2 hv
  simp only[cond_eq_ite] at hb
  by_cases hsl:isSliceT P ts[1]?=true
  ·rw[if_pos hsl] at hb
   cases hts:ts[0]? with
   | none=>simp[hts] at hb
   | some st =>
    simp only[hts] at hb
    have hxt : ∃xt xe,ts[1]?=some xt∧P.underlying xt=some (.slice xe):=by
     unfold isSliceT at hsl
     split at hsl
     ·rename_i xt h1
      split at hsl
      ·rename_i xe h2;exact⟨xt,xe,h1,h2⟩
      ·cases hsl
     ·cases hsl
    obtain⟨xt,xe,h1,h2⟩:=hxt
    obtain⟨v',m',w',hr,a,b,c⟩:=R.append P (ty:=ty) hts h1 h2 hb hs hx hfresh
    exact⟨_,v',m',w',by simp[Go.builtin,hr],.inl rfl,a,b,c⟩
  ·rw[if_neg hsl] at hb
   by_cases hil:isIntT P ts[1]?=true
   ·rw[if_pos hil] at hb
    cases hts:ts[0]? with
    | none=>simp[hts] at hb
    | some st =>
     simp only[hts] at hb
     have hxt : ∃xt ik,ts[1]?=some xt∧P.underlying xt=some (.int ik):=by
      unfold isIntT at hil
      split at hil
      ·rename_i xt h1
       split at hil
       ·rename_i ik h2;exact⟨xt,ik,h1,h2⟩
       ·cases hil
      ·cases hil
     obtain⟨xt,ik,h1,h2⟩:=hxt
     obtain⟨v',m',w',hr,a,b,c⟩:=R.appendZ P (ty:=ty) hts h1 h2 hb hs hx hfresh
     exact⟨_,v',m',w',by simp[Go.builtin,hr],.inl rfl,a,b,c⟩
   ·rw[if_neg hil] at hb;cases hb
 ·-- copy
  rename_i d s
  obtain⟨d',s',rfl,hd,hs⟩:=args2 hv
  cases hts:ts[0]? with
  | none=>simp[hts] at hb
  | some dt =>
   simp only[hts] at hb
   obtain⟨w',hr,a,b,c⟩:=R.copy P (ty:=ty) hts hb hd hs
   exact⟨_,_,m,w',by simp[Go.builtin,hr],.inl rfl,a,b,c⟩
 ·-- clear
  rename_i x
  obtain⟨x',rfl,hx⟩:=args1 hv
  cases hts:ts[0]? with
  | none=>simp[hts] at hb
  | some t =>
   simp only[hts] at hb
   obtain⟨w',hr,a,b,c⟩:=R.clear P (ty:=ty) hts hb hx
   exact⟨_,_,m,w',by simp[Go.builtin,hr],.inl rfl,a,b,c⟩
 ·-- cap
  rename_i x
  obtain⟨x',rfl,hx⟩:=args1 hv
  cases hts:ts[0]? with
  | none=>simp[hts] at hb
  | some t =>
   simp only[hts] at hb
   obtain⟨u,hu,he⟩:=Option.map_eq_some_iff.1 hb
   cases he
   obtain⟨h1,h2⟩:=Rel.cap (w:=w) P (ty:=ty) hts hu hx
   exact .quiet R (by simp[Go.builtin,h1]) (.plain_mk h2)
 ·simp only[cond_eq_ite] at hb
  by_cases hp:vs.all plain=true
  ·rw[if_pos hp] at hb
   obtain⟨u,hu,he⟩:=Option.map_eq_some_iff.1 hb
   cases he
   obtain⟨h1,h2⟩:=pureVal_run hu
   have e:vs'=vs.toArray:=by rw[←hv.plain_eq hp]
   subst e
   exact .quiet R (by simp only[Go.builtin,Sem.run_bind];rw[show(Builtin.max_ ts ty vs.toArray)=(Builtin.max_ ts 0 vs.toArray) from rfl,h2 w];rfl) (.plain_mk h1)
  ·rw[if_neg hp] at hb;cases hb
 ·simp only[cond_eq_ite] at hb
  by_cases hp:vs.all plain=true
  ·rw[if_pos hp] at hb
   obtain⟨u,hu,he⟩:=Option.map_eq_some_iff.1 hb
   cases he
   obtain⟨h1,h2⟩:=pureVal_run hu
   have e:vs'=vs.toArray:=by rw[←hv.plain_eq hp]
   subst e
   exact .quiet R (by simp only[Go.builtin,Sem.run_bind];rw[show(Builtin.min_ ts ty vs.toArray)=(Builtin.min_ ts 0 vs.toArray) from rfl,h2 w];rfl) (.plain_mk h1)
  ·rw[if_neg hp] at hb;cases hb
 ·cases hb
end Go.Id

namespace Go.Id
open Go Go.RowKit
set_option maxHeartbeats 16000000
theorem VRel.some_inv {m:Mp} {a:Addr} {v':Value} (h:VRel m (.pointer (some a)) v') : ∃a',v'=.pointer (some a'):=by
 cases h with
 | scal h=>simp[Id.scal] at h
 | ptr=>exact⟨_,rfl⟩
theorem VRel.map_inv {m:Mp} {r:Option Nat} {v':Value} (h:VRel m (.map r) v') : ∃r',v'=.map r':=by
 cases h with
 | scal h=>exact⟨_,rfl⟩
 | map=>exact⟨_,rfl⟩
theorem find_born {c:Array MapEntry} {i:Nat} {e:MapEntry} (hb : ∀(j:Nat) (e':MapEntry),c[j]?=some e'→e'.born=j) (hi:c[i]?=some e):c.find? (fun x=>x.born == i)=some e:=by
 have hil:i<c.size:=by
  rcases Nat.lt_or_ge i c.size with h|h
  ·exact h
  ·rw[Array.getElem?_eq_none h] at hi;cases hi
 rw[Array.find?_eq_some_iff_getElem]
 refine⟨by simp[hb i e hi],i,hil,?_,?_⟩
 ·rw[Array.getElem?_eq_getElem hil] at hi;exact Option.some.inj hi
 ·intro j hj
  have:=hb j c[j] (Array.getElem?_eq_getElem (by omega))
  simp[this];omega
theorem run_getObj_iter (P:Program) {w:World} {r:Nat} {a:Option Nat} {b d:Nat} {c:Array Nat} (h:w.heap[r]?=some (.mapIter a b c d)):(getObj r).run P w=.ok (.mapIter a b c d) w:=by
 simp only[getObj,Sem.run,h]
theorem MapRel.born {m:Mp} {es:List (Value×Value)} {c:Array MapEntry} (h:MapRel m es c) (j:Nat) (e':MapEntry) (he:c[j]?=some e'):e'.born=j:=by
 have hj:j<c.size:=by
  rcases Nat.lt_or_ge j c.size with h|h
  ·exact h
  ·rw[Array.getElem?_eq_none h] at he;cases he
 have hj2:j<es.length:=by have:=h.1;omega
 exact(h.2 j es[j] e' (List.getElem?_eq_getElem hj2) he).2
theorem iop_sim {B:Nat} {w0:World} {m:Mp} {h h':IH} {w:World} (R:Rel B w0 m h w) (P:Program) {fr:Fr} {ρ:Operand→Value} (hρ : ∀x v,opd fr x=some v→VRel m v (ρ x)) (oper:Oper) {v:Value}
  (hi:iop P fr oper.op h=some (v,h')) (hfresh:Fresh m h.n h'.n):SimOp B w0 m h w ((execOp ρ oper).run P w) v h':=by
 obtain⟨dst,op,ty,pos,aft,gd⟩:=oper
 simp only at hi ⊢
 have q : ∀{x:Operand} {u:Value},(opd fr x).map (·,h)=some (v,h')→h'=h∧VRel m v (ρ x):=by
  intro x u hx
  obtain⟨a,ha,he⟩:=Option.map_eq_some_iff.1 hx
  cases he;exact⟨rfl,hρ x _ ha⟩
 unfold iop at hi
 split at hi
 ·-- move
  obtain⟨rfl,hv⟩:=q (u:=.nilFunc) hi
  exact .quiet R (by simp[execOp]) hv
 ·obtain⟨rfl,hv⟩:=q (u:=.nilFunc) hi
  exact .quiet R (by simp[execOp]) hv
 ·-- pick
  rename_i c a b
  split at hi
  ·rename_i hc
   obtain⟨rfl,hv⟩:=q (u:=.nilFunc) hi
   have:=(hρ c _ hc).scal_eq rfl
   exact .quiet R (by simp[execOp,this,asBool]) hv
  ·rename_i hc
   obtain⟨rfl,hv⟩:=q (u:=.nilFunc) hi
   have:=(hρ c _ hc).scal_eq rfl
   exact .quiet R (by simp[execOp,this,asBool]) hv
  ·cases hi
 ·-- alloc
  rename_i t
  obtain⟨z,hz,he⟩:=Option.map_eq_some_iff.1 hi
  cases he
  obtain⟨zv,hz0,hzp,rfl⟩:=zeroCellsT_spec hz
  obtain⟨R1,S1⟩:=R.newRow (hfresh h.n (Nat.le_refl _) (Nat.lt_succ_self _)) (VRel.plain_mk (m:=m) hzp).cells 0 t
  refine⟨.value (.pointer (some ⟨w.heap.size,0,none⟩)),_,_,_,?_,.inl rfl,?_,R1,S1⟩
  ·simp only[execOp,Instr.alloc,Sem.run_bind,run_zeroT w hz0,Result.andThen_ok,newVar,Go.newRow,run_newObj,Sem.run_pure];rfl
  ·exact VRel.ptr (s:=0) (o:=0) (Mp.upd_self _ _ _ _)
 ·-- box
  rename_i t x
  obtain⟨a,ha,he⟩:=Option.map_eq_some_iff.1 hi
  cases he
  have hv:=hρ x a ha
  obtain⟨R1,S1⟩:=R.newRow (hfresh h.n (Nat.le_refl _) (Nat.lt_succ_self _)) hv.cells 0 t
  refine⟨.value (.pointer (some ⟨w.heap.size,0,none⟩)),_,_,_,?_,.inl rfl,?_,R1,S1⟩
  ·simp only[execOp,Instr.box,Sem.run_bind,Result.andThen_ok,newVar,Go.newRow,run_newObj,Sem.run_pure];rfl
  ·exact VRel.ptr (s:=0) (o:=0) (Mp.upd_self _ _ _ _)
 ·-- build
  rename_i t parts
  split at hi
  ·rename_i z ps hz hps
   simp only[cond_eq_ite] at hi
   by_cases ha:allSized P t=true
   ·rw[if_pos ha] at hi
    obtain⟨cs,hcs,he⟩:=Option.map_eq_some_iff.1 hi
    cases he
    obtain⟨cs',h1,h2⟩:=sim_build hρ hz hps ha hcs w
    exact .quiet R (by simp only[execOp,Sem.run_bind,h1];rfl) h2
   ·rw[if_neg ha] at hi;cases hi
  ·cases hi
 ·-- buildSlice
  rename_i t len parts
  split at hi
  ·rename_i ps hps
   obtain⟨v',m',w',h1,h2,h3,h4⟩:=(buildSlice_makes P hρ hps hi w).rel R hfresh
   exact⟨_,v',m',w',by simp only[execOp,Sem.run_bind,h1];rfl,.inl rfl,h2,h3,h4⟩
  ·cases hi
 ·-- load
  rename_i t x
  split at hi
  ·rename_i a ha
   obtain⟨u,hu,he⟩:=Option.map_eq_some_iff.1 hi
   cases he
   obtain⟨v',h1,h2⟩:=R.load hu (hρ x a ha)
   exact .quiet R (by simp[execOp,h1]) h2
  ·cases hi
 ·-- store
  rename_i t x y
  split at hi
  ·rename_i a u ha hu
   obtain⟨hx,hhx,he⟩:=Option.map_eq_some_iff.1 hi
   cases he
   obtain⟨w',h1,h2,h3⟩:=R.store hhx (hρ x a ha) (hρ y u hu)
   exact⟨.skip,undef,m,w',by simp[execOp,h1],.inr ⟨rfl,rfl⟩,.undef m,h2,h3⟩
  ·cases hi
 ·-- nilCheck
  rename_i x
  split at hi
  ·rename_i a ha
   cases hi
   have hv:=hρ x _ ha
   obtain⟨a',e⟩:=hv.some_inv
   exact .quiet R (v':=ρ x) (by simp[execOp,e]) hv
  ·rename_i f xs ys ha
   cases hi
   have hv:=hρ x _ ha
   obtain⟨fn',xs',ys',e,hf,h1,h2⟩:=hv.func_inv
   cases fn'<;>simp[FnRel] at hf
   subst hf
   exact .quiet R (v':=ρ x) (by simp[execOp,e]) hv
  ·rename_i f xs ys ha
   cases hi
   have hv:=hρ x _ ha
   obtain⟨fn',xs',ys',e,hf,h1,h2⟩:=hv.func_inv
   cases fn'<;>simp[FnRel] at hf
   exact .quiet R (v':=ρ x) (by simp[execOp,e]) hv
  ·rename_i r ha
   cases hi
   have hv:=hρ x _ ha
   obtain⟨r',e⟩:=hv.map_inv
   exact .quiet R (v':=ρ x) (by simp[execOp,e]) hv
  ·cases hi
 ·-- binOp
  rename_i op t x y yt
  split at hi
  ·rename_i a b ha hb
   obtain⟨u,hu,he⟩:=Option.map_eq_some_iff.1 hi
   cases he
   obtain⟨h1,h2⟩:=sim_binop hu (hρ x a ha) (hρ y b hb) w
   exact .quiet R (by simp only[execOp,Sem.run_bind] at h1 ⊢;rw[h1];rfl) (.plain_mk h2)
  ·cases hi
 ·-- unOp
  rename_i op t x
  split at hi
  ·rename_i a ha
   simp only[cond_eq_ite] at hi
   by_cases hp:plain a=true
   ·rw[if_pos hp] at hi
    obtain⟨u,hu,he⟩:=Option.map_eq_some_iff.1 hi
    cases he
    obtain⟨h1,h2⟩:=pureVal_run hu
    exact .quiet R (by simp only[execOp,(hρ x a ha).plain_eq hp,Sem.run_bind,h2 w];rfl) (.plain_mk h1)
   ·rw[if_neg hp] at hi;cases hi
  ·cases hi
 ·-- convert
  rename_i s d x
  split at hi
  ·rename_i a ha
   simp only[cond_eq_ite] at hi
   by_cases hp:plain a=true
   ·rw[if_pos hp] at hi
    obtain⟨u,hu,he⟩:=Option.map_eq_some_iff.1 hi
    cases he
    obtain⟨h1,h2⟩:=pureVal_run hu
    exact .quiet R (by simp only[execOp,(hρ x a ha).plain_eq hp,Sem.run_bind,h2 w];rfl) (.plain_mk h1)
   ·rw[if_neg hp] at hi;cases hi
  ·cases hi
 ·-- sliceToArrayPointer
  rename_i t x
  split at hi
  ·rename_i n e b o len k hu ha
   simp only[cond_eq_ite] at hi
   by_cases hc:(Nat.ble n len && Nat.blt 0 k)=true
   ·rw[if_pos hc] at hi;cases hi
    simp only[Bool.and_eq_true,Nat.ble_eq,Nat.blt_eq] at hc
    rcases(hρ x _ ha).slice_inv with⟨r,s,cap,hm,_,_,_,_,_,e⟩|⟨_,hk,_⟩
    ·exact .quiet R (v':=.pointer (some ⟨r,s+o,none⟩)) (by simp[execOp,e,Instr.arrayAt,Go.run_underlying hu];omega) (.ptr hm)
    ·omega
   ·rw[if_neg hc] at hi;cases hi
  ·cases hi
 ·-- makeFunc
  rename_i fn first cap
  split at hi
  ·rename_i a b ha hb
   split at hi
   ·rename_i f
    cases hi
    have h1:=opds_rel hρ _ _ ha
    have h2:=opds_rel hρ _ _ hb
    exact .quiet R (v':=.func (.func f) (first.map ρ) (cap.map ρ)) (by simp[execOp,Instr.makeFunc]) (VRel.func_mk rfl (by simpa using h1) (by simpa using h2))
   ·cases hi
  ·cases hi
 ·-- makeMap
  rename_i t r
  have fin : ∀{v h'},some (Value.map (some (2*h.n)),h.new (.map []))=some (v,h')→Fresh m h.n h'.n→((Instr.makeMap t (r.map ρ)).run P w=.ok (.map (some w.heap.size)) (w.alloc (.map #[] 0))) →
    SimOp B w0 m h w ((execOp ρ { dst:=dst,op:=.makeMap t r,type:=ty,pos:=pos,after:=aft,guard:=gd }).run P w) v h':=by
   intro v h' e hfresh hrun
   cases e
   obtain⟨R1,S1⟩:=R.new (.map []) (.map #[] 0) (0,0) (hfresh h.n (Nat.le_refl _) (Nat.lt_succ_self _)) ⟨rfl,#[],by rw[heap_alloc,if_pos rfl];rfl,rfl,by simp⟩ rfl
   exact⟨.value (.map (some w.heap.size)),_,_,_,by simp[execOp,hrun],.inl rfl,.map (Mp.upd_self _ _ _ _),R1,S1⟩
  split at hi
  ·exact fin hi hfresh (by simp only[Option.map_none,Instr.makeMap,Sem.run_bind,Sem.run_pure,Result.andThen_ok,run_newObj];rfl)
  ·rename_i x
   split at hi
   ·rename_i k n kt et hx hu
    have:=(hρ x _ hx).scal_eq rfl
    exact fin hi hfresh (by simp only[Option.map_some,this,Instr.makeMap,Sem.run_bind,Go.run_underlying hu,asInt,asIntOf,Sem.run_pure,Result.andThen_ok,run_newObj];rfl)
   ·cases hi
 ·-- makeSlice
  rename_i t l c
  split at hi
  ·rename_i a b ha hb
   obtain⟨v',m',w',h1,h2,h3,h4⟩:=(makeSlice_makes P hi (hρ l a ha) (hρ c b hb) w).rel R hfresh
   exact⟨_,v',m',w',by simp only[execOp,Sem.run_bind,h1];rfl,.inl rfl,h2,h3,h4⟩
  ·cases hi
 ·-- slice
  rename_i t x lo hi' mx
  split at hi
  ·rename_i a b c d ha hb hc hd
   obtain⟨u,hu,he⟩:=Option.map_eq_some_iff.1 hi
   cases he
   obtain⟨v',h1,h2⟩:=R.sliceOp P hu (hρ x a ha) (optOpd_rel hρ hb) (optOpd_rel hρ hc) (optOpd_rel hρ hd)
   exact .quiet R (by simp only[execOp,Sem.run_bind,h1];rfl) h2
  ·cases hi
 ·-- fieldAddr
  rename_i t x f
  split at hi
  ·rename_i a fd ha hf
   split at hi
   ·rename_i b o n hA hS
    simp only[cond_eq_ite,beq_iff_eq] at hi
    by_cases h0:n=0
    ·rw[if_pos h0] at hi;cases hi
    ·rw[if_neg h0] at hi;cases hi
     have hp:a=.pointer (some ⟨b,o,none⟩):=by unfold Id.asAddr at hA;split at hA<;>simp_all
     subst hp
     obtain⟨r,s,hm,e⟩:=(hρ x _ ha).ptr_inv
     unfold fieldOf at hf
     cases hu:P.underlying t with
     | none=>simp[hu] at hf
     | some d =>
      rw[hu] at hf
      cases d with
      | struct fs =>
       simp only at hf
       refine .quiet R (v':=.pointer (some ⟨r,s+(o+fd.offset),none⟩)) ?_ (.ptr hm)
       simp[execOp,e,Instr.fieldAt,Go.run_underlying hu,hf,Instr.sureAddr,fieldPlace,run_sizeT w hS,h0,addr_add,Nat.add_assoc]
      | _=>simp at hf
   ·cases hi
  ·cases hi
 ·-- field
  rename_i t x f
  split at hi
  ·rename_i cs fd ha hf
   obtain⟨u,hu,he⟩:=Option.map_eq_some_iff.1 hi
   cases he
   obtain⟨cs',e,hL⟩:=(hρ x _ ha).agg_inv
   obtain⟨v',h1,h2⟩:=sim_part P hu hL w
   unfold fieldOf at hf
   cases hut:P.underlying t with
   | none=>simp[hut] at hf
   | some d =>
    rw[hut] at hf
    cases d with
    | struct fs =>
     simp only at hf
     exact .quiet R (by simp[execOp,e,Instr.field,Go.run_underlying hut,hf,asAgg,h1]) h2
    | _=>simp at hf
  ·cases hi
 ·-- indexAddr
  rename_i t x i
  split at hi
  ·rename_i a b ha hb
   obtain⟨u,hu,he⟩:=Option.map_eq_some_iff.1 hi
   cases he
   obtain⟨v',h1,h2⟩:=sim_indexAddr P hu (hρ x a ha) (hρ i b hb) w
   exact .quiet R (by simp only[execOp,Sem.run_bind,h1];rfl) h2
  ·cases hi
 ·-- index
  rename_i t x i
  split at hi
  ·rename_i cs b ha hb
   split at hi
   ·rename_i n e j hu hj
    simp only[cond_eq_ite,Nat.blt_eq] at hi
    by_cases hlt:j<n
    ·rw[if_pos hlt] at hi
     split at hi
     ·rename_i size hS
      obtain⟨u,hu2,he⟩:=Option.map_eq_some_iff.1 hi
      cases he
      obtain⟨cs',e1,hL⟩:=(hρ x _ ha).agg_inv
      obtain⟨k,e2⟩:=idxOf_rel (hρ i b hb) hj
      obtain⟨v',h1,h2⟩:=sim_part P hu2 hL w
      refine .quiet R (v':=v') ?_ h2
      have h3:(0:Int)≤Int.ofNat j∧Int.ofNat j<(n:Int):=by constructor<;>simp<;>omega
      simp only[execOp,e1,e2,Instr.index,asIntOf,Sem.run_bind,Sem.run_pure,Result.andThen_ok,Go.run_underlying hu]
      rw[if_pos h3]
      simp[run_sizeT w hS,h1]
     ·cases hi
    ·rw[if_neg hlt] at hi;cases hi
   ·cases hi
  ·rename_i s b ha hb
   simp only[cond_eq_ite] at hi
   by_cases hp:plain b=true
   ·rw[if_pos hp] at hi
    obtain⟨u,hu,he⟩:=Option.map_eq_some_iff.1 hi
    cases he
    obtain⟨h1,h2⟩:=pureVal_run hu
    have e1:=(hρ x _ ha).scal_eq rfl
    exact .quiet R (by simp only[execOp,(hρ i b hb).plain_eq hp,e1,Sem.run_bind,h2 w];rfl) (.plain_mk h1)
   ·rw[if_neg hp] at hi;cases hi
  ·cases hi
 ·-- lookup
  rename_i t x k ok
  split at hi
  ·rename_i a b ha hb
   obtain⟨u,hu,he⟩:=Option.map_eq_some_iff.1 hi
   cases he
   obtain⟨v',h1,h2⟩:=R.lookup P hu (hρ x a ha) (hρ k b hb)
   exact .quiet R (by simp only[execOp,Sem.run_bind,h1];rfl) h2
  ·cases hi
 ·-- mapUpdate
  rename_i t x k y
  split at hi
  ·rename_i a b c ha hb hc
   obtain⟨hx,hhx,he⟩:=Option.map_eq_some_iff.1 hi
   cases he
   obtain⟨w',h1,h2,h3⟩:=R.mapUpdate P hhx (hρ x a ha) (hρ k b hb) (hρ y c hc)
   exact⟨.skip,undef,m,w',by simp only[execOp,Sem.run_bind,h1];rfl,.inr ⟨rfl,rfl⟩,.undef m,h2,h3⟩
  ·cases hi
 ·-- insert
  rename_i t x k y
  split at hi
  ·rename_i a b c ha hb hc
   obtain⟨hx,hhx,he⟩:=Option.map_eq_some_iff.1 hi
   cases he
   obtain⟨w',h1,h2,h3⟩:=R.mapUpdate P hhx (hρ x a ha) (hρ k b hb) (hρ y c hc)
   exact⟨.skip,undef,m,w',by simp only[execOp,Sem.run_bind,h1];rfl,.inr ⟨rfl,rfl⟩,.undef m,h2,h3⟩
  ·cases hi
 ·-- extract
  rename_i x i
  split at hi
  ·rename_i vs ha
   obtain⟨u,hu,he⟩:=Option.map_eq_some_iff.1 hi
   cases he
   obtain⟨vs',e,hL⟩:=(hρ x _ ha).tuple_inv
   obtain⟨v',h1,h2⟩:=hL.get (i:=i) (by simpa using hu)
   have h3:vs'[i]?=some v':=by simpa using h1
   exact .quiet R (v':=v') (by simp[execOp,e,Instr.extract,h3]) h2
  ·cases hi
 ·-- range over a map
  rename_i t x
  split at hi
  ·rename_i kt et k hu hx
   obtain⟨es,hes,he⟩:=Option.map_eq_some_iff.1 hi
   cases he
   obtain⟨rm,s,hm,hρx⟩ : ∃rm s,m k=some (rm,s)∧ρ x=.map (some rm):=by
    have:=hρ x _ hx
    generalize ρ x=y at this
    cases this with
    | scal h=>simp[Id.scal] at h
    | map hm=>exact⟨_,_,hm,rfl⟩
   obtain⟨hg,hkk,c,hobj,hcm⟩:=R.mapAt hes hm
   have hs0:s=0:=(R.obj (k / 2) _ rm s hg (by rw[hkk];exact hm)).1
   subst hs0
   obtain⟨R1,S1⟩:=R.new (.iter k es.length [] es.length) (.mapIter (some rm) es.length #[] es.length) (0,0) (hfresh h.n (Nat.le_refl _) (Nat.lt_succ_self _)) ⟨rfl,rm,by rw[heap_alloc,if_pos rfl],hm⟩ rfl
   refine⟨.value (.pointer (some ⟨w.heap.size,0,none⟩)),_,_,_,?_,.inl rfl,.ptr (s:=0) (o:=0) (Mp.upd_self _ _ _ _),R1,S1⟩
   simp only[execOp,Instr.range,hρx,Sem.run_bind,Go.run_underlying hu,Result.andThen_ok,run_getObj_map P hobj,run_newObj,Sem.run_pure]
   rfl
  ·cases hi
 ·-- a map's entry
  rename_i x
  split at hi
  ·rename_i b hx
   simp only[cond_eq_ite,beq_iff_eq] at hi
   split at hi
   ·cases hi
   ·rename_i hb
    split at hi
    ·rename_i k since seen last hit
     split at hi
     ·rename_i es i hes hseen
      split at hi
      ·rename_i hlast
       obtain⟨e,hei,he⟩:=Option.map_eq_some_iff.1 hi
       cases he
       obtain⟨r,s,hm,hρx⟩:=(hρ x _ hx).ptr_inv
       obtain⟨hs0,rm,hobj,hmk⟩:=R.obj (b / 2) _ r s hit (by rw[show 2*(b / 2)=b from by omega];exact hm)
       subst hs0
       obtain⟨hg,hkk,c,hmap,hcm⟩:=R.mapAt hes hmk
       have hil:i<es.length:=by
        rcases Nat.lt_or_ge i es.length with h|h
        ·exact h
        ·rw[List.getElem?_eq_none h] at hei;cases hei
       have hic:i<c.size:=by have:=hcm.1;omega
       have hE:=(hcm.2 i e c[i] hei (Array.getElem?_eq_getElem hic)).1
       have hfind:=find_born hcm.born (Array.getElem?_eq_getElem hic)
       have hback:seen.toArray.back?=some i:=by rw[←hseen];simp[Array.back?,List.getLast?_eq_getElem?]
       refine .quiet R (v':=.tuple #[c[i].key,c[i].val]) ?_ (VRel.tuple_iff (.cons ?_ (.cons hE.2.2 (.nil m))))
       ·subst hlast
        simp only[execOp,Instr.entry,hρx,Nat.zero_add,Sem.run_bind,run_getObj_iter P hobj,hback,run_getObj_map P hmap,Result.andThen_ok,bne_self_eq_false,Bool.false_eq_true,if_false,hfind,Sem.run_pure]
       ·rw[hE.1];exact VRel.plain_mk hE.2.1
      ·cases hi
     ·cases hi
    ·cases hi
  ·cases hi
 ·-- call of a builtin
  rename_i c
  split at hi
  ·rename_i b hb
   split at hi
   ·rename_i vs hvs
    have hL:=opds_rel hρ _ _ hvs
    have:=R.builtin P (ty:=ty) (consts:=c.args.map fun|.const _=>true|_=>false) (vs':=c.args.map ρ) hi (by simpa using hL) hfresh
    obtain⟨nx,v',m',w',h1,h2⟩:=this
    refine⟨nx,v',m',w',?_,h2⟩
    rw[←h1]
    simp only[execOp,resolve,hb,Sem.run_bind,Sem.run_pure,Result.andThen_ok,invoke]
    rfl
   ·cases hi
  ·cases hi
 ·cases hi
end Go.Id
