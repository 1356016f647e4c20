/-
  The ideal machine: one theorem for all operations that call no function.
-/
import Derived.Test.YtnanhedgenokpaaGreatTemperMovesAg
set_option linter.unusedVariables false
set_option linter.unusedSimpArgs false
set_option linter.defProp false
set_option linter.deprecated false
namespace Go.Id
open Go Go.RowKit
set_option maxHeartbeats 16000000
theorem aB.lj {m:Mp} {a:Addr} {v':Value} (h:aB m (.pointer (some a)) v') : ∃a',v'=.pointer (some a'):=by
 cases h with
 | bP h=>simp[Id.bP] at h
 | ptr=>exact⟨_,rfl⟩
theorem aB.NK {m:Mp} {r:Option Nat} {v':Value} (h:aB m (.map r) v') : ∃r',v'=.map r':=by
 cases h with
 | bP h=>exact⟨_,rfl⟩
 | map=>exact⟨_,rfl⟩
theorem IT {c:Array MapEntry} {i:Nat} {e:MapEntry} (hb : ∀(j:Nat) (e':MapEntry),c[j]?=some e'→e'.born=j) (hi:c[i]?=some e):c.find? (fun x=>x.born == i)=some e:=by
 have hil:i<c.size:=by
  rcases Nat.lt_or_ge i c.size with h|h
  ·exact h
  ·rw[Array.getElem?_eq_none h] at hi;cases hi
 rw[Array.find?_eq_some_iff_getElem]
 refine⟨by simp[hb i e hi],i,hil,?_,?_⟩
 ·rw[Array.getElem?_eq_getElem hil] at hi;exact Option.some.inj hi
 ·intro j hj
  have:=hb j c[j] (Array.getElem?_eq_getElem (by omega))
  simp[this];omega
theorem nL (P:Program) {w:World} {r:Nat} {a:Option Nat} {b d:Nat} {c:Array Nat} (h:w.heap[r]?=some (.mapIter a b c d)):(getObj r).run P w=.ok (.mapIter a b c d) w:=by
 simp only[getObj,Sem.run,h]
theorem pg.born {m:Mp} {es:List (Value×Value)} {c:Array MapEntry} (h:pg m es c) (j:Nat) (e':MapEntry) (he:c[j]?=some e'):e'.born=j:=by
 have hj:j<c.size:=by
  rcases Nat.lt_or_ge j c.size with h|h
  ·exact h
  ·rw[Array.getElem?_eq_none h] at he;cases he
 have hj2:j<es.length:=by have:=h.1;omega
 exact(h.2 j es[j] e' (List.getElem?_eq_getElem hj2) he).2
theorem NU {B:Nat} {w0:World} {m:Mp} {h h':IH} {w:World} (R:Rel B w0 m h w) (P:Program) {fr:Fr} {ρ:Operand→Value} (hρ : ∀x v,opd fr x=some v→aB m v (ρ x)) (oper:Oper) {v:Value}
  (hi:iop P fr oper.op h=some (v,h')) (cg:fy m h.n h'.n):DZ B w0 m h w ((execOp ρ oper).run P w) v h':=by
 obtain⟨dst,op,ty,pos,aft,gd⟩:=oper
 simp only at hi ⊢
 have q : ∀{x:Operand} {u:Value},(opd fr x).map (·,h)=some (v,h')→h'=h∧aB m v (ρ x):=by
  intro x u hx
  obtain⟨a,ha,he⟩:=Option.map_eq_some_iff.1 hx
  cases he;exact⟨rfl,hρ x _ ha⟩
 unfold iop at hi
 split at hi
 ·-- move
  obtain⟨rfl,hv⟩:=q (u:=.nilFunc) hi
  exact .quiet R (by simp[execOp]) hv
 ·obtain⟨rfl,hv⟩:=q (u:=.nilFunc) hi
  exact .quiet R (by simp[execOp]) hv
 ·-- pick
  rename_i c a b
  split at hi
  ·rename_i hc
   obtain⟨rfl,hv⟩:=q (u:=.nilFunc) hi
   have:=(hρ c _ hc).dw rfl
   exact .quiet R (by simp[execOp,this,asBool]) hv
  ·rename_i hc
   obtain⟨rfl,hv⟩:=q (u:=.nilFunc) hi
   have:=(hρ c _ hc).dw rfl
   exact .quiet R (by simp[execOp,this,asBool]) hv
  ·cases hi
 ·-- alloc
  rename_i t
  obtain⟨z,hz,he⟩:=Option.map_eq_some_iff.1 hi
  cases he
  obtain⟨zv,hz0,hzp,rfl⟩:=cP hz
  obtain⟨R1,S1⟩:=R.newRow (cg h.n (Nat.le_refl _) (Nat.lt_succ_self _)) (aB.bT (m:=m) hzp).cells 0 t
  refine⟨.value (.pointer (some ⟨w.heap.size,0,none⟩)),_,_,_,?_,.inl rfl,?_,R1,S1⟩
  ·simp only[execOp,Instr.alloc,Sem.run_bind,dK w hz0,Result.andThen_ok,newVar,Go.newRow,run_newObj,Sem.run_pure];rfl
  ·exact aB.ptr (s:=0) (o:=0) (Mp.aW _ _ _ _)
 ·-- box
  rename_i t x
  obtain⟨a,ha,he⟩:=Option.map_eq_some_iff.1 hi
  cases he
  have hv:=hρ x a ha
  obtain⟨R1,S1⟩:=R.newRow (cg h.n (Nat.le_refl _) (Nat.lt_succ_self _)) hv.cells 0 t
  refine⟨.value (.pointer (some ⟨w.heap.size,0,none⟩)),_,_,_,?_,.inl rfl,?_,R1,S1⟩
  ·simp only[execOp,Instr.box,Sem.run_bind,Result.andThen_ok,newVar,Go.newRow,run_newObj,Sem.run_pure];rfl
  ·exact aB.ptr (s:=0) (o:=0) (Mp.aW _ _ _ _)
 ·-- build
  rename_i t parts
  split at hi
  ·rename_i z ps hz hps
   simp only[cond_eq_ite] at hi
   by_cases ha:cu P t=true
   ·rw[if_pos ha] at hi
    obtain⟨cs,hcs,he⟩:=Option.map_eq_some_iff.1 hi
    cases he
    obtain⟨cs',h1,h2⟩:=HY hρ hz hps ha hcs w
    exact .quiet R (by simp only[execOp,Sem.run_bind,h1];rfl) h2
   ·rw[if_neg ha] at hi;cases hi
  ·cases hi
 ·-- buildSlice
  rename_i t len parts
  split at hi
  ·rename_i ps hps
   obtain⟨v',m',w',h1,h2,h3,h4⟩:=(mO P hρ hps hi w).rel R cg
   exact⟨_,v',m',w',by simp only[execOp,Sem.run_bind,h1];rfl,.inl rfl,h2,h3,h4⟩
  ·cases hi
 ·-- load
  rename_i t x
  split at hi
  ·rename_i a ha
   obtain⟨u,hu,he⟩:=Option.map_eq_some_iff.1 hi
   cases he
   obtain⟨v',h1,h2⟩:=R.load hu (hρ x a ha)
   exact .quiet R (by simp[execOp,h1]) h2
  ·cases hi
 ·-- store
  rename_i t x y
  split at hi
  ·rename_i a u ha hu
   obtain⟨hx,hhx,he⟩:=Option.map_eq_some_iff.1 hi
   cases he
   obtain⟨w',h1,h2,h3⟩:=R.store hhx (hρ x a ha) (hρ y u hu)
   exact⟨.skip,undef,m,w',by simp[execOp,h1],.inr ⟨rfl,rfl⟩,.undef m,h2,h3⟩
  ·cases hi
 ·-- nilCheck
  rename_i x
  split at hi
  ·rename_i a ha
   cases hi
   have hv:=hρ x _ ha
   obtain⟨a',e⟩:=hv.lj
   exact .quiet R (v':=ρ x) (by simp[execOp,e]) hv
  ·rename_i f xs ys ha
   cases hi
   have hv:=hρ x _ ha
   obtain⟨fn',xs',ys',e,hf,h1,h2⟩:=hv.sE
   cases fn'<;>simp[pj] at hf
   subst hf
   exact .quiet R (v':=ρ x) (by simp[execOp,e]) hv
  ·rename_i f xs ys ha
   cases hi
   have hv:=hρ x _ ha
   obtain⟨fn',xs',ys',e,hf,h1,h2⟩:=hv.sE
   cases fn'<;>simp[pj] at hf
   exact .quiet R (v':=ρ x) (by simp[execOp,e]) hv
  ·rename_i r ha
   cases hi
   have hv:=hρ x _ ha
   obtain⟨r',e⟩:=hv.NK
   exact .quiet R (v':=ρ x) (by simp[execOp,e]) hv
  ·cases hi
 ·-- binOp
  rename_i op t x y yt
  split at hi
  ·rename_i a b ha hb
   obtain⟨u,hu,he⟩:=Option.map_eq_some_iff.1 hi
   cases he
   obtain⟨h1,h2⟩:=HZ hu (hρ x a ha) (hρ y b hb) w
   exact .quiet R (by simp only[execOp,Sem.run_bind] at h1 ⊢;rw[h1];rfl) (.bT h2)
  ·cases hi
 ·-- unOp
  rename_i op t x
  split at hi
  ·rename_i a ha
   simp only[cond_eq_ite] at hi
   by_cases hp:plain a=true
   ·rw[if_pos hp] at hi
    obtain⟨u,hu,he⟩:=Option.map_eq_some_iff.1 hi
    cases he
    obtain⟨h1,h2⟩:=fZ hu
    exact .quiet R (by simp only[execOp,(hρ x a ha).eF hp,Sem.run_bind,h2 w];rfl) (.bT h1)
   ·rw[if_neg hp] at hi;cases hi
  ·cases hi
 ·-- convert
  rename_i s d x
  split at hi
  ·rename_i a ha
   simp only[cond_eq_ite] at hi
   by_cases hp:plain a=true
   ·rw[if_pos hp] at hi
    obtain⟨u,hu,he⟩:=Option.map_eq_some_iff.1 hi
    cases he
    obtain⟨h1,h2⟩:=fZ hu
    exact .quiet R (by simp only[execOp,(hρ x a ha).eF hp,Sem.run_bind,h2 w];rfl) (.bT h1)
   ·rw[if_neg hp] at hi;cases hi
  ·cases hi
 ·-- sliceToArrayPointer
  rename_i t x
  split at hi
  ·rename_i n e b o len k hu ha
   simp only[cond_eq_ite] at hi
   by_cases hc:(Nat.ble n len && Nat.blt 0 k)=true
   ·rw[if_pos hc] at hi;cases hi
    simp only[Bool.and_eq_true,Nat.ble_eq,Nat.blt_eq] at hc
    rcases(hρ x _ ha).dZ with⟨r,s,cap,hm,_,_,_,_,_,e⟩|⟨_,hk,_⟩
    ·exact .quiet R (v':=.pointer (some ⟨r,s+o,none⟩)) (by simp[execOp,e,Instr.arrayAt,Go.run_underlying hu];omega) (.ptr hm)
    ·omega
   ·rw[if_neg hc] at hi;cases hi
  ·cases hi
 ·-- makeFunc
  rename_i fn first cap
  split at hi
  ·rename_i a b ha hb
   split at hi
   ·rename_i f
    cases hi
    have h1:=oF hρ _ _ ha
    have h2:=oF hρ _ _ hb
    exact .quiet R (v':=.func (.func f) (first.map ρ) (cap.map ρ)) (by simp[execOp,Instr.makeFunc]) (aB.By rfl (by simpa using h1) (by simpa using h2))
   ·cases hi
  ·cases hi
 ·-- makeMap
  rename_i t r
  have fin : ∀{v h'},some (Value.map (some (2*h.n)),h.new (.map []))=some (v,h')→fy m h.n h'.n→((Instr.makeMap t (r.map ρ)).run P w=.ok (.map (some w.heap.size)) (w.alloc (.map #[] 0))) →
    DZ B w0 m h w ((execOp ρ { dst:=dst,op:=.makeMap t r,type:=ty,pos:=pos,after:=aft,guard:=gd }).run P w) v h':=by
   intro v h' e cg bf
   cases e
   obtain⟨R1,S1⟩:=R.new (.map []) (.map #[] 0) (0,0) (cg h.n (Nat.le_refl _) (Nat.lt_succ_self _)) ⟨rfl,#[],by rw[heap_alloc,if_pos rfl];rfl,rfl,by simp⟩ rfl
   exact⟨.value (.map (some w.heap.size)),_,_,_,by simp[execOp,bf],.inl rfl,.map (Mp.aW _ _ _ _),R1,S1⟩
  split at hi
  ·exact fin hi cg (by simp only[Option.map_none,Instr.makeMap,Sem.run_bind,Sem.run_pure,Result.andThen_ok,run_newObj];rfl)
  ·rename_i x
   split at hi
   ·rename_i k n kt et hx hu
    have:=(hρ x _ hx).dw rfl
    exact fin hi cg (by simp only[Option.map_some,this,Instr.makeMap,Sem.run_bind,Go.run_underlying hu,asInt,asIntOf,Sem.run_pure,Result.andThen_ok,run_newObj];rfl)
   ·cases hi
 ·-- makeSlice
  rename_i t l c
  split at hi
  ·rename_i a b ha hb
   obtain⟨v',m',w',h1,h2,h3,h4⟩:=(nN P hi (hρ l a ha) (hρ c b hb) w).rel R cg
   exact⟨_,v',m',w',by simp only[execOp,Sem.run_bind,h1];rfl,.inl rfl,h2,h3,h4⟩
  ·cases hi
 ·-- slice
  rename_i t x lo hi' mx
  split at hi
  ·rename_i a b c d ha hb hc hd
   obtain⟨u,hu,he⟩:=Option.map_eq_some_iff.1 hi
   cases he
   obtain⟨v',h1,h2⟩:=R.di P hu (hρ x a ha) (qL hρ hb) (qL hρ hc) (qL hρ hd)
   exact .quiet R (by simp only[execOp,Sem.run_bind,h1];rfl) h2
  ·cases hi
 ·-- fieldAddr
  rename_i t x f
  split at hi
  ·rename_i a fd ha hf
   split at hi
   ·rename_i b o n hA hS
    simp only[cond_eq_ite,beq_iff_eq] at hi
    by_cases h0:n=0
    ·rw[if_pos h0] at hi;cases hi
    ·rw[if_neg h0] at hi;cases hi
     have hp:a=.pointer (some ⟨b,o,none⟩):=by unfold Id.asAddr at hA;split at hA<;>simp_all
     subst hp
     obtain⟨r,s,hm,e⟩:=(hρ x _ ha).jL
     unfold iW at hf
     cases hu:P.underlying t with
     | none=>simp[hu] at hf
     | some d =>
      rw[hu] at hf
      cases d with
      | struct fs =>
       simp only at hf
       refine .quiet R (v':=.pointer (some ⟨r,s+(o+fd.offset),none⟩)) ?_ (.ptr hm)
       simp[execOp,e,Instr.fieldAt,Go.run_underlying hu,hf,Instr.sureAddr,fieldPlace,bJ w hS,h0,kj,Nat.add_assoc]
      | _=>simp at hf
   ·cases hi
  ·cases hi
 ·-- field
  rename_i t x f
  split at hi
  ·rename_i cs fd ha hf
   obtain⟨u,hu,he⟩:=Option.map_eq_some_iff.1 hi
   cases he
   obtain⟨cs',e,hL⟩:=(hρ x _ ha).vG
   obtain⟨v',h1,h2⟩:=Cy P hu hL w
   unfold iW at hf
   cases hut:P.underlying t with
   | none=>simp[hut] at hf
   | some d =>
    rw[hut] at hf
    cases d with
    | struct fs =>
     simp only at hf
     exact .quiet R (by simp[execOp,e,Instr.field,Go.run_underlying hut,hf,asAgg,h1]) h2
    | _=>simp at hf
  ·cases hi
 ·-- indexAddr
  rename_i t x i
  split at hi
  ·rename_i a b ha hb
   obtain⟨u,hu,he⟩:=Option.map_eq_some_iff.1 hi
   cases he
   obtain⟨v',h1,h2⟩:=yD P hu (hρ x a ha) (hρ i b hb) w
   exact .quiet R (by simp only[execOp,Sem.run_bind,h1];rfl) h2
  ·cases hi
 ·-- index
  rename_i t x i
  split at hi
  ·rename_i cs b ha hb
   split at hi
   ·rename_i n e j hu hj
    simp only[cond_eq_ite,Nat.blt_eq] at hi
    by_cases hlt:j<n
    ·rw[if_pos hlt] at hi
     split at hi
     ·rename_i size hS
      obtain⟨u,hu2,he⟩:=Option.map_eq_some_iff.1 hi
      cases he
      obtain⟨cs',e1,hL⟩:=(hρ x _ ha).vG
      obtain⟨k,e2⟩:=tQ (hρ i b hb) hj
      obtain⟨v',h1,h2⟩:=Cy P hu2 hL w
      refine .quiet R (v':=v') ?_ h2
      have h3:(0:Int)≤Int.ofNat j∧Int.ofNat j<(n:Int):=by constructor<;>simp<;>omega
      simp only[execOp,e1,e2,Instr.index,asIntOf,Sem.run_bind,Sem.run_pure,Result.andThen_ok,Go.run_underlying hu]
      rw[if_pos h3]
      simp[bJ w hS,h1]
     ·cases hi
    ·rw[if_neg hlt] at hi;cases hi
   ·cases hi
  ·rename_i s b ha hb
   simp only[cond_eq_ite] at hi
   by_cases hp:plain b=true
   ·rw[if_pos hp] at hi
    obtain⟨u,hu,he⟩:=Option.map_eq_some_iff.1 hi
    cases he
    obtain⟨h1,h2⟩:=fZ hu
    have e1:=(hρ x _ ha).dw rfl
    exact .quiet R (by simp only[execOp,(hρ i b hb).eF hp,e1,Sem.run_bind,h2 w];rfl) (.bT h1)
   ·rw[if_neg hp] at hi;cases hi
  ·cases hi
 ·-- lookup
  rename_i t x k ok
  split at hi
  ·rename_i a b ha hb
   obtain⟨u,hu,he⟩:=Option.map_eq_some_iff.1 hi
   cases he
   obtain⟨v',h1,h2⟩:=R.lookup P hu (hρ x a ha) (hρ k b hb)
   exact .quiet R (by simp only[execOp,Sem.run_bind,h1];rfl) h2
  ·cases hi
 ·-- mapUpdate
  rename_i t x k y
  split at hi
  ·rename_i a b c ha hb hc
   obtain⟨hx,hhx,he⟩:=Option.map_eq_some_iff.1 hi
   cases he
   obtain⟨w',h1,h2,h3⟩:=R.mapUpdate P hhx (hρ x a ha) (hρ k b hb) (hρ y c hc)
   exact⟨.skip,undef,m,w',by simp only[execOp,Sem.run_bind,h1];rfl,.inr ⟨rfl,rfl⟩,.undef m,h2,h3⟩
  ·cases hi
 ·-- insert
  rename_i t x k y
  split at hi
  ·rename_i a b c ha hb hc
   obtain⟨hx,hhx,he⟩:=Option.map_eq_some_iff.1 hi
   cases he
   obtain⟨w',h1,h2,h3⟩:=R.mapUpdate P hhx (hρ x a ha) (hρ k b hb) (hρ y c hc)
   exact⟨.skip,undef,m,w',by simp only[execOp,Sem.run_bind,h1];rfl,.inr ⟨rfl,rfl⟩,.undef m,h2,h3⟩
  ·cases hi
 ·-- extract
  rename_i x i
  split at hi
  ·rename_i vs ha
   obtain⟨u,hu,he⟩:=Option.map_eq_some_iff.1 hi
   cases he
   obtain⟨vs',e,hL⟩:=(hρ x _ ha).tv
   obtain⟨v',h1,h2⟩:=hL.get (i:=i) (by simpa using hu)
   have h3:vs'[i]?=some v':=by simpa using h1
   exact .quiet R (v':=v') (by simp[execOp,e,Instr.extract,h3]) h2
  ·cases hi
 ·-- range over a map
  rename_i t x
  split at hi
  ·rename_i kt et k hu hx
   obtain⟨es,hes,he⟩:=Option.map_eq_some_iff.1 hi
   cases he
   obtain⟨rm,s,hm,hρx⟩ : ∃rm s,m k=some (rm,s)∧ρ x=.map (some rm):=by
    have:=hρ x _ hx
    generalize ρ x=y at this
    cases this with
    | bP h=>simp[Id.bP] at h
    | map hm=>exact⟨_,_,hm,rfl⟩
   obtain⟨hg,hkk,c,mE,hcm⟩:=R.zJ hes hm
   have hs0:s=0:=(R.obj (k / 2) _ rm s hg (by rw[hkk];exact hm)).1
   subst hs0
   obtain⟨R1,S1⟩:=R.new (.iter k es.length [] es.length) (.mapIter (some rm) es.length #[] es.length) (0,0) (cg h.n (Nat.le_refl _) (Nat.lt_succ_self _)) ⟨rfl,rm,by rw[heap_alloc,if_pos rfl],hm⟩ rfl
   refine⟨.value (.pointer (some ⟨w.heap.size,0,none⟩)),_,_,_,?_,.inl rfl,.ptr (s:=0) (o:=0) (Mp.aW _ _ _ _),R1,S1⟩
   simp only[execOp,Instr.range,hρx,Sem.run_bind,Go.run_underlying hu,Result.andThen_ok,run_getObj_map P mE,run_newObj,Sem.run_pure]
   rfl
  ·cases hi
 ·-- a map's entry
  rename_i x
  split at hi
  ·rename_i b hx
   simp only[cond_eq_ite,beq_iff_eq] at hi
   split at hi
   ·cases hi
   ·rename_i hb
    split at hi
    ·rename_i k since seen last hit
     split at hi
     ·rename_i es i hes Sg
      split at hi
      ·rename_i Ss
       obtain⟨e,hei,he⟩:=Option.map_eq_some_iff.1 hi
       cases he
       obtain⟨r,s,hm,hρx⟩:=(hρ x _ hx).jL
       obtain⟨hs0,rm,mE,hmk⟩:=R.obj (b / 2) _ r s hit (by rw[show 2*(b / 2)=b from by omega];exact hm)
       subst hs0
       obtain⟨hg,hkk,c,yP,hcm⟩:=R.zJ hes hmk
       have hil:i<es.length:=by
        rcases Nat.lt_or_ge i es.length with h|h
        ·exact h
        ·rw[List.getElem?_eq_none h] at hei;cases hei
       have hic:i<c.size:=by have:=hcm.1;omega
       have hE:=(hcm.2 i e c[i] hei (Array.getElem?_eq_getElem hic)).1
       have sC:=IT hcm.born (Array.getElem?_eq_getElem hic)
       have xz:seen.toArray.back?=some i:=by rw[←Sg];simp[Array.back?,List.getLast?_eq_getElem?]
       refine .quiet R (v':=.tuple #[c[i].key,c[i].val]) ?_ (aB.gE (.cons ?_ (.cons hE.2.2 (.nil m))))
       ·subst Ss
        simp only[execOp,Instr.entry,hρx,Nat.zero_add,Sem.run_bind,nL P mE,xz,run_getObj_map P yP,Result.andThen_ok,bne_self_eq_false,Bool.false_eq_true,if_false,sC,Sem.run_pure]
       ·rw[hE.1];exact aB.bT hE.2.1
      ·cases hi
     ·cases hi
    ·cases hi
  ·cases hi
 ·-- call of a builtin
  rename_i c
  split at hi
  ·rename_i b hb
   split at hi
   ·rename_i vs hvs
    have hL:=oF hρ _ _ hvs
    have:=R.builtin P (ty:=ty) (consts:=c.args.map fun|.const _=>true|_=>false) (vs':=c.args.map ρ) hi (by simpa using hL) cg
    obtain⟨nx,v',m',w',h1,h2⟩:=this
    refine⟨nx,v',m',w',?_,h2⟩
    rw[←h1]
    simp only[execOp,resolve,hb,Sem.run_bind,Sem.run_pure,Result.andThen_ok,invoke]
    rfl
   ·cases hi
  ·cases hi
 ·cases hi
end Go.Id
