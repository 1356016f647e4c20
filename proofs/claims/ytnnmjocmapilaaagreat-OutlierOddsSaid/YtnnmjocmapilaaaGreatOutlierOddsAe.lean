/-
  The ideal machine: what a region whose order is open needs to know of each kind of operati
-/
import Derived.Test.YtnnmjocmapilaaaGreatOutlierOddsAd
import Derived.Orders
set_option linter.unusedVariables false
set_option linter.unusedSimpArgs false
set_option linter.defProp false
set_option linter.deprecated false
namespace Go.Id
open Go Go.RowKit
variable {h' h:IH}
def Wz {α : Type} {v : α} {o : Option α} (hm : o.map (·, h) = some (v, h')) : o = some v ∧ h' = h := by obtain ⟨a, ha, e⟩ := bg.1 hm; cases e; exact ⟨ha, rfl⟩
variable {fr:Fr}{v:Value}{P:Program}{o:Op}
def EC (hk : eF o = .pure) (hi : iop P fr o h = some (v, h')) : h' = h ∧ ∀ h2, iop P fr o h2 = some (v, h2) := by
  have mp : ∀ {o : Option Value}, o.map (·, h) = some (v, h') → h' = h ∧ ∀ h2 : IH, o.map (·, h2) = some (v, h2) := by intro o hm; obtain ⟨rfl, rfl⟩ := Wz hm; exact ⟨rfl, fun _ => rfl⟩
  unfold iop at hi ⊢;cases o <;> simp only [eF, reduceCtorEq] at hk <;> simp only [aK] at hi ⊢
  case call c =>
    cases hc : c.callee with
    | builtin b =>
      simp only [hc] at hk hi ⊢
      cases b <;> simp only [reduceCtorEq] at hk
      all_goals
        split at hi
        · rename_i vs hvs
          simp only [Id.builtin, aK] at hi ⊢;by_cases hp : vs.all plain = true;· simp only [hp, bS] at hi ⊢; exact mp hi
          · rw [ad hp] at hi; cases hi
        · cases hi
    | value f => simp [hc] at hk
    | invoke r n => simp [hc] at hk
  all_goals first
    | exact mp hi
    | (repeat' (split at hi)
       all_goals first
         | (cases hi; done)
         | exact mp hi
         | (cases hi; exact ⟨rfl, fun _ => rfl⟩)
         | (cases hi; refine ⟨rfl, fun _ => ?_⟩; simp_all; done)
         | (obtain ⟨a, ha, e⟩ := bg.1 hi; cases e; simp_all))
theorem ED (hk : eF o = .load) (hi : iop P fr o h = some (v, h')) : h' = h := by
  unfold iop at hi;cases o <;> simp only [eF, reduceCtorEq] at hk <;> simp only [] at hi
  case call c =>
    cases hc : c.callee with
    | builtin b =>
      simp only [hc] at hk hi;cases b <;> simp only [reduceCtorEq] at hk;split at hi
      · rename_i vs hvs
        unfold Id.builtin at hi;split at hi
        · split at hi
          · exact (Wz hi).2
          · cases hi
        all_goals first
          | (cases hi; done)
          | (rename_i hb; cases hb)
      · cases hi
    | value f => simp [hc] at hk
    | invoke r n => simp [hc] at hk
  all_goals
    repeat' (split at hi)
    all_goals first
      | (cases hi; done)
      | exact (Wz hi).2
def FQ (P : Program) (m : Mp) (w : World) (run : Result Next) (v : Value) (h h' : IH) (obj : cB) : Prop :=
  h' = h.new obj ∧ obj.lone = true ∧ ∃ O v' z, run = .ok (.value v') (w.alloc O) ∧ jD m (w.alloc O) w.heap.size 0 z obj ∧
    ∀ m' : Mp, m' (2 * h.n) = some (w.heap.size, 0) → aW m' v v'
variable {m:Mp}{w:World}
def OC {cs cs' : List Value} (hv : cg m cs cs') (e : Nat) (t : TypeId) : jD m (w.alloc (.cells cs'.toArray t)) w.heap.size 0 (e, 0) (.cells cs e none) :=
  ⟨cs'.toArray, t, by rw [heap_alloc, ah rfl], ⟨by simp [hv.1], fun i v hi => by obtain ⟨v', a, b⟩ := hv.get hi; exact ⟨v', by simpa using a, b⟩⟩, rfl, dT _⟩
def RP {run : Result Value} {nrun : Result Next} (M : wE m w h h' run v) (hn : nrun = run.andThen fun a w' => .ok (.value a) w') :∃ obj, FQ P m w nrun v h h' obj := by obtain ⟨cs, cs', e, t, v', rfl, hL, cu, hv⟩ := M;exact ⟨_, rfl, rfl, _, v', (e, 0), by rw [hn, cu]; rfl, OC hL e t, hv⟩
def TX {ρ : Operand → Value} (hρ : ∀ x v, opd fr x = some v → aW m v (ρ x)) (oper : Oper) (hk : eF oper.op = .alloc) (hi : iop P fr oper.op h = some (v, h')) (w : World) :∃ obj, FQ P m w ((execOp ρ oper).run P w) v h h' obj := by
  obtain ⟨dst, op, ty, pos, aft, gd⟩ := oper;simp only at hk hi ⊢;cases op <;> simp only [eF, reduceCtorEq] at hk
  case alloc t =>
    simp only [iop] at hi;obtain ⟨z, hz, he⟩ := bg.1 hi;cases he;obtain ⟨zv, hz0, hzp, rfl⟩ := fj hz;refine ⟨_, rfl, rfl, .cells zv.cells.toList.toArray t, .pointer (some ⟨w.heap.size, 0, none⟩), (0, 0), ?_, OC (aW.cY (m := m) hzp).cells 0 t, fun m' hm => aW.ptr (s := 0) (o := 0) hm⟩;simp only [execOp, Instr.alloc, bt, gT w hz0, bQ, newVar, Go.newRow, lO, bT]; rfl
  case box t x =>
    simp only [iop] at hi;obtain ⟨a, ha, he⟩ := bg.1 hi;cases he;refine ⟨_, rfl, rfl, .cells (ρ x).cells.toList.toArray t, .pointer (some ⟨w.heap.size, 0, none⟩), (0, 0), ?_, OC (hρ x a ha).cells 0 t, fun m' hm => aW.ptr (s := 0) (o := 0) hm⟩;simp only [execOp, Instr.box, bt, bQ, newVar, Go.newRow, lO, bT]; rfl
  case buildSlice t len parts =>
    simp only [iop] at hi;split at hi
    · rename_i ps hps
      exact RP (tx P hρ hps hi w) (by simp [execOp])
    · cases hi
  case makeMap t r =>
    have fin : ∀ {v h'}, some (Value.map (some (2 * h.n)), h.new (.map [])) = some (v, h') → ((Instr.makeMap t (r.map ρ)).run P w = .ok (.map (some w.heap.size)) (w.alloc (.map #[] 0))) →
        ∃ obj, FQ P m w ((execOp ρ { dst := dst, op := .makeMap t r, type := ty, pos := pos, after := aft, guard := gd }).run P w) v h h' obj := by
      intro v h' e cu;cases e;exact ⟨_, rfl, rfl, .map #[] 0, .map (some w.heap.size), (0, 0), by simp [execOp, cu], ⟨rfl, #[], by rw [heap_alloc, ah rfl]; rfl, rfl, by simp⟩, fun m' hm => .map hm⟩
    simp only [iop] at hi;split at hi;· exact fin hi (by simp only [Option.map_none, Instr.makeMap, bt, bT, bQ, lO]; rfl)
    · rename_i x
      split at hi
      · rename_i k n kt et hx hu
        have := (hρ x _ hx).dN rfl;exact fin hi (by simp only [jt, this, Instr.makeMap, bt, cq hu, asInt, asIntOf, bT, bQ, lO]; rfl)
      · cases hi
  case makeSlice t l c =>
    simp only [iop] at hi;split at hi
    · rename_i a b ha hb
      exact RP (uJ P hi (hρ l a ha) (hρ c b hb) w) (by simp [execOp])
    · cases hi
  case call c => cases hc : c.callee with
    | builtin b => cases b <;> simp_all
    | value f => simp_all
    | invoke r n => simp_all
variable {a b:Value}
theorem Xu (h:eqS a b=true):a=b:=by
 unfold eqS at h;split at h
 case h_3 a b =>
  simp only[bD] at h;have:a=b:=by cases a;cases b;simp only at h;rw[uZ.1 h]
  rw[this]
 all_goals simp_all
theorem Km : ∀{a b:List Value},eqL a b=true→a=b
 | [],[],_=>rfl
 | [],_ :: _,h=>by simp[eqL] at h
 | _ :: _,[],h=>by simp[eqL] at h
 | x :: a,y :: b,h=>by simp only[eqL,eV] at h;rw[Xu h.1,Km h.2]
theorem Xv (h:eqA a b=true):a=b:=by
 unfold eqA at h;split at h;·rw[uZ.1 (Km h)]
 ·simp only[eV,bD] at h
  rw[h.1.1,uZ.1 (Km h.1.2),uZ.1 (Km h.2)]
 ·exact Xu h
theorem Xt : ∀{a b:List Value},eqT a b=true→a=b
 | [],[],_=>rfl
 | [],_ :: _,h=>by simp[eqT] at h
 | _ :: _,[],h=>by simp[eqT] at h
 | x :: a,y :: b,h=>by simp only[eqT,eV] at h;rw[Xv h.1,Xt h.2]
def ZaF (h:ZdV a b=true):a=b:=by
 unfold ZdV at h;split at h;·rw[uZ.1 (Xt h)]
 ·exact Xv h
theorem ZdU (h:eqV a b=true):a=b:=by simp only[eqV,nh,aJ] at h;exact h.elim ZaF id
theorem jQ (fr:Fr) : ∀(l:List Nat) (t:Nat),aj (ig fr l) t=if t∈l then aj fr t else none
 | [],t=>by simp[ig,aj]
 | a :: l,t=>by
  rw[ig];cases ha:aj fr a with
  | none =>
   simp only[jQ fr l t];by_cases h1:t∈l;·simp[h1]
   ·by_cases h2:t=a
    ·subst h2;simp[h1,ha]
    ·simp[h1,h2]
  | some v =>
   simp only[aj,aK,bD,jQ fr l t];by_cases h2:a=t;·subst h2;simp[ha]
   ·by_cases h1:t∈l
    ·simp[h1,h2]
    ·have : ¬t=a:=fun e=>h2 e.symm;simp[h1,h2,this]
variable {fr2 fr:Fr}
theorem qk : ∀(l:List Operand),(∀x∈l,opd fr x=opd fr2 x)→jV fr l=jV fr2 l
 | [],_=>rfl
 | x :: l,h=>by rw[jV,jV,h x aa,qk l (fun y hy=>h y (by simp[hy]))]
theorem rX : ∀(l:List (Nat×Operand)),(∀x∈l.map (·.2),opd fr x=opd fr2 x)→partsOf fr l=partsOf fr2 l
 | [],_=>rfl
 | (i,x) :: l,h=>by rw[partsOf,partsOf,h x aa,rX l (fun y hy=>h y (by simp only[kW,dD];exact .inr hy))]
theorem uo {o:Option Operand} (h : ∀x∈o.toArray,opd fr x=opd fr2 x):fG fr o=fG fr2 o:=by
 cases o with
 | none=>rfl
 | some x=>simp only[fG];rw[h x aa]
theorem A7 {P:Program} {o:Op} (h : ∀x∈o.operands,opd fr x=opd fr2 x) (hp:IH):iop P fr o hp=iop P fr2 o hp:=by
 cases o<;>simp only[Op.operands] at h<;>simp only[iop]
 case move x=>rw[h x aa]
 case assign x=>rw[h x aa]
 case pick c a b=>rw[h c aa,h a aa,h b aa]
 case box t x=>rw[h x aa]
 case build t ps=>rw[rX ps.toList (fun x hx=>h x (by simpa using hx))]
 case buildSlice t n ps=>rw[rX ps.toList (fun x hx=>h x (by simpa using hx))]
 case load t a=>rw[h a aa]
 case store t a v=>rw[h a aa,h v aa]
 case nilCheck x=>rw[h x aa]
 case binOp op t x y yt=>rw[h x aa,h y aa]
 case unOp op t x=>rw[h x aa]
 case convert s d x=>rw[h x aa]
 case sliceToArrayPointer t x=>rw[h x aa]
 case makeFunc fn first cap =>
  rw[qk first.toList (fun x hx=>h x (by simp at hx ⊢;exact .inl hx)),qk cap.toList (fun x hx=>h x (by simp at hx ⊢;exact .inr hx))]
 case makeMap t r=>cases r with
  | none=>rfl
  | some x=>simp only;rw[h x aa]
 case makeSlice t l c=>rw[h l aa,h c aa]
 case slice t x lo hi mx =>
  rw[h x aa,uo (o:=lo) (fun y hy=>h y (by simp at hy ⊢;simp[hy])),uo (o:=hi) (fun y hy=>h y (by simp at hy ⊢;simp[hy])),uo (o:=mx) (fun y hy=>h y (by simp at hy ⊢;simp[hy]))]
 case fieldAddr t x f=>rw[h x aa]
 case field t x f=>rw[h x aa]
 case indexAddr t x i=>rw[h x aa,h i aa]
 case index t x i=>rw[h x aa,h i aa]
 case lookup t m k ok=>rw[h m aa,h k aa]
 case mapUpdate t m k v=>rw[h m aa,h k aa,h v aa]
 case insert t m k v=>rw[h m aa,h k aa,h v aa]
 case extract x i=>rw[h x aa]
 case range t x=>rw[h x aa]
 case entry x=>rw[h x aa]
 case call c =>
  cases hc:c.callee with
  | builtin b=>simp only;rw[qk c.args.toList (fun x hx=>h x (by simp[Call.operands,hc];simpa using hx))]
  | value f=>rfl
  | invoke r n=>rfl
variable {E:Env}{call:cQ}
def LS {o:Op} (h : ∀x∈o.operands,opd fr x=opd fr2 x) (hp:IH):fw E call fr o hp=fw E call fr2 o hp:=by
 unfold fw;split
 ·rename_i c;split
  ·rename_i f hc;simp only[Op.operands,Call.operands,hc] at h;rw[h f aa,qk c.args.toList (fun x hx=>h x (by simp;exact .inr (by simpa using hx)))]
  ·exact A7 h hp
 ·exact A7 h hp
theorem Mi (fr:Fr) (ops:List Oper) (o:Oper) : ∀x∈o.op.operands,opd (ig fr (reads ops o)) x=opd fr x:=by
 intro x hx;cases x with
 | tmp t =>
  simp only[opd,jQ];rw[ah ?_];unfold reads tmpsOf;exact List.mem_append_left _ (IB.2 ⟨.tmp t,by simpa using hx,rfl⟩)
 | _=>rfl
theorem Bw (fr:Fr) (ops:List Oper) (o:Oper):cC ops o (ig fr (reads ops o))=cC ops o fr:=by
 unfold cC;cases hg:o.guard with
 | none=>rfl
 | some jw =>
  obtain⟨j,want⟩:=jw;simp only;cases hd:(ops[j]?).bind (·.dst) with
  | none=>rfl
  | some d =>
   simp only;rw[jQ,ah ?_];unfold reads;exact List.mem_append_right _ (by simp[hg,hd])
variable {ops:List Oper}
def tQ {nt:Nat} : ∀(l:List Oper) (fr:Fr) (h:IH) (tr:List (Fr×IH)),trace E call nt ops l fr h=some tr → tr.length=l.length+1∧tr[0]?=some (fr,h) ∧ ∀(i:Nat) (o:Oper),l[i]?=some o → ∃fr1 h1 fr2 h2,tr[i]?=some (fr1,h1)∧tr[i+1]?=some (fr2,h2)∧ft E call nt ops o fr1 h1=some (fr2,h2)
 | [],fr,h,tr,ht=>by simp only[trace] at ht;cases ht;exact⟨rfl,rfl,aa⟩
 | o :: l,fr,h,tr,ht=>by
  rw[trace] at ht;split at ht
  ·rename_i fr' h' hs;obtain⟨tr',h1,rfl⟩:=bg.1 ht;obtain⟨a,b,c⟩:=tQ l fr' h' tr' h1;refine⟨by simp[a],rfl,fun i o' hi=>?_⟩;cases i with
   | zero=>simp at hi;subst hi;exact⟨fr,h,fr',h',rfl,by simpa using b,hs⟩
   | succ i=>simp at hi;obtain⟨x1,x2,x3,x4,y1,y2,y3⟩:=c i o' hi;exact⟨x1,x2,x3,x4,by simpa using y1,by simpa using y2,y3⟩
  ·cases ht
theorem yY (acc:List Nat) (i:Nat) : ∀(es:List Edge),(es.foldr (fun e s=>bif Region.binds .any e then s ||| 2 ^ e.on ||| acc.getD e.on 0 else s) 0).testBit i=es.any (fun e=>Region.binds .any e && (e.on == i || (acc.getD e.on 0).testBit i))
 | []=>aa
 | e :: es=>by
  rw[List.foldr_cons,List.any_cons,←yY acc i es];cases hb:Region.binds .any e with
  | false=>simp
  | true =>
   simp only[bP,Nat.testBit_or,Nat.testBit_two_pow,Bool.true_and];have:decide (e.on=i)=(e.on == i):=by by_cases h:e.on=i<;>simp[h]
   rw[this];cases(List.foldr (fun e s=>bif Region.binds .any e then s ||| 2 ^ e.on ||| acc.getD e.on 0 else s) 0 es).testBit i<;>cases(e.on == i)<;>cases(acc.getD e.on 0).testBit i<;>rfl
def Em : ∀(l:List Oper) (acc:List Nat),(uI acc l).length=acc.length+l.length∧(uI acc l).take acc.length=acc ∧ ∀(j:Nat) (o:Oper),l[j]?=some o→(uI acc l)[acc.length+j]?=some (yq ((uI acc l).take (acc.length+j)) o)
 | [],acc=>by simp[uI]
 | o :: l,acc=>by
  obtain⟨h1,h2,h3⟩:=Em l (acc ++ [yq acc o]);rw[uI];simp only[du,gX,List.length_nil] at h1 h2 h3;have hpre:(uI (acc ++ [yq acc o]) l).take acc.length=acc:=by have:=gC (List.take acc.length) h2;rw[C9,rP (ar _),tH] at this;rw[lU byOmega] at this;exact this
  refine⟨by rw[h1,gX];omega,hpre,fun j o' hj=>?_⟩;cases j with
  | zero =>
   simp at hj;subst hj;rw[fR,hpre];have:((uI (acc ++ [yq acc o]) l).take (acc.length+1))[acc.length]?=some (yq acc o):=by rw[h2];simp
   rw[iU] at this;simpa using this
  | succ j =>
   simp at hj;have:=h3 j o' hj;rw[show acc.length+(j+1)=acc.length+(0+1)+j from by omega];exact this
def iR (ops:List Oper) (j i:Nat):Bool:=((uI [] ops).getD j 0).testBit i
def Nu {j i:Nat} {o:Oper} (ho:ops[j]?=some o) (hlt : ∀e∈o.after,Region.binds .any e=true→e.on<j) :iR ops j i=true ↔ ∃e∈o.after,Region.binds .any e=true∧(e.on=i∨iR ops e.on i=true):=by
 obtain⟨_,_,h3⟩:=Em ops [];have hm:=h3 j o ho;simp only[List.length_nil,eu] at hm;unfold iR;rw[bC,hm,mZ];unfold yq;rw[yY,List.any_eq_true];constructor
 ·rintro⟨e,he,hb⟩;simp only[eV,nh,bD] at hb;refine⟨e,by simpa using he,hb.1,?_⟩;have:=hlt e (by simpa using he) hb.1;rcases hb.2 with h|h
  ·exact .inl h
  ·right;rw[bC,iU,ah this] at h;rw[bC];exact h
 ·rintro⟨e,he,hb,h⟩;have hl:=hlt e he hb;refine⟨e,by simpa using he,?_⟩;simp only[eV,nh,bD];refine⟨hb,?_⟩;rcases h with h|h
  ·exact .inl h
  ·right;rw[bC,iU,ah hl];rw[bC] at h;exact h
variable {m:Mp}{h:IH}{B:Nat}{w w0:World}
def Rel.Zen (R:Rel B w0 m h w) (o:cB) (hl:o.lone=true)(hm:m (2*h.n)=none ∨ ∃r,m (2*h.n)=some (r,0)∧jD m w r 0 (m.ez (2*h.n)) o ∧ ∀k s,k<h.n→m (2*k)≠some (r,s)):Rel B w0 m (h.new o) w:=by
 have dM : ∀k,(h.new o).ext.get k=if k=h.n then some o else h.ext.get k:=fun k=>Tr.cE _ _ _ _;have hdn:=R.dom h.n (ar _);have hn:(h.new o).n=h.n+1:=rfl
 have hlt : ∀{k x},h.ext.get k=some x→k<h.n:=by
  intro k x hk;rcases cU k h.n with e|e;·exact e
  ·rw[R.dom k e] at hk;cases hk
 refine⟨R.below,R.size,R.base,R.odd,R.even,?_,?_,?_,?_,?_,?_,R.whole⟩;·intro k hk;rw[dM,ad byOmega];exact R.dom k byOmega
 ·intro k x r s hk hr;rw[dM] at hk;by_cases e:k=h.n
  ·subst e;rw[ah rfl] at hk;cases hk;rcases hm with e|⟨r',h1,h2,_⟩
   ·rw[e] at hr;cases hr
   ·rw[h1] at hr;cases hr;exact h2
  ·rw[ad e] at hk;exact R.obj k x r s hk hr
 ·intro k k' x x' r s s' hne hk hk' ha ha' hr hr';rw[dM] at hk hk';by_cases e:k=h.n
  ·subst e;rw[ad (fun e=>hne e.symm)] at hk';rcases hm with e|⟨r',h1,_,h3⟩
   ·rw[e] at hr;cases hr
   ·rw[h1] at hr;cases hr;exact absurd hr' (h3 k' s' (hlt hk'))
  ·by_cases e':k'=h.n
   ·subst e';rw[ad e] at hk;rcases hm with e|⟨r',h1,_,h3⟩
    ·rw[e] at hr';cases hr'
    ·rw[h1] at hr';cases hr';exact absurd hr (h3 k s (hlt hk))
   ·rw[ad e] at hk;rw[ad e'] at hk';exact(R.own k k' x x' r s s' hne hk hk' ha ha' hr hr').imp (Rz hdn) id
 ·intro f st hf;obtain⟨a,b,c⟩:=R.fI f st hf;exact⟨rN a,fun x hx=>rN (b x hx),c⟩
 ·intro k cs t f hk;rw[dM] at hk;by_cases e:k=h.n
  ·rw[ah e] at hk;cases hk;simp[cB.lone] at hl
  ·rw[ad e] at hk;exact R.fam k cs t f hk
 ·intro f st hf;have hltf:=(R.fI f st hf).2.1;refine(R.long f st hf).imp_of_mem fun {x y} hx hy hxy=>?_;intro cs t g cs' t' g' r s s' h1 h2 h3 h4;rw[dM,ad (by have:=hltf x hx;omega)] at h1;rw[dM,ad (by have:=hltf y hy;omega)] at h2;exact hxy cs t g cs' t' g' r s s' h1 h2 h3 h4
def Rel.Zfe (R:Rel B w0 m h w) (k:Nat) (O:Obj) (z:Nat×Nat) (hm:m (2*k)=none)
  (sX : ∀o,h.ext.get k=some o→o.lone=true∧jD m (w.alloc O) w.heap.size 0 z o) (hst : ∀f st,h.cZ.get f=some st→k∉st):Rel B w0 (m.upd (2*k) (w.heap.size,0) z) h (w.alloc O):=by
 have hle:m.le (m.upd (2*k) (w.heap.size,0) z):=Mp.Eu hm;have hold : ∀r,r<w.heap.size→(w.alloc O).heap[r]?=w.heap[r]?:=fun r hr=>by rw[heap_alloc,ad byOmega]
 refine⟨rH R.below R.size O,by rw[size_alloc];have:=R.size;omega,?_,?_,?_,R.dom,?_,?_,R.fI,R.fam,?_,?_⟩
 ·intro b cs hb;obtain⟨r0,s0,hm0,hb1,c,el,fz,hc,hr⟩:=R.base b cs hb
  refine⟨r0,s0,by rw[Mp.df _ _ _ byOmega];exact hm0,hb1,c,el,fz,?_,hr.1,fun i v hv=>let ⟨v',x,y⟩:=hr.2 i v hv;⟨v',x,y.mono hle⟩⟩
  rw[hold r0 (by have:=R.size;omega),hc]
 ·intro b hb;rw[Mp.df _ _ _ byOmega];exact R.odd b hb
 ·intro j r s hj
  rw[size_alloc];by_cases e:j=k
  ·subst e;rw[Mp.cb] at hj;cases hj;exact⟨R.size,byOmega⟩
  ·rw[Mp.df _ _ _ byOmega] at hj
   have:=R.even j r s hj;omega
 ·intro j x r s hx hj
  by_cases e:j=k
  ·subst e;rw[Mp.cb] at hj;cases hj
   exact(sX x hx).2.mono hle rfl (Mp.pF _ _ _ _)
  ·rw[Mp.df _ _ _ byOmega] at hj
   exact(R.obj j x r s hx hj).mono hle (hold r (R.even j r s hj).2) (Mp.Xn _ _ _ byOmega)
 ·intro j j' x x' r s s' hne hx hx' ha ha' hj hj'
  by_cases e:j=k;·subst e;rw[Mp.cb] at hj;cases hj;rw[Mp.df _ _ _ byOmega] at hj';have:=R.even _ _ _ hj';omega
  ·by_cases e':j'=k
   ·subst e';rw[Mp.cb] at hj';cases hj';rw[Mp.df _ _ _ byOmega] at hj;have:=R.even _ _ _ hj;omega
   ·rw[Mp.df _ _ _ byOmega] at hj hj';exact R.own j j' x x' r s s' hne hx hx' ha ha' hj hj'
 ·intro f st hf
  refine(R.long f st hf).imp_of_mem fun {x y} hx hy hxy=>?_
  have hx':x≠k:=fun e=>hst f st hf (e▸hx);have hy':y≠k:=fun e=>hst f st hf (e▸hy);intro cs t g cs' t' g' r s s' h1 h2 h3 h4;rw[Mp.df _ _ _ byOmega] at h3 h4;exact hxy cs t g cs' t' g' r s s' h1 h2 h3 h4
 ·intro f st x y hf hx hy
  have hx':x≠k:=fun e=>hst f st hf (e▸hx);have hy':y≠k:=fun e=>hst f st hf (e▸hy);rw[Mp.df _ _ _ byOmega,Mp.df _ _ _ byOmega];exact R.whole f st x y hf hx hy
variable {fr:Fr}{o:Op}{h:IH}
def Gd {P:Program} {h':IH} {v:Value} (hk:eF o=.alloc) (hi:iop P fr o h=some (v,h')) : ∃obj,h'=h.new obj∧obj.lone=true:=by
 cases o<;>simp only[eF,reduceCtorEq] at hk<;>simp only[iop] at hi
 case alloc t=>obtain⟨z,_,e⟩:=bg.1 hi;cases e;exact⟨_,rfl,rfl⟩
 case box t x=>obtain⟨z,_,e⟩:=bg.1 hi;cases e;exact⟨_,rfl,rfl⟩
 case buildSlice t len parts =>
  split at hi
  ·unfold Id.buildSlice at hi;simp only[aK] at hi;repeat' (split at hi)
   all_goals first|(cases hi;done)|(cases hi;exact⟨_,rfl,rfl⟩)
  ·cases hi
 case makeMap t r =>
  repeat' (split at hi)
  all_goals first|(cases hi;done)|(cases hi;exact⟨_,rfl,rfl⟩)
 case makeSlice t l c =>
  split at hi
  ·unfold Id.makeSlice at hi;simp only[aK] at hi;repeat' (split at hi)
   all_goals first|(cases hi;done)|(cases hi;exact⟨_,rfl,rfl⟩)
  ·cases hi
 case call c=>cases hc:c.callee with
  | builtin b=>cases b<;>simp_all
  | value f=>simp_all
  | invoke r n=>simp_all
theorem iK {E:Env} {call:cQ} (hk:eF o≠.chain):fw E call fr o h=iop E.P fr o h:=by
 unfold fw;split
 ·rename_i c;split
  ·rename_i f hc;simp[eF,hc] at hk
  ·rfl
 ·rfl
structure Text (E:Env) (call:cQ) (nt:Nat) (ops:Array Oper) (FA:Nat→Fr) (HA:Nat→IH):Prop where
 mono:fY call
 step : ∀i o,ops[i]?=some o→ft E call nt ops.toList o (FA i) (HA i)=some (FA (i+1),HA (i+1))
def ir (ops:Array Oper) (FA:Nat→Fr) (i:Nat):Prop:=∃o,ops[i]?=some o∧eF o.op=.alloc∧cC ops.toList o (FA i)=some true
def fg (ops:Array Oper) (i:Nat):Prop:=∃o,ops[i]?=some o∧eF o.op=.chain
section
variable {E:Env} {call:cQ} {nt:Nat} {ops:Array Oper} {FA:Nat→Fr} {HA:Nat→IH}
def Text.nle (T:Text E call nt ops FA HA) : ∀(j i:Nat),i≤j→j≤ops.size→(HA i).n≤(HA j).n
 | 0,i,h1,_=>by have e:i=0:=byOmega;rw[e];exact ar _
 | j+1,i,h1,h2=>by
  by_cases e:i=j+1;·subst e;exact ar _
  ·have ho:ops[j]?=some ops[j]:=oT byOmega
   exact bA (T.nle j i byOmega byOmega) (DH T.mono (T.step j _ ho))
variable {i:Nat}
def Text.alloc (T:Text E call nt ops FA HA) (h:ir ops FA i) : ∃obj,HA (i+1)=(HA i).new obj∧obj.lone=true:=by
 obtain⟨o,ho,hk,hw⟩:=h;have hs:=T.step i o ho;unfold ft at hs;rw[hw] at hs;simp only at hs;split at hs;·rename_i v h2 cu;obtain⟨a,_,e⟩:=bg.1 hs;rw[iK (by rw[hk];simp)] at cu;obtain⟨obj,h3,h4⟩:=Gd hk cu;have e2:h2=HA (i+1):=(CT e).2;exact⟨obj,by rw[←e2,h3],h4⟩
 ·cases hs
theorem Text.same (T:Text E call nt ops FA HA) {o:Oper} (ho:ops[i]?=some o) (hc : ¬fg ops i) (ha : ¬ir ops FA i):HA (i+1)=HA i:=by
 have hs:=T.step i o ho;unfold ft at hs;split at hs
 ·rename_i hw;split at hs
  ·rename_i v h2 cu;obtain⟨a,_,e⟩:=bg.1 hs;have e2:h2=HA (i+1):=(CT e).2;have hk:eF o.op≠.chain:=fun e=>hc ⟨o,ho,e⟩;rw[iK hk] at cu;rw[←e2];cases hkk:eF o.op with
   | pure=>exact(EC hkk cu).1
   | load=>exact ED hkk cu
   | alloc=>exact absurd ⟨o,ho,hkk,hw⟩ ha
   | chain=>exact absurd hkk hk
  ·cases hs
 ·obtain⟨a,_,e⟩:=bg.1 hs;exact(CT e).2.symm
 ·cases hs
def oZ (h:fg ops i) : ¬ir ops FA i:=by rintro⟨o,ho,hk,_⟩;obtain⟨o',ho',hk'⟩:=h;rw[ho] at ho';cases ho';rw[hk] at hk';cases hk'
end
structure qV (ops:Array Oper) (FA:Nat→Fr) (HA:Nat→IH) (B:Nat) (w0:World) (m0:Mp) (wi:World) (D:Nat→Prop) (a:Nat) (m:Mp) (w:World):Prop where
 rel:Rel B w0 m (HA a) w
 none_ : ∀i,i<ops.size→ir ops FA i → ¬D i→m (2*(HA i).n)=none
 OQ : ∀i,i<a→i<ops.size→ir ops FA i → ¬D i→(∃obj,HA (i+1)=(HA i).new obj∧(HA a).ext.get (HA i).n=some obj) ∧ ∀f st,(HA a).cZ.get f=some st→(HA i).n∉st
 extra : ∀i,a≤i→i<ops.size→ir ops FA i→D i → ∃obj r,HA (i+1)=(HA i).new obj∧m (2*(HA i).n)=some (r,0)∧jD m w r 0 (m.ez (2*(HA i).n)) obj
 inj : ∀k k' r s s',(HA a).n≤k→k<(HA ops.size).n→k'<(HA ops.size).n→k≠k'→m (2*k)=some (r,s)→m (2*k')≠some (r,s')
 fresh : ∀k,(HA a).n≤k→k<(HA ops.size).n→m (2*k)=none ∨ ∃i,a≤i∧i<ops.size∧ir ops FA i∧D i∧k=(HA i).n
 le:m0.le m
 new : ∀b,m b≠m0 b → ∃k,b=2*k∧(HA 0).n≤k∧k<(HA ops.size).n
 base:(HA a).base=(HA 0).base
 frame : ∀r,r<wi.heap.size→(∀k s,k<(HA 0).n→m0 (2*k)≠some (r,s))→w.heap[r]?=wi.heap[r]?
 idle : ∀k,k<(HA 0).n→m0 (2*k)=none→(HA a).ext.get k=(HA 0).ext.get k
 size:wi.heap.size≤w.heap.size
 img : ∀k r s,(HA 0).n≤k→k<(HA ops.size).n→m (2*k)=some (r,s)→wi.heap.size≤r ∨ ∃k0 s0,k0<(HA 0).n∧m0 (2*k0)=some (r,s0)
 rB : ∀k,k<(HA 0).n→m0 (2*k)=none→(∀f st,(HA 0).cZ.get f=some st→k∉st) → ∀f st,(HA a).cZ.get f=some st→k∉st
section
variable {E:Env} {call:cQ} {nt:Nat} {ops:Array Oper} {FA:Nat→Fr} {HA:Nat→IH} {B:Nat} {w0:World} {m0:Mp} {wi:World} {D:Nat→Prop} {a:Nat} {m:Mp} {w:World}
theorem qV.old (I:qV ops FA HA B w0 m0 wi D a m w) {k:Nat} (hk:k<(HA 0).n):m (2*k)=m0 (2*k):=by apply dW;intro hne;obtain⟨k',e,h1,_⟩:=I.new _ hne;omega
theorem qV.go (T:Text E call nt ops FA HA) (I:qV ops FA HA B w0 m0 wi D a m w) {c:Nat} (hac:a≤c) (hc:c≤ops.size) (hno : ∀i,a≤i→i<c → ¬ir ops FA i) {m':Mp} {w':World} (R:Rel B w0 m' (HA c) w') (S:Step m (HA a) w m' (HA c) w') :qV ops FA HA B w0 m0 wi D c m' w':=by
 have nac:(HA a).n≤(HA c).n:=S.n;have n0a:(HA 0).n≤(HA a).n:=T.nle a 0 (dT _) (bA hac hc);have ncN:(HA c).n≤(HA ops.size).n:=T.nle _ _ hc (ar _);have ij : ∀k,(k<(HA a).n∨(HA c).n≤k)→m' (2*k)=m (2*k):=by intro k hk;apply dW;intro hne;obtain⟨k',e,h1,h2⟩:=S.new _ hne;omega
 have low : ∀i,i<ops.size→ir ops FA i→(HA i).n<(HA a).n∨(HA c).n≤(HA i).n:=by
  intro i hi ha;by_cases h1:i<a;·obtain⟨obj,e,_⟩:=T.alloc ha;have h2:(HA (i+1)).n≤(HA a).n:=T.nle a (i+1) h1 byOmega;rw[e] at h2;have:((HA i).new obj).n=(HA i).n+1:=rfl;left;omega
  ·right;by_cases h2:i<c
   ·exact absurd ha (hno i byOmega h2)
   ·exact T.nle i c byOmega byOmega
 refine⟨R,?_,?_,?_,?_,?_,Mp.le_trans I.le S.le,?_,S.base.trans I.base,?_,?_,bA I.size S.size,?_,?_⟩;·intro i hi ha hd;rw[ij _ (low i hi ha)];exact I.none_ i hi ha hd
 ·intro i hic hi ha hd
  have hia:i<a:=by
   rcases cU i a with h|h;·exact h
   ·exact absurd ha (hno i h hic)
  obtain⟨⟨obj,e,hg⟩,hst⟩:=I.OQ i hia hi ha hd;have hlt:(HA i).n<(HA a).n:=by have h2:(HA (i+1)).n≤(HA a).n:=T.nle a (i+1) hia byOmega;rw[e] at h2;have:((HA i).new obj).n=(HA i).n+1:=rfl;omega
  have hm:=I.none_ i hi ha hd;exact⟨⟨obj,e,by rw[S.idle _ hlt hm];exact hg⟩,S.rB _ hlt hm hst⟩
 ·intro i hic hi ha hd;obtain⟨obj,r,e,hm,ho⟩:=I.extra i byOmega hi ha hd;obtain⟨h1,h2⟩:=S.le _ _ hm;refine⟨obj,r,e,h1,ho.mono S.le ?_ h2⟩;refine S.frame r (I.rel.even _ _ _ hm).2 ?_;intro k s hk hmk;have hge:(HA a).n≤(HA i).n:=T.nle i a byOmega byOmega;have hlt:(HA i).n<(HA ops.size).n:=by have h2:(HA (i+1)).n≤(HA ops.size).n:=T.nle _ (i+1) hi (ar _);rw[e] at h2;have:((HA i).new obj).n=(HA i).n+1:=rfl;omega
  exact I.inj _ k r 0 s hge hlt byOmega byOmega hm hmk
 ·intro k k' r s s' hk hkN ZdD hne hm hm';rw[ij k (.inr hk)] at hm;by_cases h1:k'<(HA a).n∨(HA c).n≤k'
  ·rw[ij k' h1] at hm';exact I.inj k k' r s s' byOmega hkN ZdD hne hm hm'
  ·rcases S.img k' r s' byOmega byOmega hm' with e|⟨k0,s0,e1,e2⟩
   ·have:=(I.rel.even k r s hm).2;omega
   ·exact I.inj k k0 r s s0 byOmega hkN byOmega byOmega hm e2
 ·intro k hk hkN;rw[ij k (.inr hk)];rcases I.fresh k byOmega hkN with e|⟨i,h1,h2,h3,h4,h5⟩
  ·exact .inl e
  ·refine .inr ⟨i,?_,h2,h3,h4,h5⟩;rcases cU i c with h|h
   ·exact absurd h3 (hno i h1 h)
   ·exact h
 ·intro b hb;by_cases h1:m' b=m b
  ·rw[h1] at hb;exact I.new b hb
  ·obtain⟨k,e,h2,h3⟩:=S.new b h1;exact⟨k,e,byOmega,byOmega⟩
 ·intro r hr hk;rw[S.frame r (cV hr I.size) ?_,I.frame r hr hk];intro k s hka hmk;by_cases h1:k<(HA 0).n
  ·rw[I.old h1] at hmk;exact hk k s h1 hmk
  ·rcases I.img k r s byOmega byOmega hmk with e|⟨k0,s0,e1,e2⟩
   ·omega
   ·exact hk k0 s0 e1 e2
 ·intro k hk hm;rw[S.idle k byOmega (by rw[I.old hk,hm]),I.idle k hk hm]
 ·intro k r s hk hkN hm;by_cases h1:k<(HA a).n∨(HA c).n≤k
  ·rw[ij k h1] at hm;exact I.img k r s hk hkN hm
  ·rcases S.img k r s byOmega byOmega hm with e|⟨k0,s0,e1,e2⟩
   ·exact .inl (bA I.size e)
   ·by_cases h2:k0<(HA 0).n
    ·rw[I.old h2] at e2;exact .inr ⟨k0,s0,h2,e2⟩
    ·exact I.img k0 r s0 byOmega byOmega e2
 ·intro k hk hm hst;exact S.rB k byOmega (by rw[I.old hk,hm]) (I.rB k hk hm hst)
def qV.next (T:Text E call nt ops FA HA) (I:qV ops FA HA B w0 m0 wi D a m w) (ha:a<ops.size) (hc : ¬fg ops a):qV ops FA HA B w0 m0 wi D (a+1) m w:=by
 have ho:ops[a]?=some ops[a]:=oT ha;by_cases hal:ir ops FA a
 ·obtain⟨obj,e,hl⟩:=T.alloc hal;have hn1:(HA (a+1)).n=(HA a).n+1:=by rw[e];rfl
  have hN:(HA (a+1)).n≤(HA ops.size).n:=T.nle _ _ ha (ar _);have n0a:(HA 0).n≤(HA a).n:=T.nle a 0 (dT _) byOmega;have dM : ∀k,(HA (a+1)).ext.get k=if k=(HA a).n then some obj else (HA a).ext.get k:=fun k=>by rw[e];exact Tr.cE _ _ _ _
  have Ck:(HA (a+1)).cZ=(HA a).cZ:=by rw[e];rfl
  have ZfP : ∀i,i<a→ir ops FA i→(HA i).n<(HA a).n:=by intro i hia h3;obtain⟨AW,e',_⟩:=T.alloc h3;have h2:(HA (i+1)).n≤(HA a).n:=T.nle a (i+1) hia byOmega;rw[e'] at h2;have:((HA i).new AW).n=(HA i).n+1:=rfl;omega
  have tc:m (2*(HA a).n)=none ∨ ∃r,m (2*(HA a).n)=some (r,0)∧jD m w r 0 (m.ez (2*(HA a).n)) obj ∧ ∀k s,k<(HA a).n→m (2*k)≠some (r,s):=by
   by_cases hd:D a
   ·obtain⟨AW,r,e',hm,hO⟩:=I.extra a (ar _) ha hal hd;have:AW=obj:=by
     rw[e] at e';have h1:=dM (HA a).n;rw[ah rfl,e] at h1;have h2:((HA a).new AW).ext.get (HA a).n=some AW:=by show((HA a).ext.set (HA a).n AW).get (HA a).n=_;rw[Tr.cE,ah rfl]
     rw[←e',h1] at h2;cases h2;rfl
    subst this;exact .inr ⟨r,hm,hO,fun k s hk hmk=>I.inj (HA a).n k r 0 s (ar _) byOmega byOmega byOmega hm hmk⟩
   ·exact .inl (I.none_ a ha hal hd)
  refine⟨by rw[e];exact I.rel.Zen obj hl tc,I.none_,?_,?_,?_,?_,I.le,I.new,by rw[e];exact I.base,I.frame,?_,I.size,I.img,?_⟩
  ·intro i hi1 hi h3 hd;by_cases hia:i=a
   ·subst hia;exact⟨⟨obj,e,by rw[dM,ah rfl]⟩,fun f st hf=>by rw[Ck] at hf;have:=(I.rel.fI f st hf).2.1;intro hx;have:=this _ hx;omega⟩
   ·obtain⟨⟨AW,e',hg⟩,hst⟩:=I.OQ i byOmega hi h3 hd;have hlt:=ZfP i byOmega h3;exact⟨⟨AW,e',by rw[dM,ad byOmega];exact hg⟩,by rw[Ck];exact hst⟩
  ·intro i hi1 hi h3 hd;exact I.extra i byOmega hi h3 hd
  ·intro k k' r s s' hk;exact I.inj k k' r s s' byOmega
  ·intro k hk hkN;rcases I.fresh k byOmega hkN with h|⟨i,h1,h2,h3,h4,h5⟩
   ·exact .inl h
   ·refine .inr ⟨i,?_,h2,h3,h4,h5⟩;rcases cU a i with h|h
    ·exact h
    ·obtain rfl:i=a:=byOmega;omega
  ·intro k hk hm;rw[dM,ad byOmega];exact I.idle k hk hm
  ·intro k hk hm hst;rw[Ck];exact I.rB k hk hm hst
 ·have e:=T.same ho hc hal;refine⟨by rw[e];exact I.rel,I.none_,?_,?_,?_,?_,I.le,I.new,by rw[e];exact I.base,I.frame,by rw[e];exact I.idle,I.size,I.img,by rw[e];exact I.rB⟩
  ·intro i hi1 hi h3 hd;have:i≠a:=fun h=>hal (h▸h3);rw[e];exact I.OQ i byOmega hi h3 hd
  ·intro i hi1 hi h3 hd;exact I.extra i byOmega hi h3 hd
  ·rw[e];exact I.inj
  ·rw[e];intro k hk hkN;rcases I.fresh k hk hkN with h|⟨i,h1,h2,h3,h4,h5⟩
   ·exact .inl h
   ·refine .inr ⟨i,?_,h2,h3,h4,h5⟩;have:i≠a:=fun h=>hal (h▸h3);omega
def qV.make (T:Text E call nt ops FA HA) (I:qV ops FA HA B w0 m0 wi D a m w) (hae:a≤ops.size) {i:Nat} (hi:i<ops.size) (hal:ir ops FA i) (hd : ¬D i) {obj:cB} (e:HA (i+1)=(HA i).new obj) (hl:obj.lone=true) {O:Obj} {z:Nat×Nat}(hO:jD m (w.alloc O) w.heap.size 0 z obj):qV ops FA HA B w0 m0 wi (fun j=>D j∨j=i) a (m.upd (2*(HA i).n) (w.heap.size,0) z) (w.alloc O):=by
 have hm:=I.none_ i hi hal hd;have hle:m.le (m.upd (2*(HA i).n) (w.heap.size,0) z):=Mp.Eu hm;have hne : ∀k,k≠(HA i).n→(m.upd (2*(HA i).n) (w.heap.size,0) z) (2*k)=m (2*k):=fun k hk=>Mp.df _ _ _ byOmega;have ij : ∀r,r<w.heap.size→(w.alloc O).heap[r]?=w.heap[r]?:=fun r hr=>by rw[heap_alloc,ad byOmega]
 have hidN:(HA i).n<(HA ops.size).n:=by have h2:(HA (i+1)).n≤(HA ops.size).n:=T.nle _ (i+1) hi (ar _);rw[e] at h2;have:((HA i).new obj).n=(HA i).n+1:=rfl;omega
 have h0i:(HA 0).n≤(HA i).n:=T.nle i 0 (dT _) byOmega
 have hids : ∀j,j<ops.size→ir ops FA j→j≠i→(HA j).n≠(HA i).n:=by
  intro j hj h3 hji;rcases Nat.lt_or_gt_of_ne hji with h|h;·obtain⟨AW,e',_⟩:=T.alloc h3;have h2:(HA (j+1)).n≤(HA i).n:=T.nle i (j+1) h byOmega;rw[e'] at h2;have:((HA j).new AW).n=(HA j).n+1:=rfl;omega
  ·have h2:(HA (i+1)).n≤(HA j).n:=T.nle j (i+1) h byOmega
   rw[e] at h2;have:((HA i).new obj).n=(HA i).n+1:=rfl;omega
 refine⟨?_,?_,?_,?_,?_,?_,Mp.le_trans I.le hle,?_,I.base,?_,I.idle,by rw[size_alloc];have:=I.size;omega,?_,I.rB⟩
 ·refine I.rel.Zfe (HA i).n O z hm ?_ ?_
  ·intro o hg;by_cases hia:i<a
   ·obtain⟨⟨AW,e',hg'⟩,_⟩:=I.OQ i hia hi hal hd;rw[hg'] at hg;cases hg;have:o=obj:=by
     rw[e] at e';have h1:((HA i).new obj).ext.get (HA i).n=some obj:=by show((HA i).ext.set (HA i).n obj).get (HA i).n=_;rw[Tr.cE,ah rfl]
     have h2:((HA i).new o).ext.get (HA i).n=some o:=by show((HA i).ext.set (HA i).n o).get (HA i).n=_;rw[Tr.cE,ah rfl]
     rw[←e',h1] at h2;cases h2;rfl
    subst this;exact⟨hl,hO⟩
   ·have:(HA a).n≤(HA i).n:=T.nle i a byOmega byOmega;rw[I.rel.dom _ this] at hg;cases hg
  ·intro f st hf;by_cases hia:i<a
   ·exact(I.OQ i hia hi hal hd).2 f st hf
   ·have:(HA a).n≤(HA i).n:=T.nle i a byOmega byOmega;intro hx;have:=(I.rel.fI f st hf).2.1 _ hx;omega
 ·intro j hj h3 hdj;have hji:j≠i:=fun e=>hdj (.inr e);rw[hne _ (hids j hj h3 hji)];exact I.none_ j hj h3 (fun h=>hdj (.inl h))
 ·intro j hja hj h3 hdj;exact I.OQ j hja hj h3 (fun h=>hdj (.inl h))
 ·intro j hja hj h3 hdj;by_cases hji:j=i
  ·subst hji;exact⟨obj,w.heap.size,e,Mp.cb _ _ _ _,hO.mono hle rfl (Mp.pF _ _ _ _)⟩
  ·obtain⟨AW,r,e',hmr,hO'⟩:=I.extra j hja hj h3 (hdj.resolve_right hji);obtain⟨h1,h2⟩:=hle _ _ hmr;exact⟨AW,r,e',h1,hO'.mono hle (ij r (I.rel.even _ _ _ hmr).2) h2⟩
 ·intro k k' r s s' hk hkN ZdD hkk h1 h2;by_cases c1:k=(HA i).n
  ·subst c1;rw[Mp.cb] at h1;cases h1;rw[hne _ (fun e=>hkk e.symm)] at h2;have:=(I.rel.even _ _ _ h2).2;omega
  ·rw[hne _ c1] at h1;by_cases c2:k'=(HA i).n
   ·subst c2;rw[Mp.cb] at h2;cases h2;have:=(I.rel.even _ _ _ h1).2;omega
   ·rw[hne _ c2] at h2;exact I.inj k k' r s s' hk hkN ZdD hkk h1 h2
 ·intro k hk hkN;by_cases c1:k=(HA i).n
  ·subst c1
   have hia:a≤i:=by
    rcases cU i a with h|h;·have h2:(HA (i+1)).n≤(HA a).n:=T.nle a (i+1) h hae;rw[e] at h2;have:((HA i).new obj).n=(HA i).n+1:=rfl;omega
    ·exact h
   exact .inr ⟨i,hia,hi,hal,.inr rfl,rfl⟩
  ·rw[hne _ c1];rcases I.fresh k hk hkN with h|⟨j,h1,h2,h3,h4,h5⟩
   ·exact .inl h
   ·exact .inr ⟨j,h1,h2,h3,.inl h4,h5⟩
 ·intro b hb;by_cases h1:b=2*(HA i).n
  ·exact⟨_,h1,h0i,hidN⟩
  ·rw[Mp.df _ _ _ h1] at hb;exact I.new b hb
 ·intro r hr hk;rw[ij r (cV hr I.size)];exact I.frame r hr hk
 ·intro k r s hk hkN h1;by_cases c1:k=(HA i).n
  ·subst c1;rw[Mp.cb] at h1;cases h1;exact .inl I.size
  ·rw[hne _ c1] at h1;exact I.img k r s hk hkN h1
end
structure Ordered (ops:Array Oper):Prop where
 ZaG : ∀j y,ops[j]?=some y → ∀e∈y.after,Region.binds .any e=true→e.on<j
 pair : ∀i j x y,i<j→ops[i]?=some x→ops[j]?=some y→iR ops.toList j i=true∨(B6 ops.toList x y=false ∧ ¬(eF x.op=.chain∧eF y.op=.chain))
def JB {ops:Array Oper} (h:pA ops.toList=true):Ordered ops:=by
 unfold pA at h;simp only[gG,xX] at h;have size : ∀j y,ops[j]?=some y→j<ops.toList.length:=by intro j y hj;have:=(kZ.1 hj).1;simpa using this
 refine⟨fun j y hj e he hb=>?_,fun i j x y hij hi hj=>?_⟩
 ·have:=h j (size j y hj);have hj':ops.toList[j]?=some y:=by simpa using hj
  simp only[hj',eV,gG] at this;have h1:=this.1.1 e (by simpa using he);simpa [hb] using h1
 ·have:=h j (size j y hj);have hj':ops.toList[j]?=some y:=by simpa using hj
  have hi':ops.toList[i]?=some x:=by simpa using hi
  simp only[hj',eV,gG] at this;have h1:=this.2 i (by simpa using hij);simp only[hi',nh,IG,Bool.or_eq_false_iff,Bool.and_eq_false_iff,Av] at h1;rcases h1 with h1|h1;·exact .inl h1
  ·refine .inr ⟨h1.1,fun hk=>?_⟩;rcases h1.2 with h2|h2
   ·exact h2 hk.1
   ·exact h2 hk.2
section
variable {ops:Array Oper} {x y:Oper} {d:Nat}
theorem Nn (h1:x.dst=some d) (h2:y.dst=some d):B6 ops.toList x y=true:=by simp[B6,h1,h2]
theorem Yd (h1:x.dst=some d) (h2:d∈reads ops.toList y):B6 ops.toList x y=true:=by simp[B6,h1,h2]
theorem Ye (h1:y.dst=some d) (h2:d∈reads ops.toList x):B6 ops.toList x y=true:=by simp[B6,h1,h2]
end
section
variable {E:Env} {call:cQ} {nt:Nat} {ops:Array Oper} {FA:Nat→Fr} {HA:Nat→IH}
def Text.put (T:Text E call nt ops FA HA) {i:Nat} {o:Oper} (ho:ops[i]?=some o) : ∃v,qT nt (FA i) o.dst v=some (FA (i+1)) ∧ ((cC ops.toList o (FA i)=some true∧fw E call (FA i) o.op (HA i)=some (v,HA (i+1)))∨(cC ops.toList o (FA i)=some false∧v=undef)):=by
 have hs:=T.step i o ho;unfold ft at hs;split at hs
 ·rename_i hw;split at hs
  ·rename_i v h2 cu;obtain⟨a,h1,e⟩:=bg.1 hs;cases e;exact⟨v,h1,.inl ⟨hw,cu⟩⟩
  ·cases hs
 ·rename_i hw;obtain⟨a,h1,e⟩:=bg.1 hs;exact⟨undef,by rw[h1];exact gC some (CT e).1,.inr ⟨hw,rfl⟩⟩
 ·cases hs
theorem HE {fr fr':Fr} {dst:Option Tmp} {v:Value} (h:qT nt fr dst v=some fr') (t:Nat):aj fr' t=if dst=some t then some v else aj fr t:=by
 unfold qT at h
 cases dst with
 | none=>cases h;simp
 | some d =>
  simp only[aK,rO] at h;split at h;·cases h;simp only[aj,aK,bD,tE]
  ·cases h
def Text.keeps (T:Text E call nt ops FA HA) {t p:Nat} : ∀(q:Nat),p≤q→q≤ops.size→(∀j o,p≤j→j<q→ops[j]?=some o→o.dst≠some t)→aj (FA q) t=aj (FA p) t:=by
 intro q
 induction q with
 | zero =>
  intro h _ _
  have e:p=0:=byOmega
  rw[e]
 | succ q ih =>
  intro hpq hn hw;by_cases hq:p=q+1;·rw[hq]
  have ho:ops[q]?=some ops[q]:=oT byOmega
  obtain⟨v,hp,_⟩:=T.put ho;rw[HE hp t,ad (hw q _ byOmega byOmega ho)];exact ih byOmega byOmega (fun j o h1 h2=>hw j o h1 byOmega)
end
structure Co (nt:Nat) (ops:Array Oper) (FA:Nat→Fr) (HA:Nat→IH) (B:Nat) (w0:World) (m0:Mp) (wi:World) (D:Nat→Prop) (m:Mp) (w:World) (tmps:Array Value):Prop where
 closed : ∀j i,D j→iR ops.toList j i=true→D i
 slots : ∀t,∃p,p≤ops.size∧(∀j o,ops[j]?=some o→o.dst=some t→(D j↔j<p)) ∧ ∀v,aj (FA p) t=some v → ∃v',tmps[t]?=some v'∧aW m v v'
 chain : ∃a,a≤ops.size∧(∀j,fg ops j→(D j↔j<a))∧(a=ops.size∨fg ops a)∧qV ops FA HA B w0 m0 wi D a m w
 size:nt≤tmps.size
section
variable {E:Env} {call:cQ} {nt:Nat} {ops:Array Oper} {FA:Nat→Fr} {HA:Nat→IH} {B:Nat} {w0:World} {m0:Mp} {wi:World} {D:Nat→Prop} {a:Nat} {m:Mp} {w:World} {tmps:Array Value}
def qV.norm (T:Text E call nt ops FA HA) : ∀(n a:Nat),ops.size - a≤n→a≤ops.size→qV ops FA HA B w0 m0 wi D a m w→(∀j,fg ops j→(D j↔j<a)) → ∃a,a≤ops.size∧(∀j,fg ops j→(D j↔j<a))∧(a=ops.size∨fg ops a)∧qV ops FA HA B w0 m0 wi D a m w
 | 0,a,h1,h2,I,hc=>⟨a,h2,hc,.inl byOmega,I⟩
 | n+1,a,h1,h2,I,hc=>by
  by_cases h3:a=ops.size;·exact⟨a,h2,hc,.inl h3,I⟩
  ·by_cases h4:fg ops a
   ·exact⟨a,h2,hc,.inr h4,I⟩
   ·refine qV.norm T n (a+1) byOmega byOmega (I.next T byOmega h4) fun j hj=>?_;rw[hc j hj];constructor
    ·intro h;omega
    ·intro h;rcases cU j a with h5|h5
     ·exact h5
     ·exact absurd (show fg ops a from(show j=a by omega)▸hj) h4
variable {i:Nat}{o:Oper}
def Co.known (T:Text E call nt ops FA HA) (O:Ordered ops) (I:Co nt ops FA HA B w0 m0 wi D m w tmps) (ho:ops[i]?=some o) (hd : ¬D i) (hb : ∀k,iR ops.toList i k=true→D k) :gA m (ig (FA i) (reads ops.toList o)) tmps:=by
 intro t v hv;rw[jQ] at hv;by_cases hr:t∈Id.reads ops.toList o
 ·rw[ah hr] at hv;obtain⟨p,hp,hw,nD⟩:=I.slots t;have hin:i<ops.size:=(kZ.1 ho).1
  have lo : ∀j x,ops[j]?=some x→x.dst=some t→j<i→D j:=by
   intro j x hj hx hji;rcases O.pair j i x o hji hj ho with h|h;·exact hb j h
   ·rw[Yd hx hr] at h;exact absurd h.1 aa
  have hi : ∀j x,ops[j]?=some x→x.dst=some t→i<j → ¬D j:=by
   intro j x hj hx hji hdj;rcases O.pair i j o x hji ho hj with h|h;·exact hd (I.closed j i hdj h)
   ·rw[Ye hx hr] at h;exact absurd h.1 aa
  have e:aj (FA i) t=aj (FA p) t:=by
   rcases Nat.le_total p i with hpi|hpi;·refine T.keeps i hpi byOmega fun j x h1 h2 hj hx=>?_;have:=(hw j x hj hx).1 (lo j x hj hx h2);omega
   ·refine(T.keeps p hpi hp fun j x h1 h2 hj hx=>?_).symm;have hdj:=(hw j x hj hx).2 h2;rcases cU i j with h3|h3
    ·exact hi j x hj hx h3 hdj
    ·obtain rfl:i=j:=byOmega;exact hd hdj
  rw[e] at hv;exact nD v hv
 ·rw[ad hr] at hv;cases hv
def Co.put (O:Ordered ops) (I:Co nt ops FA HA B w0 m0 wi D m w tmps) (ho:ops[i]?=some o) (hd : ¬D i) (hb : ∀k,iR ops.toList i k=true→D k){v v':Value} (hp:qT nt (FA i) o.dst v=some (FA (i+1))) {m':Mp} (hm:m.le m') (hv:aW m' v v') :(∀t,∃p,p≤ops.size∧(∀j x,ops[j]?=some x→x.dst=some t→((D j∨j=i)↔j<p)) ∧ ∀v,aj (FA p) t=some v → ∃v1,(rW tmps o.dst v')[t]?=some v1∧aW m' v v1)∧nt≤(rW tmps o.dst v').size:=by
 have hin:i<ops.size:=(kZ.1 ho).1
 have hd2 : ∀d,o.dst=some d→d<nt:=by
  intro d hd;unfold qT at hp;simp only[hd,aK,rO] at hp;split at hp;·assumption
  ·cases hp
 refine⟨fun t=>?_,by cases h:o.dst<;>simpa [rW] using I.size⟩;by_cases ht:o.dst=some t
 ·refine⟨i+1,byOmega,fun j x hj hx=>?_,fun u hu=>?_⟩
  ·constructor
   ·rintro(h|h)
    ·rcases cU i j with h3|h3
     ·rcases O.pair i j o x h3 ho hj with h4|h4
      ·exact absurd (I.closed j i h h4) hd
      ·rw[Nn ht hx] at h4;exact absurd h4.1 aa
     ·omega
    ·omega
   ·intro h;by_cases h3:j=i
    ·exact .inr h3
    ·rcases O.pair j i x o byOmega hj ho with h4|h4
     ·exact .inl (hb j h4)
     ·rw[Nn hx ht] at h4;exact absurd h4.1 aa
  ·rw[HE hp t,ah ht] at hu;cases hu;have hlt:t<tmps.size:=cV (hd2 t ht) I.size;exact⟨v',by simp[rW,ht,hlt],hv⟩
 ·obtain⟨p,h1,h2,h3⟩:=I.slots t;refine⟨p,h1,fun j x hj hx=>?_,fun u hu=>?_⟩
  ·rw[←h2 j x hj hx];constructor
   ·rintro(h|h)
    ·exact h
    ·subst h;rw[ho] at hj;cases hj;exact absurd hx ht
   ·exact .inl
  ·obtain⟨u',h4,h5⟩:=h3 u hu;refine⟨u',?_,h5.mono hm⟩;unfold rW;cases hdst:o.dst with
   | none=>exact h4
   | some d=>simp only;rw[Array.getElem?_setIfInBounds_ne (by rintro rfl;exact ht hdst)];exact h4
def Qa (E:Env) (ops:Array Oper) (FA:Nat→Fr) (HA:Nat→IH):Prop :=
 ∀i o,ops[i]?=some o→eF o.op=.load→cC ops.toList o (FA i)=some true → ∀p,p≤ops.size→(p=ops.size∨fg ops p) →
  (∀k,fg ops k→k<p→iR ops.toList k i=false)→(∀k,fg ops k→p≤k→iR ops.toList i k=false) →
  ∀v h',iop E.P (FA i) o.op (HA i)=some (v,h') → ∃h2,iop E.P (FA i) o.op (HA p)=some (v,h2)
def Co.op (jq:ot E.P call) (T:Text E call nt ops FA HA) (O:Ordered ops) (S:Qa E ops FA HA) (I:Co nt ops FA HA B w0 m0 wi D m w tmps) (ho:ops[i]?=some o) (hd : ¬D i)(hb : ∀k,iR ops.toList i k=true→D k) (b:Frame) (rest:List Nat) (k:List Item) (ds:List Deferred) (cs:List Frame) :∃m' w' cJ,Steps E.P (lone (on b tmps (.inRegion ops (i :: rest) :: k) ds) cs w) (lone (on b cJ (.inRegion ops rest :: k) ds) cs w')∧Co nt ops FA HA B w0 m0 wi (fun j=>D j∨j=i) m' w' cJ:=by
 have hin:i<ops.size:=(kZ.1 ho).1;have hf:=I.known T O ho hd hb;obtain⟨v,mL,rD⟩:=T.put ho;obtain⟨a,hae,hch,hat,H⟩:=I.chain
 have Zat : ∀j i',(D j∨j=i)→iR ops.toList j i'=true→D i'∨i'=i:=by
  rintro j i' (h|rfl) hbf;·exact .inl (I.closed j i' h hbf)
  ·exact .inl (hb i' hbf)
 have mk : ∀{m':Mp} {w':World} {v':Value} {c:Nat},m.le m'→aW m' v v'→c≤ops.size→(∀j,fg ops j→((D j∨j=i)↔j<c))→qV ops FA HA B w0 m0 wi (fun j=>D j∨j=i) c m' w' →
   Co nt ops FA HA B w0 m0 wi (fun j=>D j∨j=i) m' w' (rW tmps o.dst v'):=by
  intro m' w' v' c hle hv hc1 hc2 H'
  obtain⟨h1,h2⟩:=I.put O ho hd hb mL hle hv
  exact⟨Zat,h1,H'.norm T _ c (ar _) hc1 hc2,h2⟩
 have add : ∀{c:Nat} {m':Mp} {w':World},¬ir ops FA i→qV ops FA HA B w0 m0 wi D c m' w'→qV ops FA HA B w0 m0 wi (fun j=>D j∨j=i) c m' w':=by
  intro c m' w' hal H'
  have back : ∀j,ir ops FA j→(D j∨j=i)→D j:=by
   rintro j h1 (h2|rfl);·exact h2
   ·exact absurd h1 hal
  refine⟨H'.rel,fun j h1 h2 h3=>H'.none_ j h1 h2 (fun h=>h3 (.inl h)),fun j h0 h1 h2 h3=>H'.OQ j h0 h1 h2 (fun h=>h3 (.inl h)),fun j h0 h1 h2 h3=>H'.extra j h0 h1 h2 (back j h2 h3),H'.inj,fun q h1 h2=>?_,H'.le,H'.new,H'.base,H'.frame,H'.idle,H'.size,H'.img,H'.rB⟩;rcases H'.fresh q h1 h2 with h|⟨j,h3,h4,h5,h6,h7⟩;·exact .inl h
  ·exact .inr ⟨j,h3,h4,h5,.inl h6,h7⟩
 have PV : ¬fg ops i → ∀j,fg ops j→((D j∨j=i)↔j<a):=by
  intro hnc j hj;rw[←hch j hj];constructor
  ·rintro(h|rfl)
   ·exact h
   ·exact absurd hj hnc
  ·exact .inl
 rcases rD with⟨hw,cu⟩|⟨hw,rfl⟩
 ·have hwk:cC ops.toList o (ig (FA i) (reads ops.toList o))=some true:=by rw[Bw];exact hw
  have hcg : ∀h,fw E call (ig (FA i) (reads ops.toList o)) o.op h=fw E call (FA i) o.op h:=fun h=>LS (Mi _ _ _) h;have Ze6 : ∀x:Nat,iA m x x:=fun x k h1 h2=>byOmega;have quiet:eF o.op≠.chain→eF o.op≠.alloc→fw E call (FA i) o.op (HA a)=some (v,HA a) →
    ∃m' w' cJ,Steps E.P (lone (on b tmps (.inRegion ops (i :: rest) :: k) ds) cs w) (lone (on b cJ (.inRegion ops rest :: k) ds) cs w')∧Co nt ops FA HA B w0 m0 wi (fun j=>D j∨j=i) m' w' cJ:=by
   intro hk1 hk2 hr;have hnc : ¬fg ops i:=by rintro⟨o',h1,h2⟩;rw[ho] at h1;cases h1;exact hk1 h2
   have hna : ¬ir ops FA i:=by rintro⟨o',h1,h2,_⟩;rw[ho] at h1;cases h1;exact hk2 h2
   obtain⟨v',m',w',hS,hv,R',S'⟩:=Ou jq ho hwk (by rw[hcg];exact hr) H.rel hf (Ze6 _) b rest k ds cs;exact⟨m',w',_,hS,mk S'.le hv hae (PV hnc) (add hna (H.go T (ar _) hae (fun j h1 h2=>byOmega) R' S'))⟩
  cases hk:eF o.op with
  | pure =>
   rw[iK (by rw[hk];simp)] at cu;exact quiet (by rw[hk];simp) (by rw[hk];simp) (by rw[iK (by rw[hk];simp)];exact(EC hk cu).2 _)
  | load =>
   rw[iK (by rw[hk];simp)] at cu;refine quiet (by rw[hk];simp) (by rw[hk];simp) ?_;rw[iK (by rw[hk];simp)];obtain⟨h2,e⟩:=S i o ho hk hw a hae hat (fun q hq hqa=>by
     have hdq:=(hch q hq).2 hqa;cases hbf:iR ops.toList q i with
     | false=>rfl
     | true=>exact absurd (I.closed q i hdq hbf) hd)
    (fun q hq hqa=>by
     cases hbf:iR ops.toList i q with
     | false=>rfl
     | true=>have:=(hch q hq).1 (hb q hbf);omega) v _ cu
   rw[e,ED hk e]
  | alloc =>
   rw[iK (by rw[hk];simp)] at cu;have hal:ir ops FA i:=⟨o,ho,hk,hw⟩;have hnc : ¬fg ops i:=by rintro⟨o',h1,h2⟩;rw[ho] at h1;cases h1;rw[hk] at h2;cases h2
   have hrk:iop E.P (ig (FA i) (reads ops.toList o)) o.op (HA i)=some (v,HA (i+1)):=by rw[A7 (Mi _ _ _)];exact cu
   obtain⟨obj,e,hl,Ob,v',z,hr,hO,hv⟩:=TX (wT H.rel hf) o hk hrk w;have hnd : ∀c,o.op≠.defer c:=by intro c hc;rw[hc] at hk;simp[eF] at hk
   have hst:=vo (b:=b) (k:=k) (ds:=ds) (cs:=cs) (rest:=rest) ho (tO hf hwk) hnd hr
   have H':=H.make T hae hin hal hd e hl hO
   exact⟨_,_,_,.one hst,mk (Mp.Eu (H.none_ i hin hal hd)) (hv _ (Mp.cb _ _ _ _)) hae (PV hnc) H'⟩
  | chain =>
   have hci:fg ops i:=⟨o,ho,hk⟩
   have hai:a≤i:=by
    rcases cU i a with h|h;·exact absurd ((hch i hci).2 h) hd
    ·exact h
   have hca:fg ops a:=by
    rcases hat with h|h;·omega
    ·exact h
   obtain rfl:a=i:=by
    rcases cU a i with h|h
    ·obtain⟨x,hx,hkx⟩:=hca;rcases O.pair a i x o h hx ho with h1|h1
     ·have:=(hch a ⟨x,hx,hkx⟩).1 (hb a h1);omega
     ·exact absurd ⟨hkx,hk⟩ h1.2
    ·omega
   have hfr:iA m (HA a).n (HA (a+1)).n:=by
    intro q h1 h2;have hN:(HA (a+1)).n≤(HA ops.size).n:=T.nle _ _ hin (ar _);rcases H.fresh q h1 byOmega with h|⟨j,h3,h4,h5,h6,h7⟩;·exact h
    ·exfalso;have hja:j≠a:=by rintro rfl;exact oZ hca h5
     have:=T.nle j (a+1) byOmega byOmega;omega
   obtain⟨v',m',w',hS,hv,R',S'⟩:=Ou jq ho hwk (by rw[hcg];exact cu) H.rel hf hfr b rest k ds cs;refine⟨m',w',_,hS,mk S'.le hv hin ?_ (add (oZ hca) (H.go T (nc _) hin (fun j h1 h2=>?_) R' S'))⟩;·intro j hj;rw[hch j hj];omega
   ·obtain rfl:j=a:=byOmega
    exact oZ hca
 ·-- left out
  have hwk:cC ops.toList o (ig (FA i) (reads ops.toList o))=some false:=by rw[Bw];exact hw
  have hna : ¬ir ops FA i:=by rintro⟨o',h1,_,h2⟩;rw[ho] at h1;cases h1;rw[hw] at h2;cases h2
  have hst:=Vs (P:=E.P) (b:=b) (k:=k) (ds:=ds) (cs:=cs) (rest:=rest) (w:=w) ho (tO hf hwk);by_cases hci:fg ops i
  ·have hai:a≤i:=by
    rcases cU i a with h|h;·exact absurd ((hch i hci).2 h) hd
    ·exact h
   have hca:fg ops a:=by
    rcases hat with h|h;·omega
    ·exact h
   obtain rfl:a=i:=by
    rcases cU a i with h|h
    ·obtain⟨x,hx,hkx⟩:=hca;obtain⟨o',ho',hk⟩:=hci;rw[ho] at ho';cases ho';rcases O.pair a i x o h hx ho with h1|h1
     ·have:=(hch a ⟨x,hx,hkx⟩).1 (hb a h1);omega
     ·exact absurd ⟨hkx,hk⟩ h1.2
    ·omega
   have e:HA (a+1)=HA a:=by have hs:=T.step a o ho;unfold ft at hs;rw[hw] at hs;obtain⟨_,_,e⟩:=bg.1 hs;exact(CT e).2.symm
   refine⟨m,w,_,.one hst,mk (Mp.le_refl m) (aW.undef m) hin ?_ (add hna (H.go T (nc _) hin (fun j h1 h2=>?_) (by rw[e];exact H.rel) (by rw[e];exact Step.refl _ _ _)))⟩;·intro j hj;rw[hch j hj];omega
   ·obtain rfl:j=a:=byOmega
    exact hna
  ·exact⟨m,w,_,.one hst,mk (Mp.le_refl m) (aW.undef m) hae (PV hci) (add hna H)⟩
end
end Go.Id
