/-
  The ideal machine: what a region whose order is open needs to know of each kind of operati
-/
import Derived.Test.YtnnmjocmapilaaaGreatTemperRoundsAd
import Derived.Orders
set_option linter.unusedVariables false
set_option linter.unusedSimpArgs false
set_option linter.defProp false
set_option linter.deprecated false
namespace Go.Id
open Go Go.RowKit
section
variable {h h':IH}
def Rl {α : Type} {v : α} {o : Option α} (hm : o.map (·, h) = some (v, h')) : o = some v ∧ h' = h := by obtain ⟨a, ha, e⟩ := bI.1 hm; cases e; exact ⟨ha, rfl⟩
variable {o:Op}{v:Value}{P:Program}{fr:Fr}
def Dr (hk : fE o = .pure) (hi : iop P fr o h = some (v, h')) : h' = h ∧ ∀ h2, iop P fr o h2 = some (v, h2) := by
  have mp : ∀ {o : Option Value}, o.map (·, h) = some (v, h') → h' = h ∧ ∀ h2 : IH, o.map (·, h2) = some (v, h2) := by intro o hm; obtain ⟨rfl, rfl⟩ := Rl hm; exact ⟨rfl, fun _ => rfl⟩
  unfold iop at hi ⊢;cases o <;> simp only [fE, reduceCtorEq] at hk <;> simp only [aX] at hi ⊢
  case call c =>
    cases hc : c.callee with
    | builtin b =>
      simp only [hc] at hk hi ⊢
      cases b <;> simp only [reduceCtorEq] at hk
      all_goals
        split at hi
        · rename_i vs hvs
          simp only [Id.builtin, aX] at hi ⊢;by_cases hp : vs.all plain = true;· simp only [hp, cq] at hi ⊢; exact mp hi
          · rw [ah hp] at hi; cases hi
        · cases hi
    | value f => simp [hc] at hk
    | invoke r n => simp [hc] at hk
  all_goals first
    | exact mp hi
    | (repeat' (split at hi)
       all_goals first
         | (cases hi; done)
         | exact mp hi
         | (cases hi; exact ⟨rfl, fun _ => rfl⟩)
         | (cases hi; refine ⟨rfl, fun _ => ?_⟩; simp_all; done)
         | (obtain ⟨a, ha, e⟩ := bI.1 hi; cases e; simp_all))
theorem Ds (hk : fE o = .load) (hi : iop P fr o h = some (v, h')) : h' = h := by
  unfold iop at hi;cases o <;> simp only [fE, reduceCtorEq] at hk <;> simp only [] at hi
  case call c =>
    cases hc : c.callee with
    | builtin b =>
      simp only [hc] at hk hi;cases b <;> simp only [reduceCtorEq] at hk;split at hi
      · rename_i vs hvs
        unfold Id.builtin at hi;split at hi
        · split at hi
          · exact (Rl hi).2
          · cases hi
        all_goals first
          | (cases hi; done)
          | (rename_i hb; cases hb)
      · cases hi
    | value f => simp [hc] at hk
    | invoke r n => simp [hc] at hk
  all_goals
    repeat' (split at hi)
    all_goals first
      | (cases hi; done)
      | exact (Rl hi).2
def D7 (P : Program) (m : Mp) (w : World) (run : Result Next) (v : Value) (h h' : IH) (obj : cX) : Prop :=
  h' = h.new obj ∧ obj.lone = true ∧ ∃ O v' z, run = .ok (.value v') (w.alloc O) ∧ mo m (w.alloc O) w.heap.size 0 z obj ∧
    ∀ m' : Mp, m' (2 * h.n) = some (w.heap.size, 0) → bz m' v v'
variable {m:Mp}{w:World}
def KV {cs cs' : List Value} (hv : dv m cs cs') (e : Nat) (t : TypeId) : mo m (w.alloc (.cells cs'.toArray t)) w.heap.size 0 (e, 0) (.cells cs e none) :=
  ⟨cs'.toArray, t, by rw [heap_alloc, aq rfl], ⟨by simp [hv.1], fun i v hi => by obtain ⟨v', a, b⟩ := hv.get hi; exact ⟨v', by simpa using a, b⟩⟩, rfl, dQ _⟩
def ND {run : Result Value} {YD : Result Next} (M : vi m w h h' run v) (hn : YD = run.andThen fun a w' => .ok (.value a) w') :∃ obj, D7 P m w YD v h h' obj := by obtain ⟨cs, cs', e, t, v', rfl, hL, cH, hv⟩ := M;exact ⟨_, rfl, rfl, _, v', (e, 0), by rw [hn, cH]; rfl, KV hL e t, hv⟩
def Pe {ρ : Operand → Value} (hρ : ∀ x v, opd fr x = some v → bz m v (ρ x)) (oper : Oper) (hk : fE oper.op = .alloc) (hi : iop P fr oper.op h = some (v, h')) (w : World) :∃ obj, D7 P m w ((execOp ρ oper).run P w) v h h' obj := by
  obtain ⟨dst, op, ty, pos, aft, gd⟩ := oper;simp only at hk hi ⊢;cases op <;> simp only [fE, reduceCtorEq] at hk
  case alloc t =>
    simp only [iop] at hi;obtain ⟨z, hz, he⟩ := bI.1 hi;cases he;obtain ⟨zv, hz0, hzp, rfl⟩ := fT hz;refine ⟨_, rfl, rfl, .cells zv.cells.toList.toArray t, .pointer (some ⟨w.heap.size, 0, none⟩), (0, 0), ?_, KV (bz.dS (m := m) hzp).cells 0 t, fun m' hm => bz.ptr (s := 0) (o := 0) hm⟩;simp only [execOp, Instr.alloc, bJ, hP w hz0, bW, newVar, Go.newRow, l8, ck]; rfl
  case box t x =>
    simp only [iop] at hi;obtain ⟨a, ha, he⟩ := bI.1 hi;cases he;refine ⟨_, rfl, rfl, .cells (ρ x).cells.toList.toArray t, .pointer (some ⟨w.heap.size, 0, none⟩), (0, 0), ?_, KV (hρ x a ha).cells 0 t, fun m' hm => bz.ptr (s := 0) (o := 0) hm⟩;simp only [execOp, Instr.box, bJ, bW, newVar, Go.newRow, l8, ck]; rfl
  case buildSlice t len parts =>
    simp only [iop] at hi;split at hi
    · rename_i ps hps
      exact ND (sC P hρ hps hi w) (by simp [execOp])
    · cases hi
  case makeMap t r =>
    have fin : ∀ {v h'}, some (Value.map (some (2 * h.n)), h.new (.map [])) = some (v, h') → ((Instr.makeMap t (r.map ρ)).run P w = .ok (.map (some w.heap.size)) (w.alloc (.map #[] 0))) →
        ∃ obj, D7 P m w ((execOp ρ { dst := dst, op := .makeMap t r, type := ty, pos := pos, after := aft, guard := gd }).run P w) v h h' obj := by
      intro v h' e cH;cases e;exact ⟨_, rfl, rfl, .map #[] 0, .map (some w.heap.size), (0, 0), by simp [execOp, cH], ⟨rfl, #[], by rw [heap_alloc, aq rfl]; rfl, rfl, by simp⟩, fun m' hm => .map hm⟩
    simp only [iop] at hi;split at hi;· exact fin hi (by simp only [Option.map_none, Instr.makeMap, bJ, ck, bW, l8]; rfl)
    · rename_i x
      split at hi
      · rename_i k n kt et hx hu
        have := (hρ x _ hx).gL rfl;exact fin hi (by simp only [jx, this, Instr.makeMap, bJ, cG hu, asInt, asIntOf, ck, bW, l8]; rfl)
      · cases hi
  case makeSlice t l c =>
    simp only [iop] at hi;split at hi
    · rename_i a b ha hb
      exact ND (tY P hi (hρ l a ha) (hρ c b hb) w) (by simp [execOp])
    · cases hi
  case call c => cases hc : c.callee with
    | builtin b => cases b <;> simp_all
    | value f => simp_all
    | invoke r n => simp_all
end
section
variable {a b:Value}
theorem So (h:eqS a b=true):a=b:=by
 unfold eqS at h;split at h
 case h_3 a b =>
  simp only[bT] at h;have:a=b:=by cases a;cases b;simp only at h;rw[uk.1 h]
  rw[this]
 all_goals simp_all
theorem HB : ∀{a b:List Value},eqL a b=true→a=b
 | [],[],_=>rfl
 | [],_ :: _,h=>by simp[eqL] at h
 | _ :: _,[],h=>by simp[eqL] at h
 | x :: a,y :: b,h=>by simp only[eqL,fK] at h;rw[So h.1,HB h.2]
theorem Sp (h:eqA a b=true):a=b:=by
 unfold eqA at h;split at h;·rw[uk.1 (HB h)]
 ·simp only[fK,bT] at h
  rw[h.1.1,uk.1 (HB h.1.2),uk.1 (HB h.2)]
 ·exact So h
theorem Sn : ∀{a b:List Value},eqT a b=true→a=b
 | [],[],_=>rfl
 | [],_ :: _,h=>by simp[eqT] at h
 | _ :: _,[],h=>by simp[eqT] at h
 | x :: a,y :: b,h=>by simp only[eqT,fK] at h;rw[Sp h.1,Sn h.2]
def UY (h:XB a b=true):a=b:=by
 unfold XB at h;split at h;·rw[uk.1 (Sn h)]
 ·exact Sp h
theorem XA (h:eqV a b=true):a=b:=by simp only[eqV,nM,aS] at h;exact h.elim UY id
theorem j6 (fr:Fr) : ∀(l:List Nat) (t:Nat),ax (jB fr l) t=if t∈l then ax fr t else none
 | [],t=>by simp[jB,ax]
 | a :: l,t=>by
  rw[jB];cases ha:ax fr a with
  | none =>
   simp only[j6 fr l t];by_cases h1:t∈l;·simp[h1]
   ·by_cases h2:t=a
    ·subst h2;simp[h1,ha]
    ·simp[h1,h2]
  | some v =>
   simp only[ax,aX,bT,j6 fr l t];by_cases h2:a=t;·subst h2;simp[ha]
   ·by_cases h1:t∈l
    ·simp[h1,h2]
    ·have : ¬t=a:=fun e=>h2 e.symm;simp[h1,h2,this]
variable {fr fr2:Fr}
theorem qh : ∀(l:List Operand),(∀x∈l,opd fr x=opd fr2 x)→nV fr l=nV fr2 l
 | [],_=>rfl
 | x :: l,h=>by rw[nV,nV,h x ab,qh l (fun y hy=>h y (by simp[hy]))]
theorem ry : ∀(l:List (Nat×Operand)),(∀x∈l.map (·.2),opd fr x=opd fr2 x)→partsOf fr l=partsOf fr2 l
 | [],_=>rfl
 | (i,x) :: l,h=>by rw[partsOf,partsOf,h x ab,ry l (fun y hy=>h y (by simp only[jJ,dV];exact .inr hy))]
theorem tB {o:Option Operand} (h : ∀x∈o.toArray,opd fr x=opd fr2 x):iF fr o=iF fr2 o:=by
 cases o with
 | none=>rfl
 | some x=>simp only[iF];rw[h x ab]
theorem Ae {P:Program} {o:Op} (h : ∀x∈o.operands,opd fr x=opd fr2 x) (hp:IH):iop P fr o hp=iop P fr2 o hp:=by
 cases o<;>simp only[Op.operands] at h<;>simp only[iop]
 case move x=>rw[h x ab]
 case assign x=>rw[h x ab]
 case pick c a b=>rw[h c ab,h a ab,h b ab]
 case box t x=>rw[h x ab]
 case build t ps=>rw[ry ps.toList (fun x hx=>h x (by simpa using hx))]
 case buildSlice t n ps=>rw[ry ps.toList (fun x hx=>h x (by simpa using hx))]
 case load t a=>rw[h a ab]
 case store t a v=>rw[h a ab,h v ab]
 case nilCheck x=>rw[h x ab]
 case binOp op t x y yt=>rw[h x ab,h y ab]
 case unOp op t x=>rw[h x ab]
 case convert s d x=>rw[h x ab]
 case sliceToArrayPointer t x=>rw[h x ab]
 case makeFunc fn first cap =>
  rw[qh first.toList (fun x hx=>h x (by simp at hx ⊢;exact .inl hx)),qh cap.toList (fun x hx=>h x (by simp at hx ⊢;exact .inr hx))]
 case makeMap t r=>cases r with
  | none=>rfl
  | some x=>simp only;rw[h x ab]
 case makeSlice t l c=>rw[h l ab,h c ab]
 case slice t x lo hi mx =>
  rw[h x ab,tB (o:=lo) (fun y hy=>h y (by simp at hy ⊢;simp[hy])),tB (o:=hi) (fun y hy=>h y (by simp at hy ⊢;simp[hy])),tB (o:=mx) (fun y hy=>h y (by simp at hy ⊢;simp[hy]))]
 case fieldAddr t x f=>rw[h x ab]
 case field t x f=>rw[h x ab]
 case indexAddr t x i=>rw[h x ab,h i ab]
 case index t x i=>rw[h x ab,h i ab]
 case lookup t m k ok=>rw[h m ab,h k ab]
 case mapUpdate t m k v=>rw[h m ab,h k ab,h v ab]
 case insert t m k v=>rw[h m ab,h k ab,h v ab]
 case extract x i=>rw[h x ab]
 case range t x=>rw[h x ab]
 case entry x=>rw[h x ab]
 case call c =>
  cases hc:c.callee with
  | builtin b=>simp only;rw[qh c.args.toList (fun x hx=>h x (by simp[Call.operands,hc];simpa using hx))]
  | value f=>rfl
  | invoke r n=>rfl
variable {call:je}{E:Env}
def IE {o:Op} (h : ∀x∈o.operands,opd fr x=opd fr2 x) (hp:IH):jn E call fr o hp=jn E call fr2 o hp:=by
 unfold jn;split
 ·rename_i c;split
  ·rename_i f hc;simp only[Op.operands,Call.operands,hc] at h;rw[h f ab,qh c.args.toList (fun x hx=>h x (by simp;exact .inr (by simpa using hx)))]
  ·exact Ae h hp
 ·exact Ae h hp
theorem IY (fr:Fr) (ops:List Oper) (o:Oper) : ∀x∈o.op.operands,opd (jB fr (reads ops o)) x=opd fr x:=by
 intro x hx;cases x with
 | tmp t =>
  simp only[opd,j6];rw[aq ?_];unfold reads tmpsOf;exact List.mem_append_left _ (Gs.2 ⟨.tmp t,by simpa using hx,rfl⟩)
 | _=>rfl
theorem AE (fr:Fr) (ops:List Oper) (o:Oper):dW ops o (jB fr (reads ops o))=dW ops o fr:=by
 unfold dW;cases hg:o.guard with
 | none=>rfl
 | some jw =>
  obtain⟨j,want⟩:=jw;simp only;cases hd:(ops[j]?).bind (·.dst) with
  | none=>rfl
  | some d =>
   simp only;rw[j6,aq ?_];unfold reads;exact List.mem_append_right _ (by simp[hg,hd])
variable {ops:List Oper}
def sY {nt:Nat} : ∀(l:List Oper) (fr:Fr) (h:IH) (tr:List (Fr×IH)),trace E call nt ops l fr h=some tr → tr.length=l.length+1∧tr[0]?=some (fr,h) ∧ ∀(i:Nat) (o:Oper),l[i]?=some o → ∃fr1 h1 fr2 h2,tr[i]?=some (fr1,h1)∧tr[i+1]?=some (fr2,h2)∧iC E call nt ops o fr1 h1=some (fr2,h2)
 | [],fr,h,tr,ht=>by simp only[trace] at ht;cases ht;exact⟨rfl,rfl,ab⟩
 | o :: l,fr,h,tr,ht=>by
  rw[trace] at ht;split at ht
  ·rename_i fr' h' hs;obtain⟨tr',h1,rfl⟩:=bI.1 ht;obtain⟨a,b,c⟩:=sY l fr' h' tr' h1;refine⟨by simp[a],rfl,fun i o' hi=>?_⟩;cases i with
   | zero=>simp at hi;subst hi;exact⟨fr,h,fr',h',rfl,by simpa using b,hs⟩
   | succ i=>simp at hi;obtain⟨x1,x2,x3,x4,y1,y2,y3⟩:=c i o' hi;exact⟨x1,x2,x3,x4,by simpa using y1,by simpa using y2,y3⟩
  ·cases ht
theorem yk (acc:List Nat) (i:Nat) : ∀(es:List Edge),(es.foldr (fun e s=>bif Region.binds .any e then s ||| 2 ^ e.on ||| acc.getD e.on 0 else s) 0).testBit i=es.any (fun e=>Region.binds .any e && (e.on == i || (acc.getD e.on 0).testBit i))
 | []=>ab
 | e :: es=>by
  rw[List.foldr_cons,List.any_cons,←yk acc i es];cases hb:Region.binds .any e with
  | false=>simp
  | true =>
   simp only[cg,Nat.testBit_or,Nat.testBit_two_pow,Bool.true_and];have:decide (e.on=i)=(e.on == i):=by by_cases h:e.on=i<;>simp[h]
   rw[this];cases(List.foldr (fun e s=>bif Region.binds .any e then s ||| 2 ^ e.on ||| acc.getD e.on 0 else s) 0 es).testBit i<;>cases(e.on == i)<;>cases(acc.getD e.on 0).testBit i<;>rfl
def Dh : ∀(l:List Oper) (acc:List Nat),(tX acc l).length=acc.length+l.length∧(tX acc l).take acc.length=acc ∧ ∀(j:Nat) (o:Oper),l[j]?=some o→(tX acc l)[acc.length+j]?=some (xL ((tX acc l).take (acc.length+j)) o)
 | [],acc=>by simp[tX]
 | o :: l,acc=>by
  obtain⟨h1,h2,h3⟩:=Dh l (acc ++ [xL acc o]);rw[tX];simp only[dG,nL,List.length_nil] at h1 h2 h3;have Zo:(tX (acc ++ [xL acc o]) l).take acc.length=acc:=by have:=kC (List.take acc.length) h2;rw[zB,zC (aA _),sK] at this;rw[nI aa] at this;exact this
  refine⟨by rw[h1,nL];omega,Zo,fun j o' hj=>?_⟩;cases j with
  | zero =>
   simp at hj;subst hj;rw[gN,Zo];have:((tX (acc ++ [xL acc o]) l).take (acc.length+1))[acc.length]?=some (xL acc o):=by rw[h2];simp
   rw[gR] at this;simpa using this
  | succ j =>
   simp at hj;have:=h3 j o' hj;rw[show acc.length+(j+1)=acc.length+(0+1)+j from by omega];exact this
def jc (ops:List Oper) (j i:Nat):Bool:=((tX [] ops).getD j 0).testBit i
def JZ {j i:Nat} {o:Oper} (ho:ops[j]?=some o) (hlt : ∀e∈o.after,Region.binds .any e=true→e.on<j) :jc ops j i=true ↔ ∃e∈o.after,Region.binds .any e=true∧(e.on=i∨jc ops e.on i=true):=by
 obtain⟨_,_,h3⟩:=Dh ops [];have hm:=h3 j o ho;simp only[List.length_nil,fy] at hm;unfold jc;rw[bH,hm,jf];unfold xL;rw[yk,List.any_eq_true];constructor
 ·rintro⟨e,he,hb⟩;simp only[fK,nM,bT] at hb;refine⟨e,by simpa using he,hb.1,?_⟩;have:=hlt e (by simpa using he) hb.1;rcases hb.2 with h|h
  ·exact .inl h
  ·right;rw[bH,gR,aq this] at h;rw[bH];exact h
 ·rintro⟨e,he,hb,h⟩;have hl:=hlt e he hb;refine⟨e,by simpa using he,?_⟩;simp only[fK,nM,bT];refine⟨hb,?_⟩;rcases h with h|h
  ·exact .inl h
  ·right;rw[bH,gR,aq hl];rw[bH] at h;exact h
variable {h:IH}{m:Mp}{w w0:World}{B:Nat}
def Rel.XY (R:Rel B w0 m h w) (o:cX) (hl:o.lone=true)(hm:m (2*h.n)=none ∨ ∃r,m (2*h.n)=some (r,0)∧mo m w r 0 (m.ez (2*h.n)) o ∧ ∀k s,k<h.n→m (2*k)≠some (r,s)):Rel B w0 m (h.new o) w:=by
 have eg : ∀k,(h.new o).ext.get k=if k=h.n then some o else h.ext.get k:=fun k=>Tr.cD _ _ _ _;have hdn:=R.dom h.n (aA _);have hn:(h.new o).n=h.n+1:=rfl
 have hlt : ∀{k x},h.ext.get k=some x→k<h.n:=by
  intro k x hk;rcases dr k h.n with e|e;·exact e
  ·rw[R.dom k e] at hk;cases hk
 refine⟨R.below,R.size,R.base,R.odd,R.even,?_,?_,?_,?_,?_,?_,R.whole⟩;·intro k hk;rw[eg,ah aa];exact R.dom k aa
 ·intro k x r s hk hr;rw[eg] at hk;by_cases e:k=h.n
  ·subst e;rw[aq rfl] at hk;cases hk;rcases hm with e|⟨r',h1,h2,_⟩
   ·rw[e] at hr;cases hr
   ·rw[h1] at hr;cases hr;exact h2
  ·rw[ah e] at hk;exact R.obj k x r s hk hr
 ·intro k k' x x' r s s' hne hk hk' ha ha' hr hr';rw[eg] at hk hk';by_cases e:k=h.n
  ·subst e;rw[ah (fun e=>hne e.symm)] at hk';rcases hm with e|⟨r',h1,_,h3⟩
   ·rw[e] at hr;cases hr
   ·rw[h1] at hr;cases hr;exact absurd hr' (h3 k' s' (hlt hk'))
  ·by_cases e':k'=h.n
   ·subst e';rw[ah e] at hk;rcases hm with e|⟨r',h1,_,h3⟩
    ·rw[e] at hr';cases hr'
    ·rw[h1] at hr';cases hr';exact absurd hr (h3 k s (hlt hk))
   ·rw[ah e] at hk;rw[ah e'] at hk';exact(R.own k k' x x' r s s' hne hk hk' ha ha' hr hr').imp (Nv hdn) id
 ·intro f st hf;obtain⟨a,b,c⟩:=R.iJ f st hf;exact⟨qU a,fun x hx=>qU (b x hx),c⟩
 ·intro k cs t f hk;rw[eg] at hk;by_cases e:k=h.n
  ·rw[aq e] at hk;cases hk;simp[cX.lone] at hl
  ·rw[ah e] at hk;exact R.fam k cs t f hk
 ·intro f st hf;have Zu:=(R.iJ f st hf).2.1;refine(R.long f st hf).imp_of_mem fun {x y} hx hy hxy=>?_;intro cs t g cs' t' g' r s s' h1 h2 h3 h4;rw[eg,ah (by have:=Zu x hx;omega)] at h1;rw[eg,ah (by have:=Zu y hy;omega)] at h2;exact hxy cs t g cs' t' g' r s s' h1 h2 h3 h4
def Rel.YO (R:Rel B w0 m h w) (k:Nat) (O:Obj) (z:Nat×Nat) (hm:m (2*k)=none)
  (rT : ∀o,h.ext.get k=some o→o.lone=true∧mo m (w.alloc O) w.heap.size 0 z o) (hst : ∀f st,h.eP.get f=some st→k∉st):Rel B w0 (m.upd (2*k) (w.heap.size,0) z) h (w.alloc O):=by
 have hle:m.le (m.upd (2*k) (w.heap.size,0) z):=Mp.Dl hm;have hold : ∀r,r<w.heap.size→(w.alloc O).heap[r]?=w.heap[r]?:=fun r hr=>by rw[heap_alloc,ah aa]
 refine⟨qT R.below R.size O,by rw[size_alloc];have:=R.size;omega,?_,?_,?_,R.dom,?_,?_,R.iJ,R.fam,?_,?_⟩
 ·intro b cs hb;obtain⟨r0,s0,hm0,hb1,c,el,fz,hc,hr⟩:=R.base b cs hb
  refine⟨r0,s0,by rw[Mp.dH _ _ _ aa];exact hm0,hb1,c,el,fz,?_,hr.1,fun i v hv=>let ⟨v',x,y⟩:=hr.2 i v hv;⟨v',x,y.mono hle⟩⟩
  rw[hold r0 (by have:=R.size;omega),hc]
 ·intro b hb;rw[Mp.dH _ _ _ aa];exact R.odd b hb
 ·intro j r s hj
  rw[size_alloc];by_cases e:j=k
  ·subst e;rw[Mp.cw] at hj;cases hj;exact⟨R.size,aa⟩
  ·rw[Mp.dH _ _ _ aa] at hj
   have:=R.even j r s hj;omega
 ·intro j x r s hx hj
  by_cases e:j=k
  ·subst e;rw[Mp.cw] at hj;cases hj
   exact(rT x hx).2.mono hle rfl (Mp.pK _ _ _ _)
  ·rw[Mp.dH _ _ _ aa] at hj
   exact(R.obj j x r s hx hj).mono hle (hold r (R.even j r s hj).2) (Mp.Sh _ _ _ aa)
 ·intro j j' x x' r s s' hne hx hx' ha ha' hj hj'
  by_cases e:j=k;·subst e;rw[Mp.cw] at hj;cases hj;rw[Mp.dH _ _ _ aa] at hj';have:=R.even _ _ _ hj';omega
  ·by_cases e':j'=k
   ·subst e';rw[Mp.cw] at hj';cases hj';rw[Mp.dH _ _ _ aa] at hj;have:=R.even _ _ _ hj;omega
   ·rw[Mp.dH _ _ _ aa] at hj hj';exact R.own j j' x x' r s s' hne hx hx' ha ha' hj hj'
 ·intro f st hf
  refine(R.long f st hf).imp_of_mem fun {x y} hx hy hxy=>?_
  have hx':x≠k:=fun e=>hst f st hf (e▸hx);have hy':y≠k:=fun e=>hst f st hf (e▸hy);intro cs t g cs' t' g' r s s' h1 h2 h3 h4;rw[Mp.dH _ _ _ aa] at h3 h4;exact hxy cs t g cs' t' g' r s s' h1 h2 h3 h4
 ·intro f st x y hf hx hy
  have hx':x≠k:=fun e=>hst f st hf (e▸hx);have hy':y≠k:=fun e=>hst f st hf (e▸hy);rw[Mp.dH _ _ _ aa,Mp.dH _ _ _ aa];exact R.whole f st x y hf hx hy
end
section
variable {o:Op}{h:IH}{fr:Fr}
def Et {P:Program} {h':IH} {v:Value} (hk:fE o=.alloc) (hi:iop P fr o h=some (v,h')) : ∃obj,h'=h.new obj∧obj.lone=true:=by
 cases o<;>simp only[fE,reduceCtorEq] at hk<;>simp only[iop] at hi
 case alloc t=>obtain⟨z,_,e⟩:=bI.1 hi;cases e;exact⟨_,rfl,rfl⟩
 case box t x=>obtain⟨z,_,e⟩:=bI.1 hi;cases e;exact⟨_,rfl,rfl⟩
 case buildSlice t len parts =>
  split at hi
  ·unfold Id.buildSlice at hi;simp only[aX] at hi;repeat' (split at hi)
   all_goals first|(cases hi;done)|(cases hi;exact⟨_,rfl,rfl⟩)
  ·cases hi
 case makeMap t r =>
  repeat' (split at hi)
  all_goals first|(cases hi;done)|(cases hi;exact⟨_,rfl,rfl⟩)
 case makeSlice t l c =>
  split at hi
  ·unfold Id.makeSlice at hi;simp only[aX] at hi;repeat' (split at hi)
   all_goals first|(cases hi;done)|(cases hi;exact⟨_,rfl,rfl⟩)
  ·cases hi
 case call c=>cases hc:c.callee with
  | builtin b=>cases b<;>simp_all
  | value f=>simp_all
  | invoke r n=>simp_all
theorem iW {E:Env} {call:je} (hk:fE o≠.chain):jn E call fr o h=iop E.P fr o h:=by
 unfold jn;split
 ·rename_i c;split
  ·rename_i f hc;simp[fE,hc] at hk
  ·rfl
 ·rfl
structure Text (E:Env) (call:je) (nt:Nat) (ops:Array Oper) (FA:Nat→Fr) (HA:Nat→IH):Prop where
 mono:gK call
 step : ∀i o,ops[i]?=some o→iC E call nt ops.toList o (FA i) (HA i)=some (FA (i+1),HA (i+1))
def iM (ops:Array Oper) (FA:Nat→Fr) (i:Nat):Prop:=∃o,ops[i]?=some o∧fE o.op=.alloc∧dW ops.toList o (FA i)=some true
def fQ (ops:Array Oper) (i:Nat):Prop:=∃o,ops[i]?=some o∧fE o.op=.chain
section
variable {E:Env} {call:je} {nt:Nat} {ops:Array Oper} {FA:Nat→Fr} {HA:Nat→IH}
def Text.nle (T:Text E call nt ops FA HA) : ∀(j i:Nat),i≤j→j≤ops.size→(HA i).n≤(HA j).n
 | 0,i,h1,_=>by have e:i=0:=aa;rw[e];exact aA _
 | j+1,i,h1,h2=>by
  by_cases e:i=j+1;·subst e;exact aA _
  ·have ho:ops[j]?=some ops[j]:=oX aa
   exact bV (T.nle j i aa aa) (CF T.mono (T.step j _ ho))
variable {i:Nat}
def Text.alloc (T:Text E call nt ops FA HA) (h:iM ops FA i) : ∃obj,HA (i+1)=(HA i).new obj∧obj.lone=true:=by
 obtain⟨o,ho,hk,hw⟩:=h;have hs:=T.step i o ho;unfold iC at hs;rw[hw] at hs;simp only at hs;split at hs;·rename_i v h2 cH;obtain⟨a,_,e⟩:=bI.1 hs;rw[iW (by rw[hk];simp)] at cH;obtain⟨obj,h3,h4⟩:=Et hk cH;have e2:h2=HA (i+1):=(B0 e).2;exact⟨obj,by rw[←e2,h3],h4⟩
 ·cases hs
def Text.same (T:Text E call nt ops FA HA) {o:Oper} (ho:ops[i]?=some o) (hc : ¬fQ ops i) (ha : ¬iM ops FA i):HA (i+1)=HA i:=by
 have hs:=T.step i o ho;unfold iC at hs;split at hs
 ·rename_i hw;split at hs
  ·rename_i v h2 cH;obtain⟨a,_,e⟩:=bI.1 hs;have e2:h2=HA (i+1):=(B0 e).2;have hk:fE o.op≠.chain:=fun e=>hc ⟨o,ho,e⟩;rw[iW hk] at cH;rw[←e2];cases hkk:fE o.op with
   | pure=>exact(Dr hkk cH).1
   | load=>exact Ds hkk cH
   | alloc=>exact absurd ⟨o,ho,hkk,hw⟩ ha
   | chain=>exact absurd hkk hk
  ·cases hs
 ·obtain⟨a,_,e⟩:=bI.1 hs;exact(B0 e).2.symm
 ·cases hs
def oZ (h:fQ ops i) : ¬iM ops FA i:=by rintro⟨o,ho,hk,_⟩;obtain⟨o',ho',hk'⟩:=h;rw[ho] at ho';cases ho';rw[hk] at hk';cases hk'
end
structure qF (ops:Array Oper) (FA:Nat→Fr) (HA:Nat→IH) (B:Nat) (w0:World) (m0:Mp) (wi:World) (D:Nat→Prop) (a:Nat) (m:Mp) (w:World):Prop where
 rel:Rel B w0 m (HA a) w
 none_ : ∀i,i<ops.size→iM ops FA i → ¬D i→m (2*(HA i).n)=none
 Lk : ∀i,i<a→i<ops.size→iM ops FA i → ¬D i→(∃obj,HA (i+1)=(HA i).new obj∧(HA a).ext.get (HA i).n=some obj) ∧ ∀f st,(HA a).eP.get f=some st→(HA i).n∉st
 extra : ∀i,a≤i→i<ops.size→iM ops FA i→D i → ∃obj r,HA (i+1)=(HA i).new obj∧m (2*(HA i).n)=some (r,0)∧mo m w r 0 (m.ez (2*(HA i).n)) obj
 inj : ∀k k' r s s',(HA a).n≤k→k<(HA ops.size).n→k'<(HA ops.size).n→k≠k'→m (2*k)=some (r,s)→m (2*k')≠some (r,s')
 fresh : ∀k,(HA a).n≤k→k<(HA ops.size).n→m (2*k)=none ∨ ∃i,a≤i∧i<ops.size∧iM ops FA i∧D i∧k=(HA i).n
 le:m0.le m
 new : ∀b,m b≠m0 b → ∃k,b=2*k∧(HA 0).n≤k∧k<(HA ops.size).n
 base:(HA a).base=(HA 0).base
 frame : ∀r,r<wi.heap.size→(∀k s,k<(HA 0).n→m0 (2*k)≠some (r,s))→w.heap[r]?=wi.heap[r]?
 idle : ∀k,k<(HA 0).n→m0 (2*k)=none→(HA a).ext.get k=(HA 0).ext.get k
 size:wi.heap.size≤w.heap.size
 img : ∀k r s,(HA 0).n≤k→k<(HA ops.size).n→m (2*k)=some (r,s)→wi.heap.size≤r ∨ ∃k0 s0,k0<(HA 0).n∧m0 (2*k0)=some (r,s0)
 rS : ∀k,k<(HA 0).n→m0 (2*k)=none→(∀f st,(HA 0).eP.get f=some st→k∉st) → ∀f st,(HA a).eP.get f=some st→k∉st
section
variable {E:Env} {call:je} {nt:Nat} {ops:Array Oper} {FA:Nat→Fr} {HA:Nat→IH} {B:Nat} {w0:World} {m0:Mp} {wi:World} {D:Nat→Prop} {a:Nat} {m:Mp} {w:World}
theorem qF.old (I:qF ops FA HA B w0 m0 wi D a m w) {k:Nat} (hk:k<(HA 0).n):m (2*k)=m0 (2*k):=by apply di;intro hne;obtain⟨k',e,h1,_⟩:=I.new _ hne;omega
theorem qF.go (T:Text E call nt ops FA HA) (I:qF ops FA HA B w0 m0 wi D a m w) {c:Nat} (hac:a≤c) (hc:c≤ops.size) (hno : ∀i,a≤i→i<c → ¬iM ops FA i) {m':Mp} {w':World} (R:Rel B w0 m' (HA c) w') (S:Step m (HA a) w m' (HA c) w') :qF ops FA HA B w0 m0 wi D c m' w':=by
 have nac:(HA a).n≤(HA c).n:=S.n;have n0a:(HA 0).n≤(HA a).n:=T.nle a 0 (dQ _) (bV hac hc);have ncN:(HA c).n≤(HA ops.size).n:=T.nle _ _ hc (aA _);have iH : ∀k,(k<(HA a).n∨(HA c).n≤k)→m' (2*k)=m (2*k):=by intro k hk;apply di;intro hne;obtain⟨k',e,h1,h2⟩:=S.new _ hne;omega
 have low : ∀i,i<ops.size→iM ops FA i→(HA i).n<(HA a).n∨(HA c).n≤(HA i).n:=by
  intro i hi ha;by_cases h1:i<a;·obtain⟨obj,e,_⟩:=T.alloc ha;have h2:(HA (i+1)).n≤(HA a).n:=T.nle a (i+1) h1 aa;rw[e] at h2;have:((HA i).new obj).n=(HA i).n+1:=rfl;left;omega
  ·right;by_cases h2:i<c
   ·exact absurd ha (hno i aa h2)
   ·exact T.nle i c aa aa
 refine⟨R,?_,?_,?_,?_,?_,Mp.le_trans I.le S.le,?_,S.base.trans I.base,?_,?_,bV I.size S.size,?_,?_⟩;·intro i hi ha hd;rw[iH _ (low i hi ha)];exact I.none_ i hi ha hd
 ·intro i hic hi ha hd
  have hia:i<a:=by
   rcases dr i a with h|h;·exact h
   ·exact absurd ha (hno i h hic)
  obtain⟨⟨obj,e,hg⟩,hst⟩:=I.Lk i hia hi ha hd;have hlt:(HA i).n<(HA a).n:=by have h2:(HA (i+1)).n≤(HA a).n:=T.nle a (i+1) hia aa;rw[e] at h2;have:((HA i).new obj).n=(HA i).n+1:=rfl;omega
  have hm:=I.none_ i hi ha hd;exact⟨⟨obj,e,by rw[S.idle _ hlt hm];exact hg⟩,S.rS _ hlt hm hst⟩
 ·intro i hic hi ha hd;obtain⟨obj,r,e,hm,ho⟩:=I.extra i aa hi ha hd;obtain⟨h1,h2⟩:=S.le _ _ hm;refine⟨obj,r,e,h1,ho.mono S.le ?_ h2⟩;refine S.frame r (I.rel.even _ _ _ hm).2 ?_;intro k s hk hmk;have hge:(HA a).n≤(HA i).n:=T.nle i a aa aa;have hlt:(HA i).n<(HA ops.size).n:=by have h2:(HA (i+1)).n≤(HA ops.size).n:=T.nle _ (i+1) hi (aA _);rw[e] at h2;have:((HA i).new obj).n=(HA i).n+1:=rfl;omega
  exact I.inj _ k r 0 s hge hlt aa aa hm hmk
 ·intro k k' r s s' hk hkN Xk hne hm hm';rw[iH k (.inr hk)] at hm;by_cases h1:k'<(HA a).n∨(HA c).n≤k'
  ·rw[iH k' h1] at hm';exact I.inj k k' r s s' aa hkN Xk hne hm hm'
  ·rcases S.img k' r s' aa aa hm' with e|⟨k0,s0,e1,e2⟩
   ·have:=(I.rel.even k r s hm).2;omega
   ·exact I.inj k k0 r s s0 aa hkN aa aa hm e2
 ·intro k hk hkN;rw[iH k (.inr hk)];rcases I.fresh k aa hkN with e|⟨i,h1,h2,h3,h4,h5⟩
  ·exact .inl e
  ·refine .inr ⟨i,?_,h2,h3,h4,h5⟩;rcases dr i c with h|h
   ·exact absurd h3 (hno i h1 h)
   ·exact h
 ·intro b hb;by_cases h1:m' b=m b
  ·rw[h1] at hb;exact I.new b hb
  ·obtain⟨k,e,h2,h3⟩:=S.new b h1;exact⟨k,e,aa,aa⟩
 ·intro r hr hk;rw[S.frame r (cB hr I.size) ?_,I.frame r hr hk];intro k s hka hmk;by_cases h1:k<(HA 0).n
  ·rw[I.old h1] at hmk;exact hk k s h1 hmk
  ·rcases I.img k r s aa aa hmk with e|⟨k0,s0,e1,e2⟩
   ·omega
   ·exact hk k0 s0 e1 e2
 ·intro k hk hm;rw[S.idle k aa (by rw[I.old hk,hm]),I.idle k hk hm]
 ·intro k r s hk hkN hm;by_cases h1:k<(HA a).n∨(HA c).n≤k
  ·rw[iH k h1] at hm;exact I.img k r s hk hkN hm
  ·rcases S.img k r s aa aa hm with e|⟨k0,s0,e1,e2⟩
   ·exact .inl (bV I.size e)
   ·by_cases h2:k0<(HA 0).n
    ·rw[I.old h2] at e2;exact .inr ⟨k0,s0,h2,e2⟩
    ·exact I.img k0 r s0 aa aa e2
 ·intro k hk hm hst;exact S.rS k aa (by rw[I.old hk,hm]) (I.rS k hk hm hst)
def qF.next (T:Text E call nt ops FA HA) (I:qF ops FA HA B w0 m0 wi D a m w) (ha:a<ops.size) (hc : ¬fQ ops a):qF ops FA HA B w0 m0 wi D (a+1) m w:=by
 have ho:ops[a]?=some ops[a]:=oX ha;by_cases hal:iM ops FA a
 ·obtain⟨obj,e,hl⟩:=T.alloc hal;have hn1:(HA (a+1)).n=(HA a).n+1:=by rw[e];rfl
  have hN:(HA (a+1)).n≤(HA ops.size).n:=T.nle _ _ ha (aA _);have n0a:(HA 0).n≤(HA a).n:=T.nle a 0 (dQ _) aa;have eg : ∀k,(HA (a+1)).ext.get k=if k=(HA a).n then some obj else (HA a).ext.get k:=fun k=>by rw[e];exact Tr.cD _ _ _ _
  have Bw:(HA (a+1)).eP=(HA a).eP:=by rw[e];rfl
  have Zt : ∀i,i<a→iM ops FA i→(HA i).n<(HA a).n:=by intro i hia h3;obtain⟨zY,e',_⟩:=T.alloc h3;have h2:(HA (i+1)).n≤(HA a).n:=T.nle a (i+1) hia aa;rw[e'] at h2;have:((HA i).new zY).n=(HA i).n+1:=rfl;omega
  have rV:m (2*(HA a).n)=none ∨ ∃r,m (2*(HA a).n)=some (r,0)∧mo m w r 0 (m.ez (2*(HA a).n)) obj ∧ ∀k s,k<(HA a).n→m (2*k)≠some (r,s):=by
   by_cases hd:D a
   ·obtain⟨zY,r,e',hm,hO⟩:=I.extra a (aA _) ha hal hd;have:zY=obj:=by
     rw[e] at e';have h1:=eg (HA a).n;rw[aq rfl,e] at h1;have h2:((HA a).new zY).ext.get (HA a).n=some zY:=by show((HA a).ext.set (HA a).n zY).get (HA a).n=_;rw[Tr.cD,aq rfl]
     rw[←e',h1] at h2;cases h2;rfl
    subst this;exact .inr ⟨r,hm,hO,fun k s hk hmk=>I.inj (HA a).n k r 0 s (aA _) aa aa aa hm hmk⟩
   ·exact .inl (I.none_ a ha hal hd)
  refine⟨by rw[e];exact I.rel.XY obj hl rV,I.none_,?_,?_,?_,?_,I.le,I.new,by rw[e];exact I.base,I.frame,?_,I.size,I.img,?_⟩
  ·intro i hi1 hi h3 hd;by_cases hia:i=a
   ·subst hia;exact⟨⟨obj,e,by rw[eg,aq rfl]⟩,fun f st hf=>by rw[Bw] at hf;have:=(I.rel.iJ f st hf).2.1;intro hx;have:=this _ hx;omega⟩
   ·obtain⟨⟨zY,e',hg⟩,hst⟩:=I.Lk i aa hi h3 hd;have hlt:=Zt i aa h3;exact⟨⟨zY,e',by rw[eg,ah aa];exact hg⟩,by rw[Bw];exact hst⟩
  ·intro i hi1 hi h3 hd;exact I.extra i aa hi h3 hd
  ·intro k k' r s s' hk;exact I.inj k k' r s s' aa
  ·intro k hk hkN;rcases I.fresh k aa hkN with h|⟨i,h1,h2,h3,h4,h5⟩
   ·exact .inl h
   ·refine .inr ⟨i,?_,h2,h3,h4,h5⟩;rcases dr a i with h|h
    ·exact h
    ·obtain rfl:i=a:=aa;omega
  ·intro k hk hm;rw[eg,ah aa];exact I.idle k hk hm
  ·intro k hk hm hst;rw[Bw];exact I.rS k hk hm hst
 ·have e:=T.same ho hc hal;refine⟨by rw[e];exact I.rel,I.none_,?_,?_,?_,?_,I.le,I.new,by rw[e];exact I.base,I.frame,by rw[e];exact I.idle,I.size,I.img,by rw[e];exact I.rS⟩
  ·intro i hi1 hi h3 hd;have:i≠a:=fun h=>hal (h▸h3);rw[e];exact I.Lk i aa hi h3 hd
  ·intro i hi1 hi h3 hd;exact I.extra i aa hi h3 hd
  ·rw[e];exact I.inj
  ·rw[e];intro k hk hkN;rcases I.fresh k hk hkN with h|⟨i,h1,h2,h3,h4,h5⟩
   ·exact .inl h
   ·refine .inr ⟨i,?_,h2,h3,h4,h5⟩;have:i≠a:=fun h=>hal (h▸h3);omega
def qF.make (T:Text E call nt ops FA HA) (I:qF ops FA HA B w0 m0 wi D a m w) (hae:a≤ops.size) {i:Nat} (hi:i<ops.size) (hal:iM ops FA i) (hd : ¬D i) {obj:cX} (e:HA (i+1)=(HA i).new obj) (hl:obj.lone=true) {O:Obj} {z:Nat×Nat}(hO:mo m (w.alloc O) w.heap.size 0 z obj):qF ops FA HA B w0 m0 wi (fun j=>D j∨j=i) a (m.upd (2*(HA i).n) (w.heap.size,0) z) (w.alloc O):=by
 have hm:=I.none_ i hi hal hd;have hle:m.le (m.upd (2*(HA i).n) (w.heap.size,0) z):=Mp.Dl hm;have hne : ∀k,k≠(HA i).n→(m.upd (2*(HA i).n) (w.heap.size,0) z) (2*k)=m (2*k):=fun k hk=>Mp.dH _ _ _ aa;have iH : ∀r,r<w.heap.size→(w.alloc O).heap[r]?=w.heap[r]?:=fun r hr=>by rw[heap_alloc,ah aa]
 have hidN:(HA i).n<(HA ops.size).n:=by have h2:(HA (i+1)).n≤(HA ops.size).n:=T.nle _ (i+1) hi (aA _);rw[e] at h2;have:((HA i).new obj).n=(HA i).n+1:=rfl;omega
 have h0i:(HA 0).n≤(HA i).n:=T.nle i 0 (dQ _) aa
 have hids : ∀j,j<ops.size→iM ops FA j→j≠i→(HA j).n≠(HA i).n:=by
  intro j hj h3 hji;rcases Nat.lt_or_gt_of_ne hji with h|h;·obtain⟨zY,e',_⟩:=T.alloc h3;have h2:(HA (j+1)).n≤(HA i).n:=T.nle i (j+1) h aa;rw[e'] at h2;have:((HA j).new zY).n=(HA j).n+1:=rfl;omega
  ·have h2:(HA (i+1)).n≤(HA j).n:=T.nle j (i+1) h aa
   rw[e] at h2;have:((HA i).new obj).n=(HA i).n+1:=rfl;omega
 refine⟨?_,?_,?_,?_,?_,?_,Mp.le_trans I.le hle,?_,I.base,?_,I.idle,by rw[size_alloc];have:=I.size;omega,?_,I.rS⟩
 ·refine I.rel.YO (HA i).n O z hm ?_ ?_
  ·intro o hg;by_cases hia:i<a
   ·obtain⟨⟨zY,e',hg'⟩,_⟩:=I.Lk i hia hi hal hd;rw[hg'] at hg;cases hg;have:o=obj:=by
     rw[e] at e';have h1:((HA i).new obj).ext.get (HA i).n=some obj:=by show((HA i).ext.set (HA i).n obj).get (HA i).n=_;rw[Tr.cD,aq rfl]
     have h2:((HA i).new o).ext.get (HA i).n=some o:=by show((HA i).ext.set (HA i).n o).get (HA i).n=_;rw[Tr.cD,aq rfl]
     rw[←e',h1] at h2;cases h2;rfl
    subst this;exact⟨hl,hO⟩
   ·have:(HA a).n≤(HA i).n:=T.nle i a aa aa;rw[I.rel.dom _ this] at hg;cases hg
  ·intro f st hf;by_cases hia:i<a
   ·exact(I.Lk i hia hi hal hd).2 f st hf
   ·have:(HA a).n≤(HA i).n:=T.nle i a aa aa;intro hx;have:=(I.rel.iJ f st hf).2.1 _ hx;omega
 ·intro j hj h3 hdj;have hji:j≠i:=fun e=>hdj (.inr e);rw[hne _ (hids j hj h3 hji)];exact I.none_ j hj h3 (fun h=>hdj (.inl h))
 ·intro j hja hj h3 hdj;exact I.Lk j hja hj h3 (fun h=>hdj (.inl h))
 ·intro j hja hj h3 hdj;by_cases hji:j=i
  ·subst hji;exact⟨obj,w.heap.size,e,Mp.cw _ _ _ _,hO.mono hle rfl (Mp.pK _ _ _ _)⟩
  ·obtain⟨zY,r,e',hmr,hO'⟩:=I.extra j hja hj h3 (hdj.resolve_right hji);obtain⟨h1,h2⟩:=hle _ _ hmr;exact⟨zY,r,e',h1,hO'.mono hle (iH r (I.rel.even _ _ _ hmr).2) h2⟩
 ·intro k k' r s s' hk hkN Xk hkk h1 h2;by_cases c1:k=(HA i).n
  ·subst c1;rw[Mp.cw] at h1;cases h1;rw[hne _ (fun e=>hkk e.symm)] at h2;have:=(I.rel.even _ _ _ h2).2;omega
  ·rw[hne _ c1] at h1;by_cases c2:k'=(HA i).n
   ·subst c2;rw[Mp.cw] at h2;cases h2;have:=(I.rel.even _ _ _ h1).2;omega
   ·rw[hne _ c2] at h2;exact I.inj k k' r s s' hk hkN Xk hkk h1 h2
 ·intro k hk hkN;by_cases c1:k=(HA i).n
  ·subst c1
   have hia:a≤i:=by
    rcases dr i a with h|h;·have h2:(HA (i+1)).n≤(HA a).n:=T.nle a (i+1) h hae;rw[e] at h2;have:((HA i).new obj).n=(HA i).n+1:=rfl;omega
    ·exact h
   exact .inr ⟨i,hia,hi,hal,.inr rfl,rfl⟩
  ·rw[hne _ c1];rcases I.fresh k hk hkN with h|⟨j,h1,h2,h3,h4,h5⟩
   ·exact .inl h
   ·exact .inr ⟨j,h1,h2,h3,.inl h4,h5⟩
 ·intro b hb;by_cases h1:b=2*(HA i).n
  ·exact⟨_,h1,h0i,hidN⟩
  ·rw[Mp.dH _ _ _ h1] at hb;exact I.new b hb
 ·intro r hr hk;rw[iH r (cB hr I.size)];exact I.frame r hr hk
 ·intro k r s hk hkN h1;by_cases c1:k=(HA i).n
  ·subst c1;rw[Mp.cw] at h1;cases h1;exact .inl I.size
  ·rw[hne _ c1] at h1;exact I.img k r s hk hkN h1
end
end
section
structure Ordered (ops:Array Oper):Prop where
 U0 : ∀j y,ops[j]?=some y → ∀e∈y.after,Region.binds .any e=true→e.on<j
 pair : ∀i j x y,i<j→ops[i]?=some x→ops[j]?=some y→jc ops.toList j i=true∨(Bh ops.toList x y=false ∧ ¬(fE x.op=.chain∧fE y.op=.chain))
def G8 {ops:Array Oper} (h:tz ops.toList=true):Ordered ops:=by
 unfold tz at h;simp only[ji,qX] at h;have size : ∀j y,ops[j]?=some y→j<ops.toList.length:=by intro j y hj;have:=(md.1 hj).1;simpa using this
 refine⟨fun j y hj e he hb=>?_,fun i j x y hij hi hj=>?_⟩
 ·have:=h j (size j y hj);have hj':ops.toList[j]?=some y:=by simpa using hj
  simp only[hj',fK,ji] at this;have h1:=this.1.1 e (by simpa using he);simpa [hb] using h1
 ·have:=h j (size j y hj);have hj':ops.toList[j]?=some y:=by simpa using hj
  have hi':ops.toList[i]?=some x:=by simpa using hi
  simp only[hj',fK,ji] at this;have h1:=this.2 i (by simpa using hij);simp only[hi',nM,Gy,Bool.or_eq_false_iff,Bool.and_eq_false_iff,zu] at h1;rcases h1 with h1|h1;·exact .inl h1
  ·refine .inr ⟨h1.1,fun hk=>?_⟩;rcases h1.2 with h2|h2
   ·exact h2 hk.1
   ·exact h2 hk.2
section
variable {ops:Array Oper} {x y:Oper} {d:Nat}
theorem JR (h1:x.dst=some d) (h2:y.dst=some d):Bh ops.toList x y=true:=by simp[Bh,h1,h2]
theorem SQ (h1:x.dst=some d) (h2:d∈reads ops.toList y):Bh ops.toList x y=true:=by simp[Bh,h1,h2]
theorem SR (h1:y.dst=some d) (h2:d∈reads ops.toList x):Bh ops.toList x y=true:=by simp[Bh,h1,h2]
end
section
variable {E:Env} {call:je} {nt:Nat} {ops:Array Oper} {FA:Nat→Fr} {HA:Nat→IH}
def Text.put (T:Text E call nt ops FA HA) {i:Nat} {o:Oper} (ho:ops[i]?=some o) : ∃v,ue nt (FA i) o.dst v=some (FA (i+1)) ∧ ((dW ops.toList o (FA i)=some true∧jn E call (FA i) o.op (HA i)=some (v,HA (i+1)))∨(dW ops.toList o (FA i)=some false∧v=undef)):=by
 have hs:=T.step i o ho;unfold iC at hs;split at hs
 ·rename_i hw;split at hs
  ·rename_i v h2 cH;obtain⟨a,h1,e⟩:=bI.1 hs;cases e;exact⟨v,h1,.inl ⟨hw,cH⟩⟩
  ·cases hs
 ·rename_i hw;obtain⟨a,h1,e⟩:=bI.1 hs;exact⟨undef,by rw[h1];exact kC some (B0 e).1,.inr ⟨hw,rfl⟩⟩
 ·cases hs
theorem FD {fr fr':Fr} {dst:Option Tmp} {v:Value} (h:ue nt fr dst v=some fr') (t:Nat):ax fr' t=if dst=some t then some v else ax fr t:=by
 unfold ue at h
 cases dst with
 | none=>cases h;simp
 | some d =>
  simp only[aX,qW] at h;split at h;·cases h;simp only[ax,aX,bT,sE]
  ·cases h
def Text.keeps (T:Text E call nt ops FA HA) {t p:Nat} : ∀(q:Nat),p≤q→q≤ops.size→(∀j o,p≤j→j<q→ops[j]?=some o→o.dst≠some t)→ax (FA q) t=ax (FA p) t:=by
 intro q
 induction q with
 | zero =>
  intro h _ _
  have e:p=0:=aa
  rw[e]
 | succ q ih =>
  intro hpq hn hw;by_cases hq:p=q+1;·rw[hq]
  have ho:ops[q]?=some ops[q]:=oX aa
  obtain⟨v,hp,_⟩:=T.put ho;rw[FD hp t,ah (hw q _ aa aa ho)];exact ih aa aa (fun j o h1 h2=>hw j o h1 aa)
end
structure By (nt:Nat) (ops:Array Oper) (FA:Nat→Fr) (HA:Nat→IH) (B:Nat) (w0:World) (m0:Mp) (wi:World) (D:Nat→Prop) (m:Mp) (w:World) (tmps:Array Value):Prop where
 closed : ∀j i,D j→jc ops.toList j i=true→D i
 slots : ∀t,∃p,p≤ops.size∧(∀j o,ops[j]?=some o→o.dst=some t→(D j↔j<p)) ∧ ∀v,ax (FA p) t=some v → ∃v',tmps[t]?=some v'∧bz m v v'
 chain : ∃a,a≤ops.size∧(∀j,fQ ops j→(D j↔j<a))∧(a=ops.size∨fQ ops a)∧qF ops FA HA B w0 m0 wi D a m w
 size:nt≤tmps.size
section
variable {E:Env} {call:je} {nt:Nat} {ops:Array Oper} {FA:Nat→Fr} {HA:Nat→IH} {B:Nat} {w0:World} {m0:Mp} {wi:World} {D:Nat→Prop} {a:Nat} {m:Mp} {w:World} {tmps:Array Value}
def qF.norm (T:Text E call nt ops FA HA) : ∀(n a:Nat),ops.size - a≤n→a≤ops.size→qF ops FA HA B w0 m0 wi D a m w→(∀j,fQ ops j→(D j↔j<a)) → ∃a,a≤ops.size∧(∀j,fQ ops j→(D j↔j<a))∧(a=ops.size∨fQ ops a)∧qF ops FA HA B w0 m0 wi D a m w
 | 0,a,h1,h2,I,hc=>⟨a,h2,hc,.inl aa,I⟩
 | n+1,a,h1,h2,I,hc=>by
  by_cases h3:a=ops.size;·exact⟨a,h2,hc,.inl h3,I⟩
  ·by_cases h4:fQ ops a
   ·exact⟨a,h2,hc,.inr h4,I⟩
   ·refine qF.norm T n (a+1) aa aa (I.next T aa h4) fun j hj=>?_;rw[hc j hj];constructor
    ·intro h;omega
    ·intro h;rcases dr j a with h5|h5
     ·exact h5
     ·exact absurd (show fQ ops a from(show j=a by omega)▸hj) h4
variable {i:Nat}{o:Oper}
def By.known (T:Text E call nt ops FA HA) (O:Ordered ops) (I:By nt ops FA HA B w0 m0 wi D m w tmps) (ho:ops[i]?=some o) (hd : ¬D i) (hb : ∀k,jc ops.toList i k=true→D k) :gZ m (jB (FA i) (reads ops.toList o)) tmps:=by
 intro t v hv;rw[j6] at hv;by_cases hr:t∈Id.reads ops.toList o
 ·rw[aq hr] at hv;obtain⟨p,hp,hw,ml⟩:=I.slots t;have hin:i<ops.size:=(md.1 ho).1
  have lo : ∀j x,ops[j]?=some x→x.dst=some t→j<i→D j:=by
   intro j x hj hx hji;rcases O.pair j i x o hji hj ho with h|h;·exact hb j h
   ·rw[SQ hx hr] at h;exact absurd h.1 ab
  have hi : ∀j x,ops[j]?=some x→x.dst=some t→i<j → ¬D j:=by
   intro j x hj hx hji hdj;rcases O.pair i j o x hji ho hj with h|h;·exact hd (I.closed j i hdj h)
   ·rw[SR hx hr] at h;exact absurd h.1 ab
  have e:ax (FA i) t=ax (FA p) t:=by
   rcases Nat.le_total p i with hpi|hpi;·refine T.keeps i hpi aa fun j x h1 h2 hj hx=>?_;have:=(hw j x hj hx).1 (lo j x hj hx h2);omega
   ·refine(T.keeps p hpi hp fun j x h1 h2 hj hx=>?_).symm;have hdj:=(hw j x hj hx).2 h2;rcases dr i j with h3|h3
    ·exact hi j x hj hx h3 hdj
    ·obtain rfl:i=j:=aa;exact hd hdj
  rw[e] at hv;exact ml v hv
 ·rw[ah hr] at hv;cases hv
def By.put (O:Ordered ops) (I:By nt ops FA HA B w0 m0 wi D m w tmps) (ho:ops[i]?=some o) (hd : ¬D i) (hb : ∀k,jc ops.toList i k=true→D k){v v':Value} (hp:ue nt (FA i) o.dst v=some (FA (i+1))) {m':Mp} (hm:m.le m') (hv:bz m' v v') :(∀t,∃p,p≤ops.size∧(∀j x,ops[j]?=some x→x.dst=some t→((D j∨j=i)↔j<p)) ∧ ∀v,ax (FA p) t=some v → ∃v1,(ru tmps o.dst v')[t]?=some v1∧bz m' v v1)∧nt≤(ru tmps o.dst v').size:=by
 have hin:i<ops.size:=(md.1 ho).1
 have hd2 : ∀d,o.dst=some d→d<nt:=by
  intro d hd;unfold ue at hp;simp only[hd,aX,qW] at hp;split at hp;·assumption
  ·cases hp
 refine⟨fun t=>?_,by cases h:o.dst<;>simpa [ru] using I.size⟩;by_cases ht:o.dst=some t
 ·refine⟨i+1,aa,fun j x hj hx=>?_,fun u hu=>?_⟩
  ·constructor
   ·rintro(h|h)
    ·rcases dr i j with h3|h3
     ·rcases O.pair i j o x h3 ho hj with h4|h4
      ·exact absurd (I.closed j i h h4) hd
      ·rw[JR ht hx] at h4;exact absurd h4.1 ab
     ·omega
    ·omega
   ·intro h;by_cases h3:j=i
    ·exact .inr h3
    ·rcases O.pair j i x o aa hj ho with h4|h4
     ·exact .inl (hb j h4)
     ·rw[JR hx ht] at h4;exact absurd h4.1 ab
  ·rw[FD hp t,aq ht] at hu;cases hu;have hlt:t<tmps.size:=cB (hd2 t ht) I.size;exact⟨v',by simp[ru,ht,hlt],hv⟩
 ·obtain⟨p,h1,h2,h3⟩:=I.slots t;refine⟨p,h1,fun j x hj hx=>?_,fun u hu=>?_⟩
  ·rw[←h2 j x hj hx];constructor
   ·rintro(h|h)
    ·exact h
    ·subst h;rw[ho] at hj;cases hj;exact absurd hx ht
   ·exact .inl
  ·obtain⟨u',h4,h5⟩:=h3 u hu;refine⟨u',?_,h5.mono hm⟩;unfold ru;cases hdst:o.dst with
   | none=>exact h4
   | some d=>simp only;rw[Array.getElem?_setIfInBounds_ne (by rintro rfl;exact ht hdst)];exact h4
def Mv (E:Env) (ops:Array Oper) (FA:Nat→Fr) (HA:Nat→IH):Prop :=
 ∀i o,ops[i]?=some o→fE o.op=.load→dW ops.toList o (FA i)=some true → ∀p,p≤ops.size→(p=ops.size∨fQ ops p) →
  (∀k,fQ ops k→k<p→jc ops.toList k i=false)→(∀k,fQ ops k→p≤k→jc ops.toList i k=false) →
  ∀v h',iop E.P (FA i) o.op (HA i)=some (v,h') → ∃h2,iop E.P (FA i) o.op (HA p)=some (v,h2)
def By.op (jI:oD E.P call) (T:Text E call nt ops FA HA) (O:Ordered ops) (S:Mv E ops FA HA) (I:By nt ops FA HA B w0 m0 wi D m w tmps) (ho:ops[i]?=some o) (hd : ¬D i)(hb : ∀k,jc ops.toList i k=true→D k) (b:Frame) (rest:List Nat) (k:List Item) (ds:List Deferred) (cs:List Frame) :∃m' w' cY,Steps E.P (lone (on b tmps (.inRegion ops (i :: rest) :: k) ds) cs w) (lone (on b cY (.inRegion ops rest :: k) ds) cs w')∧By nt ops FA HA B w0 m0 wi (fun j=>D j∨j=i) m' w' cY:=by
 have hin:i<ops.size:=(md.1 ho).1;have hf:=I.known T O ho hd hb;obtain⟨v,mY,wM⟩:=T.put ho;obtain⟨a,hae,hch,hat,H⟩:=I.chain
 have UG : ∀j i',(D j∨j=i)→jc ops.toList j i'=true→D i'∨i'=i:=by
  rintro j i' (h|rfl) hbf;·exact .inl (I.closed j i' h hbf)
  ·exact .inl (hb i' hbf)
 have mk : ∀{m':Mp} {w':World} {v':Value} {c:Nat},m.le m'→bz m' v v'→c≤ops.size→(∀j,fQ ops j→((D j∨j=i)↔j<c))→qF ops FA HA B w0 m0 wi (fun j=>D j∨j=i) c m' w' →
   By nt ops FA HA B w0 m0 wi (fun j=>D j∨j=i) m' w' (ru tmps o.dst v'):=by
  intro m' w' v' c hle hv hc1 hc2 H'
  obtain⟨h1,h2⟩:=I.put O ho hd hb mY hle hv
  exact⟨UG,h1,H'.norm T _ c (aA _) hc1 hc2,h2⟩
 have add : ∀{c:Nat} {m':Mp} {w':World},¬iM ops FA i→qF ops FA HA B w0 m0 wi D c m' w'→qF ops FA HA B w0 m0 wi (fun j=>D j∨j=i) c m' w':=by
  intro c m' w' hal H'
  have back : ∀j,iM ops FA j→(D j∨j=i)→D j:=by
   rintro j h1 (h2|rfl);·exact h2
   ·exact absurd h1 hal
  refine⟨H'.rel,fun j h1 h2 h3=>H'.none_ j h1 h2 (fun h=>h3 (.inl h)),fun j h0 h1 h2 h3=>H'.Lk j h0 h1 h2 (fun h=>h3 (.inl h)),fun j h0 h1 h2 h3=>H'.extra j h0 h1 h2 (back j h2 h3),H'.inj,fun q h1 h2=>?_,H'.le,H'.new,H'.base,H'.frame,H'.idle,H'.size,H'.img,H'.rS⟩;rcases H'.fresh q h1 h2 with h|⟨j,h3,h4,h5,h6,h7⟩;·exact .inl h
  ·exact .inr ⟨j,h3,h4,h5,.inl h6,h7⟩
 have Mh : ¬fQ ops i → ∀j,fQ ops j→((D j∨j=i)↔j<a):=by
  intro hnc j hj;rw[←hch j hj];constructor
  ·rintro(h|rfl)
   ·exact h
   ·exact absurd hj hnc
  ·exact .inl
 rcases wM with⟨hw,cH⟩|⟨hw,rfl⟩
 ·have hwk:dW ops.toList o (jB (FA i) (reads ops.toList o))=some true:=by rw[AE];exact hw
  have hcg : ∀h,jn E call (jB (FA i) (reads ops.toList o)) o.op h=jn E call (FA i) o.op h:=fun h=>IE (IY _ _ _) h;have YE : ∀x:Nat,jE m x x:=fun x k h1 h2=>aa;have quiet:fE o.op≠.chain→fE o.op≠.alloc→jn E call (FA i) o.op (HA a)=some (v,HA a) →
    ∃m' w' cY,Steps E.P (lone (on b tmps (.inRegion ops (i :: rest) :: k) ds) cs w) (lone (on b cY (.inRegion ops rest :: k) ds) cs w')∧By nt ops FA HA B w0 m0 wi (fun j=>D j∨j=i) m' w' cY:=by
   intro hk1 hk2 hr;have hnc : ¬fQ ops i:=by rintro⟨o',h1,h2⟩;rw[ho] at h1;cases h1;exact hk1 h2
   have hna : ¬iM ops FA i:=by rintro⟨o',h1,h2,_⟩;rw[ho] at h1;cases h1;exact hk2 h2
   obtain⟨v',m',w',hS,hv,R',S'⟩:=KR jI ho hwk (by rw[hcg];exact hr) H.rel hf (YE _) b rest k ds cs;exact⟨m',w',_,hS,mk S'.le hv hae (Mh hnc) (add hna (H.go T (aA _) hae (fun j h1 h2=>aa) R' S'))⟩
  cases hk:fE o.op with
  | pure =>
   rw[iW (by rw[hk];simp)] at cH;exact quiet (by rw[hk];simp) (by rw[hk];simp) (by rw[iW (by rw[hk];simp)];exact(Dr hk cH).2 _)
  | load =>
   rw[iW (by rw[hk];simp)] at cH;refine quiet (by rw[hk];simp) (by rw[hk];simp) ?_;rw[iW (by rw[hk];simp)];obtain⟨h2,e⟩:=S i o ho hk hw a hae hat (fun q hq hqa=>by
     have hdq:=(hch q hq).2 hqa;cases hbf:jc ops.toList q i with
     | false=>rfl
     | true=>exact absurd (I.closed q i hdq hbf) hd)
    (fun q hq hqa=>by
     cases hbf:jc ops.toList i q with
     | false=>rfl
     | true=>have:=(hch q hq).1 (hb q hbf);omega) v _ cH
   rw[e,Ds hk e]
  | alloc =>
   rw[iW (by rw[hk];simp)] at cH;have hal:iM ops FA i:=⟨o,ho,hk,hw⟩;have hnc : ¬fQ ops i:=by rintro⟨o',h1,h2⟩;rw[ho] at h1;cases h1;rw[hk] at h2;cases h2
   have hrk:iop E.P (jB (FA i) (reads ops.toList o)) o.op (HA i)=some (v,HA (i+1)):=by rw[Ae (IY _ _ _)];exact cH
   obtain⟨obj,e,hl,Ob,v',z,hr,hO,hv⟩:=Pe (vE H.rel hf) o hk hrk w;have hnd : ∀c,o.op≠.defer c:=by intro c hc;rw[hc] at hk;simp[fE] at hk
   have hst:=uB (b:=b) (k:=k) (ds:=ds) (cs:=cs) (rest:=rest) ho (sX hf hwk) hnd hr
   have H':=H.make T hae hin hal hd e hl hO
   exact⟨_,_,_,.one hst,mk (Mp.Dl (H.none_ i hin hal hd)) (hv _ (Mp.cw _ _ _ _)) hae (Mh hnc) H'⟩
  | chain =>
   have hci:fQ ops i:=⟨o,ho,hk⟩
   have hai:a≤i:=by
    rcases dr i a with h|h;·exact absurd ((hch i hci).2 h) hd
    ·exact h
   have hca:fQ ops a:=by
    rcases hat with h|h;·omega
    ·exact h
   obtain rfl:a=i:=by
    rcases dr a i with h|h
    ·obtain⟨x,hx,hkx⟩:=hca;rcases O.pair a i x o h hx ho with h1|h1
     ·have:=(hch a ⟨x,hx,hkx⟩).1 (hb a h1);omega
     ·exact absurd ⟨hkx,hk⟩ h1.2
    ·omega
   have hfr:jE m (HA a).n (HA (a+1)).n:=by
    intro q h1 h2;have hN:(HA (a+1)).n≤(HA ops.size).n:=T.nle _ _ hin (aA _);rcases H.fresh q h1 aa with h|⟨j,h3,h4,h5,h6,h7⟩;·exact h
    ·exfalso;have hja:j≠a:=by rintro rfl;exact oZ hca h5
     have:=T.nle j (a+1) aa aa;omega
   obtain⟨v',m',w',hS,hv,R',S'⟩:=KR jI ho hwk (by rw[hcg];exact cH) H.rel hf hfr b rest k ds cs;refine⟨m',w',_,hS,mk S'.le hv hin ?_ (add (oZ hca) (H.go T (jh _) hin (fun j h1 h2=>?_) R' S'))⟩;·intro j hj;rw[hch j hj];omega
   ·obtain rfl:j=a:=aa
    exact oZ hca
 ·-- left out
  have hwk:dW ops.toList o (jB (FA i) (reads ops.toList o))=some false:=by rw[AE];exact hw
  have hna : ¬iM ops FA i:=by rintro⟨o',h1,_,h2⟩;rw[ho] at h1;cases h1;rw[hw] at h2;cases h2
  have hst:=Qo (P:=E.P) (b:=b) (k:=k) (ds:=ds) (cs:=cs) (rest:=rest) (w:=w) ho (sX hf hwk);by_cases hci:fQ ops i
  ·have hai:a≤i:=by
    rcases dr i a with h|h;·exact absurd ((hch i hci).2 h) hd
    ·exact h
   have hca:fQ ops a:=by
    rcases hat with h|h;·omega
    ·exact h
   obtain rfl:a=i:=by
    rcases dr a i with h|h
    ·obtain⟨x,hx,hkx⟩:=hca;obtain⟨o',ho',hk⟩:=hci;rw[ho] at ho';cases ho';rcases O.pair a i x o h hx ho with h1|h1
     ·have:=(hch a ⟨x,hx,hkx⟩).1 (hb a h1);omega
     ·exact absurd ⟨hkx,hk⟩ h1.2
    ·omega
   have e:HA (a+1)=HA a:=by have hs:=T.step a o ho;unfold iC at hs;rw[hw] at hs;obtain⟨_,_,e⟩:=bI.1 hs;exact(B0 e).2.symm
   refine⟨m,w,_,.one hst,mk (Mp.le_refl m) (bz.undef m) hin ?_ (add hna (H.go T (jh _) hin (fun j h1 h2=>?_) (by rw[e];exact H.rel) (by rw[e];exact Step.refl _ _ _)))⟩;·intro j hj;rw[hch j hj];omega
   ·obtain rfl:j=a:=aa
    exact hna
  ·exact⟨m,w,_,.one hst,mk (Mp.le_refl m) (bz.undef m) hae (Mh hci) (add hna H)⟩
end
end
section
variable {ops:Array Oper}{FA:Nat→Fr}{HA:Nat→IH}{E:Env}
def Is {tr:List (Fr×IH)} (hs:steady E.P ops.toList tr (Eo ops.toList)=true) (htr : ∀i,i≤ops.size→tr[i]?=some (FA i,HA i)) :
  Mv E ops FA HA:=by
 intro i o ho hk hw p hp hpat h1 h2 v h' hv;have hin:i<ops.size:=(md.1 ho).1;have ho':ops.toList[i]?=some o:=by simpa using ho
 unfold steady at hs;rw[ji] at hs;have hch : ∀q,q∈(List.range ops.toList.length).filter (fun k=>match ops.toList[k]? with|some o=>fE o.op == .chain|none=>false)↔fQ ops q:=by
  intro q;rw[qY];constructor
  ·rintro⟨_,hq⟩;cases hx:ops.toList[q]? with
   | none=>simp[hx] at hq
   | some x=>simp only[hx,bT] at hq;exact⟨x,by simpa using hx,hq⟩
  ·rintro⟨x,hx,hq⟩;have:=(md.1 hx).1;have hx':ops.toList[q]?=some x:=by simpa using hx
   exact⟨by simpa using this,by rw[hx'];simp[hq]⟩
 have hm:=hs (i,_) (by
  unfold Eo;rw[Gs];refine⟨i,by simpa using hin,?_⟩;simp only[ho',hk,pW,cg];rfl)
 simp only[ho',htr i (kF hin),hw] at hm;rw[ji] at hm;have hpm:=hm p (by
  rw[qY,fC];refine⟨?_,?_⟩
  ·rcases hpat with rfl|h
   ·right;simp
   ·left;exact(hch p).2 h
  ·rw[ji];intro q hq;have hcq:=(hch q).1 hq;cases hb:Nat.blt q p with
   | true =>
    have:=h1 q hcq (by simpa using hb);unfold jc at this;rw[cg,this];rfl
   | false =>
    have:=h2 q hcq (by
     rcases dr q p with h|h
     ·have:Nat.blt q p=true:=by simpa [qW] using h
      rw[this] at hb;cases hb
     ·exact h)
    unfold jc at this;rw[fU,this];rfl)
 simp only[htr p hp] at hpm;unfold jS at hpm;rw[hv] at hpm;split at hpm;·rename_i h3 h4;rename_i v1 _ v2 _;cases h3;rw[XA hpm];exact⟨_,h4⟩
 ·cases hpm
theorem qF.first {call:je} {nt:Nat} {B:Nat} {w0:World} {m:Mp} {w:World} (T:Text E call nt ops FA HA) (R:Rel B w0 m (HA 0) w) (hf:jE m (HA 0).n (HA ops.size).n) :
  qF ops FA HA B w0 m w (fun _=>False) 0 m w:=by
 refine⟨R,?_,fun i h=>aa,fun i _ _ _ h=>h.elim,?_,fun k h1 h2=>.inl (hf k h1 h2),Mp.le_refl m,fun b h=>absurd rfl h,rfl,fun _ _ _=>rfl,fun _ _ _=>rfl,aA _,?_,fun _ _ _ h=>h⟩;·intro i hi hal _;obtain⟨obj,e,_⟩:=T.alloc hal;have h2:(HA (i+1)).n≤(HA ops.size).n:=T.nle _ (i+1) hi (aA _);rw[e] at h2;have:((HA i).new obj).n=(HA i).n+1:=rfl;exact hf _ (T.nle i 0 (dQ _) aa) aa
 ·intro k k' r s s' h1 h2 h3 h4 h5
  rw[hf k h1 h2] at h5;cases h5
 ·intro k r s h1 h2 h3;rw[hf k h1 h2] at h3;cases h3
section
variable {E:Env} {call:je} {nt:Nat} {ops:Array Oper} {FA:Nat→Fr} {HA:Nat→IH} {B:Nat} {w0:World} {m0:Mp} {wi:World}
def EC (O:Ordered ops) {listed:Array Bool} (hcl : ∀j i,listed[j]?=some true→jc ops.toList j i=true→listed[i]?=some true) {i:Nat} {o:Oper} (ho:ops[i]?=some o)
  (ft : ∀e∈o.after,Region.binds .any e=true→listed[e.on]?=some true) : ∀k,jc ops.toList i k=true→listed[k]?=some true:=by
 intro k hb;have ho':ops.toList[i]?=some o:=by simpa using ho
 obtain⟨e,he,hbe,h⟩:=(JZ ho' (O.U0 i o ho)).1 hb;have h1:=ft e he hbe;rcases h with h|h;·rw[←h];exact h1
 ·exact hcl _ _ h1 h
def Ng (jI:oD E.P call) (T:Text E call nt ops FA HA) (O:Ordered ops) (S:Mv E ops FA HA) (b:Frame) (k:List Item) (ds:List Deferred) (cs:List Frame) :∀(fuel t:Nat) (listed:Array Bool) (U:List Nat) (m:Mp) (w:World) (tmps:Array Value),listed.size=ops.size→(∀j,j∈U↔j<ops.size∧listed[j]?≠some true)→U.Nodup→U.length≤fuel → By nt ops FA HA B w0 m0 wi (fun j=>listed[j]?=some true) m w tmps → ∃m' w' cY,Steps E.P (lone (on b tmps (.inRegion ops (Region.linearise.go .any ops fuel t listed []) :: k) ds) cs w) (lone (on b cY (.inRegion ops [] :: k) ds) cs w')∧By nt ops FA HA B w0 m0 wi (fun j=>j<ops.size) m' w' cY
 | 0,t,listed,U,m,w,tmps,hsz,hU,hnd,hlen,I=>by
  have hU0:U = []:=List.eq_nil_of_length_eq_zero (by omega);subst hU0
  have e:(fun j=>listed[j]?=some true)=fun j=>j<ops.size:=by
   funext j;apply propext;constructor;·intro h;have:=(Array.getElem?_eq_some_iff.1 h).1;omega
   ·intro h
    apply Classical.byContradiction;intro hn;exact absurd ((hU j).2 ⟨h,hn⟩) (by simp)
  rw[e] at I;exact⟨m,w,tmps,by simp only[Region.linearise.go,List.reverse_nil];exact .refl _ _,I⟩
 | fuel+1,t,listed,U,m,w,tmps,hsz,hU,hnd,hlen,I=>by
  have get : ∀{j},j<ops.size → ∀d,(listed.getD j d=true↔listed[j]?=some true):=by intro j hj d;rw[Array.getD_eq_getD_getElem?,Array.getElem?_eq_getElem (by omega)];simp
  have mem_ready : ∀i,i∈Region.ready .any ops listed↔i<ops.size∧listed[i]?≠some true ∧ ∃o,ops[i]?=some o ∧ ∀e∈o.after,Region.binds .any e=true→listed[e.on]?=some true:=by
   intro i;unfold Region.ready;rw[List.mem_filter,List.mem_range];constructor
   ·rintro⟨h1,h2⟩;simp only[Bool.and_eq_true,Bool.not_eq_true'] at h2;refine⟨h1,fun h=>?_,?_⟩
    ·have:=(get h1 true).2 h;rw[this] at h2;cases h2.1
    ·cases ho:ops[i]? with
     | none=>rw[ho] at h2;simp at h2
     | some o =>
      refine⟨o,rfl,fun e he hb=>?_⟩;rw[ho] at h2;simp only[Option.map_some,Option.getD_some,Array.all_eq_true',Bool.or_eq_true,Bool.not_eq_true'] at h2;rcases h2.2 e he with h3|h3;·rw[hb] at h3;cases h3
      ·have hlt:=O.U0 i o ho e he hb;exact(get (by omega) false).1 h3
   ·rintro⟨h1,h2,o,ho,h3⟩;refine⟨h1,?_⟩;simp only[Bool.and_eq_true,Bool.not_eq_true'];constructor
    ·cases hg:listed.getD i true with
     | false=>rfl
     | true=>exact absurd ((get h1 true).1 hg) h2
    ·rw[ho];simp only[Option.map_some,Option.getD_some,Array.all_eq_true',Bool.or_eq_true,Bool.not_eq_true'];intro e he;cases hb:Region.binds .any e with
     | false=>exact .inl rfl
     | true =>
      have hlt:=O.U0 i o ho e he hb;exact .inr ((get (by omega) false).2 (h3 e he hb))
  rw[show Region.linearise.go .any ops (fuel+1) t listed []=(match (Region.ready .any ops listed)[t % (Region.ready .any ops listed).length]? with
   | some i=>Region.linearise.go .any ops fuel (t / (Region.ready .any ops listed).length) (listed.setIfInBounds i true) [i]
   | none => [].reverse) from rfl]
  cases hi:(Region.ready .any ops listed)[t % (Region.ready .any ops listed).length]? with
  | none =>
   have Xe:Region.ready .any ops listed = []:=by
    cases hr:Region.ready .any ops listed with
    | nil=>rfl
    | cons x xs =>
     rw[hr] at hi;have hlt:t % (x :: xs).length<(x :: xs).length:=Nat.mod_lt _ (by simp);rw[List.getElem?_eq_getElem hlt] at hi;cases hi
   have ft : ∀j,j<ops.size→listed[j]?=some true:=by
    intro j
    induction j using Nat.strongRecOn with
    | ind j ih =>
     intro hj;apply Classical.byContradiction;intro hn;have:j∈Region.ready .any ops listed:=(mem_ready j).2 ⟨hj,hn,ops[j],Array.getElem?_eq_getElem hj,fun e he hb=>by
      have hlt:=O.U0 j _ (Array.getElem?_eq_getElem hj) e he hb;exact ih e.on hlt (by omega)⟩
     rw[Xe] at this;cases this
   have e:(fun j=>listed[j]?=some true)=fun j=>j<ops.size:=by
    funext j;apply propext;constructor;·intro h;have:=(Array.getElem?_eq_some_iff.1 h).1;omega
    ·exact ft j
   rw[e] at I;exact⟨m,w,tmps,.refl _ _,I⟩
  | some i =>
   simp only;obtain⟨h1,h2,o,ho,h3⟩:=(mem_ready i).1 (List.mem_of_getElem? hi);rw[linearise_go_acc,List.reverse_singleton,List.singleton_append];obtain⟨m1,w1,iz,hS1,I1⟩:=I.op jI T O S ho h2 (EC O I.closed ho h3) b (Region.linearise.go .any ops fuel (t / (Region.ready .any ops listed).length) (listed.setIfInBounds i true) []) k ds cs;have LL : ∀j,(listed.setIfInBounds i true)[j]?=some true↔listed[j]?=some true∨j=i:=by
    intro j;rw[Array.getElem?_setIfInBounds];by_cases hji:i=j;·subst hji;simp[hsz,h1]
    ·rw[if_neg hji];constructor
     ·exact .inl
     ·rintro(h|h)
      ·exact h
      ·exact absurd h.symm hji
   have e:(fun j=>listed[j]?=some true∨j=i)=fun j=>(listed.setIfInBounds i true)[j]?=some true:=by funext j;exact propext (LL j).symm
   rw[e] at I1;have hiU:i∈U:=(hU i).2 ⟨h1,h2⟩;obtain⟨m',w',cY,hS,I'⟩:=Ng jI T O S b k ds cs fuel (t / (Region.ready .any ops listed).length) (listed.setIfInBounds i true) (U.erase i) m1 w1 iz (by simpa using hsz)
    (fun j=>by
     rw[hnd.mem_erase_iff,hU j];constructor
     ·rintro⟨a,b,c⟩;refine⟨b,fun h=>?_⟩;rcases(LL j).1 h with h|h
      ·exact c h
      ·exact a h
     ·rintro⟨a,b⟩;exact⟨fun h=>b ((LL j).2 (.inr h)),a,fun h=>b ((LL j).2 (.inl h))⟩)
    (hnd.erase i) (by rw[List.length_erase_of_mem hiU];omega) I1
   exact⟨m',w',cY,hS1.trans hS,I'⟩
end
def OA {E:Env} {call:je} (jI:oD E.P call) (fG:gK call) (Xg:E.P.follows .mixedOrders=true) {nt:Nat} {ops:Array Oper} {fr fr':Fr} {h h':IH} (hr:oH E call nt ops.toList fr h=some (fr',h')){B:Nat} {w0:World} {m:Mp} {w:World} (R:Rel B w0 m h w) {tmps:Array Value} (hf:gZ m fr tmps) (hn:nt≤tmps.size) (hfr:jE m h.n h'.n) (b:Frame) (k:List Item) (ds:List Deferred) (cs:List Frame) (id:Nat) :h.n≤h'.n ∧ ∃m' w' cY,Steps E.P (lone (on b tmps (.code (.region id ops true) :: k) ds) cs w) (lone (on b cY k ds) cs w')∧gZ m' fr' cY∧nt≤cY.size∧Rel B w0 m' h' w'∧Step m h w m' h' w':=by
 unfold oH at hr;cases htr:trace E call nt ops.toList ops.toList fr h with
 | none=>rw[htr] at hr;cases hr
 | some tr =>
  rw[htr] at hr;simp only[cond_eq_ite,Bool.and_eq_true] at hr;by_cases hc:tz ops.toList=true∧steady E.P ops.toList tr (Eo ops.toList)=true
  ·rw[if_pos hc] at hr;have O:=G8 hc.1;obtain⟨hlen,h0,Zi⟩:=sY ops.toList fr h tr htr;have RL:tr.length=ops.size+1:=by simpa using hlen
   let FA:Nat→Fr:=fun i=>((tr[i]?).map (·.1)).getD fr;let HA:Nat→IH:=fun i=>((tr[i]?).map (·.2)).getD h;have RE : ∀i,i≤ops.size→tr[i]?=some (FA i,HA i):=by intro i hi;have:tr[i]?=some tr[i]:=List.getElem?_eq_getElem (by omega);simp only[FA,HA,this,Option.map_some,Option.getD_some]
   have T:Text E call nt ops FA HA:=by refine⟨fG,fun i o ho=>?_⟩;obtain⟨fr1,h1,fr2,h2,e1,e2,e3⟩:=Zi i o (by simpa using ho);have hin:i<ops.size:=(Array.getElem?_eq_some_iff.1 ho).1;rw[RE i (by omega)] at e1;rw[RE (i+1) (by omega)] at e2;cases e1;cases e2;exact e3
   have S:=Is (E:=E) hc.2 RE;have e0:FA 0=fr∧HA 0=h:=by have:=RE 0 (Nat.zero_le _);rw[h0] at this;exact⟨(Prod.mk.inj (Option.some.inj this)).1.symm,(Prod.mk.inj (Option.some.inj this)).2.symm⟩
   have en:FA ops.size=fr'∧HA ops.size=h':=by have:=RE ops.size (Nat.le_refl _);simp only[Array.length_toList] at hr;rw[hr] at this;exact⟨(Prod.mk.inj (Option.some.inj this)).1.symm,(Prod.mk.inj (Option.some.inj this)).2.symm⟩
   have R1:Rel B w0 m (HA 0) { w with drawn:=w.drawn+1 }:=by rw[e0.2];exact R.congr rfl (oi R.below _)
   have Xf:h.n≤h'.n:=by have:=T.nle ops.size 0 (Nat.zero_le _) (Nat.le_refl _);rw[e0.2,en.2] at this;exact this
   have H0:=qF.first T R1 (by rw[e0.2,en.2];exact hfr);have I0:By nt ops FA HA B w0 m { w with drawn:=w.drawn+1 } (fun j:Nat=>(Array.replicate ops.size false)[j]?=some true) m { w with drawn:=w.drawn+1 } tmps:=by
    have e:(fun j:Nat=>(Array.replicate ops.size false)[j]?=some true)=fun _=>False:=by
     funext j;apply propext;rw[Array.getElem?_replicate];constructor
     ·intro h;split at h
      ·cases h
      ·cases h
     ·exact False.elim
    rw[e];refine⟨fun _ _ h=>h.elim,fun t=>⟨0,Nat.zero_le _,fun j o _ _=>by simp,fun v hv=>by rw[e0.1] at hv;exact hf t v hv⟩,?_,hn⟩;exact H0.norm T _ 0 (Nat.le_refl _) (Nat.zero_le _) (fun j _=>by simp)
   obtain⟨m',w',cY,hS,I'⟩:=Ng jI T O S b k ds cs ops.size (w.tape w.drawn (.order b.fn id)) (Array.replicate ops.size false) (List.range ops.size) m { w with drawn:=w.drawn+1 } tmps (by simp) (fun j=>by
     rw[List.mem_range,Array.getElem?_replicate];constructor;·intro h;refine⟨h,?_⟩;rw[if_pos h];simp
     ·exact fun h=>h.1)
    List.nodup_range (by simp) I0
   obtain⟨a,h1,h2,h3,H⟩:=I'.chain;have ha:a=ops.size:=by
    rcases h3 with h|h;·exact h
    ·have hlt:a<ops.size:=by obtain⟨o,ho,_⟩:=h;exact(Array.getElem?_eq_some_iff.1 ho).1
     have:=(h2 a h).1 hlt;omega
   subst ha;refine⟨Xf,m',w',cY,?_,?_,I'.size,by rw[←en.2];exact H.rel,?_⟩
   ·refine .head CJ ?_;have:Region.schedule (E.P.follows .mixedOrders) ops (w.tape w.drawn (.order b.fn id))=Region.linearise.go .any ops ops.size (w.tape w.drawn (.order b.fn id)) (Array.replicate ops.size false) []:=by rw[Xg];simp only[Region.schedule,Bool.true_or,if_true,Region.linearise]
    rw[this];exact hS.trans (.one rk)
   ·intro t v hv;obtain⟨p,hp,hw,ml⟩:=I'.slots t;have:ax (FA ops.size) t=ax (FA p) t:=T.keeps ops.size hp (Nat.le_refl _) fun j o h4 h5 h6 h7=>by have:=(hw j o h6 h7).1 h5;omega
    rw[←en.1,this] at hv;exact ml v hv
   ·refine Step.congr (w1:={ w with drawn:=w.drawn+1 }) ?_ rfl;rw[←e0.2,←en.2];exact⟨H.le,H.new,T.nle _ _ (Nat.zero_le _) (Nat.le_refl _),H.base,H.frame,H.idle,H.size,H.img,H.rS⟩
  ·rw[if_neg hc] at hr;cases hr
end
end Go.Id
