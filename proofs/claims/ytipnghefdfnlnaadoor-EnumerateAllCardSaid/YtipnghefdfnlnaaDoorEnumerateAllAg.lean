/-
  Weakest preconditions over the ideal machine, seventh part: one step after the other. A continuation stands where the simplifier does not look (an argument depends on it); run with 'simp -dsimp'. Weakest preconditions over the ideal machine, eighth part: stores, made slices, built values. Weakest preconditions over the ideal machine, ninth part: equality of arrays of numbers. Weakest preconditions over the ideal machine, tenth part: slices as they are now. The types of this seat's program, as the machine asks of them; made by program (tools/mk.py).
-/
import Derived.Test.YtipnghefdfnlnaaDoorEnumerateAllAf
import Derived.Test.YtipnghefdfnlnaaDoorProg
import Derived.KernelRfl
set_option linter.unusedVariables false
set_option linter.unusedSimpArgs false
set_option linter.defProp false
set_option linter.deprecated false
/-! Weakest preconditions over the ideal machine, seventh part: one step after the other. A continuation stands where the simplifier does not look (an argument depends on it); run with 'simp -dsimp'. -/
namespace Go.Id
open Go
def Nx {α:Type} (_:α):Type:=Unit
def nx {α:Type} {a:α}:Nx a:=()
def Do {κ:Type} (m:κ→Prop) (K:κ) (_:Nx K):Prop:=m K
def Bq (b:Bool) (pq:Prop×Prop) (_:Nx pq):Prop:=Br b pq.1 pq.2
theorem do_ex {α:Type} (v:α) (K:α→Prop) (u:Nx K):Do (Ex (some v)) K u=K v:=Ex_some v K
theorem do_ex_map {α β:Type} (o:Option α) (f:α→β) (K:β→Prop) (u:Nx K):Do (Ex (o.map f)) K u=Do (Ex o) (fun v=>K (f v)) nx:=Ex_map o f K
theorem do_ex_bind {α β:Type} (o:Option α) (f:α→Option β) (K:β→Prop) (u:Nx K):Do (Ex (o.bind f)) K u=Do (Ex o) (fun v=>Do (Ex (f v)) K nx) nx:=Ex_bind o f K
theorem do_ex_if {α:Type} (c:Prop) [Decidable c] (v:Option α) (hc:c) (K:α→Prop) (u:Nx K):Do (Ex (if c then v else none)) K u=Do (Ex v) K nx:=by rw[if_pos hc];rfl
theorem bq_true (p q:Prop) (u:Nx (p,q)):Bq true (p,q) u=p:=Br_true p q
theorem bq_false (p q:Prop) (u:Nx (p,q)):Bq false (p,q) u=q:=Br_false p q
theorem bq_intro {b:Bool} {p q:Prop} (h1:b=true→p) (h2:b=false→q):Bq b (p,q) nx:=Br.intro h1 h2
def nilC:Value→Option Value
 | .pointer (some a)=>some (.pointer (some a))
 | .func (.func f) xs ys=>some (.func (.func f) xs ys)
 | .func (.yield f) xs ys=>some (.func (.yield f) xs ys)
 | .map r=>some (.map r)
 | _=>none
theorem nilC_ptr (b o:Nat):nilC (ptr b o)=some (ptr b o):=rfl
theorem nilC_func (f:FuncId) (xs ys:Array Value):nilC (.func (.func f) xs ys)=some (.func (.func f) xs ys):=rfl
theorem nilC_map (r:Option Nat):nilC (.map r)=some (.map r):=rfl
section
variable (P:Program) (fr:Fr) (h:IH) (K:Value→IH→Prop) (u:Nx K)
theorem d_move (x:Operand):Do (wpOp P (.move x) fr h) K u=Do (Ex (opd fr x)) (fun v=>K v h) nx:=rfl
theorem d_assign (x:Operand):Do (wpOp P (.assign x) fr h) K u=Do (Ex (opd fr x)) (fun v=>K v h) nx:=rfl
theorem d_alloc (t:TypeId):Do (wpOp P (.alloc t) fr h) K u=Do (Ex (zeroCellsT P t)) (fun z=>K (ptr (2*h.n) 0) (h.new (.cells z 0 none))) nx:=rfl
theorem d_box (t:TypeId) (x:Operand):Do (wpOp P (.box t x) fr h) K u=Do (Ex (opd fr x)) (fun v=>K (ptr (2*h.n) 0) (h.new (.cells v.cells.toList 0 none))) nx:=rfl
theorem d_load (t:TypeId) (a:Operand):Do (wpOp P (.load t a) fr h) K u=Do (Ex (opd fr a)) (fun a=>Do (Ex (load P h t a)) (fun v=>K v h) nx) nx:=rfl
theorem d_store (t:TypeId) (a x:Operand):Do (wpOp P (.store t a x) fr h) K u=Do (Ex (opd fr a)) (fun a=>Do (Ex (opd fr x)) (fun x=>Do (Ex (store P h t a x)) (fun h=>K undef h) nx) nx) nx:=rfl
theorem d_binOp (op:BinOp) (t:TypeId) (x y:Operand) (s:TypeId):Do (wpOp P (.binOp op t x y s) fr h) K u=Do (Ex (opd fr x)) (fun a=>Do (Ex (opd fr y)) (fun b=>Do (Ex (binop P op t x y a b)) (fun v=>K v h) nx) nx) nx:=rfl
theorem d_pick (c a b:Operand):Do (wpOp P (.pick c a b) fr h) K u=Do (Ex (opd fr c)) (fun c=>Do (Ex (opd fr a)) (fun a=>Do (Ex (opd fr b)) (fun b=>match c with
  | .bool c=>Bq c (K a h,K b h) nx
  | _=>False) nx) nx) nx:=by
 show wpOp P (.pick c a b) fr h K=_
 rw[wpOp_pick]
 show _=Ex (opd fr c) _
 congr 1;funext c
 show _=Ex (opd fr a) _
 congr 1;funext a
 show _=Ex (opd fr b) _
 congr 1;funext b
 cases c<;>simp
 rename_i c
 cases c<;>simp[bq_true,bq_false]
theorem d_extract (x:Operand) (i:Nat):Do (wpOp P (.extract x i) fr h) K u=Do (Ex (opd fr x)) (fun x=>match x with
  | .tuple vs=>Do (Ex vs[i]?) (fun v=>K v h) nx
  | _=>False) nx:=rfl
theorem d_makeFunc (f:FuncId) (a b:Array Operand):Do (wpOp P (.makeFunc (.func f) a b) fr h) K u=Do (Ex (opds fr a.toList)) (fun x=>Do (Ex (opds fr b.toList)) (fun y=>K (.func (.func f) x.toArray y.toArray) h) nx) nx:=rfl
theorem d_call (f:Operand) (args:Array Operand) (ts:Array TypeId):Do (wpOp P (.call ⟨.value f,args,ts⟩) fr h) K u=Do (Ex (opd fr f)) (fun fv=>Do (Ex (opds fr args.toList)) (fun vs=>Do (WV P fv vs h) K nx) nx) nx:=rfl
theorem d_builtin (b:Builtin) (args:Array Operand) (ts:Array TypeId):Do (wpOp P (.call ⟨.builtin b,args,ts⟩) fr h) K u=Do (Ex (opds fr args.toList)) (fun vs=>Do (Ex (builtin P h b ts vs)) (fun r=>K r.1 r.2) nx) nx:=rfl
theorem d_fieldAddr (t:TypeId) (x:Operand) (f:Nat):Do (wpOp P (.fieldAddr t x f) fr h) K u=Do (Ex (opd fr x)) (fun x=>Do (Ex (fieldAt P t f)) (fun off=>Do (Ex (asAddr x)) (fun a=>K (ptr a.1 (a.2+off)) h) nx) nx) nx:=by
 show wpOp P (.fieldAddr t x f) fr h K=_
 rw[wpOp_fieldAddr]
 show _=Ex (opd fr x) _
 congr 1;funext x
 show _=Ex (fieldAt P t f) _
 cases fieldAt P t f<;>cases asAddr x<;>simp[Do]
theorem d_indexAddr (t:TypeId) (x i:Operand):Do (wpOp P (.indexAddr t x i) fr h) K u=Do (Ex (opd fr x)) (fun x=>Do (Ex (opd fr i)) (fun i=>Do (Ex (indexAddr P t x i)) (fun v=>K v h) nx) nx) nx:=rfl
theorem d_unOp (op:UnOp) (t:TypeId) (x:Operand):Do (wpOp P (.unOp op t x) fr h) K u=Do (Ex (opd fr x)) (fun v=>Do (Ex (bif plain v then pureVal P (Op.unary op v) else none)) (fun v=>K v h) nx) nx:=wpOp_unOp P fr h K op t x
theorem d_convert (s d:TypeId) (x:Operand):Do (wpOp P (.convert s d x) fr h) K u=Do (Ex (opd fr x)) (fun v=>Do (Ex (convV P s d v)) (fun v=>K v h) nx) nx:=wpOp_convert P fr h K s d x
theorem d_makeSlice (t:TypeId) (l c:Operand):Do (wpOp P (.makeSlice t l c) fr h) K u=Do (Ex (opd fr l)) (fun l=>Do (Ex (opd fr c)) (fun c=>Do (Ex (makeSlice P h t l c)) (fun r=>K r.1 r.2) nx) nx) nx:=wpOp_makeSlice P fr h K t l c
theorem d_buildSlice (t:TypeId) (n:Nat) (ps:Array (Nat×Operand)):Do (wpOp P (.buildSlice t n ps) fr h) K u=Do (Ex (partsOf fr ps.toList)) (fun ps=>Do (Ex (buildSlice P h t n ps)) (fun r=>K r.1 r.2) nx) nx:=wpOp_buildSlice P fr h K t n ps
theorem d_slice (t:TypeId) (x:Operand) (lo hi mx:Option Operand):Do (wpOp P (.slice t x lo hi mx) fr h) K u=Do (Ex (opd fr x)) (fun x=>Do (Ex (optOpd fr lo)) (fun lo=>Do (Ex (optOpd fr hi)) (fun hi=>Do (Ex (optOpd fr mx)) (fun mx=>Do (Ex (sliceOp P h t x lo hi mx)) (fun v=>K v h) nx) nx) nx) nx) nx:=wpOp_slice P fr h K t x lo hi mx
theorem d_build (t:TypeId) (ps:Array (Nat×Operand)):Do (wpOp P (.build t ps) fr h) K u=Do (Ex (partsOf fr ps.toList)) (fun ps=>Do (Ex (buildV P t ps)) (fun v=>K v h) nx) nx:=wpOp_build P fr h K t ps
theorem d_field (t:TypeId) (x:Operand) (f:Nat):Do (wpOp P (.field t x f) fr h) K u=Do (Ex (opd fr x)) (fun x=>Do (Ex (fieldV P t f x)) (fun v=>K v h) nx) nx:=wpOp_field P fr h K t x f
theorem d_nilCheck (x:Operand):Do (wpOp P (.nilCheck x) fr h) K u=Do (Ex (opd fr x)) (fun x=>Do (Ex (nilC x)) (fun v=>K v h) nx) nx:=by
 show wpOp P (.nilCheck x) fr h K=_
 rw[wpOp_nilCheck]
 show _=Ex (opd fr x) _
 congr 1;funext x
 show _=Ex (nilC x) _
 cases x with
 | pointer a=>cases a<;>simp[nilC]
 | func f xs ys=>cases f<;>simp[nilC]
 | _=>simp[nilC]
theorem d_lookup (t:TypeId) (m k:Operand) (ok:Bool):Do (wpOp P (.lookup t m k ok) fr h) K u=Do (Ex (opd fr m)) (fun m=>Do (Ex (opd fr k)) (fun k=>Do (Ex (lookup P h t m k ok)) (fun v=>K v h) nx) nx) nx:=wpOp_lookup P fr h K t m k ok
theorem d_mapUpdate (t:TypeId) (m k v:Operand):Do (wpOp P (.mapUpdate t m k v) fr h) K u=Do (Ex (opd fr m)) (fun m=>Do (Ex (opd fr k)) (fun k=>Do (Ex (opd fr v)) (fun v=>Do (Ex (mapUpdate P h t m k v)) (fun h=>K undef h) nx) nx) nx) nx:=wpOp_mapUpdate P fr h K t m k v
theorem d_makeMap (t:TypeId):Do (wpOp P (.makeMap t none) fr h) K u=K (.map (some (2*h.n))) (h.new (.map [])):=wpOp_makeMap P fr h K t
theorem d_index (t:TypeId) (x i:Operand):Do (wpOp P (.index t x i) fr h) K u=Do (Ex (opd fr x)) (fun x=>Do (Ex (opd fr i)) (fun i=>Do (Ex (indexV P t x i)) (fun v=>K v h) nx) nx) nx:=wpOp_index P fr h K t x i
end
section
variable (P:Program) (nt:Nat) (all:List Oper) (d:Option Tmp) (o:Op) (ty:TypeId) (pos:String) (af:Array Edge) (l:List Oper) (fr:Fr) (h:IH)
theorem d_put (d:Nat) (v:Value) (K:Fr→Prop) (u:Nx K) (hd:d<nt):Do (wpPut nt fr (some d) v) K u=K ((d,v) :: fr):=wpPut_some nt fr d v K hd
theorem d_put_none (v:Value) (K:Fr→Prop) (u:Nx K):Do (wpPut nt fr none v) K u=K fr:=rfl
theorem d_nil (K:Fr→IH→Prop) (u:Nx K):Do (wpOps P nt all [] fr h) K u=K fr h:=rfl
theorem d_cons (K:Fr→IH→Prop) (u:Nx K):Do (wpOps P nt all (⟨d,o,ty,pos,af,none⟩ :: l) fr h) K u=Do (wpOp P o fr h) (fun v h=>Do (wpPut nt fr d v) (fun fr=>Do (wpOps P nt all l fr h) K nx) nx) nx:=rfl
theorem d_guard (j:Nat) (want:Bool) (K:Fr→IH→Prop) (u:Nx K):Do (wpOps P nt all (⟨d,o,ty,pos,af,some (j,want)⟩ :: l) fr h) K u =
  Do (Ex ((all[j]?).bind (·.dst))) (fun g=>Do (Ex (fget fr g)) (fun b=>match b with
   | .bool b=>Bq (b == want) (Do (wpOp P o fr h) (fun v h=>Do (wpPut nt fr d v) (fun fr=>Do (wpOps P nt all l fr h) K nx) nx) nx,Do (wpPut nt fr d undef) (fun fr=>Do (wpOps P nt all l fr h) K nx) nx) nx
   | .tuple _=>Do (wpPut nt fr d undef) (fun fr=>Do (wpOps P nt all l fr h) K nx) nx
   | _=>False) nx) nx:=rfl
theorem d_tnil (tr:List (Fr×IH)) (K:List (Fr×IH)→Prop) (u:Nx K):Do (wpTrace P nt all [] fr h tr) K u=K (tr ++ [(fr,h)]):=rfl
theorem d_tcons (tr:List (Fr×IH)) (K:List (Fr×IH)→Prop) (u:Nx K):Do (wpTrace P nt all (⟨d,o,ty,pos,af,none⟩ :: l) fr h tr) K u=Do (wpOp P o fr h) (fun v h1=>Do (wpPut nt fr d v) (fun fr1=>Do (wpTrace P nt all l fr1 h1 (tr ++ [(fr,h)])) K nx) nx) nx:=rfl
theorem d_tguard (j:Nat) (want:Bool) (tr:List (Fr×IH)) (K:List (Fr×IH)→Prop) (u:Nx K):Do (wpTrace P nt all (⟨d,o,ty,pos,af,some (j,want)⟩ :: l) fr h tr) K u =
  Do (Ex ((all[j]?).bind (·.dst))) (fun g=>Do (Ex (fget fr g)) (fun b=>match b with
   | .bool b=>Bq (b == want) (Do (wpOp P o fr h) (fun v h1=>Do (wpPut nt fr d v) (fun fr1=>Do (wpTrace P nt all l fr1 h1 (tr ++ [(fr,h)])) K nx) nx) nx,Do (wpPut nt fr d undef) (fun fr1=>Do (wpTrace P nt all l fr1 h (tr ++ [(fr,h)])) K nx) nx) nx
   | .tuple _=>Do (wpPut nt fr d undef) (fun fr1=>Do (wpTrace P nt all l fr1 h (tr ++ [(fr,h)])) K nx) nx
   | _=>False) nx) nx:=rfl
end
section
variable (P:Program) (fn:FuncId) (nt:Nat) (rd:Option Nat) (fr:Fr) (h:IH) (Q:IExit→Fr→IH→Prop) (u:Nx Q)
def seqK (K:Fr→IH→Prop) (Q:IExit→Fr→IH→Prop) (e:IExit) (fr:Fr) (h:IH):Prop:=match e with
 | .normal=>K fr h
 | .exit i=>Q (.exit i) fr h
 | .ret=>Q .ret fr h
def blockK (id:Nat) (Q:IExit→Fr→IH→Prop) (e:IExit) (fr:Fr) (h:IH):Prop:=match e with
 | .exit i=>Br (i == id) (Q .normal fr h) (Q (.exit i) fr h)
 | .normal=>Q .normal fr h
 | .ret=>Q .ret fr h
theorem seqK_normal (K:Fr→IH→Prop):seqK K Q .normal fr h=K fr h:=rfl
theorem seqK_exit (K:Fr→IH→Prop) (i:Nat):seqK K Q (.exit i) fr h=Q (.exit i) fr h:=rfl
theorem seqK_ret (K:Fr→IH→Prop):seqK K Q .ret fr h=Q .ret fr h:=rfl
theorem blockK_normal (id:Nat):blockK id Q .normal fr h=Q .normal fr h:=rfl
theorem blockK_ret (id:Nat):blockK id Q .ret fr h=Q .ret fr h:=rfl
theorem blockK_same (id:Nat):blockK id Q (.exit id) fr h=Q .normal fr h:=by simp[blockK]
theorem blockK_exit (id i:Nat) (hi:(i == id)=false):blockK id Q (.exit i) fr h=Q (.exit i) fr h:=by simp[blockK,hi]
theorem d_skip:Do (wpC P fn nt rd .skip fr h) Q u=Q .normal fr h:=rfl
theorem d_region (id:Nat) (ops:Array Oper):Do (wpC P fn nt rd (.region id ops false) fr h) Q u=Do (wpOps P nt ops.toList ops.toList fr h) (Q .normal) nx:=rfl
theorem d_calm (id:Nat) (ops:Array Oper) (hc:calmRegion ops.toList=true):Do (wpC P fn nt rd (.region id ops true) fr h) Q u=Do (wpOps P nt ops.toList ops.toList fr h) (Q .normal) nx:=by
 show((calmRegion ops.toList=true→wpOps P nt ops.toList ops.toList fr h (Q .normal))∧(calmRegion ops.toList=false→wpDrawn P nt ops.toList fr h (Q .normal)))=_
 simp only[hc,true_implies,reduceCtorEq,false_implies,and_true]
 rfl
theorem d_seq (a b:Code):Do (wpC P fn nt rd (.seq a b) fr h) Q u=Do (wpC P fn nt rd a fr h) (seqK (fun fr h=>Do (wpC P fn nt rd b fr h) Q nx) Q) nx:=by
 show wpC P fn nt rd a fr h _=wpC P fn nt rd a fr h _
 congr 1
theorem d_cond (c:Operand) (a b:Code):Do (wpC P fn nt rd (.cond c a b) fr h) Q u=Do (Ex (opd fr c)) (fun c=>match c with
  | .bool c=>Bq c (Do (wpC P fn nt rd a fr h) Q nx,Do (wpC P fn nt rd b fr h) Q nx) nx
  | _=>False) nx:=rfl
theorem d_block (id:Nat) (b:Code):Do (wpC P fn nt rd (.block id b) fr h) Q u=Do (wpC P fn nt rd b fr h) (blockK id Q) nx:=rfl
theorem d_loop (b:Code):Do (wpC P fn nt rd (.loop b) fr h) Q u=Do (WLoop P fn nt rd b fr h) Q nx:=rfl
theorem d_scope (b:Code):Do (wpC P fn nt rd (.scope b) fr h) Q u=Do (wpC P fn nt rd b fr h) Q nx:=rfl
theorem d_rangeFunc (f:Operand) (ps:Array Tmp) (a b:Code):Do (wpC P fn nt rd (.rangeFunc f ps a b) fr h) Q u=Do (WRange P fn nt rd f ps a b fr h) Q nx:=rfl
theorem d_exit (i:Nat):Do (wpC P fn nt rd (.exit i) fr h) Q u=Q (.exit i) fr h:=rfl
theorem d_ret:Do (wpC P fn nt rd .ret fr h) Q u=Q .ret fr h:=rfl
end
def retK (P:Program) (rs:List ResultVar) (K:Value→IH→Prop) (e:IExit) (fr:Fr) (h:IH):Prop:=match e with
 | .exit _=>False
 | .normal=>Do (Ex (resultsOf P fr h rs)) (fun l=>K (single l) h) nx
 | .ret=>Do (Ex (resultsOf P fr h rs)) (fun l=>K (single l) h) nx
theorem retK_normal (P:Program) (rs:List ResultVar) (K:Value→IH→Prop) (fr:Fr) (h:IH):retK P rs K .normal fr h=Do (Ex (resultsOf P fr h rs)) (fun l=>K (single l) h) nx:=rfl
theorem retK_ret (P:Program) (rs:List ResultVar) (K:Value→IH→Prop) (fr:Fr) (h:IH):retK P rs K .ret fr h=Do (Ex (resultsOf P fr h rs)) (fun l=>K (single l) h) nx:=rfl
theorem enter {P:Program} {f:FuncId} {fn:Func} {c:Code} {nt:Nat} {rs:List ResultVar} {first cap:Array Value} {vs:List Value} {h:IH} {K:Value→IH→Prop}
  (hf:P.funcs[f]?=some fn) (hb:fn.body=some c) (hn:fn.ntmps=nt) (hr:fn.results.toList=rs) (hl:(first.toList ++ (vs ++ cap.toList)).length≤nt)
  (w:Do (wpC P f nt none c (enterFr 0 (first.toList ++ (vs ++ cap.toList))) h) (retK P rs K) nx):WV P (.func (.func f) first cap) vs h K :=
 wv_enter hf hb hn hr hl w
theorem call {P:Program} {fv:Value} {vs:List Value} {h:IH} {K L:Value→IH→Prop} (w:WV P fv vs h L) (k : ∀v h',L v h'→K v h'):Do (WV P fv vs h) K nx:=w.mono k
@[reducible] def Pst (p:Prop) (_:Nx p):Prop:=p
theorem cut {P:Program} {fn:FuncId} {nt:Nat} {rd:Option Nat} {a:Code} {fr:Fr} {h:IH} {K:Fr→IH→Prop} {Q:IExit→Fr→IH→Prop} (R:Fr→IH→Prop)
  (w:Do (wpC P fn nt rd a fr h) (seqK (fun fr h=>Pst (R fr h) nx) Q) nx) (k : ∀fr h,R fr h→K fr h):Do (wpC P fn nt rd a fr h) (seqK K Q) nx :=
 wpC_mono (fun e fr h w=>by cases e<;>first|exact k _ _ w|exact w) w
def loopK (I:Nat→Fr→IH→Prop) (m:Nat) (Q:IExit→Fr→IH→Prop) (e:IExit) (fr:Fr) (h:IH):Prop:=match e with
 | .normal => ∃m',m'<m∧I m' fr h
 | .exit i=>Q (.exit i) fr h
 | .ret=>Q .ret fr h
theorem loopK_exit (I:Nat→Fr→IH→Prop) (m:Nat) (Q:IExit→Fr→IH→Prop) (i:Nat) (fr:Fr) (h:IH):loopK I m Q (.exit i) fr h=Q (.exit i) fr h:=rfl
theorem loopK_ret (I:Nat→Fr→IH→Prop) (m:Nat) (Q:IExit→Fr→IH→Prop) (fr:Fr) (h:IH):loopK I m Q .ret fr h=Q .ret fr h:=rfl
theorem loop {P:Program} {fn:FuncId} {nt:Nat} {rd:Option Nat} {b:Code} {Q:IExit→Fr→IH→Prop} (I:Nat→Fr→IH→Prop) {fr:Fr} {h:IH} (m:Nat) (start:I m fr h)
  (step : ∀m fr h,I m fr h→Do (wpC P fn nt rd b fr h) (loopK I m Q) nx) (hm:headOf b=none:=by rfl):Do (WLoop P fn nt rd b fr h) Q nx :=
 wloop I (fun m fr h hi=>step m fr h hi) start hm
theorem d_last (tr:List (Fr×IH)) (n:Nat) (K:Fr→IH→Prop) (u:Nx K):Do (wpLast tr n) K u=Do (Ex tr[n]?) (fun p=>K p.1 p.2) nx:=rfl
theorem wpSteady_one {P:Program} {ops:List Oper} {tr:List (Fr×IH)} {i p:Nat} {o:Oper} {fr fr':Fr} {h h':IH} (ho:ops[i]?=some o) (hi:tr[i]?=some (fr,h)) (hw:wantedI ops o fr=some true) (hp:tr[p]?=some (fr',h')) (hs:steadyAt P fr o.op h h'=true):wpSteady P ops tr [(i,[p])]:=by
 refine⟨?_,trivial⟩
 simp only[ho,hi,hw]
 intro q hq
 simp only[List.mem_singleton] at hq
 subst hq
 simp only[hp]
 exact hs
theorem wpSteady_cons {P:Program} {ops:List Oper} {tr:List (Fr×IH)} {e:Nat×List Nat} {l:List (Nat×List Nat)} (h1:wpSteady P ops tr [e]) (h2:wpSteady P ops tr l):wpSteady P ops tr (e :: l):=⟨h1.1,h2⟩
theorem wpSteady_two {P:Program} {ops:List Oper} {tr:List (Fr×IH)} {i p:Nat} {l:List Nat} (h1:wpSteady P ops tr [(i,[p])]) (h2:wpSteady P ops tr [(i,l)]):wpSteady P ops tr [(i,p :: l)]:=by
 refine⟨?_,trivial⟩
 have a:=h1.1
 have b:=h2.1
 simp only at a b ⊢
 cases ho:ops[i]? with
 | none=>simp only[ho] at a
 | some o =>
  cases hi:tr[i]? with
  | none=>simp only[ho,hi] at a
  | some x =>
   obtain⟨fr,h⟩:=x
   simp only[ho,hi] at a b ⊢
   cases hw:wantedI ops o fr with
   | none=>trivial
   | some w =>
    cases w with
    | false=>trivial
    | true =>
     simp only[hw] at a b ⊢
     intro q hq
     rcases List.mem_cons.1 hq with rfl|hq
     ·exact a q (by simp)
     ·exact b q hq
theorem drawn {P:Program} {fn:FuncId} {nt:Nat} {rd:Option Nat} {id:Nat} {ops:Array Oper} {fr:Fr} {h:IH} {Q:IExit→Fr→IH→Prop} (pl:List (Nat×List Nat)) (ho:orderOK ops.toList=true) (hp:plan2 ops.toList=pl) (hne:pl.isEmpty=false)
  (w:Do (wpTrace P nt ops.toList ops.toList fr h []) (fun tr=>Pst (wpSteady P ops.toList tr pl∧Do (wpLast tr ops.toList.length) (Q .normal) nx) nx) nx):Do (wpC P fn nt rd (.region id ops true) fr h) Q nx:=by
 subst hp
 refine⟨fun hc=>?_,fun _=>⟨ho,w⟩⟩
 simp[calmRegion,List.isEmpty_iff] at hc hne
 exact absurd hc.2 hne
theorem d_label (P:Program) (fn:FuncId) (nt:Nat) (rd:Option Nat) (l:Nat) (fr:Fr) (h:IH) (Q:IExit→Fr→IH→Prop) (u:Nx Q):Do (wpC P fn nt rd (.label l) fr h) Q u=Q .normal fr h:=rfl
theorem single_one (v:Value):single [v]=v:=rfl
theorem single_nil:single []=.tuple #[]:=rfl
theorem single_two (a b:Value):single [a,b]=.tuple #[a,b]:=rfl
theorem single_three (a b c:Value):single [a,b,c]=.tuple #[a,b,c]:=rfl
theorem ld_def (h:IH) (b o:Nat):ld h b o=(h.row b).bind (·[o]?):=rfl
theorem nil_app0 {α:Type} (l:List α) : [] ++ l=l:=rfl
theorem app_nil0 {α:Type} (l:List α):l ++ []=l:=List.append_nil l
theorem cons_app0 {α:Type} (x:α) (l m:List α):(x :: l) ++ m=x :: (l ++ m):=rfl
theorem if_true0 {α:Type} {d:Decidable True} (a b:α):ite True a b=a:=if_pos trivial
theorem if_false0 {α:Type} {d:Decidable False} (a b:α):ite False a b=b:=if_neg id
theorem bind_some0 {α β:Type} (a:α) (f:α→Option β):(some a).bind f=f a:=rfl
theorem map_some0 {α β:Type} (a:α) (f:α→β):(some a).map f=some (f a):=rfl
theorem get_zero0 {α:Type} (x:α) (l:List α):(x :: l)[0]?=some x:=rfl
theorem get_succ0 {α:Type} (x:α) (l:List α) (n:Nat):(x :: l)[n+1]?=l[n]?:=rfl
theorem get_arr0 {α:Type} (l:List α) (n:Nat):l.toArray[n]?=l[n]?:=List.getElem?_toArray
theorem toList0 {α:Type} (l:List α):l.toArray.toList=l:=rfl
theorem undef_eq:undef=Value.tuple #[]:=rfl
def wpS:=And.intro @d_move (And.intro @d_assign (And.intro @d_alloc (And.intro @d_box (And.intro @d_load (And.intro @d_store (And.intro @d_binOp (And.intro @d_pick (
 And.intro @d_extract (And.intro @d_makeFunc (And.intro @d_call (And.intro @d_builtin (And.intro @d_fieldAddr (And.intro @d_indexAddr (And.intro @d_unOp (And.intro @d_convert (
 And.intro @d_makeSlice (And.intro @d_buildSlice (And.intro @d_slice (And.intro @d_build (And.intro @d_field (And.intro (And.intro @d_nilCheck (And.intro @nilC_ptr (And.intro @nilC_func (And.intro @nilC_map @d_label)))) (And.intro @d_lookup (And.intro @d_mapUpdate (
 And.intro @d_makeMap (And.intro @d_index (And.intro @d_put (And.intro @d_put_none (And.intro @d_nil (And.intro @d_cons (And.intro @d_guard (And.intro @d_tnil (
 And.intro @d_tcons (And.intro @d_tguard (And.intro @seqK_normal (And.intro @seqK_exit (And.intro @seqK_ret (And.intro @blockK_normal (And.intro @blockK_ret (And.intro @blockK_same (
 And.intro @blockK_exit (And.intro @d_skip (And.intro @d_region (And.intro @d_calm (And.intro @d_seq (And.intro @d_cond (And.intro @d_block (And.intro @d_loop (
 And.intro @d_scope (And.intro @d_rangeFunc (And.intro @d_exit (And.intro @d_ret (And.intro @retK_normal (And.intro @retK_ret (And.intro @loopK_exit (And.intro @loopK_ret (
 And.intro @do_ex (And.intro @do_ex_map (And.intro @do_ex_bind (And.intro @do_ex_if (And.intro @bq_true (And.intro @bq_false (And.intro @opd_tmp (And.intro @opd_func (
 And.intro @opd_global (And.intro @opd_const_int (And.intro @opd_const_bool (And.intro @opd_const_string (And.intro @opd_const_nilFunc (And.intro @opd_const_nilSlice (And.intro @opd_const_nilPtr (And.intro @opd_const_nilMap (
 And.intro @opds_nil (And.intro @opds_cons (And.intro @partsOf_nil (And.intro @partsOf_cons (And.intro @optOpd_none (And.intro @optOpd_some (And.intro @fget_cons (And.intro @enterFr_cons (
 And.intro @enterFr_nil (And.intro @nil_app0 (And.intro @app_nil0 (And.intro @cons_app0 (And.intro @if_true0 (And.intro @if_false0 (And.intro @bind_some0 (And.intro @map_some0 (
 And.intro @and_true (And.intro @true_and (And.intro @Nat.zero_add (And.intro @Nat.add_zero (And.intro @Nat.zero_mul (And.intro @Nat.one_mul (And.intro @Nat.mul_one (And.intro @resultsOf_cons (
 And.intro @resultsOf_nil (And.intro @resultOf_tmp (And.intro @resultOf_cell (And.intro @binop_add (And.intro @binop_sub (And.intro @binop_mul (And.intro @binop_eql (And.intro @binop_neq (
 And.intro @binop_lss (And.intro @binop_leq (And.intro @binop_gtr (And.intro @binop_geq (And.intro @band_u (And.intro @bor_u (And.intro @bxor_u (And.intro @bclr_u (
 And.intro @band_i (And.intro @bor_i (And.intro @band_neg (And.intro @shr_u (And.intro @shr_i (And.intro @shl1_u (And.intro @shl1_i (And.intro @quo_i (
 And.intro @quo_u (And.intro @rem_nn (And.intro @unary_not (And.intro @unary_neg (And.intro @wrap_i64 (And.intro @wrap_u64 (And.intro @wrap_u8 (And.intro @wrap_u16 (
 And.intro @wrap_u32 (And.intro @Int.toNat_natCast (And.intro @Int.toNat_one (And.intro @Int.toNat_zero (And.intro @builtin_len (And.intro @indexAddr_slice (And.intro @indexAddr_arr (And.intro @idxAt_nat (
 And.intro @fieldV_agg (And.intro @ld_def (And.intro @rd_eq (And.intro @asAddr_ptr (And.intro @get_zero0 (And.intro @get_succ0 (And.intro @get_arr0 (And.intro @toList0 (
 And.intro @cells_int (And.intro @cells_bool (And.intro @cells_slice (And.intro @cells_ptr (And.intro @cells_agg (And.intro @cells_func (And.intro @cells_nilFunc (And.intro @cells_map (
 And.intro @cells_nilPtr (And.intro @new_n (And.intro @new_base (And.intro @put_n (And.intro @put_base (And.intro @row_new_same (And.intro @row_new_old (And.intro @row_put_same (
 And.intro @row_put_old (And.intro @get_new_same (And.intro @get_new_old (And.intro @get_put_same (And.intro @get_put_old (And.intro @single_one (And.intro @single_two (And.intro @single_nil (
 And.intro @single_three (And.intro @d_last (@undef_eq))))))))))))))))))))))))))))))))))))))))))))))))))))))))))))))))))))))))))))))))))))))))))))))))))))))))))))))))))))))))))))))))))))))))))))))))))))))))))))))))))))))))))
def wpR:=And.intro @d_move (And.intro @d_assign (And.intro @d_alloc (And.intro @d_box (And.intro @d_load (And.intro @d_store (And.intro @d_binOp (And.intro @d_pick (
 And.intro @d_extract (And.intro @d_makeFunc (And.intro @d_call (And.intro @d_builtin (And.intro @d_fieldAddr (And.intro @d_indexAddr (And.intro @d_unOp (And.intro @d_convert (
 And.intro @d_makeSlice (And.intro @d_buildSlice (And.intro @d_slice (And.intro @d_build (And.intro @d_field (And.intro (And.intro @d_nilCheck (And.intro @nilC_ptr (And.intro @nilC_func (And.intro @nilC_map @d_label)))) (And.intro @d_lookup (And.intro @d_mapUpdate (
 And.intro @d_makeMap (And.intro @d_index (And.intro @d_put (And.intro @d_put_none (And.intro @d_nil (And.intro @d_cons (And.intro @d_guard (And.intro @d_tnil (
 And.intro @d_tcons (And.intro @d_tguard (And.intro @seqK_normal (And.intro @seqK_exit (And.intro @seqK_ret (And.intro @blockK_normal (And.intro @blockK_ret (And.intro @blockK_same (
 And.intro @blockK_exit (And.intro @d_skip (And.intro @d_region (And.intro @d_calm (And.intro @d_cond (And.intro @d_block (And.intro @d_loop (And.intro @d_scope (
 And.intro @d_rangeFunc (And.intro @d_exit (And.intro @d_ret (And.intro @retK_normal (And.intro @retK_ret (And.intro @loopK_exit (And.intro @loopK_ret (And.intro @do_ex (
 And.intro @do_ex_map (And.intro @do_ex_bind (And.intro @do_ex_if (And.intro @bq_true (And.intro @bq_false (And.intro @opd_tmp (And.intro @opd_func (And.intro @opd_global (
 And.intro @opd_const_int (And.intro @opd_const_bool (And.intro @opd_const_string (And.intro @opd_const_nilFunc (And.intro @opd_const_nilSlice (And.intro @opd_const_nilPtr (And.intro @opd_const_nilMap (And.intro @opds_nil (
 And.intro @opds_cons (And.intro @partsOf_nil (And.intro @partsOf_cons (And.intro @optOpd_none (And.intro @optOpd_some (And.intro @fget_cons (And.intro @enterFr_cons (And.intro @enterFr_nil (
 And.intro @nil_app0 (And.intro @app_nil0 (And.intro @cons_app0 (And.intro @if_true0 (And.intro @if_false0 (And.intro @bind_some0 (And.intro @map_some0 (And.intro @and_true (
 And.intro @true_and (And.intro @Nat.zero_add (And.intro @Nat.add_zero (And.intro @Nat.zero_mul (And.intro @Nat.one_mul (And.intro @Nat.mul_one (And.intro @resultsOf_cons (And.intro @resultsOf_nil (
 And.intro @resultOf_tmp (And.intro @resultOf_cell (And.intro @binop_add (And.intro @binop_sub (And.intro @binop_mul (And.intro @binop_eql (And.intro @binop_neq (And.intro @binop_lss (
 And.intro @binop_leq (And.intro @binop_gtr (And.intro @binop_geq (And.intro @band_u (And.intro @bor_u (And.intro @bxor_u (And.intro @bclr_u (And.intro @band_i (
 And.intro @bor_i (And.intro @band_neg (And.intro @shr_u (And.intro @shr_i (And.intro @shl1_u (And.intro @shl1_i (And.intro @quo_i (And.intro @quo_u (
 And.intro @rem_nn (And.intro @unary_not (And.intro @unary_neg (And.intro @wrap_i64 (And.intro @wrap_u64 (And.intro @wrap_u8 (And.intro @wrap_u16 (And.intro @wrap_u32 (
 And.intro @Int.toNat_natCast (And.intro @Int.toNat_one (And.intro @Int.toNat_zero (And.intro @builtin_len (And.intro @indexAddr_slice (And.intro @indexAddr_arr (And.intro @idxAt_nat (And.intro @fieldV_agg (
 And.intro @ld_def (And.intro @rd_eq (And.intro @asAddr_ptr (And.intro @get_zero0 (And.intro @get_succ0 (And.intro @get_arr0 (And.intro @toList0 (And.intro @cells_int (
 And.intro @cells_bool (And.intro @cells_slice (And.intro @cells_ptr (And.intro @cells_agg (And.intro @cells_func (And.intro @cells_nilFunc (And.intro @cells_map (And.intro @cells_nilPtr (
 And.intro @new_n (And.intro @new_base (And.intro @put_n (And.intro @put_base (And.intro @row_new_same (And.intro @row_new_old (And.intro @row_put_same (And.intro @row_put_old (
 And.intro @get_new_same (And.intro @get_new_old (And.intro @get_put_same (And.intro @get_put_old (And.intro @single_one (And.intro @single_two (And.intro @single_nil (And.intro @single_three (
 And.intro @d_last (@undef_eq)))))))))))))))))))))))))))))))))))))))))))))))))))))))))))))))))))))))))))))))))))))))))))))))))))))))))))))))))))))))))))))))))))))))))))))))))))))))))))))))))))))))))
end Go.Id

/-! Weakest preconditions over the ideal machine, eighth part: stores, made slices, built values. -/
namespace Go.Id
open Go
theorem splice_nil (cs:List Value):IH.splice cs 0 []=cs:=by simp[IH.splice]
theorem splice_zero (c v:Value) (cs vs:List Value):IH.splice (c :: cs) 0 (v :: vs)=v :: IH.splice cs 0 vs:=by simp[IH.splice]
theorem splice_succ (c:Value) (cs vs:List Value) (n:Nat):IH.splice (c :: cs) (n+1) vs=c :: IH.splice cs n vs:=by
 simp[IH.splice,show n+1+vs.length=(n+vs.length)+1 from by omega]
theorem splice_set {cs:List Value} {n:Nat} {v:Value} (h:n<cs.length):IH.splice cs n [v]=cs.set n v:=by
 simp only[IH.splice,List.length_singleton,List.singleton_append]
 exact(List.set_eq_take_append_cons_drop.trans (if_pos h)).symm
theorem splice_all {cs vs:List Value} (h:cs.length=vs.length):IH.splice cs 0 vs=vs:=by
 simp[IH.splice,h]
theorem cok_int (k:IntKind) (n:Int):cellOK (.int k n)=true:=rfl
theorem cok_bool (b:Bool):cellOK (.bool b)=true:=rfl
theorem cok_slice (a:Option Addr) (n k:Nat):cellOK (.slice a n k)=true:=rfl
theorem cok_ptr (b o:Nat):cellOK (ptr b o)=true:=rfl
theorem cok_func (f:Fn) (a b:Array Value):cellOK (.func f a b)=true:=rfl
theorem cok_map (r:Option Nat):cellOK (.map r)=true:=rfl
theorem cok_nilFunc:cellOK .nilFunc=true:=rfl
theorem cok_nilPtr:cellOK (.pointer none)=true:=rfl
theorem all_nil0 (p:Value→Bool):([]:List Value).all p=true:=rfl
theorem all_cons0 (p:Value→Bool) (v:Value) (l:List Value):(v :: l).all p=(p v && l.all p):=rfl
theorem tand0 (b:Bool):(true && b)=b:=rfl
theorem fand0 (b:Bool):(false && b)=false:=rfl
theorem andt0 (b:Bool):(b && true)=b:=by cases b<;>rfl
theorem len_nil0 {α:Type}:([]:List α).length=0:=rfl
theorem len_cons0 {α:Type} (v:α) (l:List α):(v :: l).length=l.length+1:=rfl
def stE (n:Nat) (h:IH) (k o:Nat) (vs:List Value):Option IObj→Option IH
 | some (.cells cs e none)=>if vs.length=n∧vs.all cellOK=true∧o+n≤cs.length then some (h.put k (.cells (IH.splice cs o vs) e none)) else none
 | some (.cells cs e (some f))=>if vs.length=n∧vs.all cellOK=true then h.wr (2*k) o vs else none
 | _=>none
theorem store_stE {P:Program} {t:TypeId} {n:Nat} (hT:sizeT P t=some n) (h:IH) (k o:Nat) (v:Value):store P h t (ptr (2*k) o) v=stE n h k o v.cells.toList (h.ext.get k):=by
 have h1:(2*k % 2 == 1)=false:=by simp
 have h2:2*k / 2=k:=by omega
 simp only[store,asAddr,ptr,hT,cond_eq_ite,Bool.and_eq_true,beq_iff_eq]
 rw[show v.cells.size=v.cells.toList.length from by simp]
 generalize v.cells.toList=vs
 cases hg:h.ext.get k with
 | none=>simp[stE,IH.wr,h2,hg]
 | some ob =>
  cases ob with
  | cells cs e f =>
   cases f with
   | none =>
    simp only[stE,IH.wr,h1,h2,hg,cond_eq_ite,Nat.ble_eq,Bool.false_eq_true,if_false]
    by_cases hc:vs.length=n∧vs.all cellOK=true
    ·rw[if_pos hc]
     obtain⟨rfl,hc2⟩:=hc
     by_cases hl:o+vs.length≤cs.length
     ·rw[if_pos hl,if_pos ⟨rfl,hc2,hl⟩];rfl
     ·rw[if_neg hl,if_neg fun x=>hl x.2.2]
    ·rw[if_neg hc,if_neg fun x=>hc ⟨x.1,x.2.1⟩]
   | some f=>simp[stE]
  | _=>simp[stE,IH.wr,h2,hg]
theorem stE_if (n:Nat) (h:IH) (k o:Nat) (vs cs:List Value) (e:Nat):stE n h k o vs (some (.cells cs e none))=if vs.length=n∧vs.all cellOK=true∧o+n≤cs.length then some (h.put k (.cells (IH.splice cs o vs) e none)) else none:=rfl
theorem built_sl (h:IH) {sz m:Nat} {cs:List Value} (hz:0<sz) (hl:cs.length=m*sz) (hm:0<m):SlOf (h.new (.cells cs sz none)) sz (.slice (some ⟨2*h.n,0,none⟩) m (2*m+1)) m cs:=by
 refine⟨hz,hl,.inr ⟨2*h.n,0,2*m+1,rfl,.inr ⟨by omega,by omega,cs,.inr ⟨by omega,by simp,none,?_⟩,?_,?_,by omega⟩⟩⟩
 ·rw[show 2*h.n / 2=h.n from by omega,get_new,if_pos rfl]
 ·exact row_new_same _ _ _ _ rfl
 ·rw[List.drop_zero,List.take_of_length_le (by omega)]
theorem sl_block {h:IH} {k sz n c:Nat} {cs:List Value} {f:Option Nat} (hg:h.ext.get k=some (.cells cs sz f)) (hk:k<h.n) (hz:0<sz) (hl:cs.length=n*sz) (hc:0<c) (hn:n≤c / 2):SlOf h sz (.slice (some ⟨2*k,0,none⟩) n c) n cs:=by
 refine⟨hz,hl,.inr ⟨2*k,0,c,rfl,.inr ⟨hc,hn,cs,.inr ⟨by omega,by omega,f,?_⟩,?_,?_,by omega⟩⟩⟩
 ·rw[show 2*k / 2=k from by omega,hg]
 ·rw[row_even];simp[IH.cells,hg]
 ·rw[List.drop_zero,List.take_of_length_le (by omega)]
theorem Acc.appN {h:IH} {n0 sz:Nat} {v:Value} {n:Nat} {cs:List Value} (a:Acc h n0 sz v n cs) {P:Program} {t:TypeId} {bytes:Nat} (hT:appT P t=some (sz,bytes)) {m:Nat} {new:List Value} (hm:0<m) (hl:new.length=m*sz)
  (hc:new.all cellOK=true) (hsz:(n+m)*(bytes+1)≤1099511627776) (h0:n0≤h.n) {h0':IH} (e0:Ext h0' h) (hn0:h0'.n≤n0) :
  ∃v' h',append P (h.new (.cells new sz none)) t v (.slice (some ⟨2*h.n,0,none⟩) m (2*m+1))=some (v',h')∧Acc h' n0 sz v' (n+m) (cs ++ new)∧Grow h h'∧Ext h0' h':=by
 have e1:Ext h (h.new (.cells new sz none)):=(Ext.refl h).new _
 obtain⟨v',h',b1,b2,b3,b4,b5⟩:=(a.ext e1).app hT (built_sl h a.1 hl hm) hm hc hsz (by simp;omega) (e0.trans e1) hn0
 exact⟨v',h',b1,b2,e1.grow.trans b3,b5⟩
theorem Acc.app1 {h:IH} {n0:Nat} {v:Value} {n:Nat} {cs:List Value} (a:Acc h n0 1 v n cs) {P:Program} {t:TypeId} {bytes:Nat} (hT:appT P t=some (1,bytes)) {x:Value}
  (hc:cellOK x=true) (hsz:(n+1)*(bytes+1)≤1099511627776) (h0:n0≤h.n) {h0':IH} (e0:Ext h0' h) (hn0:h0'.n≤n0) :
  ∃v' h',append P (h.new (.cells [x] 1 none)) t v (.slice (some ⟨2*h.n,0,none⟩) 1 3)=some (v',h')∧Acc h' n0 1 v' (n+1) (cs ++ [x])∧Grow h h'∧Ext h0' h' :=
 a.appN hT (m:=1) (new:=[x]) (by omega) rfl (by simp[hc]) hsz h0 e0 hn0
theorem makeSlice_eq {P:Program} {t:TypeId} {n b:Nat} {z:List Value} (hT:makeT P t=some (n,b,z)) (h:IH) (k j:IntKind) {l c:Int} (h0:0≤l) (h1:l≤c) (h2:c*(b+1)≤1099511627776) :
  makeSlice P h t (.int k l) (.int j c)=some (.slice (some ⟨2*h.n,0,none⟩) l.toNat (2*c.toNat+1),h.new (.cells (repl c.toNat z) n none)):=by
 obtain⟨l,rfl⟩:=Int.eq_ofNat_of_zero_le h0
 obtain⟨c,rfl⟩:=Int.eq_ofNat_of_zero_le (Int.le_trans h0 h1)
 unfold makeT at hT
 split at hT
 case h_2=>cases hT
 rename_i e hu
 split at hT
 case h_2=>cases hT
 rename_i zz a1 a2 a3
 simp only[cond_eq_ite,beq_iff_eq] at hT
 split at hT
 case isFalse=>cases hT
 rename_i hz
 cases hT
 have hc2:c*(b+1)≤sizeMost:=by
  have:((c*(b+1):Nat):Int)≤1099511627776:=by simpa using h2
  simp only[sizeMost];omega
 have hcm:c≤sizeMost:=Nat.le_trans (Nat.le_mul_of_pos_right c (by omega)) hc2
 have e1:natOf (.int k (l:Int)) sizeMost=some l:=natOf_nat (by omega)
 have e2:natOf (.int j (c:Int)) sizeMost=some c:=natOf_nat hcm
 have e3:(Nat.ble l c && Nat.ble (c*(b+1)) sizeMost && z.length == n)=true:=by
  simp[Nat.ble_eq,hz,hc2];omega
 simp only[makeSlice,hu,e1,e2,a1,a2,a3,e3,cond_true,Int.toNat_natCast]
theorem buildSlice_eq {P:Program} {t:TypeId} {n b:Nat} {z:List Value} (hT:makeT P t=some (n,b,z)) (h:IH) (len:Nat) (ps:List (Nat×Value)) (hl:len*n≤16777216) :
  buildSlice P h t len ps=(fillP (fun i=>some (i*n,n)) (repl len z) ps).map fun cells=>(.slice (some ⟨2*h.n,0,none⟩) len (2*len+1),h.new (.cells cells n none)):=by
 unfold makeT at hT
 split at hT
 case h_2=>cases hT
 rename_i e hu
 split at hT
 case h_2=>cases hT
 rename_i zz a1 a2 a3
 simp only[cond_eq_ite,beq_iff_eq] at hT
 split at hT
 case isFalse=>cases hT
 rename_i hz
 cases hT
 have e3:(Nat.ble (len*n) cellsMost && z.length == n)=true:=by
  simp[Nat.ble_eq,hz,cellsMost];exact hl
 simp only[buildSlice,hu,a1,a3,e3,cond_true]
 cases fillP (fun i=>some (i*n,n)) (repl len z) ps<;>rfl
theorem fillP_nil (place:Nat→Option (Nat×Nat)) (cs:List Value):fillP place cs []=some cs:=rfl
theorem fillP_cons (place:Nat→Option (Nat×Nat)) (cs:List Value) (i:Nat) (v:Value) (l:List (Nat×Value)) :
  fillP place cs ((i,v) :: l)=(place i).bind fun p=>if v.cells.toList.length=p.2∧p.1+p.2≤cs.length then fillP place (IH.splice cs p.1 v.cells.toList) l else none:=by
 simp only[fillP]
 cases place i with
 | none=>rfl
 | some p =>
  simp only[Option.bind_some,cond_eq_ite,Bool.and_eq_true,beq_iff_eq,Nat.ble_eq]
  simp
theorem repl_zero (z:List Value):repl 0 z = []:=rfl
theorem repl_succ (n:Nat) (z:List Value):repl (n+1) z=z ++ repl n z:=rfl
theorem repl_one (n:Nat) (v:Value):repl n [v]=List.replicate n v:=by
 induction n with
 | zero=>rfl
 | succ n ih=>rw[repl_succ,ih,List.replicate_succ];rfl
theorem buildV_eq {P:Program} {t:TypeId} {z:List Value} (hz:zeroCellsT P t=some z) (ha:allSized P t=true) (ps:List (Nat×Value)):buildV P t ps=(fillP (placeOf P t) z ps).map fun cs=>.agg cs.toArray:=by
 simp[buildV,hz,ha]
theorem bq_cut {P:Program} {fn:FuncId} {nt:Nat} {rd:Option Nat} {a c:Code} {fr:Fr} {h:IH} {K:Fr→IH→Prop} {Q:IExit→Fr→IH→Prop} {b:Bool} (R:Fr→IH→Prop)
  (h1:b=true→Do (wpC P fn nt rd a fr h) (seqK (fun fr h=>Pst (R fr h) nx) Q) nx) (h2:b=false→Do (wpC P fn nt rd c fr h) (seqK (fun fr h=>Pst (R fr h) nx) Q) nx) (k : ∀fr h,R fr h→K fr h) :
  Bq b (Do (wpC P fn nt rd a fr h) (seqK K Q) nx,Do (wpC P fn nt rd c fr h) (seqK K Q) nx) nx :=
 bq_intro (fun hb=>cut R (h1 hb) k) fun hb=>cut R (h2 hb) k
theorem steadyAt_of {P:Program} {fr:Fr} {o:Op} {h h' x y:IH} {v:Value} (h1:iop P fr o h=some (v,x)) (h2:iop P fr o h'=some (v,y)):steadyAt P fr o h h'=true:=by
 simp[steadyAt,h1,h2,eqV_refl]
theorem steady_load {P:Program} {fr:Fr} {t:TypeId} {a:Operand} {av v:Value} {h h':IH} (ha:opd fr a=some av) (h1:load P h t av=some v) (h2:load P h' t av=some v):steadyAt P fr (.load t a) h h'=true :=
 steadyAt_of (by simp[iop,ha,h1];exact⟨rfl,rfl⟩) (by simp[iop,ha,h2];rfl)
theorem pureRun_seq (P:Program) {α β:Type} (f:α→Sem β) : ∀s:Sem α,pureRun P (s.bind f)=(pureRun P s).bind fun a=>pureRun P (f a)
 | .pure a=>rfl
 | .program k=>pureRun_seq P f (k P)
 | .load _ _ _=>rfl
 | .store _ _ _ _=>rfl
 | .new _ _=>rfl
 | .shape _ _=>rfl
 | .freeze _ _ _=>rfl
 | .frozen _ _=>rfl
 | .getObj _ _=>rfl
 | .setObj _ _ _=>rfl
 | .choose _ _=>rfl
 | .sys _ _=>rfl
 | .mark _ _=>rfl
 | .halt _=>rfl
theorem shl_nat (P:Program) (t:TypeId) (ox oy:Operand) {j:IntKind} {a b:Nat} (h:a*2 ^ b<18446744073709551616) (hb:b≤64):binop P .shl t ox oy (.int .u64 (a:Int)) (.int j (b:Int))=some (.int .u64 ((a*2 ^ b:Nat):Int)):=by
 rw[binop_shl P t ox oy (by omega)]
 show some (Value.int .u64 (IntKind.u64.wrap ((a:Int)*2 ^ min b 64)))=_
 rw[Nat.min_eq_left hb,show(a:Int)*2 ^ b=((a*2 ^ b:Nat):Int) from by simp,wrap_nat_u64 h]
theorem dec_lt_t {a b:Int} (h:a<b):decide (a<b)=true:=by simpa using h
theorem dec_lt_f {a b:Int} (h : ¬a<b):decide (a<b)=false:=by simpa using h
theorem dec_le_t {a b:Int} (h:a≤b):decide (a≤b)=true:=by simpa using h
theorem dec_le_f {a b:Int} (h : ¬a≤b):decide (a≤b)=false:=by simpa using h
theorem beq_int_t {a b:Int} (h:a=b):(a == b)=true:=by simpa using h
theorem beq_int_f {a b:Int} (h : ¬a=b):(a == b)=false:=by simpa using h
theorem bne_int_t {a b:Int} (h : ¬a=b):(a != b)=true:=by simpa using h
theorem bne_int_f {a b:Int} (h:a=b):(a != b)=false:=by simpa using h
theorem beq_true0 (b:Bool):(b == true)=b:=by cases b<;>rfl
theorem beq_false0 (b:Bool):(b == false) = !b:=by cases b<;>rfl
theorem not_true0:(!true)=false:=rfl
theorem not_false0:(!false)=true:=rfl
theorem not_not0 (b:Bool):(!(!b))=b:=by cases b<;>rfl
theorem eq_self0 {α:Type} (a:α):(a=a)=True:=by simp
def wpT:=And.intro @fillP_nil (And.intro @fillP_cons (And.intro @splice_nil (And.intro @splice_zero (And.intro @splice_succ (And.intro @repl_zero (And.intro @repl_succ (And.intro @stE_if (
 And.intro @tand0 (And.intro @fand0 (And.intro @andt0 (And.intro @cok_int (And.intro @cok_bool (And.intro @cok_slice (And.intro @cok_ptr (And.intro @cok_func (
 And.intro @cok_map (And.intro @cok_nilFunc (And.intro @cok_nilPtr (And.intro @all_nil0 (And.intro @all_cons0 (And.intro @len_nil0 (And.intro @len_cons0 (And.intro @eq_self0 (
 And.intro @dec_lt_t (And.intro @dec_lt_f (And.intro @dec_le_t (And.intro @dec_le_f (And.intro @beq_int_t (And.intro @beq_int_f (And.intro @bne_int_t (And.intro @bne_int_f (
 And.intro @beq_true0 (And.intro @beq_false0 (And.intro @not_true0 (And.intro @not_false0 (And.intro @not_not0 (And.intro @true_and (@and_true))))))))))))))))))))))))))))))))))))))
end Go.Id

/-! Weakest preconditions over the ideal machine, ninth part: equality of arrays of numbers. -/
namespace Go.Id
open Go
section
variable {P:Program}
theorem pr_bind {α β:Type} {s:Sem α} {f:α→Sem β} {a:α} (h:pureRun P s=some a):pureRun P (s >>= f)=pureRun P (f a):=by
 show pureRun P (s.bind f)=_
 rw[pureRun_seq,h];rfl
theorem pr_pure {α:Type} (a:α):pureRun P (pure a:Sem α)=some a:=rfl
theorem pr_underlying {t:TypeId} {d:TypeDesc} (h:P.underlying t=some d):pureRun P (underlying t)=some d:=by
 have e:pureRun P (underlying t)=pureRun P ((match P.underlying t with|some d=>(pure d:Sem TypeDesc)|none=>stuck "no such type")):=rfl
 rw[e,h];rfl
theorem pr_sizeOf {e:TypeId} {n:Nat} (h:sizeT P e=some n):pureRun P (sizeOf e)=some n:=by
 simp only[sizeT,Option.map_eq_some_iff] at h
 obtain⟨i,hi,rfl⟩:=h
 have e2:pureRun P (sizeOf e)=pureRun P ((match P.info? e with|some i=>(pure i:Sem TypeInfo)|none=>stuck "no such type").bind fun i=>pure i.size):=rfl
 rw[e2,hi];rfl
theorem pr_part {e:TypeId} {k:IntKind} (he:P.underlying e=some (.int k)) {cs:Array Value} {off:Nat} {v:Value} (hv:cs[off]?=some v):pureRun P (part e cs off)=some v:=by
 unfold part
 have h1:pureRun P (isAgg e)=some false:=by
  unfold isAgg
  rw[pr_bind (pr_underlying he)];rfl
 rw[pr_bind h1]
 simp only[Bool.false_eq_true,if_false,hv]
 rfl
theorem pr_equal_int {e:TypeId} {k j:IntKind} (he:P.underlying e=some (.int j)) (d:Nat) (a b:Int):pureRun P (Op.equalIn (d+1) e (.int k a) (.int k b))=some (a == b):=by
 unfold Op.equalIn
 rw[pr_bind (pr_underlying he)]
 simp only[if_true]
 rfl
def eqZip (xs ys:List Int) (is:List Nat):Bool:=is.all fun i=>xs[i]? == ys[i]?
theorem pr_items {n:Nat} {xs ys:List Int} (body:Nat→Option Bool×Unit→Sem (ForInStep (Option Bool×Unit))) (g:Option Bool×Unit→Sem Bool)
  (hb : ∀i,i<n → ∀r,pureRun P (body i r)=some (if (xs[i]? == ys[i]?)=true then .yield (none,()) else .done (some false,()))) : ∀is:List Nat,(∀i∈is,i<n) →
  pureRun P (forIn is ((none,()):Option Bool×Unit) body >>= g)=pureRun P (g (if eqZip xs ys is=true then (none,()) else (some false,()))):=by
 have assoc : ∀(s:Sem (ForInStep (Option Bool×Unit))) (g1:ForInStep (Option Bool×Unit)→Sem (Option Bool×Unit)) (f2:Option Bool×Unit→Sem Bool),pureRun P ((s >>= g1) >>= f2)=pureRun P (s >>= fun x=>g1 x >>= f2):=fun s g1 f2=>by
  show pureRun P ((s.bind g1).bind f2)=pureRun P (s.bind fun x=>(g1 x).bind f2)
  rw[pureRun_seq,pureRun_seq,pureRun_seq]
  cases pureRun P s with
  | none=>rfl
  | some a=>simp only[Option.bind_some];rw[pureRun_seq]
 intro is
 induction is with
 | nil=>intro _;rfl
 | cons i is ih =>
  intro hi
  have h1:=hb i (hi i (by simp)) (none,())
  rw[List.forIn_cons,assoc,pr_bind h1]
  have hz:eqZip xs ys (i :: is)=((xs[i]? == ys[i]?) && eqZip xs ys is):=rfl
  rw[hz]
  cases hc:(xs[i]? == ys[i]?) with
  | true =>
   rw[Bool.true_and,←ih fun j hj=>hi j (by simp[hj])]
   rfl
  | false =>
   rw[Bool.false_and]
   rfl
theorem pr_equal_arr {t e:TypeId} {n:Nat} {k:IntKind} (hT:P.underlying t=some (.array n e)) (he:P.underlying e=some (.int k)) (hs:sizeT P e=some 1) (d:Nat) (xs ys:List Int) (hx:xs.length=n) (hy:ys.length=n) :
  pureRun P (Op.equalIn (d+2) t (.agg (xs.map (.int k)).toArray) (.agg (ys.map (.int k)).toArray))=some (decide (xs=ys)):=by
 unfold Op.equalIn
 rw[pr_bind (pr_underlying hT)]
 simp only
 rw[pr_bind (pr_sizeOf hs)]
 simp only[Std.Legacy.Range.forIn_eq_forIn_range',Std.Legacy.Range.size,Nat.sub_zero,Nat.add_one_sub_one,Nat.div_one]
 rw[pr_items (n:=n) (xs:=xs) (ys:=ys) _ _ (fun i hin r=>?_) (List.range' 0 n) (fun i hi=>?_)]
 ·have hz:eqZip xs ys (List.range' 0 n)=decide (xs=ys):=by
   rw[Bool.eq_iff_iff]
   simp only[eqZip,List.all_eq_true,List.mem_range'_1,beq_iff_eq,decide_eq_true_eq]
   constructor
   ·intro h
    apply List.ext_getElem?
    intro i
    by_cases hi:i<n
    ·exact h i ⟨Nat.zero_le _,by omega⟩
    ·rw[List.getElem?_eq_none (by omega),List.getElem?_eq_none (by omega)]
   ·rintro rfl i _;rfl
  rw[hz]
  by_cases h:xs=ys
  ·simp[h];rfl
  ·simp[h];rfl
 ·have hxi:(xs.map (Value.int k)).toArray[i*1]?=some (.int k (xs[i]'(by omega))):=by simp[hx,hin]
  have hyi:(ys.map (Value.int k)).toArray[i*1]?=some (.int k (ys[i]'(by omega))):=by simp[hy,hin]
  rw[pr_bind (pr_part he hxi),pr_bind (pr_part he hyi),pr_bind (pr_equal_int he d _ _)]
  rw[List.getElem?_eq_getElem (show i<xs.length by omega),List.getElem?_eq_getElem (show i<ys.length by omega)]
  rw[show(some (xs[i]'(by omega)) == some (ys[i]'(by omega)))=(xs[i]'(by omega) == ys[i]'(by omega)) from rfl]
  cases(xs[i]'(by omega) == ys[i]'(by omega))<;>rfl
 ·rw[List.mem_range'_1] at hi;omega
theorem binop_eql_arr {t e:TypeId} {n:Nat} {k:IntKind} (hT:P.underlying t=some (.array n e)) (he:P.underlying e=some (.int k)) (hs:sizeT P e=some 1) (hg:P.eqGuardType P.depth t=false) (ox oy:Operand) (xs ys:List Int) (hx:xs.length=n) (hy:ys.length=n) :
  binop P .eql t ox oy (.agg (xs.map (.int k)).toArray) (.agg (ys.map (.int k)).toArray)=some (.bool (decide (xs=ys))):=by
 have hp : ∀l:List Int,plain (.agg (l.map (Value.int k)).toArray)=true:=by intro l;simp[plain,scal]
 refine binop_of P t ox oy (hp _) (hp _) rfl ?_
 have h1:pureRun P (eqGuard .eql t ox oy (.agg (xs.map (.int k)).toArray) (.agg (ys.map (.int k)).toArray))=some ():=by
  show pureRun P (if (!P.eqGuardType P.depth t)=true then _ else _)=_
  rw[hg];rfl
 rw[pr_bind h1]
 show pureRun P (Op.equal t _ _ >>= fun r=>pure (Value.bool r))=_
 have h2:pureRun P (Op.equal t (.agg (xs.map (.int k)).toArray) (.agg (ys.map (.int k)).toArray))=some (decide (xs=ys)):=pr_equal_arr hT he hs 9998 xs ys hx hy
 rw[pr_bind h2];rfl
theorem binop_neq_arr {t e:TypeId} {n:Nat} {k:IntKind} (hT:P.underlying t=some (.array n e)) (he:P.underlying e=some (.int k)) (hs:sizeT P e=some 1) (hg:P.eqGuardType P.depth t=false) (ox oy:Operand) (xs ys:List Int) (hx:xs.length=n) (hy:ys.length=n) :
  binop P .neq t ox oy (.agg (xs.map (.int k)).toArray) (.agg (ys.map (.int k)).toArray)=some (.bool (!decide (xs=ys))):=by
 have hp : ∀l:List Int,plain (.agg (l.map (Value.int k)).toArray)=true:=by intro l;simp[plain,scal]
 refine binop_of P t ox oy (hp _) (hp _) rfl ?_
 have h1:pureRun P (eqGuard .neq t ox oy (.agg (xs.map (.int k)).toArray) (.agg (ys.map (.int k)).toArray))=some ():=by
  show pureRun P (if (!P.eqGuardType P.depth t)=true then _ else _)=_
  rw[hg];rfl
 rw[pr_bind h1]
 show pureRun P (Op.equal t _ _ >>= fun r=>pure (Value.bool (!r)))=_
 have h2:pureRun P (Op.equal t (.agg (xs.map (.int k)).toArray) (.agg (ys.map (.int k)).toArray))=some (decide (xs=ys)):=pr_equal_arr hT he hs 9998 xs ys hx hy
 rw[pr_bind h2];rfl
end
end Go.Id

/-! Weakest preconditions over the ideal machine, tenth part: slices as they are now. -/
namespace Go.Id
open Go
def SlNow (h:IH) (sz:Nat) (v:Value) (n:Nat) (cs:List Value):Prop :=
 0<sz∧cs.length=n*sz∧((v=.slice none 0 0∧n=0) ∨ ∃b o k,v=.slice (some ⟨b,o,none⟩) n k∧(n=0 ∨ ∃row,h.row b=some row∧(row.drop o).take (n*sz)=cs∧o+n*sz≤row.length))
theorem SlOf.now {h:IH} {sz:Nat} {v:Value} {n:Nat} {cs:List Value} (s:SlOf h sz v n cs):SlNow h sz v n cs:=by
 obtain⟨hz,hl,s|⟨b,o,k,rfl,s⟩⟩:=s
 ·exact⟨hz,hl,.inl s⟩
 ·refine⟨hz,hl,.inr ⟨b,o,k,rfl,?_⟩⟩
  rcases s with⟨h1,_⟩|⟨_,_,row,_,h1,h2,h3⟩
  ·exact .inl h1
  ·exact .inr ⟨row,h1,h2,h3⟩
theorem SlNow.form {h:IH} {sz:Nat} {v:Value} {n:Nat} {cs:List Value} (s:SlNow h sz v n cs) : ∃a k,v=.slice a n k:=by
 obtain⟨hz,hl,⟨rfl,rfl⟩|⟨b,o,k,rfl,s⟩⟩:=s
 ·exact⟨_,_,rfl⟩
 ·exact⟨_,_,rfl⟩
theorem SlNow.len {h:IH} {sz:Nat} {v:Value} {n:Nat} {cs:List Value} (s:SlNow h sz v n cs) {P:Program} {t:TypeId} (hT:isSliceT P (some t)=true) (h':IH):lenB P h' t v=some (.int .i64 n):=by
 obtain⟨a,k,rfl⟩:=s.form
 exact lenB_slice hT _ _ _ _
theorem SlNow.idx {h:IH} {sz:Nat} {v:Value} {n:Nat} {cs:List Value} (s:SlNow h sz v n cs) {P:Program} {t:TypeId} (hT:elemSize P t=some sz) {k:IntKind} {j:Nat} (hj:j<n):indexAddr P t v (.int k j)=some (elemAddr v (j*sz)):=by
 obtain⟨hz,hl,⟨rfl,rfl⟩|⟨b,o,k,rfl,s⟩⟩:=s
 ·omega
 ·rw[indexAddr_slice,hT];simp[elemAddr,idxAt_nat hj]
theorem SlNow.ld {h:IH} {sz:Nat} {v:Value} {n:Nat} {cs:List Value} (s:SlNow h sz v n cs) {c:Nat} (hc:c<cs.length) {P:Program} {t:TypeId} (hT:isAggT P t=some false):load P h t (elemAddr v c)=cs[c]?:=by
 obtain⟨hz,hl,⟨rfl,rfl⟩|⟨b,o,k,rfl,s'⟩⟩:=s
 ·simp at hl;simp[hl] at hc
 ·obtain rfl|⟨row,h1,h2,h3⟩:=s'
  ·simp at hl;simp[hl] at hc
  ·rw[elemAddr,load_scal hT,ld_of h1,←h2,List.getElem?_take]
   rw[if_pos (by omega),List.getElem?_drop]
theorem SlNow.ldAgg {h:IH} {sz:Nat} {v:Value} {n:Nat} {cs:List Value} (s:SlNow h sz v n cs) {c m:Nat} (hc:c+m≤cs.length) (hm:0<m) {P:Program} {t:TypeId} (hT:isAggT P t=some true) (hS:sizeT P t=some m) :
  load P h t (elemAddr v c)=some (.agg ((cs.drop c).take m).toArray):=by
 obtain⟨hz,hl,⟨rfl,rfl⟩|⟨b,o,k,rfl,s'⟩⟩:=s
 ·simp at hl;simp[hl] at hc;omega
 ·obtain rfl|⟨row,h1,h2,h3⟩:=s'
  ·simp at hl;simp[hl] at hc;omega
  ·rw[elemAddr,load_agg hT hS,rd_of h1,if_pos (by omega),←h2]
   simp only[Option.map_some,List.drop_take,List.take_take,List.drop_drop]
   rw[Nat.min_eq_left (by omega)]
theorem slice_arr {P:Program} {t e:TypeId} {n sz:Nat} (hu:P.underlying t=some (.array n e)) (hs:sizeT P e=some sz) (hn:0<n) (h:IH) (b o:Nat):sliceOp P h t (ptr b o) none none none=some (.slice (some ⟨b,o,none⟩) n (2*n+1)):=by
 have h1:(2*n+1) / 2=n:=by omega
 have h2:(2*n+1 == 0)=false:=by simp
 have h3:(0 == n)=false:=by simp;omega
 have h4:((2*n+1) % 2 == 1)=true:=by simp
 simp only[sliceOp,hu,hs,asAddr,ptr,resliced,boundsOf,hiOf,loOf,h1,h2,h3,h4,cond_true,cond_false,Bool.true_or]
 simp
theorem arr_now {h:IH} {b o n sz k:Nat} {row cs:List Value} (hr:h.row b=some row) (hz:0<sz) (hl:cs.length=n*sz) (h1:(row.drop o).take (n*sz)=cs) (h2:o+n*sz≤row.length):SlNow h sz (.slice (some ⟨b,o,none⟩) n k) n cs :=
 ⟨hz,hl,.inr ⟨b,o,k,rfl,.inr ⟨row,hr,h1,h2⟩⟩⟩
theorem nil_eq_some {P:Program} {t e:TypeId} (hu:P.underlying t=some (.slice e)) (ox oy:Operand) (a:Addr) (n k:Nat):binop P .eql t ox oy (.slice (some a) n k) (.slice none 0 0)=some (.bool false):=by
 have h1:plain (.slice (some a) n k)=false:=rfl
 simp only[binop,h1,Bool.false_and,cond_false,nilEq,hu,nilEqV,Option.map_some]
theorem nil_eq_none {P:Program} {t e:TypeId} (hu:P.underlying t=some (.slice e)) (ox oy:Operand):binop P .eql t ox oy (.slice none 0 0) (.slice none 0 0)=some (.bool true):=by
 refine binop_of P t ox oy rfl rfl rfl ?_
 show pureRun P (Op.equal t _ _ >>= fun r=>pure (Value.bool r))=_
 have h2:pureRun P (Op.equal t (.slice none 0 0) (.slice none 0 0))=some true:=by
  show pureRun P (Op.equalIn 10000 t _ _)=_
  unfold Op.equalIn
  rw[pr_bind (pr_underlying hu)];rfl
 rw[pr_bind h2];rfl
theorem append_zero {P:Program} {t:TypeId} {sz bytes:Nat} (hT:appT P t=some (sz,bytes)) (h:IH) {x:Value} {m:Nat} {new:List Value} (sx:SlNow h sz x m new) (hm:0<m) (hc:new.all cellOK=true) (hsz:m*(bytes+1)≤1099511627776) (b o:Nat) :
  append P h t (.slice (some ⟨b,o,none⟩) 0 1) x=some (.slice (some ⟨2*h.n,0,none⟩) m (2*m),h.new (.cells new sz none)):=by
 unfold appT at hT
 split at hT
 case h_2=>cases hT
 rename_i e hu
 split at hT
 case h_2=>cases hT
 rename_i zs h1 h2 h3
 simp only[cond_eq_ite] at hT
 split at hT
 case isTrue=>cases hT
 rename_i hbad
 cases hT
 have hbad':(sz == 0 || (!(Nat.ble bytes 65536) || !(zs.length == sz)))=false:=by simpa using hbad
 obtain⟨hz,hl,⟨rfl,rfl⟩|⟨b2,o2,k2,rfl,rfl|⟨row,a1,a2,a3⟩⟩⟩:=sx
 ·omega
 ·omega
 have hms : ¬m*sz=0:=by
  have:0<m*sz:=Nat.mul_pos hm hz
  omega
 have hmne:(m == 0)=false:=by simp;omega
 have hfirst:firstOf h sz m (.slice (some ⟨b2,o2,none⟩) m k2)=some new:=by
  simp only[firstOf,cond_eq_ite,Nat.ble_eq,Nat.le_refl,if_true,beq_iff_eq,if_neg hms]
  rw[rd_of a1,if_pos a3,a2]
 have hble:Nat.ble (m*(bytes+1)) sizeMost=true:=by rw[Nat.ble_eq];exact hsz
 have hcap:Nat.ble m (1 / 2)=false:=by
  rw[Bool.eq_false_iff];intro hh;rw[Nat.ble_eq] at hh;omega
 have hodd:(1 % 2 == 1)=true:=rfl
 have hfirst0:firstOf h sz 0 (.slice (some ⟨b,o,none⟩) 0 1)=some []:=by
  simp[firstOf];rfl
 simp only[Id.append,hu,h1,h2,h3,lenOf,hmne,hbad',hfirst,hc,hble,hcap,hodd,hfirst0,cond_true,cond_false,Bool.not_true,List.nil_append,Nat.zero_add]
theorem copy_eq {P:Program} {t e:TypeId} {sz:Nat} (hu:P.underlying t=some (.slice e)) (hS:sizeT P e=some sz) {h:IH} {k o dn c:Nat} {cs:List Value} {e2:Nat} (hg:h.ext.get k=some (.cells cs e2 none)) {s:Value} {sn:Nat} {ss:List Value} (hs:SlNow h sz s sn ss) (hc:ss.all cellOK=true)
  (hpos:0<min sn dn) (hl:o+min sn dn*sz≤cs.length) (ts:Array TypeId) (ht:ts[0]?=some t) :
  builtin P h .copy ts [.slice (some ⟨2*k,o,none⟩) dn c,s]=some (.int .i64 ((min sn dn:Nat):Int),h.put k (.cells (IH.splice cs o (ss.take (min sn dn*sz))) e2 none)):=by
 obtain⟨hz,hln,⟨rfl,rfl⟩|⟨b2,o2,k2,rfl,rfl|⟨row,a1,a2,a3⟩⟩⟩:=hs
 ·simp at hpos
 ·simp at hpos
 have hm:Nat.min sn dn=min sn dn:=rfl
 generalize hmm:min sn dn=m at *
 have hmn:m≤sn:=by omega
 have hms : ¬m*sz=0:=by
  have:0<m*sz:=Nat.mul_pos hpos hz
  omega
 have hmle:m*sz≤sn*sz:=Nat.mul_le_mul_right _ hmn
 have hrd:h.rd b2 o2 (m*sz)=some (ss.take (m*sz)):=by
  have hle:o2+m*sz≤row.length:=by omega
  rw[rd_of a1,←a2,List.take_take,Nat.min_eq_left hmle]
  exact if_pos hle
 have hfirst:firstOf h sz m (.slice (some ⟨b2,o2,none⟩) sn k2)=some (ss.take (m*sz)):=by
  have hb:Nat.ble m sn=true:=by rw[Nat.ble_eq];exact hmn
  simp only[firstOf,hb,cond_eq_ite,beq_iff_eq,if_neg hms,hrd,if_true]
 have hlen:(ss.take (m*sz)).length=m*sz:=by rw[List.length_take];omega
 have hne:(ss.take (m*sz)).isEmpty=false:=by
  cases hx:ss.take (m*sz) with
  | nil=>rw[hx] at hlen;simp at hlen;omega
  | cons a b=>rfl
 have hc2:(ss.take (m*sz)).all cellOK=true:=by
  rw[List.all_eq_true] at hc ⊢
  intro x hx;exact hc x (List.mem_of_mem_take hx)
 have h1:(2*k % 2 == 1)=false:=by simp
 have h2:2*k / 2=k:=by omega
 have h3:Nat.ble (o+(ss.take (m*sz)).length) cs.length=true:=by rw[Nat.ble_eq,hlen];exact hl
 simp only[builtin,ht,copyOp,hu,lenOf,hS,hm,hfirst,hne,hc2,IH.wr,h1,h2,hg,h3,cond_true,cond_false,Bool.not_true,Option.map_some]
 rfl
theorem copy_none {P:Program} {t e:TypeId} {sz:Nat} (hu:P.underlying t=some (.slice e)) (hS:sizeT P e=some sz) (h:IH) (k o c:Nat) {s:Value} {sn:Nat} {ss:List Value} (hs:SlNow h sz s sn ss) (ts:Array TypeId) (ht:ts[0]?=some t) :
  builtin P h .copy ts [.slice (some ⟨2*k,o,none⟩) 0 c,s]=some (.int .i64 0,h):=by
 have hf:firstOf h sz 0 s=some []:=by
  obtain⟨hz,hln,⟨rfl,rfl⟩|⟨b2,o2,k2,rfl,hh⟩⟩:=hs
  ·rfl
  ·simp[firstOf];rfl
 obtain⟨a,kk,rfl⟩:=hs.form
 simp only[builtin,ht,copyOp,hu,lenOf,hS,show Nat.min sn 0=0 from Nat.min_zero _,hf]
 rfl
theorem acc_new {h:IH} {sz m:Nat} {cs:List Value} (hz:0<sz) (hl:cs.length=m*sz) (hm:0<m):Acc (h.new (.cells cs sz none)) h.n sz (.slice (some ⟨2*h.n,0,none⟩) m (2*m)) m cs :=
 ⟨hz,hl,.inr ⟨h.n,none,rfl,hm,Nat.le_refl _,by simp,get_new_same _ _ rfl,trivial⟩⟩
theorem Acc.from {h:IH} {n0 n1 sz:Nat} {v:Value} {n:Nat} {cs:List Value} (a:Acc h n1 sz v n cs) (hn:n0≤n1):Acc h n0 sz v n cs:=by
 obtain⟨hz,hl,a|⟨k,fam,rfl,hn2,h1,h2,h3,h4⟩⟩:=a
 ·exact⟨hz,hl,.inl a⟩
 ·refine⟨hz,hl,.inr ⟨k,fam,rfl,hn2,by omega,h2,h3,?_⟩⟩
  cases fam with
  | none=>trivial
  | some f =>
   obtain⟨a1,a2,rest,a3,a4⟩:=h4
   exact⟨by omega,a2,rest,a3,fun j hj=>by have:=a4 j hj;omega⟩
theorem slice_odd {P:Program} {t e:TypeId} {sz:Nat} (hu:P.underlying t=some (.slice e)) (hT:sizeT P e=some sz) (h:IH) {b o n k l m:Nat} (hk:k % 2=1) (hlt:l<k / 2) {lo hi:Option Value} (hlo:loOf lo m=some l) (hhi:hiOf hi n (k / 2)=some m) :
  sliceOp P h t (.slice (some ⟨b,o,none⟩) n k) lo hi none=some (.slice (some ⟨b,o+l*sz,none⟩) (m - l) (k - 2*l)):=by
 have hk0:(k == 0)=false:=by simp;omega
 have hroom:(k % 2 == 1 || roomy h sz (.slice (some ⟨b,o,none⟩) n k))=true:=by simp[hk]
 have hlk':(l == k / 2)=false:=by simp;omega
 simp only[sliceOp,hu,hT,resliced,boundsOf,hhi,hlo,hk0,hlk',hroom,cond_true,cond_false]
theorem slNow_mk {h:IH} {b o n k sz:Nat} {row:List Value} (hz:0<sz) (hr:h.row b=some row) (hl:o+n*sz≤row.length):SlNow h sz (.slice (some ⟨b,o,none⟩) n k) n ((row.drop o).take (n*sz)) :=
 ⟨hz,by rw[List.length_take,List.length_drop];omega,.inr ⟨b,o,k,rfl,.inr ⟨row,hr,rfl,hl⟩⟩⟩
end Go.Id

/-! The types of this seat's program, as the machine asks of them; made by program (tools/mk.py). -/
namespace Go.Id
open Go
theorem ag101:isAggT Proofs.Tryd.prog 101=some true:=by kernel_rfl
theorem ag124:isAggT Proofs.Tryd.prog 124=some false:=by kernel_rfl
theorem ag125:isAggT Proofs.Tryd.prog 125=some false:=by kernel_rfl
theorem ag126:isAggT Proofs.Tryd.prog 126=some true:=by kernel_rfl
theorem ag22:isAggT Proofs.Tryd.prog 22=some false:=by kernel_rfl
theorem ag23:isAggT Proofs.Tryd.prog 23=some false:=by kernel_rfl
theorem ag25:isAggT Proofs.Tryd.prog 25=some true:=by kernel_rfl
theorem ag26:isAggT Proofs.Tryd.prog 26=some false:=by kernel_rfl
theorem ag28:isAggT Proofs.Tryd.prog 28=some true:=by kernel_rfl
theorem ag3:isAggT Proofs.Tryd.prog 3=some false:=by kernel_rfl
theorem ag30:isAggT Proofs.Tryd.prog 30=some false:=by kernel_rfl
theorem ag32:isAggT Proofs.Tryd.prog 32=some true:=by kernel_rfl
theorem ag33:isAggT Proofs.Tryd.prog 33=some false:=by kernel_rfl
theorem ag35:isAggT Proofs.Tryd.prog 35=some true:=by kernel_rfl
theorem ag38:isAggT Proofs.Tryd.prog 38=some false:=by kernel_rfl
theorem ag4:isAggT Proofs.Tryd.prog 4=some false:=by kernel_rfl
theorem ag42:isAggT Proofs.Tryd.prog 42=some false:=by kernel_rfl
theorem ag43:isAggT Proofs.Tryd.prog 43=some false:=by kernel_rfl
theorem ag44:isAggT Proofs.Tryd.prog 44=some false:=by kernel_rfl
theorem ag47:isAggT Proofs.Tryd.prog 47=some false:=by kernel_rfl
theorem ag5:isAggT Proofs.Tryd.prog 5=some false:=by kernel_rfl
theorem ag54:isAggT Proofs.Tryd.prog 54=some true:=by kernel_rfl
theorem ag58:isAggT Proofs.Tryd.prog 58=some true:=by kernel_rfl
theorem ag89:isAggT Proofs.Tryd.prog 89=some false:=by kernel_rfl
theorem ag92:isAggT Proofs.Tryd.prog 92=some false:=by kernel_rfl
theorem ag93:isAggT Proofs.Tryd.prog 93=some false:=by kernel_rfl
theorem ap30:appT Proofs.Tryd.prog 30=some (2,16):=by kernel_rfl
theorem ap33:appT Proofs.Tryd.prog 33=some (1,8):=by kernel_rfl
theorem ap38:appT Proofs.Tryd.prog 38=some (1,8):=by kernel_rfl
theorem ap42:appT Proofs.Tryd.prog 42=some (1,24):=by kernel_rfl
theorem ap44:appT Proofs.Tryd.prog 44=some (1,8):=by kernel_rfl
theorem ar121:arrOf Proofs.Tryd.prog 121=some (2,1):=by kernel_rfl
theorem ar147:arrOf Proofs.Tryd.prog 147=some (64,1):=by kernel_rfl
theorem ar54:arrOf Proofs.Tryd.prog 54=some (2,1):=by kernel_rfl
theorem ar58:arrOf Proofs.Tryd.prog 58=some (8,1):=by kernel_rfl
theorem as101:allSized Proofs.Tryd.prog 101=true:=by kernel_rfl
theorem as126:allSized Proofs.Tryd.prog 126=true:=by kernel_rfl
theorem as32:allSized Proofs.Tryd.prog 32=true:=by kernel_rfl
theorem as35:allSized Proofs.Tryd.prog 35=true:=by kernel_rfl
theorem as54:allSized Proofs.Tryd.prog 54=true:=by kernel_rfl
theorem as58:allSized Proofs.Tryd.prog 58=true:=by kernel_rfl
theorem as95:allSized Proofs.Tryd.prog 95=true:=by kernel_rfl
theorem eg58:Proofs.Tryd.prog.eqGuardType Proofs.Tryd.prog.depth 58=false:=by kernel_rfl
theorem es23:elemSize Proofs.Tryd.prog 23=some 2:=by kernel_rfl
theorem es26:elemSize Proofs.Tryd.prog 26=some 1:=by kernel_rfl
theorem es30:elemSize Proofs.Tryd.prog 30=some 2:=by kernel_rfl
theorem es33:elemSize Proofs.Tryd.prog 33=some 1:=by kernel_rfl
theorem es38:elemSize Proofs.Tryd.prog 38=some 1:=by kernel_rfl
theorem es42:elemSize Proofs.Tryd.prog 42=some 1:=by kernel_rfl
theorem es44:elemSize Proofs.Tryd.prog 44=some 1:=by kernel_rfl
theorem es92:elemSize Proofs.Tryd.prog 92=some 1:=by kernel_rfl
theorem fa101_0:fieldAt Proofs.Tryd.prog 101 0=some 0:=by kernel_rfl
theorem fa101_1:fieldAt Proofs.Tryd.prog 101 1=some 1:=by kernel_rfl
theorem fa25_0:fieldAt Proofs.Tryd.prog 25 0=some 0:=by kernel_rfl
theorem fa25_1:fieldAt Proofs.Tryd.prog 25 1=some 1:=by kernel_rfl
theorem fa25_2:fieldAt Proofs.Tryd.prog 25 2=some 2:=by kernel_rfl
theorem fa25_3:fieldAt Proofs.Tryd.prog 25 3=some 3:=by kernel_rfl
theorem fa28_0:fieldAt Proofs.Tryd.prog 28 0=some 0:=by kernel_rfl
theorem fa28_1:fieldAt Proofs.Tryd.prog 28 1=some 4:=by kernel_rfl
theorem fa28_2:fieldAt Proofs.Tryd.prog 28 2=some 5:=by kernel_rfl
theorem fa28_3:fieldAt Proofs.Tryd.prog 28 3=some 6:=by kernel_rfl
theorem fa32_0:fieldAt Proofs.Tryd.prog 32 0=some 0:=by kernel_rfl
theorem fa32_1:fieldAt Proofs.Tryd.prog 32 1=some 1:=by kernel_rfl
theorem fa35_0:fieldAt Proofs.Tryd.prog 35 0=some 0:=by kernel_rfl
theorem fa35_1:fieldAt Proofs.Tryd.prog 35 1=some 1:=by kernel_rfl
theorem fa35_2:fieldAt Proofs.Tryd.prog 35 2=some 2:=by kernel_rfl
theorem fa35_3:fieldAt Proofs.Tryd.prog 35 3=some 3:=by kernel_rfl
theorem fa95_0:fieldAt Proofs.Tryd.prog 95 0=some 0:=by kernel_rfl
theorem fa95_1:fieldAt Proofs.Tryd.prog 95 1=some 1:=by kernel_rfl
theorem fa95_2:fieldAt Proofs.Tryd.prog 95 2=some 2:=by kernel_rfl
theorem is105:(Program.underlying Proofs.Tryd.prog 105).isSome=true:=by kernel_rfl
theorem is3:(Program.underlying Proofs.Tryd.prog 3).isSome=true:=by kernel_rfl
theorem is47:(Program.underlying Proofs.Tryd.prog 47).isSome=true:=by kernel_rfl
theorem is5:(Program.underlying Proofs.Tryd.prog 5).isSome=true:=by kernel_rfl
theorem mk30:makeT Proofs.Tryd.prog 30=some (2,16,[.int .i64 (0),.int .i64 (0)]):=by kernel_rfl
theorem mk33:makeT Proofs.Tryd.prog 33=some (1,8,[.int .i64 (0)]):=by kernel_rfl
theorem mk38:makeT Proofs.Tryd.prog 38=some (1,8,[.int .u64 (0)]):=by kernel_rfl
theorem mk42:makeT Proofs.Tryd.prog 42=some (1,24,[.slice none 0 0]):=by kernel_rfl
theorem mk44:makeT Proofs.Tryd.prog 44=some (1,8,[.int .i64 (0)]):=by kernel_rfl
theorem mk92:makeT Proofs.Tryd.prog 92=some (1,1,[.bool false]):=by kernel_rfl
theorem pl101_0:placeOf Proofs.Tryd.prog 101 0=some (0,1):=by kernel_rfl
theorem pl101_1:placeOf Proofs.Tryd.prog 101 1=some (1,1):=by kernel_rfl
theorem pl126_0:placeOf Proofs.Tryd.prog 126 0=some (0,1):=by kernel_rfl
theorem pl126_1:placeOf Proofs.Tryd.prog 126 1=some (1,1):=by kernel_rfl
theorem pl32_0:placeOf Proofs.Tryd.prog 32 0=some (0,1):=by kernel_rfl
theorem pl32_1:placeOf Proofs.Tryd.prog 32 1=some (1,1):=by kernel_rfl
theorem pl35_0:placeOf Proofs.Tryd.prog 35 0=some (0,1):=by kernel_rfl
theorem pl35_1:placeOf Proofs.Tryd.prog 35 1=some (1,1):=by kernel_rfl
theorem pl35_2:placeOf Proofs.Tryd.prog 35 2=some (2,1):=by kernel_rfl
theorem pl35_3:placeOf Proofs.Tryd.prog 35 3=some (3,1):=by kernel_rfl
theorem pl54_0:placeOf Proofs.Tryd.prog 54 0=some (0,1):=by kernel_rfl
theorem pl54_1:placeOf Proofs.Tryd.prog 54 1=some (1,1):=by kernel_rfl
theorem pl58_0:placeOf Proofs.Tryd.prog 58 0=some (0,1):=by kernel_rfl
theorem pl95_0:placeOf Proofs.Tryd.prog 95 0=some (0,1):=by kernel_rfl
theorem pl95_1:placeOf Proofs.Tryd.prog 95 1=some (1,1):=by kernel_rfl
theorem sl23:isSliceT Proofs.Tryd.prog (some 23)=true:=by kernel_rfl
theorem sl26:isSliceT Proofs.Tryd.prog (some 26)=true:=by kernel_rfl
theorem sl30:isSliceT Proofs.Tryd.prog (some 30)=true:=by kernel_rfl
theorem sl33:isSliceT Proofs.Tryd.prog (some 33)=true:=by kernel_rfl
theorem sl38:isSliceT Proofs.Tryd.prog (some 38)=true:=by kernel_rfl
theorem sl42:isSliceT Proofs.Tryd.prog (some 42)=true:=by kernel_rfl
theorem sl44:isSliceT Proofs.Tryd.prog (some 44)=true:=by kernel_rfl
theorem sl92:isSliceT Proofs.Tryd.prog (some 92)=true:=by kernel_rfl
theorem sz101:sizeT Proofs.Tryd.prog 101=some 2:=by kernel_rfl
theorem sz124:sizeT Proofs.Tryd.prog 124=some 1:=by kernel_rfl
theorem sz125:sizeT Proofs.Tryd.prog 125=some 1:=by kernel_rfl
theorem sz126:sizeT Proofs.Tryd.prog 126=some 2:=by kernel_rfl
theorem sz25:sizeT Proofs.Tryd.prog 25=some 4:=by kernel_rfl
theorem sz28:sizeT Proofs.Tryd.prog 28=some 7:=by kernel_rfl
theorem sz3:sizeT Proofs.Tryd.prog 3=some 1:=by kernel_rfl
theorem sz30:sizeT Proofs.Tryd.prog 30=some 1:=by kernel_rfl
theorem sz32:sizeT Proofs.Tryd.prog 32=some 2:=by kernel_rfl
theorem sz33:sizeT Proofs.Tryd.prog 33=some 1:=by kernel_rfl
theorem sz35:sizeT Proofs.Tryd.prog 35=some 4:=by kernel_rfl
theorem sz38:sizeT Proofs.Tryd.prog 38=some 1:=by kernel_rfl
theorem sz4:sizeT Proofs.Tryd.prog 4=some 1:=by kernel_rfl
theorem sz42:sizeT Proofs.Tryd.prog 42=some 1:=by kernel_rfl
theorem sz43:sizeT Proofs.Tryd.prog 43=some 1:=by kernel_rfl
theorem sz47:sizeT Proofs.Tryd.prog 47=some 1:=by kernel_rfl
theorem sz5:sizeT Proofs.Tryd.prog 5=some 1:=by kernel_rfl
theorem sz54:sizeT Proofs.Tryd.prog 54=some 2:=by kernel_rfl
theorem sz58:sizeT Proofs.Tryd.prog 58=some 8:=by kernel_rfl
theorem sz89:sizeT Proofs.Tryd.prog 89=some 1:=by kernel_rfl
theorem sz93:sizeT Proofs.Tryd.prog 93=some 1:=by kernel_rfl
theorem u105:Program.underlying Proofs.Tryd.prog 105=some (.int .u64):=by kernel_rfl
theorem u124:Program.underlying Proofs.Tryd.prog 124=some (.map 126 3):=by kernel_rfl
theorem u3:Program.underlying Proofs.Tryd.prog 3=some (.int .i64):=by kernel_rfl
theorem u33:Program.underlying Proofs.Tryd.prog 33=some (.slice 3):=by kernel_rfl
theorem u38:Program.underlying Proofs.Tryd.prog 38=some (.slice 47):=by kernel_rfl
theorem u4:Program.underlying Proofs.Tryd.prog 4=some .bool:=by kernel_rfl
theorem u44:Program.underlying Proofs.Tryd.prog 44=some (.slice 3):=by kernel_rfl
theorem u45:Program.underlying Proofs.Tryd.prog 45=some (.map 3 47):=by kernel_rfl
theorem u47:Program.underlying Proofs.Tryd.prog 47=some (.int .u64):=by kernel_rfl
theorem u54:Program.underlying Proofs.Tryd.prog 54=some (.array 2 3):=by kernel_rfl
theorem u58:Program.underlying Proofs.Tryd.prog 58=some (.array 8 47):=by kernel_rfl
theorem zc101:zeroCellsT Proofs.Tryd.prog 101=some [.bool false,.slice none 0 0]:=by kernel_rfl
theorem zc124:zeroCellsT Proofs.Tryd.prog 124=some [.map none]:=by kernel_rfl
theorem zc125:zeroCellsT Proofs.Tryd.prog 125=some [.nilFunc]:=by kernel_rfl
theorem zc126:zeroCellsT Proofs.Tryd.prog 126=some [.int .u64 (0),.int .u64 (0)]:=by kernel_rfl
theorem zc25:zeroCellsT Proofs.Tryd.prog 25=some [.int .u8 (0),.int .u8 (0),.int .u16 (0),.slice none 0 0]:=by kernel_rfl
theorem zc3:zeroCellsT Proofs.Tryd.prog 3=some [.int .i64 (0)]:=by kernel_rfl
theorem zc32:zeroCellsT Proofs.Tryd.prog 32=some [.int .i64 (0),.slice none 0 0]:=by kernel_rfl
theorem zc35:zeroCellsT Proofs.Tryd.prog 35=some [.slice none 0 0,.int .i64 (0),.int .i64 (0),.int .i64 (0)]:=by kernel_rfl
theorem zc38:zeroCellsT Proofs.Tryd.prog 38=some [.slice none 0 0]:=by kernel_rfl
theorem zc42:zeroCellsT Proofs.Tryd.prog 42=some [.slice none 0 0]:=by kernel_rfl
theorem zc43:zeroCellsT Proofs.Tryd.prog 43=some [.nilFunc]:=by kernel_rfl
theorem zc47:zeroCellsT Proofs.Tryd.prog 47=some [.int .u64 (0)]:=by kernel_rfl
theorem zc54:zeroCellsT Proofs.Tryd.prog 54=some [.int .i64 (0),.int .i64 (0)]:=by kernel_rfl
theorem zc58:zeroCellsT Proofs.Tryd.prog 58=some [.int .u64 (0),.int .u64 (0),.int .u64 (0),.int .u64 (0),.int .u64 (0),.int .u64 (0),.int .u64 (0),.int .u64 (0)]:=by kernel_rfl
theorem zc89:zeroCellsT Proofs.Tryd.prog 89=some [.pointer none]:=by kernel_rfl
theorem zc95:zeroCellsT Proofs.Tryd.prog 95=some [.int .i64 (0),.slice none 0 0,.nilFunc]:=by kernel_rfl
theorem ba30_30 (h:IH) (x y:Value):builtin Proofs.Tryd.prog h .append #[30,30] [x,y]=append Proofs.Tryd.prog h 30 x y:=builtin_append Proofs.Tryd.prog h 30 30 x y sl30
theorem ba33_33 (h:IH) (x y:Value):builtin Proofs.Tryd.prog h .append #[33,33] [x,y]=append Proofs.Tryd.prog h 33 x y:=builtin_append Proofs.Tryd.prog h 33 33 x y sl33
theorem ba38_38 (h:IH) (x y:Value):builtin Proofs.Tryd.prog h .append #[38,38] [x,y]=append Proofs.Tryd.prog h 38 x y:=builtin_append Proofs.Tryd.prog h 38 38 x y sl38
theorem ba42_42 (h:IH) (x y:Value):builtin Proofs.Tryd.prog h .append #[42,42] [x,y]=append Proofs.Tryd.prog h 42 x y:=builtin_append Proofs.Tryd.prog h 42 42 x y sl42
theorem ba44_44 (h:IH) (x y:Value):builtin Proofs.Tryd.prog h .append #[44,44] [x,y]=append Proofs.Tryd.prog h 44 x y:=builtin_append Proofs.Tryd.prog h 44 44 x y sl44
theorem bs30 (h:IH) (len:Nat) (ps:List (Nat×Value)) (hl:len*2≤16777216):buildSlice Proofs.Tryd.prog h 30 len ps=(fillP (fun i=>some (i*2,2)) (repl len [.int .i64 (0),.int .i64 (0)]) ps).map fun cells=>(.slice (some ⟨2*h.n,0,none⟩) len (2*len+1),h.new (.cells cells 2 none)):=buildSlice_eq mk30 h len ps hl
theorem bs33 (h:IH) (len:Nat) (ps:List (Nat×Value)) (hl:len*1≤16777216):buildSlice Proofs.Tryd.prog h 33 len ps=(fillP (fun i=>some (i*1,1)) (repl len [.int .i64 (0)]) ps).map fun cells=>(.slice (some ⟨2*h.n,0,none⟩) len (2*len+1),h.new (.cells cells 1 none)):=buildSlice_eq mk33 h len ps hl
theorem bs38 (h:IH) (len:Nat) (ps:List (Nat×Value)) (hl:len*1≤16777216):buildSlice Proofs.Tryd.prog h 38 len ps=(fillP (fun i=>some (i*1,1)) (repl len [.int .u64 (0)]) ps).map fun cells=>(.slice (some ⟨2*h.n,0,none⟩) len (2*len+1),h.new (.cells cells 1 none)):=buildSlice_eq mk38 h len ps hl
theorem bs42 (h:IH) (len:Nat) (ps:List (Nat×Value)) (hl:len*1≤16777216):buildSlice Proofs.Tryd.prog h 42 len ps=(fillP (fun i=>some (i*1,1)) (repl len [.slice none 0 0]) ps).map fun cells=>(.slice (some ⟨2*h.n,0,none⟩) len (2*len+1),h.new (.cells cells 1 none)):=buildSlice_eq mk42 h len ps hl
theorem bs44 (h:IH) (len:Nat) (ps:List (Nat×Value)) (hl:len*1≤16777216):buildSlice Proofs.Tryd.prog h 44 len ps=(fillP (fun i=>some (i*1,1)) (repl len [.int .i64 (0)]) ps).map fun cells=>(.slice (some ⟨2*h.n,0,none⟩) len (2*len+1),h.new (.cells cells 1 none)):=buildSlice_eq mk44 h len ps hl
theorem bv101 (ps:List (Nat×Value)):buildV Proofs.Tryd.prog 101 ps=(fillP (placeOf Proofs.Tryd.prog 101) [.bool false,.slice none 0 0] ps).map fun cs=>.agg cs.toArray:=buildV_eq zc101 as101 ps
theorem bv126 (ps:List (Nat×Value)):buildV Proofs.Tryd.prog 126 ps=(fillP (placeOf Proofs.Tryd.prog 126) [.int .u64 (0),.int .u64 (0)] ps).map fun cs=>.agg cs.toArray:=buildV_eq zc126 as126 ps
theorem bv32 (ps:List (Nat×Value)):buildV Proofs.Tryd.prog 32 ps=(fillP (placeOf Proofs.Tryd.prog 32) [.int .i64 (0),.slice none 0 0] ps).map fun cs=>.agg cs.toArray:=buildV_eq zc32 as32 ps
theorem bv35 (ps:List (Nat×Value)):buildV Proofs.Tryd.prog 35 ps=(fillP (placeOf Proofs.Tryd.prog 35) [.slice none 0 0,.int .i64 (0),.int .i64 (0),.int .i64 (0)] ps).map fun cs=>.agg cs.toArray:=buildV_eq zc35 as35 ps
theorem bv54 (ps:List (Nat×Value)):buildV Proofs.Tryd.prog 54 ps=(fillP (placeOf Proofs.Tryd.prog 54) [.int .i64 (0),.int .i64 (0)] ps).map fun cs=>.agg cs.toArray:=buildV_eq zc54 as54 ps
theorem bv58 (ps:List (Nat×Value)):buildV Proofs.Tryd.prog 58 ps=(fillP (placeOf Proofs.Tryd.prog 58) [.int .u64 (0),.int .u64 (0),.int .u64 (0),.int .u64 (0),.int .u64 (0),.int .u64 (0),.int .u64 (0),.int .u64 (0)] ps).map fun cs=>.agg cs.toArray:=buildV_eq zc58 as58 ps
theorem bv95 (ps:List (Nat×Value)):buildV Proofs.Tryd.prog 95 ps=(fillP (placeOf Proofs.Tryd.prog 95) [.int .i64 (0),.slice none 0 0,.nilFunc] ps).map fun cs=>.agg cs.toArray:=buildV_eq zc95 as95 ps
theorem cv105_3 (k:IntKind) (n:Int):convV Proofs.Tryd.prog 105 3 (.int k n)=some (.int .i64 (IntKind.i64.wrap n)):=convV_int is105 u3
theorem cv3_105 (k:IntKind) (n:Int):convV Proofs.Tryd.prog 3 105 (.int k n)=some (.int .u64 (IntKind.u64.wrap n)):=convV_int is3 u105
theorem cv3_47 (k:IntKind) (n:Int):convV Proofs.Tryd.prog 3 47 (.int k n)=some (.int .u64 (IntKind.u64.wrap n)):=convV_int is3 u47
theorem cv47_3 (k:IntKind) (n:Int):convV Proofs.Tryd.prog 47 3 (.int k n)=some (.int .i64 (IntKind.i64.wrap n)):=convV_int is47 u3
theorem cv5_3 (k:IntKind) (n:Int):convV Proofs.Tryd.prog 5 3 (.int k n)=some (.int .i64 (IntKind.i64.wrap n)):=convV_int is5 u3
theorem ld101 (h:IH) (b o:Nat):load Proofs.Tryd.prog h 101 (ptr b o)=(h.rd b o 2).map fun cs=>.agg cs.toArray:=load_agg ag101 sz101 h b o
theorem ld124 (h:IH) (b o:Nat):load Proofs.Tryd.prog h 124 (ptr b o)=ld h b o:=load_scal ag124 h b o
theorem ld125 (h:IH) (b o:Nat):load Proofs.Tryd.prog h 125 (ptr b o)=ld h b o:=load_scal ag125 h b o
theorem ld126 (h:IH) (b o:Nat):load Proofs.Tryd.prog h 126 (ptr b o)=(h.rd b o 2).map fun cs=>.agg cs.toArray:=load_agg ag126 sz126 h b o
theorem ld22 (h:IH) (b o:Nat):load Proofs.Tryd.prog h 22 (ptr b o)=ld h b o:=load_scal ag22 h b o
theorem ld23 (h:IH) (b o:Nat):load Proofs.Tryd.prog h 23 (ptr b o)=ld h b o:=load_scal ag23 h b o
theorem ld25 (h:IH) (b o:Nat):load Proofs.Tryd.prog h 25 (ptr b o)=(h.rd b o 4).map fun cs=>.agg cs.toArray:=load_agg ag25 sz25 h b o
theorem ld26 (h:IH) (b o:Nat):load Proofs.Tryd.prog h 26 (ptr b o)=ld h b o:=load_scal ag26 h b o
theorem ld28 (h:IH) (b o:Nat):load Proofs.Tryd.prog h 28 (ptr b o)=(h.rd b o 7).map fun cs=>.agg cs.toArray:=load_agg ag28 sz28 h b o
theorem ld3 (h:IH) (b o:Nat):load Proofs.Tryd.prog h 3 (ptr b o)=ld h b o:=load_scal ag3 h b o
theorem ld30 (h:IH) (b o:Nat):load Proofs.Tryd.prog h 30 (ptr b o)=ld h b o:=load_scal ag30 h b o
theorem ld32 (h:IH) (b o:Nat):load Proofs.Tryd.prog h 32 (ptr b o)=(h.rd b o 2).map fun cs=>.agg cs.toArray:=load_agg ag32 sz32 h b o
theorem ld33 (h:IH) (b o:Nat):load Proofs.Tryd.prog h 33 (ptr b o)=ld h b o:=load_scal ag33 h b o
theorem ld35 (h:IH) (b o:Nat):load Proofs.Tryd.prog h 35 (ptr b o)=(h.rd b o 4).map fun cs=>.agg cs.toArray:=load_agg ag35 sz35 h b o
theorem ld38 (h:IH) (b o:Nat):load Proofs.Tryd.prog h 38 (ptr b o)=ld h b o:=load_scal ag38 h b o
theorem ld4 (h:IH) (b o:Nat):load Proofs.Tryd.prog h 4 (ptr b o)=ld h b o:=load_scal ag4 h b o
theorem ld42 (h:IH) (b o:Nat):load Proofs.Tryd.prog h 42 (ptr b o)=ld h b o:=load_scal ag42 h b o
theorem ld43 (h:IH) (b o:Nat):load Proofs.Tryd.prog h 43 (ptr b o)=ld h b o:=load_scal ag43 h b o
theorem ld47 (h:IH) (b o:Nat):load Proofs.Tryd.prog h 47 (ptr b o)=ld h b o:=load_scal ag47 h b o
theorem ld5 (h:IH) (b o:Nat):load Proofs.Tryd.prog h 5 (ptr b o)=ld h b o:=load_scal ag5 h b o
theorem ld54 (h:IH) (b o:Nat):load Proofs.Tryd.prog h 54 (ptr b o)=(h.rd b o 2).map fun cs=>.agg cs.toArray:=load_agg ag54 sz54 h b o
theorem ld58 (h:IH) (b o:Nat):load Proofs.Tryd.prog h 58 (ptr b o)=(h.rd b o 8).map fun cs=>.agg cs.toArray:=load_agg ag58 sz58 h b o
theorem ld89 (h:IH) (b o:Nat):load Proofs.Tryd.prog h 89 (ptr b o)=ld h b o:=load_scal ag89 h b o
theorem ld92 (h:IH) (b o:Nat):load Proofs.Tryd.prog h 92 (ptr b o)=ld h b o:=load_scal ag92 h b o
theorem ld93 (h:IH) (b o:Nat):load Proofs.Tryd.prog h 93 (ptr b o)=ld h b o:=load_scal ag93 h b o
theorem ln33 (h:IH) (a:Option Addr) (n c:Nat):lenB Proofs.Tryd.prog h 33 (.slice a n c)=some (.int .i64 n):=lenB_slice sl33 h a n c
theorem ln92 (h:IH) (a:Option Addr) (n c:Nat):lenB Proofs.Tryd.prog h 92 (.slice a n c)=some (.int .i64 n):=lenB_slice sl92 h a n c
theorem ms33 (h:IH) (k j:IntKind) {l c:Int} (h0:0≤l) (h1:l≤c) (h2:c*9≤1099511627776):makeSlice Proofs.Tryd.prog h 33 (.int k l) (.int j c)=some (.slice (some ⟨2*h.n,0,none⟩) l.toNat (2*c.toNat+1),h.new (.cells (repl c.toNat [.int .i64 (0)]) 1 none)):=makeSlice_eq mk33 h k j h0 h1 h2
theorem ms38 (h:IH) (k j:IntKind) {l c:Int} (h0:0≤l) (h1:l≤c) (h2:c*9≤1099511627776):makeSlice Proofs.Tryd.prog h 38 (.int k l) (.int j c)=some (.slice (some ⟨2*h.n,0,none⟩) l.toNat (2*c.toNat+1),h.new (.cells (repl c.toNat [.int .u64 (0)]) 1 none)):=makeSlice_eq mk38 h k j h0 h1 h2
theorem ms92 (h:IH) (k j:IntKind) {l c:Int} (h0:0≤l) (h1:l≤c) (h2:c*2≤1099511627776):makeSlice Proofs.Tryd.prog h 92 (.int k l) (.int j c)=some (.slice (some ⟨2*h.n,0,none⟩) l.toNat (2*c.toNat+1),h.new (.cells (repl c.toNat [.bool false]) 1 none)):=makeSlice_eq mk92 h k j h0 h1 h2
theorem st101 (h:IH) (k o:Nat) (v:Value):store Proofs.Tryd.prog h 101 (ptr (2*k) o) v=stE 2 h k o v.cells.toList (h.ext.get k):=store_stE sz101 h k o v
theorem st124 (h:IH) (k o:Nat) (v:Value):store Proofs.Tryd.prog h 124 (ptr (2*k) o) v=stE 1 h k o v.cells.toList (h.ext.get k):=store_stE sz124 h k o v
theorem st125 (h:IH) (k o:Nat) (v:Value):store Proofs.Tryd.prog h 125 (ptr (2*k) o) v=stE 1 h k o v.cells.toList (h.ext.get k):=store_stE sz125 h k o v
theorem st126 (h:IH) (k o:Nat) (v:Value):store Proofs.Tryd.prog h 126 (ptr (2*k) o) v=stE 2 h k o v.cells.toList (h.ext.get k):=store_stE sz126 h k o v
theorem st25 (h:IH) (k o:Nat) (v:Value):store Proofs.Tryd.prog h 25 (ptr (2*k) o) v=stE 4 h k o v.cells.toList (h.ext.get k):=store_stE sz25 h k o v
theorem st3 (h:IH) (k o:Nat) (v:Value):store Proofs.Tryd.prog h 3 (ptr (2*k) o) v=stE 1 h k o v.cells.toList (h.ext.get k):=store_stE sz3 h k o v
theorem st30 (h:IH) (k o:Nat) (v:Value):store Proofs.Tryd.prog h 30 (ptr (2*k) o) v=stE 1 h k o v.cells.toList (h.ext.get k):=store_stE sz30 h k o v
theorem st32 (h:IH) (k o:Nat) (v:Value):store Proofs.Tryd.prog h 32 (ptr (2*k) o) v=stE 2 h k o v.cells.toList (h.ext.get k):=store_stE sz32 h k o v
theorem st33 (h:IH) (k o:Nat) (v:Value):store Proofs.Tryd.prog h 33 (ptr (2*k) o) v=stE 1 h k o v.cells.toList (h.ext.get k):=store_stE sz33 h k o v
theorem st35 (h:IH) (k o:Nat) (v:Value):store Proofs.Tryd.prog h 35 (ptr (2*k) o) v=stE 4 h k o v.cells.toList (h.ext.get k):=store_stE sz35 h k o v
theorem st38 (h:IH) (k o:Nat) (v:Value):store Proofs.Tryd.prog h 38 (ptr (2*k) o) v=stE 1 h k o v.cells.toList (h.ext.get k):=store_stE sz38 h k o v
theorem st4 (h:IH) (k o:Nat) (v:Value):store Proofs.Tryd.prog h 4 (ptr (2*k) o) v=stE 1 h k o v.cells.toList (h.ext.get k):=store_stE sz4 h k o v
theorem st42 (h:IH) (k o:Nat) (v:Value):store Proofs.Tryd.prog h 42 (ptr (2*k) o) v=stE 1 h k o v.cells.toList (h.ext.get k):=store_stE sz42 h k o v
theorem st43 (h:IH) (k o:Nat) (v:Value):store Proofs.Tryd.prog h 43 (ptr (2*k) o) v=stE 1 h k o v.cells.toList (h.ext.get k):=store_stE sz43 h k o v
theorem st47 (h:IH) (k o:Nat) (v:Value):store Proofs.Tryd.prog h 47 (ptr (2*k) o) v=stE 1 h k o v.cells.toList (h.ext.get k):=store_stE sz47 h k o v
theorem st5 (h:IH) (k o:Nat) (v:Value):store Proofs.Tryd.prog h 5 (ptr (2*k) o) v=stE 1 h k o v.cells.toList (h.ext.get k):=store_stE sz5 h k o v
theorem st54 (h:IH) (k o:Nat) (v:Value):store Proofs.Tryd.prog h 54 (ptr (2*k) o) v=stE 2 h k o v.cells.toList (h.ext.get k):=store_stE sz54 h k o v
theorem st58 (h:IH) (k o:Nat) (v:Value):store Proofs.Tryd.prog h 58 (ptr (2*k) o) v=stE 8 h k o v.cells.toList (h.ext.get k):=store_stE sz58 h k o v
theorem st89 (h:IH) (k o:Nat) (v:Value):store Proofs.Tryd.prog h 89 (ptr (2*k) o) v=stE 1 h k o v.cells.toList (h.ext.get k):=store_stE sz89 h k o v
theorem st93 (h:IH) (k o:Nat) (v:Value):store Proofs.Tryd.prog h 93 (ptr (2*k) o) v=stE 1 h k o v.cells.toList (h.ext.get k):=store_stE sz93 h k o v
end Go.Id
