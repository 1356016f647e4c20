/-
  Weakest preconditions over the ideal machine, seventh part: one step after the other. A continuation stands where the simplifier does not look (an argument depends on it); run with 'simp -dsimp'. The discharger of the walks, as a theorem with a default proof.
-/
import Derived.Test.YthpefnfbnaekaaaGreatBracketDividesAf
import Init
set_option linter.unusedVariables false
set_option linter.unusedSimpArgs false
set_option linter.defProp false
set_option linter.deprecated false
namespace Go.Id
open Go
def Nx {α:Type} (_:α):Type:=Unit
def nx {α:Type} {a:α}:Nx a:=()
def Do {κ:Type} (m:κ→Prop) (K:κ) (_:Nx K):Prop:=m K
def Bq (b:Bool) (pq:Prop×Prop) (_:Nx pq):Prop:=Br b pq.1 pq.2
theorem do_ex {α:Type} (v:α) (K:α→Prop) (u:Nx K):Do (Ex (some v)) K u=K v:=Ex_some v K
theorem do_ex_map {α β:Type} (o:Option α) (f:α→β) (K:β→Prop) (u:Nx K):Do (Ex (o.map f)) K u=Do (Ex o) (fun v=>K (f v)) nx:=Ex_map o f K
theorem do_ex_bind {α β:Type} (o:Option α) (f:α→Option β) (K:β→Prop) (u:Nx K):Do (Ex (o.bind f)) K u=Do (Ex o) (fun v=>Do (Ex (f v)) K nx) nx:=Ex_bind o f K
theorem do_ex_if {α:Type} (c:Prop) [Decidable c] (v:Option α) (hc:c) (K:α→Prop) (u:Nx K):Do (Ex (if c then v else none)) K u=Do (Ex v) K nx:=by rw[if_pos hc];rfl
theorem bq_true (p q:Prop) (u:Nx (p,q)):Bq true (p,q) u=p:=Br_true p q
theorem bq_false (p q:Prop) (u:Nx (p,q)):Bq false (p,q) u=q:=Br_false p q
theorem bq_intro {b:Bool} {p q:Prop} (h1:b=true→p) (h2:b=false→q):Bq b (p,q) nx:=Br.intro h1 h2
def nilC:Value→Option Value
 | .pointer (some a)=>some (.pointer (some a))
 | .func (.func f) xs ys=>some (.func (.func f) xs ys)
 | .func (.yield f) xs ys=>some (.func (.yield f) xs ys)
 | .map r=>some (.map r)
 | _=>none
theorem nilC_ptr (b o:Nat):nilC (ptr b o)=some (ptr b o):=rfl
theorem nilC_func (f:FuncId) (xs ys:Array Value):nilC (.func (.func f) xs ys)=some (.func (.func f) xs ys):=rfl
theorem nilC_map (r:Option Nat):nilC (.map r)=some (.map r):=rfl
section
variable (P:Program) (fr:Fr) (h:IH) (K:Value→IH→Prop) (u:Nx K)
theorem d_move (x:Operand):Do (wpOp P (.move x) fr h) K u=Do (Ex (opd fr x)) (fun v=>K v h) nx:=rfl
theorem d_assign (x:Operand):Do (wpOp P (.assign x) fr h) K u=Do (Ex (opd fr x)) (fun v=>K v h) nx:=rfl
theorem d_alloc (t:TypeId):Do (wpOp P (.alloc t) fr h) K u=Do (Ex (zeroCellsT P t)) (fun z=>K (ptr (2*h.n) 0) (h.new (.cells z 0 none))) nx:=rfl
theorem d_box (t:TypeId) (x:Operand):Do (wpOp P (.box t x) fr h) K u=Do (Ex (opd fr x)) (fun v=>K (ptr (2*h.n) 0) (h.new (.cells v.cells.toList 0 none))) nx:=rfl
theorem d_load (t:TypeId) (a:Operand):Do (wpOp P (.load t a) fr h) K u=Do (Ex (opd fr a)) (fun a=>Do (Ex (load P h t a)) (fun v=>K v h) nx) nx:=rfl
theorem d_store (t:TypeId) (a x:Operand):Do (wpOp P (.store t a x) fr h) K u=Do (Ex (opd fr a)) (fun a=>Do (Ex (opd fr x)) (fun x=>Do (Ex (store P h t a x)) (fun h=>K undef h) nx) nx) nx:=rfl
theorem d_binOp (op:BinOp) (t:TypeId) (x y:Operand) (s:TypeId):Do (wpOp P (.binOp op t x y s) fr h) K u=Do (Ex (opd fr x)) (fun a=>Do (Ex (opd fr y)) (fun b=>Do (Ex (binop P op t x y a b)) (fun v=>K v h) nx) nx) nx:=rfl
theorem d_pick (c a b:Operand):Do (wpOp P (.pick c a b) fr h) K u=Do (Ex (opd fr c)) (fun c=>Do (Ex (opd fr a)) (fun a=>Do (Ex (opd fr b)) (fun b=>match c with
  | .bool c=>Bq c (K a h,K b h) nx
  | _=>False) nx) nx) nx:=by
 show wpOp P (.pick c a b) fr h K=_
 rw[wpOp_pick]
 show _=Ex (opd fr c) _
 congr 1;funext c
 show _=Ex (opd fr a) _
 congr 1;funext a
 show _=Ex (opd fr b) _
 congr 1;funext b
 cases c<;>simp
 rename_i c
 cases c<;>simp[bq_true,bq_false]
theorem d_extract (x:Operand) (i:Nat):Do (wpOp P (.extract x i) fr h) K u=Do (Ex (opd fr x)) (fun x=>match x with
  | .tuple vs=>Do (Ex vs[i]?) (fun v=>K v h) nx
  | _=>False) nx:=rfl
theorem d_makeFunc (f:FuncId) (a b:Array Operand):Do (wpOp P (.makeFunc (.func f) a b) fr h) K u=Do (Ex (opds fr a.toList)) (fun x=>Do (Ex (opds fr b.toList)) (fun y=>K (.func (.func f) x.toArray y.toArray) h) nx) nx:=rfl
theorem d_call (f:Operand) (args:Array Operand) (ts:Array TypeId):Do (wpOp P (.call ⟨.value f,args,ts⟩) fr h) K u=Do (Ex (opd fr f)) (fun fv=>Do (Ex (opds fr args.toList)) (fun vs=>Do (WV P fv vs h) K nx) nx) nx:=rfl
theorem d_builtin (b:Builtin) (args:Array Operand) (ts:Array TypeId):Do (wpOp P (.call ⟨.builtin b,args,ts⟩) fr h) K u=Do (Ex (opds fr args.toList)) (fun vs=>Do (Ex (builtin P h b ts vs)) (fun r=>K r.1 r.2) nx) nx:=rfl
theorem d_fieldAddr (t:TypeId) (x:Operand) (f:Nat):Do (wpOp P (.fieldAddr t x f) fr h) K u=Do (Ex (opd fr x)) (fun x=>Do (Ex (fieldAt P t f)) (fun off=>Do (Ex (asAddr x)) (fun a=>K (ptr a.1 (a.2+off)) h) nx) nx) nx:=by
 show wpOp P (.fieldAddr t x f) fr h K=_
 rw[wpOp_fieldAddr]
 show _=Ex (opd fr x) _
 congr 1;funext x
 show _=Ex (fieldAt P t f) _
 cases fieldAt P t f<;>cases asAddr x<;>simp[Do]
theorem d_indexAddr (t:TypeId) (x i:Operand):Do (wpOp P (.indexAddr t x i) fr h) K u=Do (Ex (opd fr x)) (fun x=>Do (Ex (opd fr i)) (fun i=>Do (Ex (indexAddr P t x i)) (fun v=>K v h) nx) nx) nx:=rfl
theorem d_unOp (op:UnOp) (t:TypeId) (x:Operand):Do (wpOp P (.unOp op t x) fr h) K u=Do (Ex (opd fr x)) (fun v=>Do (Ex (bif plain v then pureVal P (Op.unary op v) else none)) (fun v=>K v h) nx) nx:=wpOp_unOp P fr h K op t x
theorem d_convert (s d:TypeId) (x:Operand):Do (wpOp P (.convert s d x) fr h) K u=Do (Ex (opd fr x)) (fun v=>Do (Ex (convV P s d v)) (fun v=>K v h) nx) nx:=wpOp_convert P fr h K s d x
theorem d_makeSlice (t:TypeId) (l c:Operand):Do (wpOp P (.makeSlice t l c) fr h) K u=Do (Ex (opd fr l)) (fun l=>Do (Ex (opd fr c)) (fun c=>Do (Ex (makeSlice P h t l c)) (fun r=>K r.1 r.2) nx) nx) nx:=wpOp_makeSlice P fr h K t l c
theorem d_buildSlice (t:TypeId) (n:Nat) (ps:Array (Nat×Operand)):Do (wpOp P (.buildSlice t n ps) fr h) K u=Do (Ex (partsOf fr ps.toList)) (fun ps=>Do (Ex (buildSlice P h t n ps)) (fun r=>K r.1 r.2) nx) nx:=wpOp_buildSlice P fr h K t n ps
theorem d_slice (t:TypeId) (x:Operand) (lo hi mx:Option Operand):Do (wpOp P (.slice t x lo hi mx) fr h) K u=Do (Ex (opd fr x)) (fun x=>Do (Ex (optOpd fr lo)) (fun lo=>Do (Ex (optOpd fr hi)) (fun hi=>Do (Ex (optOpd fr mx)) (fun mx=>Do (Ex (sliceOp P h t x lo hi mx)) (fun v=>K v h) nx) nx) nx) nx) nx:=wpOp_slice P fr h K t x lo hi mx
theorem d_build (t:TypeId) (ps:Array (Nat×Operand)):Do (wpOp P (.build t ps) fr h) K u=Do (Ex (partsOf fr ps.toList)) (fun ps=>Do (Ex (buildV P t ps)) (fun v=>K v h) nx) nx:=wpOp_build P fr h K t ps
theorem d_field (t:TypeId) (x:Operand) (f:Nat):Do (wpOp P (.field t x f) fr h) K u=Do (Ex (opd fr x)) (fun x=>Do (Ex (fieldV P t f x)) (fun v=>K v h) nx) nx:=wpOp_field P fr h K t x f
theorem d_nilCheck (x:Operand):Do (wpOp P (.nilCheck x) fr h) K u=Do (Ex (opd fr x)) (fun x=>Do (Ex (nilC x)) (fun v=>K v h) nx) nx:=by
 show wpOp P (.nilCheck x) fr h K=_
 rw[wpOp_nilCheck]
 show _=Ex (opd fr x) _
 congr 1;funext x
 show _=Ex (nilC x) _
 cases x with
 | pointer a=>cases a<;>simp[nilC]
 | func f xs ys=>cases f<;>simp[nilC]
 | _=>simp[nilC]
theorem d_lookup (t:TypeId) (m k:Operand) (ok:Bool):Do (wpOp P (.lookup t m k ok) fr h) K u=Do (Ex (opd fr m)) (fun m=>Do (Ex (opd fr k)) (fun k=>Do (Ex (lookup P h t m k ok)) (fun v=>K v h) nx) nx) nx:=wpOp_lookup P fr h K t m k ok
theorem d_mapUpdate (t:TypeId) (m k v:Operand):Do (wpOp P (.mapUpdate t m k v) fr h) K u=Do (Ex (opd fr m)) (fun m=>Do (Ex (opd fr k)) (fun k=>Do (Ex (opd fr v)) (fun v=>Do (Ex (mapUpdate P h t m k v)) (fun h=>K undef h) nx) nx) nx) nx:=wpOp_mapUpdate P fr h K t m k v
theorem d_insert (t:TypeId) (m k v:Operand):Do (wpOp P (.insert t m k v) fr h) K u=Do (Ex (opd fr m)) (fun m=>Do (Ex (opd fr k)) (fun k=>Do (Ex (opd fr v)) (fun v=>Do (Ex (mapUpdate P h t m k v)) (fun h=>K undef h) nx) nx) nx) nx:=wpOp_insert P fr h K t m k v
theorem d_makeMap (t:TypeId):Do (wpOp P (.makeMap t none) fr h) K u=K (.map (some (2*h.n))) (h.new (.map [])):=wpOp_makeMap P fr h K t
theorem d_index (t:TypeId) (x i:Operand):Do (wpOp P (.index t x i) fr h) K u=Do (Ex (opd fr x)) (fun x=>Do (Ex (opd fr i)) (fun i=>Do (Ex (indexV P t x i)) (fun v=>K v h) nx) nx) nx:=wpOp_index P fr h K t x i
end
section
variable (P:Program) (nt:Nat) (all:List Oper) (d:Option Tmp) (o:Op) (ty:TypeId) (pos:String) (af:Array Edge) (l:List Oper) (fr:Fr) (h:IH)
theorem d_put (d:Nat) (v:Value) (K:Fr→Prop) (u:Nx K) (hd:d<nt):Do (wpPut nt fr (some d) v) K u=K ((d,v) :: fr):=wpPut_some nt fr d v K hd
theorem d_put_none (v:Value) (K:Fr→Prop) (u:Nx K):Do (wpPut nt fr none v) K u=K fr:=rfl
theorem d_nil (K:Fr→IH→Prop) (u:Nx K):Do (wpOps P nt all [] fr h) K u=K fr h:=rfl
theorem d_cons (K:Fr→IH→Prop) (u:Nx K):Do (wpOps P nt all (⟨d,o,ty,pos,af,none⟩ :: l) fr h) K u=Do (wpOp P o fr h) (fun v h=>Do (wpPut nt fr d v) (fun fr=>Do (wpOps P nt all l fr h) K nx) nx) nx:=rfl
theorem d_guard (j:Nat) (want:Bool) (K:Fr→IH→Prop) (u:Nx K):Do (wpOps P nt all (⟨d,o,ty,pos,af,some (j,want)⟩ :: l) fr h) K u =
  Do (Ex ((all[j]?).bind (·.dst))) (fun g=>Do (Ex (fget fr g)) (fun b=>match b with
   | .bool b=>Bq (b == want) (Do (wpOp P o fr h) (fun v h=>Do (wpPut nt fr d v) (fun fr=>Do (wpOps P nt all l fr h) K nx) nx) nx,Do (wpPut nt fr d undef) (fun fr=>Do (wpOps P nt all l fr h) K nx) nx) nx
   | .tuple _=>Do (wpPut nt fr d undef) (fun fr=>Do (wpOps P nt all l fr h) K nx) nx
   | _=>False) nx) nx:=rfl
theorem d_tnil (tr:List (Fr×IH)) (K:List (Fr×IH)→Prop) (u:Nx K):Do (wpTrace P nt all [] fr h tr) K u=K (tr ++ [(fr,h)]):=rfl
theorem d_tcons (tr:List (Fr×IH)) (K:List (Fr×IH)→Prop) (u:Nx K):Do (wpTrace P nt all (⟨d,o,ty,pos,af,none⟩ :: l) fr h tr) K u=Do (wpOp P o fr h) (fun v h1=>Do (wpPut nt fr d v) (fun fr1=>Do (wpTrace P nt all l fr1 h1 (tr ++ [(fr,h)])) K nx) nx) nx:=rfl
theorem d_tguard (j:Nat) (want:Bool) (tr:List (Fr×IH)) (K:List (Fr×IH)→Prop) (u:Nx K):Do (wpTrace P nt all (⟨d,o,ty,pos,af,some (j,want)⟩ :: l) fr h tr) K u =
  Do (Ex ((all[j]?).bind (·.dst))) (fun g=>Do (Ex (fget fr g)) (fun b=>match b with
   | .bool b=>Bq (b == want) (Do (wpOp P o fr h) (fun v h1=>Do (wpPut nt fr d v) (fun fr1=>Do (wpTrace P nt all l fr1 h1 (tr ++ [(fr,h)])) K nx) nx) nx,Do (wpPut nt fr d undef) (fun fr1=>Do (wpTrace P nt all l fr1 h (tr ++ [(fr,h)])) K nx) nx) nx
   | .tuple _=>Do (wpPut nt fr d undef) (fun fr1=>Do (wpTrace P nt all l fr1 h (tr ++ [(fr,h)])) K nx) nx
   | _=>False) nx) nx:=rfl
end
section
variable (P:Program) (fn:FuncId) (nt:Nat) (rd:Option Nat) (fr:Fr) (h:IH) (Q:IExit→Fr→IH→Prop) (u:Nx Q)
def seqK (K:Fr→IH→Prop) (Q:IExit→Fr→IH→Prop) (e:IExit) (fr:Fr) (h:IH):Prop:=match e with
 | .normal=>K fr h
 | .exit i=>Q (.exit i) fr h
 | .ret=>Q .ret fr h
def blockK (id:Nat) (Q:IExit→Fr→IH→Prop) (e:IExit) (fr:Fr) (h:IH):Prop:=match e with
 | .exit i=>Br (i == id) (Q .normal fr h) (Q (.exit i) fr h)
 | .normal=>Q .normal fr h
 | .ret=>Q .ret fr h
theorem seqK_normal (K:Fr→IH→Prop):seqK K Q .normal fr h=K fr h:=rfl
theorem seqK_exit (K:Fr→IH→Prop) (i:Nat):seqK K Q (.exit i) fr h=Q (.exit i) fr h:=rfl
theorem seqK_ret (K:Fr→IH→Prop):seqK K Q .ret fr h=Q .ret fr h:=rfl
theorem blockK_normal (id:Nat):blockK id Q .normal fr h=Q .normal fr h:=rfl
theorem blockK_ret (id:Nat):blockK id Q .ret fr h=Q .ret fr h:=rfl
theorem blockK_same (id:Nat):blockK id Q (.exit id) fr h=Q .normal fr h:=by simp[blockK]
theorem blockK_exit (id i:Nat) (hi:(i == id)=false):blockK id Q (.exit i) fr h=Q (.exit i) fr h:=by simp[blockK,hi]
theorem d_skip:Do (wpC P fn nt rd .skip fr h) Q u=Q .normal fr h:=rfl
theorem d_region (id:Nat) (ops:Array Oper):Do (wpC P fn nt rd (.region id ops false) fr h) Q u=Do (wpOps P nt ops.toList ops.toList fr h) (Q .normal) nx:=rfl
theorem d_calm (id:Nat) (ops:Array Oper) (hc:calmRegion ops.toList=true):Do (wpC P fn nt rd (.region id ops true) fr h) Q u=Do (wpOps P nt ops.toList ops.toList fr h) (Q .normal) nx:=by
 show((calmRegion ops.toList=true→wpOps P nt ops.toList ops.toList fr h (Q .normal))∧(calmRegion ops.toList=false→wpDrawn P nt ops.toList fr h (Q .normal)))=_
 simp only[hc,true_implies,reduceCtorEq,false_implies,and_true]
 rfl
theorem d_seq (a b:Code):Do (wpC P fn nt rd (.seq a b) fr h) Q u=Do (wpC P fn nt rd a fr h) (seqK (fun fr h=>Do (wpC P fn nt rd b fr h) Q nx) Q) nx:=by
 show wpC P fn nt rd a fr h _=wpC P fn nt rd a fr h _
 congr 1
theorem d_cond (c:Operand) (a b:Code):Do (wpC P fn nt rd (.cond c a b) fr h) Q u=Do (Ex (opd fr c)) (fun c=>match c with
  | .bool c=>Bq c (Do (wpC P fn nt rd a fr h) Q nx,Do (wpC P fn nt rd b fr h) Q nx) nx
  | _=>False) nx:=rfl
theorem d_block (id:Nat) (b:Code):Do (wpC P fn nt rd (.block id b) fr h) Q u=Do (wpC P fn nt rd b fr h) (blockK id Q) nx:=rfl
theorem d_loop (b:Code):Do (wpC P fn nt rd (.loop b) fr h) Q u=Do (WLoop P fn nt rd b fr h) Q nx:=rfl
theorem d_scope (b:Code):Do (wpC P fn nt rd (.scope b) fr h) Q u=Do (wpC P fn nt rd b fr h) Q nx:=rfl
theorem d_rangeFunc (f:Operand) (ps:Array Tmp) (a b:Code):Do (wpC P fn nt rd (.rangeFunc f ps a b) fr h) Q u=Do (WRange P fn nt rd f ps a b fr h) Q nx:=rfl
theorem d_exit (i:Nat):Do (wpC P fn nt rd (.exit i) fr h) Q u=Q (.exit i) fr h:=rfl
theorem d_ret:Do (wpC P fn nt rd .ret fr h) Q u=Q .ret fr h:=rfl
end
def retK (P:Program) (rs:List ResultVar) (K:Value→IH→Prop) (e:IExit) (fr:Fr) (h:IH):Prop:=match e with
 | .exit _=>False
 | .normal=>Do (Ex (resultsOf P fr h rs)) (fun l=>K (single l) h) nx
 | .ret=>Do (Ex (resultsOf P fr h rs)) (fun l=>K (single l) h) nx
theorem retK_normal (P:Program) (rs:List ResultVar) (K:Value→IH→Prop) (fr:Fr) (h:IH):retK P rs K .normal fr h=Do (Ex (resultsOf P fr h rs)) (fun l=>K (single l) h) nx:=rfl
theorem retK_ret (P:Program) (rs:List ResultVar) (K:Value→IH→Prop) (fr:Fr) (h:IH):retK P rs K .ret fr h=Do (Ex (resultsOf P fr h rs)) (fun l=>K (single l) h) nx:=rfl
theorem enter {P:Program} {f:FuncId} {fn:Func} {c:Code} {nt:Nat} {rs:List ResultVar} {first cap:Array Value} {vs:List Value} {h:IH} {K:Value→IH→Prop}
  (hf:P.funcs[f]?=some fn) (hb:fn.body=some c) (hn:fn.ntmps=nt) (hr:fn.results.toList=rs) (hl:(first.toList ++ (vs ++ cap.toList)).length≤nt)
  (w:Do (wpC P f nt none c (enterFr 0 (first.toList ++ (vs ++ cap.toList))) h) (retK P rs K) nx):WV P (.func (.func f) first cap) vs h K :=
 wv_enter hf hb hn hr hl w
theorem call {P:Program} {fv:Value} {vs:List Value} {h:IH} {K L:Value→IH→Prop} (w:WV P fv vs h L) (k : ∀v h',L v h'→K v h'):Do (WV P fv vs h) K nx:=w.mono k
@[reducible] def Pst (p:Prop) (_:Nx p):Prop:=p
theorem cut {P:Program} {fn:FuncId} {nt:Nat} {rd:Option Nat} {a:Code} {fr:Fr} {h:IH} {K:Fr→IH→Prop} {Q:IExit→Fr→IH→Prop} (R:Fr→IH→Prop)
  (w:Do (wpC P fn nt rd a fr h) (seqK (fun fr h=>Pst (R fr h) nx) Q) nx) (k : ∀fr h,R fr h→K fr h):Do (wpC P fn nt rd a fr h) (seqK K Q) nx :=
 wpC_mono (fun e fr h w=>by cases e<;>first|exact k _ _ w|exact w) w
def loopK (I:Nat→Fr→IH→Prop) (m:Nat) (Q:IExit→Fr→IH→Prop) (e:IExit) (fr:Fr) (h:IH):Prop:=match e with
 | .normal => ∃m',m'<m∧I m' fr h
 | .exit i=>Q (.exit i) fr h
 | .ret=>Q .ret fr h
theorem loopK_exit (I:Nat→Fr→IH→Prop) (m:Nat) (Q:IExit→Fr→IH→Prop) (i:Nat) (fr:Fr) (h:IH):loopK I m Q (.exit i) fr h=Q (.exit i) fr h:=rfl
theorem loopK_ret (I:Nat→Fr→IH→Prop) (m:Nat) (Q:IExit→Fr→IH→Prop) (fr:Fr) (h:IH):loopK I m Q .ret fr h=Q .ret fr h:=rfl
theorem loop {P:Program} {fn:FuncId} {nt:Nat} {rd:Option Nat} {b:Code} {Q:IExit→Fr→IH→Prop} (I:Nat→Fr→IH→Prop) {fr:Fr} {h:IH} (m:Nat) (start:I m fr h)
  (step : ∀m fr h,I m fr h→Do (wpC P fn nt rd b fr h) (loopK I m Q) nx) (hm:headOf b=none:=by rfl):Do (WLoop P fn nt rd b fr h) Q nx :=
 wloop I (fun m fr h hi=>step m fr h hi) start hm
theorem d_last (tr:List (Fr×IH)) (n:Nat) (K:Fr→IH→Prop) (u:Nx K):Do (wpLast tr n) K u=Do (Ex tr[n]?) (fun p=>K p.1 p.2) nx:=rfl
theorem wpSteady_one {P:Program} {ops:List Oper} {tr:List (Fr×IH)} {i p:Nat} {o:Oper} {fr fr':Fr} {h h':IH} (ho:ops[i]?=some o) (hi:tr[i]?=some (fr,h)) (hw:wantedI ops o fr=some true) (hp:tr[p]?=some (fr',h')) (hs:steadyAt P fr o.op h h'=true):wpSteady P ops tr [(i,[p])]:=by
 refine⟨?_,trivial⟩
 simp only[ho,hi,hw]
 intro q hq
 simp only[List.mem_singleton] at hq
 subst hq
 simp only[hp]
 exact hs
theorem wpSteady_not {P:Program} {ops:List Oper} {tr:List (Fr×IH)} {i:Nat} {l:List Nat} {o:Oper} {fr:Fr} {h:IH} (ho:ops[i]?=some o) (hi:tr[i]?=some (fr,h)) (hw:wantedI ops o fr=some false):wpSteady P ops tr [(i,l)]:=by
 refine⟨?_,trivial⟩
 simp only[ho,hi,hw]
theorem wpSteady_cons {P:Program} {ops:List Oper} {tr:List (Fr×IH)} {e:Nat×List Nat} {l:List (Nat×List Nat)} (h1:wpSteady P ops tr [e]) (h2:wpSteady P ops tr l):wpSteady P ops tr (e :: l):=⟨h1.1,h2⟩
theorem wpSteady_two {P:Program} {ops:List Oper} {tr:List (Fr×IH)} {i p:Nat} {l:List Nat} (h1:wpSteady P ops tr [(i,[p])]) (h2:wpSteady P ops tr [(i,l)]):wpSteady P ops tr [(i,p :: l)]:=by
 refine⟨?_,trivial⟩
 have a:=h1.1
 have b:=h2.1
 simp only at a b ⊢
 cases ho:ops[i]? with
 | none=>simp only[ho] at a
 | some o =>
  cases hi:tr[i]? with
  | none=>simp only[ho,hi] at a
  | some x =>
   obtain⟨fr,h⟩:=x
   simp only[ho,hi] at a b ⊢
   cases hw:wantedI ops o fr with
   | none=>trivial
   | some w =>
    cases w with
    | false=>trivial
    | true =>
     simp only[hw] at a b ⊢
     intro q hq
     rcases List.mem_cons.1 hq with rfl|hq
     ·exact a q (by simp)
     ·exact b q hq
theorem drawn {P:Program} {fn:FuncId} {nt:Nat} {rd:Option Nat} {id:Nat} {ops:Array Oper} {fr:Fr} {h:IH} {Q:IExit→Fr→IH→Prop} (pl:List (Nat×List Nat)) (ho:orderOK ops.toList=true) (hp:plan2 ops.toList=pl) (hne:pl.isEmpty=false)
  (w:Do (wpTrace P nt ops.toList ops.toList fr h []) (fun tr=>Pst (wpSteady P ops.toList tr pl∧Do (wpLast tr ops.toList.length) (Q .normal) nx) nx) nx):Do (wpC P fn nt rd (.region id ops true) fr h) Q nx:=by
 subst hp
 refine⟨fun hc=>?_,fun _=>⟨ho,w⟩⟩
 simp[calmRegion,List.isEmpty_iff] at hc hne
 exact absurd hc.2 hne
theorem d_label (P:Program) (fn:FuncId) (nt:Nat) (rd:Option Nat) (l:Nat) (fr:Fr) (h:IH) (Q:IExit→Fr→IH→Prop) (u:Nx Q):Do (wpC P fn nt rd (.label l) fr h) Q u=Q .normal fr h:=rfl
theorem single_one (v:Value):single [v]=v:=rfl
theorem single_nil:single []=.tuple #[]:=rfl
theorem single_two (a b:Value):single [a,b]=.tuple #[a,b]:=rfl
theorem single_three (a b c:Value):single [a,b,c]=.tuple #[a,b,c]:=rfl
theorem ld_def (h:IH) (b o:Nat):ld h b o=(h.row b).bind (·[o]?):=rfl
theorem nil_app0 {α:Type} (l:List α) : [] ++ l=l:=rfl
theorem app_nil0 {α:Type} (l:List α):l ++ []=l:=List.append_nil l
theorem cons_app0 {α:Type} (x:α) (l m:List α):(x :: l) ++ m=x :: (l ++ m):=rfl
theorem if_true0 {α:Type} {d:Decidable True} (a b:α):ite True a b=a:=if_pos trivial
theorem if_false0 {α:Type} {d:Decidable False} (a b:α):ite False a b=b:=if_neg id
theorem bind_some0 {α β:Type} (a:α) (f:α→Option β):(some a).bind f=f a:=rfl
theorem map_some0 {α β:Type} (a:α) (f:α→β):(some a).map f=some (f a):=rfl
theorem get_zero0 {α:Type} (x:α) (l:List α):(x :: l)[0]?=some x:=rfl
theorem get_succ0 {α:Type} (x:α) (l:List α) (n:Nat):(x :: l)[n+1]?=l[n]?:=rfl
theorem get_arr0 {α:Type} (l:List α) (n:Nat):l.toArray[n]?=l[n]?:=List.getElem?_toArray
theorem toList0 {α:Type} (l:List α):l.toArray.toList=l:=rfl
theorem undef_eq:undef=Value.tuple #[]:=rfl
def wpS:=And.intro @d_move (And.intro @d_assign (And.intro @d_alloc (And.intro @d_box (And.intro @d_load (And.intro @d_store (And.intro @d_binOp (And.intro @d_pick (
 And.intro @d_extract (And.intro @d_makeFunc (And.intro @d_call (And.intro @d_builtin (And.intro @d_fieldAddr (And.intro @d_indexAddr (And.intro @d_unOp (And.intro @d_convert (
 And.intro @d_makeSlice (And.intro @d_buildSlice (And.intro @d_slice (And.intro @d_build (And.intro @d_field (And.intro (And.intro @d_nilCheck (And.intro @nilC_ptr (And.intro @nilC_func (And.intro @nilC_map @d_label)))) (And.intro @d_lookup (And.intro (And.intro @d_mapUpdate @d_insert) (
 And.intro @d_makeMap (And.intro @d_index (And.intro @d_put (And.intro @d_put_none (And.intro @d_nil (And.intro @d_cons (And.intro @d_guard (And.intro @d_tnil (
 And.intro @d_tcons (And.intro @d_tguard (And.intro @seqK_normal (And.intro @seqK_exit (And.intro @seqK_ret (And.intro @blockK_normal (And.intro @blockK_ret (And.intro @blockK_same (
 And.intro @blockK_exit (And.intro @d_skip (And.intro @d_region (And.intro @d_calm (And.intro @d_seq (And.intro @d_cond (And.intro @d_block (And.intro @d_loop (
 And.intro @d_scope (And.intro @d_rangeFunc (And.intro @d_exit (And.intro @d_ret (And.intro @retK_normal (And.intro @retK_ret (And.intro @loopK_exit (And.intro @loopK_ret (
 And.intro @do_ex (And.intro @do_ex_map (And.intro @do_ex_bind (And.intro @do_ex_if (And.intro @bq_true (And.intro @bq_false (And.intro @opd_tmp (And.intro @opd_func (
 And.intro @opd_global (And.intro @opd_const_int (And.intro @opd_const_bool (And.intro @opd_const_string (And.intro @opd_const_nilFunc (And.intro @opd_const_nilSlice (And.intro @opd_const_nilPtr (And.intro @opd_const_nilMap (
 And.intro @opds_nil (And.intro @opds_cons (And.intro @partsOf_nil (And.intro @partsOf_cons (And.intro @optOpd_none (And.intro @optOpd_some (And.intro @fget_cons (And.intro @enterFr_cons (
 And.intro @enterFr_nil (And.intro @nil_app0 (And.intro @app_nil0 (And.intro @cons_app0 (And.intro @if_true0 (And.intro @if_false0 (And.intro @bind_some0 (And.intro @map_some0 (
 And.intro @and_true (And.intro @true_and (And.intro @Nat.zero_add (And.intro @Nat.add_zero (And.intro @Nat.zero_mul (And.intro @Nat.one_mul (And.intro @Nat.mul_one (And.intro @resultsOf_cons (
 And.intro @resultsOf_nil (And.intro @resultOf_tmp (And.intro @resultOf_cell (And.intro @binop_add (And.intro @binop_sub (And.intro @binop_mul (And.intro @binop_eql (And.intro @binop_neq (
 And.intro @binop_lss (And.intro @binop_leq (And.intro @binop_gtr (And.intro @binop_geq (And.intro @band_u (And.intro @bor_u (And.intro @bxor_u (And.intro @bclr_u (
 And.intro @band_i (And.intro @bor_i (And.intro @band_neg (And.intro @shr_u (And.intro @shr_i (And.intro @shl1_u (And.intro @shl1_i (And.intro @quo_i (
 And.intro @quo_u (And.intro @rem_nn (And.intro @unary_not (And.intro @unary_neg (And.intro @wrap_i64 (And.intro @wrap_u64 (And.intro @wrap_u8 (And.intro @wrap_u16 (
 And.intro @wrap_u32 (And.intro @Int.toNat_natCast (And.intro @Int.toNat_one (And.intro @Int.toNat_zero (And.intro @builtin_len (And.intro @indexAddr_slice (And.intro @indexAddr_arr (And.intro @idxAt_nat (
 And.intro @fieldV_agg (And.intro @ld_def (And.intro @rd_eq (And.intro @asAddr_ptr (And.intro @get_zero0 (And.intro @get_succ0 (And.intro @get_arr0 (And.intro @toList0 (
 And.intro @cells_int (And.intro @cells_bool (And.intro @cells_slice (And.intro @cells_ptr (And.intro @cells_agg (And.intro @cells_func (And.intro @cells_nilFunc (And.intro @cells_map (
 And.intro @cells_nilPtr (And.intro @new_n (And.intro @new_base (And.intro @put_n (And.intro @put_base (And.intro @row_new_same (And.intro @row_new_old (And.intro @row_put_same (
 And.intro @row_put_old (And.intro @get_new_same (And.intro @get_new_old (And.intro @get_put_same (And.intro @get_put_old (And.intro @single_one (And.intro @single_two (And.intro @single_nil (
 And.intro @single_three (And.intro @d_last (@undef_eq))))))))))))))))))))))))))))))))))))))))))))))))))))))))))))))))))))))))))))))))))))))))))))))))))))))))))))))))))))))))))))))))))))))))))))))))))))))))))))))))))))))))))
def wpR:=And.intro @d_move (And.intro @d_assign (And.intro @d_alloc (And.intro @d_box (And.intro @d_load (And.intro @d_store (And.intro @d_binOp (And.intro @d_pick (
 And.intro @d_extract (And.intro @d_makeFunc (And.intro @d_call (And.intro @d_builtin (And.intro @d_fieldAddr (And.intro @d_indexAddr (And.intro @d_unOp (And.intro @d_convert (
 And.intro @d_makeSlice (And.intro @d_buildSlice (And.intro @d_slice (And.intro @d_build (And.intro @d_field (And.intro (And.intro @d_nilCheck (And.intro @nilC_ptr (And.intro @nilC_func (And.intro @nilC_map @d_label)))) (And.intro @d_lookup (And.intro (And.intro @d_mapUpdate @d_insert) (
 And.intro @d_makeMap (And.intro @d_index (And.intro @d_put (And.intro @d_put_none (And.intro @d_nil (And.intro @d_cons (And.intro @d_guard (And.intro @d_tnil (
 And.intro @d_tcons (And.intro @d_tguard (And.intro @seqK_normal (And.intro @seqK_exit (And.intro @seqK_ret (And.intro @blockK_normal (And.intro @blockK_ret (And.intro @blockK_same (
 And.intro @blockK_exit (And.intro @d_skip (And.intro @d_region (And.intro @d_calm (And.intro @d_cond (And.intro @d_block (And.intro @d_loop (And.intro @d_scope (
 And.intro @d_rangeFunc (And.intro @d_exit (And.intro @d_ret (And.intro @retK_normal (And.intro @retK_ret (And.intro @loopK_exit (And.intro @loopK_ret (And.intro @do_ex (
 And.intro @do_ex_map (And.intro @do_ex_bind (And.intro @do_ex_if (And.intro @bq_true (And.intro @bq_false (And.intro @opd_tmp (And.intro @opd_func (And.intro @opd_global (
 And.intro @opd_const_int (And.intro @opd_const_bool (And.intro @opd_const_string (And.intro @opd_const_nilFunc (And.intro @opd_const_nilSlice (And.intro @opd_const_nilPtr (And.intro @opd_const_nilMap (And.intro @opds_nil (
 And.intro @opds_cons (And.intro @partsOf_nil (And.intro @partsOf_cons (And.intro @optOpd_none (And.intro @optOpd_some (And.intro @fget_cons (And.intro @enterFr_cons (And.intro @enterFr_nil (
 And.intro @nil_app0 (And.intro @app_nil0 (And.intro @cons_app0 (And.intro @if_true0 (And.intro @if_false0 (And.intro @bind_some0 (And.intro @map_some0 (And.intro @and_true (
 And.intro @true_and (And.intro @Nat.zero_add (And.intro @Nat.add_zero (And.intro @Nat.zero_mul (And.intro @Nat.one_mul (And.intro @Nat.mul_one (And.intro @resultsOf_cons (And.intro @resultsOf_nil (
 And.intro @resultOf_tmp (And.intro @resultOf_cell (And.intro @binop_add (And.intro @binop_sub (And.intro @binop_mul (And.intro @binop_eql (And.intro @binop_neq (And.intro @binop_lss (
 And.intro @binop_leq (And.intro @binop_gtr (And.intro @binop_geq (And.intro @band_u (And.intro @bor_u (And.intro @bxor_u (And.intro @bclr_u (And.intro @band_i (
 And.intro @bor_i (And.intro @band_neg (And.intro @shr_u (And.intro @shr_i (And.intro @shl1_u (And.intro @shl1_i (And.intro @quo_i (And.intro @quo_u (
 And.intro @rem_nn (And.intro @unary_not (And.intro @unary_neg (And.intro @wrap_i64 (And.intro @wrap_u64 (And.intro @wrap_u8 (And.intro @wrap_u16 (And.intro @wrap_u32 (
 And.intro @Int.toNat_natCast (And.intro @Int.toNat_one (And.intro @Int.toNat_zero (And.intro @builtin_len (And.intro @indexAddr_slice (And.intro @indexAddr_arr (And.intro @idxAt_nat (And.intro @fieldV_agg (
 And.intro @ld_def (And.intro @rd_eq (And.intro @asAddr_ptr (And.intro @get_zero0 (And.intro @get_succ0 (And.intro @get_arr0 (And.intro @toList0 (And.intro @cells_int (
 And.intro @cells_bool (And.intro @cells_slice (And.intro @cells_ptr (And.intro @cells_agg (And.intro @cells_func (And.intro @cells_nilFunc (And.intro @cells_map (And.intro @cells_nilPtr (
 And.intro @new_n (And.intro @new_base (And.intro @put_n (And.intro @put_base (And.intro @row_new_same (And.intro @row_new_old (And.intro @row_put_same (And.intro @row_put_old (
 And.intro @get_new_same (And.intro @get_new_old (And.intro @get_put_same (And.intro @get_put_old (And.intro @single_one (And.intro @single_two (And.intro @single_nil (And.intro @single_three (
 And.intro @d_last (@undef_eq)))))))))))))))))))))))))))))))))))))))))))))))))))))))))))))))))))))))))))))))))))))))))))))))))))))))))))))))))))))))))))))))))))))))))))))))))))))))))))))))))))))))))
end Go.Id

namespace Go.Id
theorem dx {p : Prop} (h : p := by first | omega | (simp only [new_n, put_n]; omega) | decide +kernel | ((repeat first | rw [new_n] | rw [put_n]); all_goals fail) | fail) : p := h
end Go.Id

namespace Go.Id
open Go
theorem splice_nil (cs:List Value):IH.splice cs 0 []=cs:=by simp[IH.splice]
theorem splice_zero (c v:Value) (cs vs:List Value):IH.splice (c :: cs) 0 (v :: vs)=v :: IH.splice cs 0 vs:=by simp[IH.splice]
theorem splice_succ (c:Value) (cs vs:List Value) (n:Nat):IH.splice (c :: cs) (n+1) vs=c :: IH.splice cs n vs:=by
 simp[IH.splice,show n+1+vs.length=(n+vs.length)+1 from by omega]
theorem splice_set {cs:List Value} {n:Nat} {v:Value} (h:n<cs.length):IH.splice cs n [v]=cs.set n v:=by
 simp only[IH.splice,List.length_singleton,List.singleton_append]
 exact(List.set_eq_take_append_cons_drop.trans (if_pos h)).symm
theorem splice_all {cs vs:List Value} (h:cs.length=vs.length):IH.splice cs 0 vs=vs:=by
 simp[IH.splice,h]
theorem cok_int (k:IntKind) (n:Int):cellOK (.int k n)=true:=rfl
theorem cok_bool (b:Bool):cellOK (.bool b)=true:=rfl
theorem cok_slice (a:Option Addr) (n k:Nat):cellOK (.slice a n k)=true:=rfl
theorem cok_ptr (b o:Nat):cellOK (ptr b o)=true:=rfl
theorem cok_func (f:Fn) (a b:Array Value):cellOK (.func f a b)=true:=rfl
theorem cok_map (r:Option Nat):cellOK (.map r)=true:=rfl
theorem cok_nilFunc:cellOK .nilFunc=true:=rfl
theorem cok_nilPtr:cellOK (.pointer none)=true:=rfl
theorem all_nil0 (p:Value→Bool):([]:List Value).all p=true:=rfl
theorem all_cons0 (p:Value→Bool) (v:Value) (l:List Value):(v :: l).all p=(p v && l.all p):=rfl
theorem tand0 (b:Bool):(true && b)=b:=rfl
theorem fand0 (b:Bool):(false && b)=false:=rfl
theorem andt0 (b:Bool):(b && true)=b:=by cases b<;>rfl
theorem len_nil0 {α:Type}:([]:List α).length=0:=rfl
theorem len_cons0 {α:Type} (v:α) (l:List α):(v :: l).length=l.length+1:=rfl
def stE (n:Nat) (h:IH) (k o:Nat) (vs:List Value):Option IObj→Option IH
 | some (.cells cs e none)=>if vs.length=n∧vs.all cellOK=true∧o+n≤cs.length then some (h.put k (.cells (IH.splice cs o vs) e none)) else none
 | some (.cells cs e (some f))=>if vs.length=n∧vs.all cellOK=true then h.wr (2*k) o vs else none
 | _=>none
theorem store_stE {P:Program} {t:TypeId} {n:Nat} (hT:sizeT P t=some n) (h:IH) (k o:Nat) (v:Value):store P h t (ptr (2*k) o) v=stE n h k o v.cells.toList (h.ext.get k):=by
 have h1:(2*k % 2 == 1)=false:=by simp
 have h2:2*k / 2=k:=by omega
 simp only[store,asAddr,ptr,hT,cond_eq_ite,Bool.and_eq_true,beq_iff_eq]
 rw[show v.cells.size=v.cells.toList.length from by simp]
 generalize v.cells.toList=vs
 cases hg:h.ext.get k with
 | none=>simp[stE,IH.wr,h2,hg]
 | some ob =>
  cases ob with
  | cells cs e f =>
   cases f with
   | none =>
    simp only[stE,IH.wr,h1,h2,hg,cond_eq_ite,Nat.ble_eq,Bool.false_eq_true,if_false]
    by_cases hc:vs.length=n∧vs.all cellOK=true
    ·rw[if_pos hc]
     obtain⟨rfl,hc2⟩:=hc
     by_cases hl:o+vs.length≤cs.length
     ·rw[if_pos hl,if_pos ⟨rfl,hc2,hl⟩];rfl
     ·rw[if_neg hl,if_neg fun x=>hl x.2.2]
    ·rw[if_neg hc,if_neg fun x=>hc ⟨x.1,x.2.1⟩]
   | some f=>simp[stE]
  | _=>simp[stE,IH.wr,h2,hg]
theorem stE_if (n:Nat) (h:IH) (k o:Nat) (vs cs:List Value) (e:Nat):stE n h k o vs (some (.cells cs e none))=if vs.length=n∧vs.all cellOK=true∧o+n≤cs.length then some (h.put k (.cells (IH.splice cs o vs) e none)) else none:=rfl
theorem built_sl (h:IH) {sz m:Nat} {cs:List Value} (hz:0<sz) (hl:cs.length=m*sz) (hm:0<m):SlOf (h.new (.cells cs sz none)) sz (.slice (some ⟨2*h.n,0,none⟩) m (2*m+1)) m cs:=by
 refine⟨hz,hl,.inr ⟨2*h.n,0,2*m+1,rfl,.inr ⟨by omega,by omega,cs,.inr ⟨by omega,by simp,none,?_⟩,?_,?_,by omega⟩⟩⟩
 ·rw[show 2*h.n / 2=h.n from by omega,get_new,if_pos rfl]
 ·exact row_new_same _ _ _ _ rfl
 ·rw[List.drop_zero,List.take_of_length_le (by omega)]
theorem sl_block {h:IH} {k sz n c:Nat} {cs:List Value} {f:Option Nat} (hg:h.ext.get k=some (.cells cs sz f)) (hk:k<h.n) (hz:0<sz) (hl:cs.length=n*sz) (hc:0<c) (hn:n≤c / 2):SlOf h sz (.slice (some ⟨2*k,0,none⟩) n c) n cs:=by
 refine⟨hz,hl,.inr ⟨2*k,0,c,rfl,.inr ⟨hc,hn,cs,.inr ⟨by omega,by omega,f,?_⟩,?_,?_,by omega⟩⟩⟩
 ·rw[show 2*k / 2=k from by omega,hg]
 ·rw[row_even];simp[IH.cells,hg]
 ·rw[List.drop_zero,List.take_of_length_le (by omega)]
theorem Acc.appN {h:IH} {n0 sz:Nat} {v:Value} {n:Nat} {cs:List Value} (a:Acc h n0 sz v n cs) {P:Program} {t:TypeId} {bytes:Nat} (hT:appT P t=some (sz,bytes)) {m:Nat} {new:List Value} (hm:0<m) (hl:new.length=m*sz)
  (hc:new.all cellOK=true) (hsz:(n+m)*(bytes+1)≤1099511627776) (h0:n0≤h.n) {h0':IH} (e0:Ext h0' h) (hn0:h0'.n≤n0) :
  ∃v' h',append P (h.new (.cells new sz none)) t v (.slice (some ⟨2*h.n,0,none⟩) m (2*m+1))=some (v',h')∧Acc h' n0 sz v' (n+m) (cs ++ new)∧Grow h h'∧Ext h0' h':=by
 have e1:Ext h (h.new (.cells new sz none)):=(Ext.refl h).new _
 obtain⟨v',h',b1,b2,b3,b4,b5⟩:=(a.ext e1).app hT (built_sl h a.1 hl hm) hm hc hsz (by simp;omega) (e0.trans e1) hn0
 exact⟨v',h',b1,b2,e1.grow.trans b3,b5⟩
theorem Acc.app1 {h:IH} {n0:Nat} {v:Value} {n:Nat} {cs:List Value} (a:Acc h n0 1 v n cs) {P:Program} {t:TypeId} {bytes:Nat} (hT:appT P t=some (1,bytes)) {x:Value}
  (hc:cellOK x=true) (hsz:(n+1)*(bytes+1)≤1099511627776) (h0:n0≤h.n) {h0':IH} (e0:Ext h0' h) (hn0:h0'.n≤n0) :
  ∃v' h',append P (h.new (.cells [x] 1 none)) t v (.slice (some ⟨2*h.n,0,none⟩) 1 3)=some (v',h')∧Acc h' n0 1 v' (n+1) (cs ++ [x])∧Grow h h'∧Ext h0' h' :=
 a.appN hT (m:=1) (new:=[x]) (by omega) rfl (by simp[hc]) hsz h0 e0 hn0
theorem makeSlice_eq {P:Program} {t:TypeId} {n b:Nat} {z:List Value} (hT:makeT P t=some (n,b,z)) (h:IH) (k j:IntKind) {l c:Int} (h0:0≤l) (h1:l≤c) (h2:c*(b+1)≤1099511627776) :
  makeSlice P h t (.int k l) (.int j c)=some (.slice (some ⟨2*h.n,0,none⟩) l.toNat (2*c.toNat+1),h.new (.cells (repl c.toNat z) n none)):=by
 obtain⟨l,rfl⟩:=Int.eq_ofNat_of_zero_le h0
 obtain⟨c,rfl⟩:=Int.eq_ofNat_of_zero_le (Int.le_trans h0 h1)
 unfold makeT at hT
 split at hT
 case h_2=>cases hT
 rename_i e hu
 split at hT
 case h_2=>cases hT
 rename_i zz a1 a2 a3
 simp only[cond_eq_ite,beq_iff_eq] at hT
 split at hT
 case isFalse=>cases hT
 rename_i hz
 cases hT
 have hc2:c*(b+1)≤sizeMost:=by
  have:((c*(b+1):Nat):Int)≤1099511627776:=by simpa using h2
  simp only[sizeMost];omega
 have hcm:c≤sizeMost:=Nat.le_trans (Nat.le_mul_of_pos_right c (by omega)) hc2
 have e1:natOf (.int k (l:Int)) sizeMost=some l:=natOf_nat (by omega)
 have e2:natOf (.int j (c:Int)) sizeMost=some c:=natOf_nat hcm
 have e3:(Nat.ble l c && Nat.ble (c*(b+1)) sizeMost && z.length == n)=true:=by
  simp[Nat.ble_eq,hz,hc2];omega
 simp only[makeSlice,hu,e1,e2,a1,a2,a3,e3,cond_true,Int.toNat_natCast]
theorem buildSlice_eq {P:Program} {t:TypeId} {n b:Nat} {z:List Value} (hT:makeT P t=some (n,b,z)) (h:IH) (len:Nat) (ps:List (Nat×Value)) (hl:len*n≤16777216) :
  buildSlice P h t len ps=(fillP (fun i=>some (i*n,n)) (repl len z) ps).map fun cells=>(.slice (some ⟨2*h.n,0,none⟩) len (2*len+1),h.new (.cells cells n none)):=by
 unfold makeT at hT
 split at hT
 case h_2=>cases hT
 rename_i e hu
 split at hT
 case h_2=>cases hT
 rename_i zz a1 a2 a3
 simp only[cond_eq_ite,beq_iff_eq] at hT
 split at hT
 case isFalse=>cases hT
 rename_i hz
 cases hT
 have e3:(Nat.ble (len*n) cellsMost && z.length == n)=true:=by
  simp[Nat.ble_eq,hz,cellsMost];exact hl
 simp only[buildSlice,hu,a1,a3,e3,cond_true]
 cases fillP (fun i=>some (i*n,n)) (repl len z) ps<;>rfl
theorem fillP_nil (place:Nat→Option (Nat×Nat)) (cs:List Value):fillP place cs []=some cs:=rfl
theorem fillP_cons (place:Nat→Option (Nat×Nat)) (cs:List Value) (i:Nat) (v:Value) (l:List (Nat×Value)) :
  fillP place cs ((i,v) :: l)=(place i).bind fun p=>if v.cells.toList.length=p.2∧p.1+p.2≤cs.length then fillP place (IH.splice cs p.1 v.cells.toList) l else none:=by
 simp only[fillP]
 cases place i with
 | none=>rfl
 | some p =>
  simp only[Option.bind_some,cond_eq_ite,Bool.and_eq_true,beq_iff_eq,Nat.ble_eq]
  simp
theorem repl_zero (z:List Value):repl 0 z = []:=rfl
theorem repl_succ (n:Nat) (z:List Value):repl (n+1) z=z ++ repl n z:=rfl
theorem repl_one (n:Nat) (v:Value):repl n [v]=List.replicate n v:=by
 induction n with
 | zero=>rfl
 | succ n ih=>rw[repl_succ,ih,List.replicate_succ];rfl
theorem buildV_eq {P:Program} {t:TypeId} {z:List Value} (hz:zeroCellsT P t=some z) (ha:allSized P t=true) (ps:List (Nat×Value)):buildV P t ps=(fillP (placeOf P t) z ps).map fun cs=>.agg cs.toArray:=by
 simp[buildV,hz,ha]
theorem bq_cut {P:Program} {fn:FuncId} {nt:Nat} {rd:Option Nat} {a c:Code} {fr:Fr} {h:IH} {K:Fr→IH→Prop} {Q:IExit→Fr→IH→Prop} {b:Bool} (R:Fr→IH→Prop)
  (h1:b=true→Do (wpC P fn nt rd a fr h) (seqK (fun fr h=>Pst (R fr h) nx) Q) nx) (h2:b=false→Do (wpC P fn nt rd c fr h) (seqK (fun fr h=>Pst (R fr h) nx) Q) nx) (k : ∀fr h,R fr h→K fr h) :
  Bq b (Do (wpC P fn nt rd a fr h) (seqK K Q) nx,Do (wpC P fn nt rd c fr h) (seqK K Q) nx) nx :=
 bq_intro (fun hb=>cut R (h1 hb) k) fun hb=>cut R (h2 hb) k
theorem steadyAt_of {P:Program} {fr:Fr} {o:Op} {h h' x y:IH} {v:Value} (h1:iop P fr o h=some (v,x)) (h2:iop P fr o h'=some (v,y)):steadyAt P fr o h h'=true:=by
 simp[steadyAt,h1,h2,eqV_refl]
theorem steady_load {P:Program} {fr:Fr} {t:TypeId} {a:Operand} {av v:Value} {h h':IH} (ha:opd fr a=some av) (h1:load P h t av=some v) (h2:load P h' t av=some v):steadyAt P fr (.load t a) h h'=true :=
 steadyAt_of (by simp[iop,ha,h1];exact⟨rfl,rfl⟩) (by simp[iop,ha,h2];rfl)
theorem pureRun_seq (P:Program) {α β:Type} (f:α→Sem β) : ∀s:Sem α,pureRun P (s.bind f)=(pureRun P s).bind fun a=>pureRun P (f a)
 | .pure a=>rfl
 | .program k=>pureRun_seq P f (k P)
 | .load _ _ _=>rfl
 | .store _ _ _ _=>rfl
 | .new _ _=>rfl
 | .shape _ _=>rfl
 | .freeze _ _ _=>rfl
 | .frozen _ _=>rfl
 | .getObj _ _=>rfl
 | .setObj _ _ _=>rfl
 | .choose _ _=>rfl
 | .sys _ _=>rfl
 | .mark _ _=>rfl
 | .halt _=>rfl
theorem equal_bool {P:Program} {t:TypeId} (hT:P.underlying t=some .bool) (a b:Bool):pureRun P (Op.equal t (.bool a) (.bool b))=some (a == b):=by
 show pureRun P (Sem.bind (underlying t) _)=_
 rw[pureRun_underlying hT];rfl
theorem binop_eql_bool {P:Program} {t:TypeId} (hT:P.underlying t=some .bool) (ox oy:Operand) (a b:Bool):binop P .eql t ox oy (.bool a) (.bool b)=some (.bool (a == b)):=by
 refine binop_of P t ox oy rfl rfl rfl ?_
 show pureRun P (Sem.bind (Op.equal t (.bool a) (.bool b)) fun r=>Sem.pure (Value.bool r))=_
 rw[pureRun_seq,equal_bool hT];rfl
theorem binop_neq_bool {P:Program} {t:TypeId} (hT:P.underlying t=some .bool) (ox oy:Operand) (a b:Bool):binop P .neq t ox oy (.bool a) (.bool b)=some (.bool (!(a == b))):=by
 refine binop_of P t ox oy rfl rfl rfl ?_
 show pureRun P (Sem.bind (Op.equal t (.bool a) (.bool b)) fun r=>Sem.pure (Value.bool (!r)))=_
 rw[pureRun_seq,equal_bool hT];rfl
theorem shl_nat (P:Program) (t:TypeId) (ox oy:Operand) {j:IntKind} {a b:Nat} (h:a*2 ^ b<18446744073709551616) (hb:b≤64):binop P .shl t ox oy (.int .u64 (a:Int)) (.int j (b:Int))=some (.int .u64 ((a*2 ^ b:Nat):Int)):=by
 rw[binop_shl P t ox oy (by omega)]
 show some (Value.int .u64 (IntKind.u64.wrap ((a:Int)*2 ^ min b 64)))=_
 rw[Nat.min_eq_left hb,show(a:Int)*2 ^ b=((a*2 ^ b:Nat):Int) from by simp,wrap_nat_u64 h]
theorem dec_lt_t {a b:Int} (h:a<b):decide (a<b)=true:=by simpa using h
theorem dec_lt_f {a b:Int} (h : ¬a<b):decide (a<b)=false:=by simpa using h
theorem dec_le_t {a b:Int} (h:a≤b):decide (a≤b)=true:=by simpa using h
theorem dec_le_f {a b:Int} (h : ¬a≤b):decide (a≤b)=false:=by simpa using h
theorem beq_int_t {a b:Int} (h:a=b):(a == b)=true:=by simpa using h
theorem beq_int_f {a b:Int} (h : ¬a=b):(a == b)=false:=by simpa using h
theorem bne_int_t {a b:Int} (h : ¬a=b):(a != b)=true:=by simpa using h
theorem bne_int_f {a b:Int} (h:a=b):(a != b)=false:=by simpa using h
theorem beq_true0 (b:Bool):(b == true)=b:=by cases b<;>rfl
theorem beq_false0 (b:Bool):(b == false) = !b:=by cases b<;>rfl
theorem not_true0:(!true)=false:=rfl
theorem not_false0:(!false)=true:=rfl
theorem not_not0 (b:Bool):(!(!b))=b:=by cases b<;>rfl
theorem eq_self0 {α:Type} (a:α):(a=a)=True:=by simp
def wpT:=And.intro @fillP_nil (And.intro @fillP_cons (And.intro @splice_nil (And.intro @splice_zero (And.intro @splice_succ (And.intro @repl_zero (And.intro @repl_succ (And.intro @stE_if (
 And.intro @tand0 (And.intro @fand0 (And.intro @andt0 (And.intro @cok_int (And.intro @cok_bool (And.intro @cok_slice (And.intro @cok_ptr (And.intro @cok_func (
 And.intro @cok_map (And.intro @cok_nilFunc (And.intro @cok_nilPtr (And.intro @all_nil0 (And.intro @all_cons0 (And.intro @len_nil0 (And.intro @len_cons0 (And.intro @eq_self0 (
 And.intro @dec_lt_t (And.intro @dec_lt_f (And.intro @dec_le_t (And.intro @dec_le_f (And.intro @beq_int_t (And.intro @beq_int_f (And.intro @bne_int_t (And.intro @bne_int_f (
 And.intro @beq_true0 (And.intro @beq_false0 (And.intro @not_true0 (And.intro @not_false0 (And.intro @not_not0 (And.intro @true_and (@and_true))))))))))))))))))))))))))))))))))))))
end Go.Id

namespace Go.Id
open Go
section
variable {P:Program}
theorem pr_bind {α β:Type} {s:Sem α} {f:α→Sem β} {a:α} (h:pureRun P s=some a):pureRun P (s >>= f)=pureRun P (f a):=by
 show pureRun P (s.bind f)=_
 rw[pureRun_seq,h];rfl
theorem pr_pure {α:Type} (a:α):pureRun P (pure a:Sem α)=some a:=rfl
theorem pr_underlying {t:TypeId} {d:TypeDesc} (h:P.underlying t=some d):pureRun P (underlying t)=some d:=by
 have e:pureRun P (underlying t)=pureRun P ((match P.underlying t with|some d=>(pure d:Sem TypeDesc)|none=>stuck "no such type")):=rfl
 rw[e,h];rfl
theorem pr_sizeOf {e:TypeId} {n:Nat} (h:sizeT P e=some n):pureRun P (sizeOf e)=some n:=by
 simp only[sizeT,Option.map_eq_some_iff] at h
 obtain⟨i,hi,rfl⟩:=h
 have e2:pureRun P (sizeOf e)=pureRun P ((match P.info? e with|some i=>(pure i:Sem TypeInfo)|none=>stuck "no such type").bind fun i=>pure i.size):=rfl
 rw[e2,hi];rfl
theorem pr_part {e:TypeId} {k:IntKind} (he:P.underlying e=some (.int k)) {cs:Array Value} {off:Nat} {v:Value} (hv:cs[off]?=some v):pureRun P (part e cs off)=some v:=by
 unfold part
 have h1:pureRun P (isAgg e)=some false:=by
  unfold isAgg
  rw[pr_bind (pr_underlying he)];rfl
 rw[pr_bind h1]
 simp only[Bool.false_eq_true,if_false,hv]
 rfl
theorem pr_equal_int {e:TypeId} {k j:IntKind} (he:P.underlying e=some (.int j)) (d:Nat) (a b:Int):pureRun P (Op.equalIn (d+1) e (.int k a) (.int k b))=some (a == b):=by
 unfold Op.equalIn
 rw[pr_bind (pr_underlying he)]
 simp only[if_true]
 rfl
def eqZip (xs ys:List Int) (is:List Nat):Bool:=is.all fun i=>xs[i]? == ys[i]?
theorem pr_items {n:Nat} {xs ys:List Int} (body:Nat→Option Bool×Unit→Sem (ForInStep (Option Bool×Unit))) (g:Option Bool×Unit→Sem Bool)
  (hb : ∀i,i<n → ∀r,pureRun P (body i r)=some (if (xs[i]? == ys[i]?)=true then .yield (none,()) else .done (some false,()))) : ∀is:List Nat,(∀i∈is,i<n) →
  pureRun P (forIn is ((none,()):Option Bool×Unit) body >>= g)=pureRun P (g (if eqZip xs ys is=true then (none,()) else (some false,()))):=by
 have assoc : ∀(s:Sem (ForInStep (Option Bool×Unit))) (g1:ForInStep (Option Bool×Unit)→Sem (Option Bool×Unit)) (f2:Option Bool×Unit→Sem Bool),pureRun P ((s >>= g1) >>= f2)=pureRun P (s >>= fun x=>g1 x >>= f2):=fun s g1 f2=>by
  show pureRun P ((s.bind g1).bind f2)=pureRun P (s.bind fun x=>(g1 x).bind f2)
  rw[pureRun_seq,pureRun_seq,pureRun_seq]
  cases pureRun P s with
  | none=>rfl
  | some a=>simp only[Option.bind_some];rw[pureRun_seq]
 intro is
 induction is with
 | nil=>intro _;rfl
 | cons i is ih =>
  intro hi
  have h1:=hb i (hi i (by simp)) (none,())
  rw[List.forIn_cons,assoc,pr_bind h1]
  have hz:eqZip xs ys (i :: is)=((xs[i]? == ys[i]?) && eqZip xs ys is):=rfl
  rw[hz]
  cases hc:(xs[i]? == ys[i]?) with
  | true =>
   rw[Bool.true_and,←ih fun j hj=>hi j (by simp[hj])]
   rfl
  | false =>
   rw[Bool.false_and]
   rfl
theorem pr_equal_arr {t e:TypeId} {n:Nat} {k:IntKind} (hT:P.underlying t=some (.array n e)) (he:P.underlying e=some (.int k)) (hs:sizeT P e=some 1) (d:Nat) (xs ys:List Int) (hx:xs.length=n) (hy:ys.length=n) :
  pureRun P (Op.equalIn (d+2) t (.agg (xs.map (.int k)).toArray) (.agg (ys.map (.int k)).toArray))=some (decide (xs=ys)):=by
 unfold Op.equalIn
 rw[pr_bind (pr_underlying hT)]
 simp only
 rw[pr_bind (pr_sizeOf hs)]
 simp only[Std.Legacy.Range.forIn_eq_forIn_range',Std.Legacy.Range.size,Nat.sub_zero,Nat.add_one_sub_one,Nat.div_one]
 rw[pr_items (n:=n) (xs:=xs) (ys:=ys) _ _ (fun i hin r=>?_) (List.range' 0 n) (fun i hi=>?_)]
 ·have hz:eqZip xs ys (List.range' 0 n)=decide (xs=ys):=by
   rw[Bool.eq_iff_iff]
   simp only[eqZip,List.all_eq_true,List.mem_range'_1,beq_iff_eq,decide_eq_true_eq]
   constructor
   ·intro h
    apply List.ext_getElem?
    intro i
    by_cases hi:i<n
    ·exact h i ⟨Nat.zero_le _,by omega⟩
    ·rw[List.getElem?_eq_none (by omega),List.getElem?_eq_none (by omega)]
   ·rintro rfl i _;rfl
  rw[hz]
  by_cases h:xs=ys
  ·simp[h];rfl
  ·simp[h];rfl
 ·have hxi:(xs.map (Value.int k)).toArray[i*1]?=some (.int k (xs[i]'(by omega))):=by simp[hx,hin]
  have hyi:(ys.map (Value.int k)).toArray[i*1]?=some (.int k (ys[i]'(by omega))):=by simp[hy,hin]
  rw[pr_bind (pr_part he hxi),pr_bind (pr_part he hyi),pr_bind (pr_equal_int he d _ _)]
  rw[List.getElem?_eq_getElem (show i<xs.length by omega),List.getElem?_eq_getElem (show i<ys.length by omega)]
  rw[show(some (xs[i]'(by omega)) == some (ys[i]'(by omega)))=(xs[i]'(by omega) == ys[i]'(by omega)) from rfl]
  cases(xs[i]'(by omega) == ys[i]'(by omega))<;>rfl
 ·rw[List.mem_range'_1] at hi;omega
theorem binop_eql_arr {t e:TypeId} {n:Nat} {k:IntKind} (hT:P.underlying t=some (.array n e)) (he:P.underlying e=some (.int k)) (hs:sizeT P e=some 1) (hg:P.eqGuardType P.depth t=false) (ox oy:Operand) (xs ys:List Int) (hx:xs.length=n) (hy:ys.length=n) :
  binop P .eql t ox oy (.agg (xs.map (.int k)).toArray) (.agg (ys.map (.int k)).toArray)=some (.bool (decide (xs=ys))):=by
 have hp : ∀l:List Int,plain (.agg (l.map (Value.int k)).toArray)=true:=by intro l;simp[plain,scal]
 refine binop_of P t ox oy (hp _) (hp _) rfl ?_
 have h1:pureRun P (eqGuard .eql t ox oy (.agg (xs.map (.int k)).toArray) (.agg (ys.map (.int k)).toArray))=some ():=by
  show pureRun P (if (!P.eqGuardType P.depth t)=true then _ else _)=_
  rw[hg];rfl
 rw[pr_bind h1]
 show pureRun P (Op.equal t _ _ >>= fun r=>pure (Value.bool r))=_
 have h2:pureRun P (Op.equal t (.agg (xs.map (.int k)).toArray) (.agg (ys.map (.int k)).toArray))=some (decide (xs=ys)):=pr_equal_arr hT he hs 9998 xs ys hx hy
 rw[pr_bind h2];rfl
end
end Go.Id

namespace Go.Id
open Go
def SlNow (h:IH) (sz:Nat) (v:Value) (n:Nat) (cs:List Value):Prop :=
 0<sz∧cs.length=n*sz∧((v=.slice none 0 0∧n=0) ∨ ∃b o k,v=.slice (some ⟨b,o,none⟩) n k∧(n=0 ∨ ∃row,h.row b=some row∧(row.drop o).take (n*sz)=cs∧o+n*sz≤row.length))
theorem SlOf.now {h:IH} {sz:Nat} {v:Value} {n:Nat} {cs:List Value} (s:SlOf h sz v n cs):SlNow h sz v n cs:=by
 obtain⟨hz,hl,s|⟨b,o,k,rfl,s⟩⟩:=s
 ·exact⟨hz,hl,.inl s⟩
 ·refine⟨hz,hl,.inr ⟨b,o,k,rfl,?_⟩⟩
  rcases s with⟨h1,_⟩|⟨_,_,row,_,h1,h2,h3⟩
  ·exact .inl h1
  ·exact .inr ⟨row,h1,h2,h3⟩
theorem SlNow.form {h:IH} {sz:Nat} {v:Value} {n:Nat} {cs:List Value} (s:SlNow h sz v n cs) : ∃a k,v=.slice a n k:=by
 obtain⟨hz,hl,⟨rfl,rfl⟩|⟨b,o,k,rfl,s⟩⟩:=s
 ·exact⟨_,_,rfl⟩
 ·exact⟨_,_,rfl⟩
theorem SlNow.len {h:IH} {sz:Nat} {v:Value} {n:Nat} {cs:List Value} (s:SlNow h sz v n cs) {P:Program} {t:TypeId} (hT:isSliceT P (some t)=true) (h':IH):lenB P h' t v=some (.int .i64 n):=by
 obtain⟨a,k,rfl⟩:=s.form
 exact lenB_slice hT _ _ _ _
theorem SlNow.idx {h:IH} {sz:Nat} {v:Value} {n:Nat} {cs:List Value} (s:SlNow h sz v n cs) {P:Program} {t:TypeId} (hT:elemSize P t=some sz) {k:IntKind} {j:Nat} (hj:j<n):indexAddr P t v (.int k j)=some (elemAddr v (j*sz)):=by
 obtain⟨hz,hl,⟨rfl,rfl⟩|⟨b,o,k,rfl,s⟩⟩:=s
 ·omega
 ·rw[indexAddr_slice,hT];simp[elemAddr,idxAt_nat hj]
theorem SlNow.ld {h:IH} {sz:Nat} {v:Value} {n:Nat} {cs:List Value} (s:SlNow h sz v n cs) {c:Nat} (hc:c<cs.length) {P:Program} {t:TypeId} (hT:isAggT P t=some false):load P h t (elemAddr v c)=cs[c]?:=by
 obtain⟨hz,hl,⟨rfl,rfl⟩|⟨b,o,k,rfl,s'⟩⟩:=s
 ·simp at hl;simp[hl] at hc
 ·obtain rfl|⟨row,h1,h2,h3⟩:=s'
  ·simp at hl;simp[hl] at hc
  ·rw[elemAddr,load_scal hT,ld_of h1,←h2,List.getElem?_take]
   rw[if_pos (by omega),List.getElem?_drop]
theorem SlNow.ldAgg {h:IH} {sz:Nat} {v:Value} {n:Nat} {cs:List Value} (s:SlNow h sz v n cs) {c m:Nat} (hc:c+m≤cs.length) (hm:0<m) {P:Program} {t:TypeId} (hT:isAggT P t=some true) (hS:sizeT P t=some m) :
  load P h t (elemAddr v c)=some (.agg ((cs.drop c).take m).toArray):=by
 obtain⟨hz,hl,⟨rfl,rfl⟩|⟨b,o,k,rfl,s'⟩⟩:=s
 ·simp at hl;simp[hl] at hc;omega
 ·obtain rfl|⟨row,h1,h2,h3⟩:=s'
  ·simp at hl;simp[hl] at hc;omega
  ·rw[elemAddr,load_agg hT hS,rd_of h1,if_pos (by omega),←h2]
   simp only[Option.map_some,List.drop_take,List.take_take,List.drop_drop]
   rw[Nat.min_eq_left (by omega)]
theorem slice_arr {P:Program} {t e:TypeId} {n sz:Nat} (hu:P.underlying t=some (.array n e)) (hs:sizeT P e=some sz) (hn:0<n) (h:IH) (b o:Nat):sliceOp P h t (ptr b o) none none none=some (.slice (some ⟨b,o,none⟩) n (2*n+1)):=by
 have h1:(2*n+1) / 2=n:=by omega
 have h2:(2*n+1 == 0)=false:=by simp
 have h3:(0 == n)=false:=by simp;omega
 have h4:((2*n+1) % 2 == 1)=true:=by simp
 simp only[sliceOp,hu,hs,asAddr,ptr,resliced,boundsOf,hiOf,loOf,h1,h2,h3,h4,cond_true,cond_false,Bool.true_or]
 simp
theorem arr_now {h:IH} {b o n sz k:Nat} {row cs:List Value} (hr:h.row b=some row) (hz:0<sz) (hl:cs.length=n*sz) (h1:(row.drop o).take (n*sz)=cs) (h2:o+n*sz≤row.length):SlNow h sz (.slice (some ⟨b,o,none⟩) n k) n cs :=
 ⟨hz,hl,.inr ⟨b,o,k,rfl,.inr ⟨row,hr,h1,h2⟩⟩⟩
theorem nil_eq_some {P:Program} {t e:TypeId} (hu:P.underlying t=some (.slice e)) (ox oy:Operand) (a:Addr) (n k:Nat):binop P .eql t ox oy (.slice (some a) n k) (.slice none 0 0)=some (.bool false):=by
 have h1:plain (.slice (some a) n k)=false:=rfl
 simp only[binop,h1,Bool.false_and,cond_false,nilEq,hu,nilEqV,Option.map_some]
theorem append_zero {P:Program} {t:TypeId} {sz bytes:Nat} (hT:appT P t=some (sz,bytes)) (h:IH) {x:Value} {m:Nat} {new:List Value} (sx:SlNow h sz x m new) (hm:0<m) (hc:new.all cellOK=true) (hsz:m*(bytes+1)≤1099511627776) (b o:Nat) :
  append P h t (.slice (some ⟨b,o,none⟩) 0 1) x=some (.slice (some ⟨2*h.n,0,none⟩) m (2*m),h.new (.cells new sz none)):=by
 unfold appT at hT
 split at hT
 case h_2=>cases hT
 rename_i e hu
 split at hT
 case h_2=>cases hT
 rename_i zs h1 h2 h3
 simp only[cond_eq_ite] at hT
 split at hT
 case isTrue=>cases hT
 rename_i hbad
 cases hT
 have hbad':(sz == 0 || (!(Nat.ble bytes 65536) || !(zs.length == sz)))=false:=by simpa using hbad
 obtain⟨hz,hl,⟨rfl,rfl⟩|⟨b2,o2,k2,rfl,rfl|⟨row,a1,a2,a3⟩⟩⟩:=sx
 ·omega
 ·omega
 have hms : ¬m*sz=0:=by
  have:0<m*sz:=Nat.mul_pos hm hz
  omega
 have hmne:(m == 0)=false:=by simp;omega
 have hfirst:firstOf h sz m (.slice (some ⟨b2,o2,none⟩) m k2)=some new:=by
  simp only[firstOf,cond_eq_ite,Nat.ble_eq,Nat.le_refl,if_true,beq_iff_eq,if_neg hms]
  rw[rd_of a1,if_pos a3,a2]
 have hble:Nat.ble (m*(bytes+1)) sizeMost=true:=by rw[Nat.ble_eq];exact hsz
 have hcap:Nat.ble m (1 / 2)=false:=by
  rw[Bool.eq_false_iff];intro hh;rw[Nat.ble_eq] at hh;omega
 have hodd:(1 % 2 == 1)=true:=rfl
 have hfirst0:firstOf h sz 0 (.slice (some ⟨b,o,none⟩) 0 1)=some []:=by
  simp[firstOf];rfl
 simp only[Id.append,hu,h1,h2,h3,lenOf,hmne,hbad',hfirst,hc,hble,hcap,hodd,hfirst0,cond_true,cond_false,Bool.not_true,List.nil_append,Nat.zero_add]
theorem copy_eq {P:Program} {t e:TypeId} {sz:Nat} (hu:P.underlying t=some (.slice e)) (hS:sizeT P e=some sz) {h:IH} {k o dn c:Nat} {cs:List Value} {e2:Nat} (hg:h.ext.get k=some (.cells cs e2 none)) {s:Value} {sn:Nat} {ss:List Value} (hs:SlNow h sz s sn ss) (hc:ss.all cellOK=true)
  (hpos:0<min sn dn) (hl:o+min sn dn*sz≤cs.length) (ts:Array TypeId) (ht:ts[0]?=some t) :
  builtin P h .copy ts [.slice (some ⟨2*k,o,none⟩) dn c,s]=some (.int .i64 ((min sn dn:Nat):Int),h.put k (.cells (IH.splice cs o (ss.take (min sn dn*sz))) e2 none)):=by
 obtain⟨hz,hln,⟨rfl,rfl⟩|⟨b2,o2,k2,rfl,rfl|⟨row,a1,a2,a3⟩⟩⟩:=hs
 ·simp at hpos
 ·simp at hpos
 have hm:Nat.min sn dn=min sn dn:=rfl
 generalize hmm:min sn dn=m at *
 have hmn:m≤sn:=by omega
 have hms : ¬m*sz=0:=by
  have:0<m*sz:=Nat.mul_pos hpos hz
  omega
 have hmle:m*sz≤sn*sz:=Nat.mul_le_mul_right _ hmn
 have hrd:h.rd b2 o2 (m*sz)=some (ss.take (m*sz)):=by
  have hle:o2+m*sz≤row.length:=by omega
  rw[rd_of a1,←a2,List.take_take,Nat.min_eq_left hmle]
  exact if_pos hle
 have hfirst:firstOf h sz m (.slice (some ⟨b2,o2,none⟩) sn k2)=some (ss.take (m*sz)):=by
  have hb:Nat.ble m sn=true:=by rw[Nat.ble_eq];exact hmn
  simp only[firstOf,hb,cond_eq_ite,beq_iff_eq,if_neg hms,hrd,if_true]
 have hlen:(ss.take (m*sz)).length=m*sz:=by rw[List.length_take];omega
 have hne:(ss.take (m*sz)).isEmpty=false:=by
  cases hx:ss.take (m*sz) with
  | nil=>rw[hx] at hlen;simp at hlen;omega
  | cons a b=>rfl
 have hc2:(ss.take (m*sz)).all cellOK=true:=by
  rw[List.all_eq_true] at hc ⊢
  intro x hx;exact hc x (List.mem_of_mem_take hx)
 have h1:(2*k % 2 == 1)=false:=by simp
 have h2:2*k / 2=k:=by omega
 have h3:Nat.ble (o+(ss.take (m*sz)).length) cs.length=true:=by rw[Nat.ble_eq,hlen];exact hl
 simp only[builtin,ht,copyOp,hu,lenOf,hS,hm,hfirst,hne,hc2,IH.wr,h1,h2,hg,h3,cond_true,cond_false,Bool.not_true,Option.map_some]
 rfl
theorem acc_new {h:IH} {sz m:Nat} {cs:List Value} (hz:0<sz) (hl:cs.length=m*sz) (hm:0<m):Acc (h.new (.cells cs sz none)) h.n sz (.slice (some ⟨2*h.n,0,none⟩) m (2*m)) m cs :=
 ⟨hz,hl,.inr ⟨h.n,none,rfl,hm,Nat.le_refl _,by simp,get_new_same _ _ rfl,trivial⟩⟩
theorem Acc.from {h:IH} {n0 n1 sz:Nat} {v:Value} {n:Nat} {cs:List Value} (a:Acc h n1 sz v n cs) (hn:n0≤n1):Acc h n0 sz v n cs:=by
 obtain⟨hz,hl,a|⟨k,fam,rfl,hn2,h1,h2,h3,h4⟩⟩:=a
 ·exact⟨hz,hl,.inl a⟩
 ·refine⟨hz,hl,.inr ⟨k,fam,rfl,hn2,by omega,h2,h3,?_⟩⟩
  cases fam with
  | none=>trivial
  | some f =>
   obtain⟨a1,a2,rest,a3,a4⟩:=h4
   exact⟨by omega,a2,rest,a3,fun j hj=>by have:=a4 j hj;omega⟩
end Go.Id

namespace Go.Id
open Go
abbrev MapL:=List (Value×Value)
noncomputable def asc:List (Value×Value)→Value→Option Value
 | [],_=>none
 | e :: l,k=>@ite _ (e.1=k) (Classical.propDecidable _) (some e.2) (asc l k)
noncomputable def place:List (Value×Value)→Value→Option Nat
 | [],_=>none
 | e :: l,k=>@ite _ (e.1=k) (Classical.propDecidable _) (some 0) ((place l k).map (· + 1))
noncomputable def upd (l:MapL) (k v:Value):MapL:=match place l k with
 | none=>l ++ [(k,v)]
 | some i=>l.set i (k,v)
section
variable {P:Program}
end
def busyL (r:ILoop):ILoop:={ r with state:=.busy }
theorem get_loop {h:IH} {k:Nat} {r:ILoop} (hg:h.ext.get k=some (.loop r)):loopOf h k=some r:=by simp[loopOf,hg]
structure Mem (m:Nat) (h h':IH):Prop where
 n:h.n≤h'.n
 base:h'.base=h.base
 get : ∀k,k<h.n→k≠m→h'.ext.get k=h.ext.get k
 fams : ∀f,f<h.n→h'.fams.get f=h.fams.get f
theorem Ext.mem {h h':IH} (e:Ext h h') (m:Nat):Mem m h h':=⟨e.n,e.base,fun k hk _=>e.get k hk,e.fams⟩
theorem Mem.refl (m:Nat) (h:IH):Mem m h h:=(Ext.refl h).mem m
theorem Mem.trans {m:Nat} {a b c:IH} (x:Mem m a b) (y:Mem m b c):Mem m a c :=
 ⟨Nat.le_trans x.n y.n,y.base.trans x.base,fun k hk hm=>(y.get k (Nat.lt_of_lt_of_le hk x.n) hm).trans (x.get k hk hm),fun f hf=>(y.fams f (Nat.lt_of_lt_of_le hf x.n)).trans (x.fams f hf)⟩
theorem Mem.ext {m:Nat} {a h h':IH} (e:Ext a h) (hm:a.n≤m) (x:Mem m h h'):Ext a h' :=
 ⟨Nat.le_trans e.n x.n,x.base.trans e.base,fun k hk=>(x.get k (Nat.lt_of_lt_of_le hk e.n) (by omega)).trans (e.get k hk),fun f hf=>(x.fams f (Nat.lt_of_lt_of_le hf e.n)).trans (e.fams f hf)⟩
theorem Mem.new {m:Nat} {a b:IH} (x:Mem m a b) (o:IObj):Mem m a (b.new o) :=
 ⟨Nat.le_trans x.n (Nat.le_succ _),x.base,fun k hk hm=>by rw[get_new,if_neg (by have:=x.n;omega)];exact x.get k hk hm,x.fams⟩
theorem Mem.put {m:Nat} {a b:IH} (x:Mem m a b) {k:Nat} (hk:a.n≤k∨k=m) (o:IObj):Mem m a (b.put k o) :=
 ⟨x.n,x.base,fun j hj hm=>by rw[get_put,if_neg (by omega)];exact x.get j hj hm,x.fams⟩
theorem Mem.cells {m:Nat} {a b:IH} (x:Mem m a b) {k:Nat} (hk:k<a.n) (hm:k≠m):b.cells k=a.cells k:=by simp[IH.cells,x.get k hk hm]
theorem Mem.row {m:Nat} {a b:IH} (x:Mem m a b) {i:Nat} (hi:i % 2=1∨(i<2*a.n∧i / 2≠m)):b.row i=a.row i:=by
 simp only[IH.row,x.base,cond_eq_ite,beq_iff_eq]
 by_cases h1:i % 2=1
 ·rw[if_pos h1,if_pos h1]
 ·rw[if_neg h1,if_neg h1,x.get _ (by omega) (by omega)]
end Go.Id

namespace Go.Id
open Go
theorem Acc.set {h:IH} {n0:Nat} {v:Value} {n:Nat} {cs:List Value} (a:Acc h n0 1 v n cs) {P:Program} {t:TypeId} (hT:sizeT P t=some 1) {i:Nat} (hi:i<n) {x:Value} (hx:x.cells = #[x]) (hc:cellOK x=true) {h0':IH} (e0:Ext h0' h) (hn0:h0'.n≤n0) :
  ∃h',store P h t (elemAddr v i) x=some h'∧Acc h' n0 1 v n (cs.set i x)∧Ext h0' h'∧h'.n=h.n:=by
 obtain⟨hz,hl,⟨rfl,rfl⟩|⟨k,fam,rfl,hn,h1,h2,h3,h4⟩⟩:=a
 ·omega
 ·have hsp:IH.splice cs i [x]=cs.set i x:=splice_set (by omega)
  have k2:2*k / 2=k:=by omega
  have k1:(2*k % 2 == 1)=false:=by simp
  have hst:store P h t (elemAddr (.slice (some ⟨2*k,0,none⟩) n (2*n)) i) x=h.wr (2*k) i [x]:=by
   simp only[elemAddr,Nat.zero_add,store,asAddr,ptr,hT,hx]
   simp[hc]
  have hle:Nat.ble (i + [x].length) cs.length=true:=by rw[Nat.ble_eq];simp;omega
  rw[hst]
  cases fam with
  | none =>
   refine⟨h.put k (.cells (cs.set i x) 1 none),?_,⟨hz,by simpa using hl,.inr ⟨k,none,rfl,hn,h1,h2,get_put_same _ _ rfl,trivial⟩⟩,e0.put (by omega) _,rfl⟩
   simp only[IH.wr,k1,k2,h3,hle,cond_true,cond_false,hsp];rfl
  | some f =>
   obtain⟨a1,a2,rest,a3,a4⟩:=h4
   refine⟨{ h with ext:=(IH.killAll h.ext (((k :: rest).filter (· != k)))).set k (.cells (cs.set i x) 1 none) },?_,⟨hz,by simpa using hl,.inr ⟨k,none,rfl,hn,h1,h2,?_,trivial⟩⟩,⟨e0.n,e0.base,fun j hj=>?_,e0.fams⟩,rfl⟩
   ·simp only[IH.wr,k1,k2,h3,hle,cond_true,cond_false,hsp,a3]
   ·simp[Tr.get_set]
   ·have hjk:j≠k:=by omega
    rw[Tr.get_set,if_neg hjk,get_killAll,if_neg]
    ·exact e0.get j hj
    ·intro hm
     simp only[List.mem_filter,List.mem_cons,bne_iff_ne,ne_eq] at hm
     rcases hm with⟨rfl|hm,hne⟩
     ·exact hne rfl
     ·have:=a4 j hm;omega
end Go.Id

namespace Go.Id
open Go
theorem wv_carry {P:Program} {f:FuncId} {fn:Func} {args:List Value} {v:Value} {h:IH} {K:Value→IH→Prop} (hf:P.funcs[f]?=some fn) (hb:fn.body=none) (hc:carryI fn.name args=some v) (k:K v h):WV P (.func (.func f) #[] #[]) args h K:=by
 refine⟨(v,h),⟨1,fun n hn=>?_⟩,k⟩
 obtain⟨n,rfl⟩ : ∃m,n=m+1:=⟨n - 1,by omega⟩
 simp only[callV,callFn,show(E0 P).intr f=none from rfl,show(E0 P).P=P from rfl,hf,hb,List.append_nil,List.nil_append,hc,Option.map_some]
theorem carry_add {n:String} (hn:n = "math/bits.Add64") (x y:Nat) {c:Nat} (hc:c≤1):carryI n [.int .u64 (x:Int),.int .u64 (y:Int),.int .u64 (c:Int)]=some (.tuple #[.int .u64 ((x+y+c) % 18446744073709551616:Nat),.int .u64 ((x+y+c) / 18446744073709551616:Nat)]):=by
 have h1:Nat.ble c 1=true:=by rw[Nat.ble_eq];exact hc
 subst hn
 show(bif Nat.ble c 1 then _ else none)=_
 rw[h1];rfl
theorem carry_sub {n:String} (hn:n = "math/bits.Sub64") (x y:Nat) {c:Nat} (hc:c≤1):carryI n [.int .u64 (x:Int),.int .u64 (y:Int),.int .u64 (c:Int)]=some (.tuple #[.int .u64 ((x+18446744073709551616 - y - c) % 18446744073709551616:Nat),.int .u64 ((bif Nat.blt x (y+c) then 1 else 0:Nat))]):=by
 have h1:Nat.ble c 1=true:=by rw[Nat.ble_eq];exact hc
 subst hn
 show(bif Nat.ble c 1 then _ else none)=_
 rw[h1];rfl
theorem WV.and {P:Program} {fv:Value} {vs:List Value} {h:IH} {K L:Value→IH→Prop} (a:WV P fv vs h K) (b:WV P fv vs h L):WV P fv vs h fun v h'=>K v h'∧L v h':=by
 obtain⟨x,⟨N,hN⟩,kx⟩:=a
 obtain⟨y,⟨M,hM⟩,ky⟩:=b
 have h1:=hN (max N M) (Nat.le_max_left _ _)
 have h2:=hM (max N M) (Nat.le_max_right _ _)
 rw[h1] at h2
 cases h2
 exact⟨x,⟨N,hN⟩,kx,ky⟩
def blockOf:Value→Option Nat
 | .slice (some a) _ _=>some a.block
 | _=>none
theorem resliced_block {size:Nat} {b:Bool} {x r:Value} {lo hi mx:Option Value} (h:resliced size b x lo hi mx=some r):blockOf r=blockOf x:=by
 unfold resliced at h
 split at h
 ·simp only[cond_eq_ite] at h
  split at h
  ·split at h
   ·cases h;rfl
   ·cases h
  ·cases h
 ·split at h
  ·cases h
  ·rename_i b o n c _ _ _ _
   simp only[cond_eq_ite] at h
   repeat' split at h
   all_goals first|(cases h;rfl)|cases h
 ·cases h
theorem slice_block {P:Program} {t e:TypeId} (hu:P.underlying t=some (.slice e)) {h:IH} {x r:Value} {lo hi mx:Option Value} (hs:sliceOp P h t x lo hi mx=some r):blockOf r=blockOf x:=by
 simp only[sliceOp,hu] at hs
 split at hs
 ·exact resliced_block hs
 ·cases hs
theorem SlOf.putAt {h:IH} {sz:Nat} {v:Value} {n:Nat} {cs:List Value} (s:SlOf h sz v n cs) {k:Nat} (hk:blockOf v≠some (2*k)) (o:IObj):SlOf (h.put k o) sz v n cs:=by
 obtain⟨hz,hl,s|⟨b,o2,c,rfl,s⟩⟩:=s
 ·exact⟨hz,hl,.inl s⟩
 ·refine⟨hz,hl,.inr ⟨b,o2,c,rfl,?_⟩⟩
  rcases s with s|⟨h1,h2,row,h3,h4,h5,h6⟩
  ·exact .inl s
  ·have hb:b≠2*k:=fun e=>hk (by rw[e];rfl)
   refine .inr ⟨h1,h2,row,?_,?_,h5,h6⟩
   ·rcases h3 with h3|⟨a1,a2,f,a3⟩
    ·exact .inl h3
    ·exact .inr ⟨a1,a2,f,by rw[get_put_old _ _ (by omega)];exact a3⟩
   ·rw[row_put_old _ _ _ hb];exact h4
theorem loop_cut {P:Program} {fn:FuncId} {nt:Nat} {rd:Option Nat} {id:Nat} {b:Code} {fr:Fr} {h:IH} {K:Fr→IH→Prop} {Q:IExit→Fr→IH→Prop} (R:Fr→IH→Prop)
  (w:Do (WLoop P fn nt rd b fr h) (blockK id (seqK (fun fr h=>Pst (R fr h) nx) Q)) nx) (k : ∀fr h,R fr h→K fr h):Do (WLoop P fn nt rd b fr h) (blockK id (seqK K Q)) nx :=
 cut (a:=.block id (.loop b)) R w k
theorem shl_n {P:Program} {t:TypeId} {ox oy:Operand} {j:IntKind} (a:Nat) {b:Int} (hb:0≤b∧b≤64):binop P .shl t ox oy (.int .u64 (a:Int)) (.int j b)=some (.int .u64 ((a*2 ^ b.toNat % 18446744073709551616:Nat):Int)):=by
 rw[binop_shl P t ox oy hb.1]
 have e:min b.toNat IntKind.u64.bits=b.toNat:=by simp only[IntKind.bits];omega
 rw[e]
 have e2:IntKind.u64.wrap ((a:Int)*2 ^ b.toNat)=((a*2 ^ b.toNat % 18446744073709551616:Nat):Int):=by
  simp[IntKind.wrap,IntKind.bits,IntKind.signed]
 rw[e2]
end Go.Id

namespace Go.Id
open Go
def QB (k:Nat) (q:Rat):Prop:=q.num.natAbs≤2 ^ k∧q.den≤2 ^ k
theorem QB.mono {a b:Nat} {x:Rat} (h:QB a x) (k:a≤b):QB b x :=
 ⟨Nat.le_trans h.1 (Nat.pow_le_pow_right (by omega) k),Nat.le_trans h.2 (Nat.pow_le_pow_right (by omega) k)⟩
theorem low_pos {n d:Int} (hd:0<d):n / (Int.gcd n d:Int)=(Rat.divInt n d).num∧d / (Int.gcd n d:Int)=(Rat.divInt n d).den:=by
 constructor
 ·rw[Rat.num_divInt,Int.sign_eq_one_of_pos hd,Int.one_mul,Int.gcd_comm d n]
 ·rw[Rat.den_divInt,if_neg (by omega),Int.gcd_comm d n]
  have:(d.natAbs:Int)=d:=by omega
  rw[Int.natCast_ediv,this]
theorem low_neg {n d:Int} (hd:d<0) : -(n / (Int.gcd n d:Int))=(Rat.divInt n d).num ∧ -(d / (Int.gcd n d:Int))=(Rat.divInt n d).den:=by
 constructor
 ·rw[Rat.num_divInt,Int.sign_eq_neg_one_of_neg hd,Int.gcd_comm d n,Int.neg_one_mul,Int.neg_ediv_of_dvd (Int.gcd_dvd_left ..)]
 ·rw[Rat.den_divInt,if_neg (by omega),Int.gcd_comm d n]
  have:(d.natAbs:Int) = -d:=by omega
  rw[Int.natCast_ediv,this,Int.neg_ediv_of_dvd (Int.gcd_dvd_right ..)]
theorem gcd_ne {n d:Int} (hd:d≠0):(Int.gcd n d:Int)≠0:=by
 intro h
 have:Int.gcd n d=0:=by omega
 rw[Int.gcd_eq_zero_iff] at this
 exact hd this.2
theorem low_sign {n d:Int} (hd:d≠0):d / (Int.gcd n d:Int)<0↔d<0:=by
 rcases Int.lt_or_gt_of_ne hd with h|h
 ·have:=(low_neg (n:=n) h).2
  have:=(Rat.divInt n d).den_pos
  omega
 ·have:=(low_pos (n:=n) h).2
  have:=(Rat.divInt n d).den_pos
  omega
theorem ediv_abs (n:Int) (g:Nat):(n / (g:Int)).natAbs≤n.natAbs:=by
 rcases Int.le_total 0 n with h|h
 ·have h1:n / (g:Int)≤n:=Int.ediv_le_self _ h
  have h2:0≤n / (g:Int):=Int.ediv_nonneg h (by omega)
  omega
 ·rcases Nat.eq_zero_or_pos g with rfl|hg
  ·simp
  ·have h2:n / (g:Int)≤0:=by
    have:=Int.ediv_le_ediv (c:=(g:Int)) (by omega) h
    simpa using this
   have h3:n≤n / (g:Int):=by
    rw[Int.le_ediv_iff_mul_le (by omega)]
    have:n*(g:Int)≤n*1:=Int.mul_le_mul_of_nonpos_left h (by omega)
    omega
   omega
theorem QB.divInt {k:Nat} {n d:Int} (hd:d≠0) (h1:n.natAbs≤2 ^ k) (h2:d.natAbs≤2 ^ k):QB k (Rat.divInt n d):=by
 have e1:=ediv_abs n (Int.gcd n d)
 have e2:=ediv_abs d (Int.gcd n d)
 rcases Int.lt_or_gt_of_ne hd with h|h
 ·obtain⟨a,b⟩:=low_neg (n:=n) h
  exact⟨by omega,by omega⟩
 ·obtain⟨a,b⟩:=low_pos (n:=n) h
  exact⟨by omega,by omega⟩
theorem rat_add (x y:Rat):x+y=Rat.divInt (x.num*y.den+y.num*x.den) ((x.den:Int)*y.den):=by
 rw[Rat.add_def',←Rat.divInt_ofNat];simp
theorem rat_mul (x y:Rat):x*y=Rat.divInt (x.num*y.num) ((x.den:Int)*y.den):=by
 rw[Rat.mul_def',←Rat.divInt_ofNat];simp
theorem rat_div (x y:Rat):x / y=Rat.divInt (x.num*y.den) ((x.den:Int)*y.num):=by
 rw[Rat.div_def,Rat.inv_def,←Rat.divInt_mul_divInt,Rat.num_divInt_den]
theorem den_ne (x:Rat):(x.den:Int)≠0:=by have:=x.den_pos;omega
theorem num_ne {x:Rat} (h:x≠0):x.num≠0:=fun e=>h (Rat.num_eq_zero.1 e)
theorem dd_ne (x y:Rat):(x.den:Int)*y.den≠0:=Int.mul_ne_zero (den_ne x) (den_ne y)
theorem mul_bits {a b:Nat} {x y:Int} (hx:x.natAbs≤2 ^ a) (hy:y.natAbs≤2 ^ b):(x*y).natAbs≤2 ^ (a+b):=by
 rw[Int.natAbs_mul,Nat.pow_add];exact Nat.mul_le_mul hx hy
theorem add_bits {a:Nat} {x y:Int} (hx:x.natAbs≤2 ^ a) (hy:y.natAbs≤2 ^ a):(x+y).natAbs≤2 ^ (a+1):=by
 have:(x+y).natAbs≤x.natAbs+y.natAbs:=Int.natAbs_add_le _ _
 rw[Nat.pow_succ];omega
theorem up_bits {a b:Nat} {x:Int} (hx:x.natAbs≤2 ^ a) (h:a≤b):x.natAbs≤2 ^ b:=Nat.le_trans hx (Nat.pow_le_pow_right (by omega) h)
theorem QB.den' {a:Nat} {x:Rat} (h:QB a x):(x.den:Int).natAbs≤2 ^ a:=by rw[Int.natAbs_natCast];exact h.2
theorem QB.addN {a b:Nat} {x y:Rat} (hx:QB a x) (hy:QB b y):(x.num*y.den+y.num*x.den).natAbs≤2 ^ (a+b+1) :=
 add_bits (mul_bits hx.1 hy.den') (by rw[Nat.add_comm];exact mul_bits hy.1 hx.den')
theorem QB.add {a b:Nat} {x y:Rat} (hx:QB a x) (hy:QB b y):QB (a+b+1) (x+y):=by
 rw[rat_add]
 exact QB.divInt (dd_ne x y) (hx.addN hy) (up_bits (mul_bits hx.den' hy.den') (by omega))
theorem QB.mul {a b:Nat} {x y:Rat} (hx:QB a x) (hy:QB b y):QB (a+b) (x*y):=by
 rw[rat_mul]
 exact QB.divInt (dd_ne x y) (mul_bits hx.1 hy.1) (mul_bits hx.den' hy.den')
theorem QB.div {a b:Nat} {x y:Rat} (hx:QB a x) (hy:QB b y) (y0:y≠0):QB (a+b) (x / y):=by
 rw[rat_div]
 exact QB.divInt (Int.mul_ne_zero (den_ne x) (num_ne y0)) (mul_bits hx.1 hy.den') (mul_bits hx.den' hy.1)
theorem QB.neg {a:Nat} {x:Rat} (hx:QB a x):QB a (-x):=⟨by rw[Rat.neg_num,Int.natAbs_neg];exact hx.1,hx.2⟩
theorem QB.sub {a b:Nat} {x y:Rat} (hx:QB a x) (hy:QB b y):QB (a+b+1) (x - y):=by
 rw[Rat.sub_eq_add_neg];exact hx.add hy.neg
theorem QB.int {k:Nat} {n:Int} (h:n.natAbs≤2 ^ k):QB k (n:Rat):=⟨h,Nat.pow_pos (by omega)⟩
theorem load_ext {P:Program} {H0 hi:IH} {t:TypeId} {b o:Nat} (hb:b % 2=1∨b / 2<H0.n) (e:Ext H0 hi):load P hi t (ptr b o)=load P H0 t (ptr b o):=by
 have hr:hi.row b=H0.row b:=e.row (by omega)
 have hr' : ∀n,hi.rd b o n=H0.rd b o n:=fun n=>by simp only[IH.rd,hr]
 simp only[load,asAddr,ptr]
 cases isAggT P t with
 | none=>rfl
 | some c=>cases c<;>cases sizeT P t<;>simp only[hr']
theorem steady_ext {P:Program} {fr:Fr} {t:TypeId} {a:Operand} {b o:Nat} {H0 hi hj:IH} {v:Value} (ha:opd fr a=some (ptr b o)) (hb:b % 2=1∨b / 2<H0.n) (ei:Ext H0 hi) (ej:Ext H0 hj) (hv:load P H0 t (ptr b o)=some v):steadyAt P fr (.load t a) hi hj=true :=
 steady_load ha ((load_ext hb ei).trans hv) ((load_ext hb ej).trans hv)
theorem wpSteady_c2 {P:Program} {ops:List Oper} {tr:List (Fr×IH)} {e e':Nat×List Nat} {l:List (Nat×List Nat)} (h1:wpSteady P ops tr [e]) (h2:wpSteady P ops tr (e' :: l)):wpSteady P ops tr (e :: e' :: l):=wpSteady_cons h1 h2
theorem wpSteady_t2 {P:Program} {ops:List Oper} {tr:List (Fr×IH)} {i p p':Nat} {l:List Nat} (h1:wpSteady P ops tr [(i,[p])]) (h2:wpSteady P ops tr [(i,p' :: l)]):wpSteady P ops tr [(i,p :: p' :: l)]:=wpSteady_two h1 h2
theorem boxes3 (h:IH) (a b c:List Value) : ∃H0,H0=((h.new (.cells a 0 none)).new (.cells b 0 none)).new (.cells c 0 none)∧H0.n=h.n+3∧Ext h H0∧H0.ext.get h.n=some (.cells a 0 none)∧H0.ext.get (h.n+1)=some (.cells b 0 none)∧H0.ext.get (h.n+1+1)=some (.cells c 0 none) :=
 ⟨_,rfl,rfl,(((Ext.refl h).new _).new _).new _,(get_new_old _ _ (by simp<;>omega)).trans ((get_new_old _ _ (by simp<;>omega)).trans (get_new_same _ _ rfl)),(get_new_old _ _ (by simp<;>omega)).trans (get_new_same _ _ rfl),get_new_same _ _ rfl⟩
theorem boxes2 (h:IH) (a b:List Value) : ∃H0,H0=(h.new (.cells a 0 none)).new (.cells b 0 none)∧H0.n=h.n+2∧Ext h H0∧H0.ext.get h.n=some (.cells a 0 none)∧H0.ext.get (h.n+1)=some (.cells b 0 none) :=
 ⟨_,rfl,rfl,((Ext.refl h).new _).new _,(get_new_old _ _ (by simp<;>omega)).trans (get_new_same _ _ rfl),get_new_same _ _ rfl⟩
theorem row_of {h:IH} {b:Nat} {cs:List Value} {e:Nat} {f:Option Nat} (hg:h.ext.get b=some (.cells cs e f)):h.row (2*b)=some cs:=by rw[row_even];simp only[IH.cells,hg]
theorem Ext.kept {a b:IH} (e:Ext a b) {k:Nat} {o:IObj} (hk:k<a.n) (g:a.ext.get k=some o):b.ext.get k=some o:=(e.get k hk).trans g
theorem tkA (a s b t:Value):List.take 2 (List.drop 0 [a,s,b,t]) = [a,s]:=rfl
theorem tkB (a s b t:Value):List.take 2 (List.drop 2 [a,s,b,t]) = [b,t]:=rfl
theorem tk2' (a s:Value):List.take 2 (List.drop 0 [a,s]) = [a,s]:=rfl
theorem tk4' (a s b t:Value):List.take 4 (List.drop 0 [a,s,b,t]) = [a,s,b,t]:=rfl
end Go.Id

namespace Go.Id
open Go
def ElCs (R:IH→Value→Rat→Prop) (h:IH):List Rat→List Value→Prop
 | [],cs=>cs = []
 | q :: l,cs => ∃a s b t cs',cs=a :: s :: b :: t :: cs'∧R h (.agg #[a,s,b,t]) q∧ElCs R h l cs'
def Kept (R:IH→Value→Rat→Prop):Prop:=∀h h' v q,R h v q→Keep h h'→R h' v q
theorem ElCs.keep {R:IH→Value→Rat→Prop} (k:Kept R) {h h':IH} (e:Keep h h') : ∀{l:List Rat} {cs:List Value},ElCs R h l cs→ElCs R h' l cs
 | [],_,H=>H
 | _ :: _,_,⟨a,s,b,t,cs',h1,h2,h3⟩=>⟨a,s,b,t,cs',h1,k _ _ _ _ h2 e,ElCs.keep k e h3⟩
theorem ElCs.len {R:IH→Value→Rat→Prop} {h:IH} : ∀{l:List Rat} {cs:List Value},ElCs R h l cs→cs.length=l.length*4
 | [],_,H=>by cases H;rfl
 | _ :: l,_,⟨a,s,b,t,cs',h1,h2,h3⟩=>by
  have:=ElCs.len h3
  subst h1
  simp only[List.length_cons,this];omega
theorem ElCs.at {R:IH→Value→Rat→Prop} {h:IH} : ∀{l:List Rat} {cs:List Value} {i:Nat} {q:Rat},ElCs R h l cs→l[i]?=some q → ∃a s b t,(cs.drop (i*4)).take 4 = [a,s,b,t]∧R h (.agg #[a,s,b,t]) q
 | [],_,_,_,_,H=>by simp at H
 | x :: l,_,0,q,⟨a,s,b,t,cs',h1,h2,h3⟩,H=>by
  subst h1
  simp at H;subst H
  exact⟨a,s,b,t,rfl,h2⟩
 | x :: l,_,i+1,q,⟨a,s,b,t,cs',h1,h2,h3⟩,H=>by
  subst h1
  simp at H
  obtain⟨a',s',b',t',e,r⟩:=ElCs.at h3 H
  refine⟨a',s',b',t',?_,r⟩
  rw[show(i+1)*4=i*4+4 by omega]
  simpa using e
theorem ElCs.drop {R:IH→Value→Rat→Prop} {h:IH} : ∀{i:Nat} {l:List Rat} {cs:List Value},ElCs R h l cs→ElCs R h (l.drop i) (cs.drop (i*4))
 | 0,_,_,H=>H
 | _+1,[],_,H=>by cases H;simp[ElCs]
 | i+1,_ :: l,_,⟨a',s',b',t',cs',h1,h2,h3⟩=>by
  subst h1
  have:=ElCs.drop (i:=i) h3
  rw[show(i+1)*4=i*4+4 by omega]
  simpa using this
theorem ElCs.take {R:IH→Value→Rat→Prop} {h:IH} : ∀{i:Nat} {l:List Rat} {cs:List Value},ElCs R h l cs→ElCs R h (l.take i) (cs.take (i*4))
 | 0,_,_,_=>by simp[ElCs]
 | _+1,[],_,H=>by cases H;simp[ElCs]
 | i+1,_ :: l,_,⟨a',s',b',t',cs',h1,h2,h3⟩=>by
  subst h1
  have:=ElCs.take (i:=i) h3
  rw[show(i+1)*4=i*4+4 by omega]
  exact⟨a',s',b',t',cs'.take (i*4),by simp,h2,this⟩
def ElSl (R:IH→Value→Rat→Prop) (h:IH) (v:Value) (l:List Rat):Prop:=∃cs,SlOf h 4 v l.length cs∧ElCs R h l cs∧l.length≤100000
theorem ElSl.keep {R:IH→Value→Rat→Prop} (k:Kept R) {h h':IH} {v:Value} {l:List Rat} (s:ElSl R h v l) (e:Keep h h'):ElSl R h' v l:=let ⟨cs,a,b,c⟩:=s;⟨cs,a.keep e,b.keep k e,c⟩
theorem ElSl.ld {R:IH→Value→Rat→Prop} (k:Kept R) {h h':IH} {v:Value} {l:List Rat} (s:ElSl R h v l) (e:Keep h h') {i:Nat} {q:Rat} (hi:l[i]?=some q) {P:Program} {t:TypeId} (hT:isAggT P t=some true) (hS:sizeT P t=some 4) :
  ∃a s b u,load P h' t (elemAddr v (i*4))=some (.agg #[a,s,b,u])∧R h' (.agg #[a,s,b,u]) q:=by
 obtain⟨cs,hs,hc,hl⟩:=s
 have hil:=(List.getElem?_eq_some_iff.1 hi).1
 have hcl:=hc.len
 obtain⟨a,s,b,u,e1,r⟩:=hc.at hi
 exact⟨a,s,b,u,by rw[hs.ldAgg e (by omega) (by omega) hT hS,e1],k _ _ _ _ r e⟩
theorem QB.zero:QB 0 (0:Rat):=⟨by simp,by simp⟩
end Go.Id

namespace Go.Id.B
def valT (ds:List Nat):Nat→Nat
 | 0=>0
 | k+1=>valT ds k+ds.getD k 0*18446744073709551616 ^ k
def valD (ds:List Nat):Nat:=valT ds ds.length
def Digs (ds:List Nat):Prop:=∀d∈ds,d<18446744073709551616
def Norm (ds:List Nat):Prop:=ds = []∨ds.getD (ds.length - 1) 0≠0
theorem getD_lt {ds:List Nat} (h:Digs ds) (k:Nat):ds.getD k 0<18446744073709551616:=by
 rw[List.getD_eq_getElem?_getD]
 cases hx:ds[k]? with
 | none=>simp
 | some x=>simpa using h x (List.mem_of_getElem? hx)
theorem getD_of_ge {ds:List Nat} {k:Nat} (h:ds.length≤k):ds.getD k 0=0:=by
 rw[List.getD_eq_getElem?_getD,List.getElem?_eq_none h];rfl
theorem pow_pos' (k:Nat):0<18446744073709551616 ^ k:=Nat.pow_pos (by omega)
theorem valT_lt {ds:List Nat} (h:Digs ds) : ∀k,valT ds k<18446744073709551616 ^ k
 | 0=>by simp[valT]
 | k+1=>by
  have ih:=valT_lt h k
  have hd:=getD_lt h k
  have h2:ds.getD k 0*18446744073709551616 ^ k≤18446744073709551615*18446744073709551616 ^ k:=Nat.mul_le_mul_right _ (by omega)
  rw[valT,Nat.pow_succ]
  omega
theorem valT_ge {ds:List Nat} : ∀{k:Nat},ds.length≤k→valT ds k=valD ds
 | 0,h=>by
  have:ds = []:=List.length_eq_zero_iff.1 (by omega)
  subst this;rfl
 | k+1,h=>by
  by_cases hk:ds.length≤k
  ·rw[valT,valT_ge hk,getD_of_ge hk];simp
  ·have:ds.length=k+1:=by omega
   rw[valD,this]
theorem valT_congr {ds es:List Nat} : ∀{k:Nat},(∀j,j<k→ds.getD j 0=es.getD j 0)→valT ds k=valT es k
 | 0,_=>rfl
 | k+1,h=>by rw[valT,valT,valT_congr fun j hj=>h j (by omega),h k (by omega)]
theorem valD_lt {ds:List Nat} (h:Digs ds):valD ds<18446744073709551616 ^ ds.length:=valT_lt h _
theorem Digs.append {ds:List Nat} {x:Nat} (h:Digs ds) (hx:x<18446744073709551616):Digs (ds ++ [x]):=by
 intro d hd
 rcases List.mem_append.1 hd with h1|h1
 ·exact h d h1
 ·simp at h1;omega
theorem Digs.take {ds:List Nat} (h:Digs ds) (n:Nat):Digs (ds.take n):=fun d hd=>h d (List.mem_of_mem_take hd)
theorem getD_take (ds:List Nat) (n j:Nat):(ds.take n).getD j 0=if j<n then ds.getD j 0 else 0:=by
 simp only[List.getD_eq_getElem?_getD,List.getElem?_take]
 split<;>rfl
theorem valT_split (ds:List Nat) (m:Nat) : ∀k,(∀j,m≤j→j<m+k→ds.getD j 0=0)→valT ds (m+k)=valT ds m
 | 0,_=>rfl
 | k+1,h=>by
  rw[show m+(k+1)=(m+k)+1 from rfl,valT,valT_split ds m k (fun j a b=>h j a (by omega)),h (m+k) (by omega) (by omega)]
  simp
theorem valD_take {ds:List Nat} {m:Nat} (hm:m≤ds.length) (h : ∀j,m≤j→ds.getD j 0=0):valD (ds.take m)=valD ds:=by
 have h1:(ds.take m).length=m:=by simp[hm]
 rw[valD,h1]
 have h2:valT (ds.take m) m=valT ds m:=valT_congr fun j hj=>by rw[getD_take,if_pos hj]
 rw[h2]
 have:=valT_split ds m (ds.length - m) (fun j a _=>h j a)
 rw[show m+(ds.length - m)=ds.length from by omega] at this
 exact this.symm
theorem Norm.ge {ds:List Nat} (h:Norm ds) (hne:ds ≠ []):18446744073709551616 ^ (ds.length - 1)≤valD ds:=by
 rcases h with h|h
 ·exact absurd h hne
 ·have hl:0<ds.length:=List.length_pos_iff.2 hne
  obtain⟨n,hn⟩ : ∃n,ds.length=n+1:=⟨ds.length - 1,by omega⟩
  rw[valD,hn,valT]
  rw[hn] at h
  simp only[Nat.add_sub_cancel] at h ⊢
  have:1*18446744073709551616 ^ n≤ds.getD n 0*18446744073709551616 ^ n:=Nat.mul_le_mul_right _ (by omega)
  omega
theorem lt_of_len {a b:List Nat} (ha:Digs a) (hb:Norm b) (hl:a.length<b.length):valD a<valD b:=by
 have h1:=valD_lt ha
 have h2:=hb.ge (by intro h;subst h;simp at hl)
 have h3:18446744073709551616 ^ a.length≤18446744073709551616 ^ (b.length - 1):=Nat.pow_le_pow_right (by omega) (by omega)
 omega
theorem valT_top {a b:List Nat} (ha:Digs a) {i:Nat} (hi:a.getD i 0<b.getD i 0) : ∀k,(∀j,i<j→j<i+1+k→a.getD j 0=b.getD j 0)→valT a (i+1+k)<valT b (i+1+k)
 | 0,_=>by
  have h1:=valT_lt ha i
  have h2:(a.getD i 0+1)*18446744073709551616 ^ i≤b.getD i 0*18446744073709551616 ^ i:=Nat.mul_le_mul_right _ (by omega)
  rw[Nat.add_mul] at h2
  rw[Nat.add_zero,valT,valT]
  omega
 | k+1,h=>by
  have:=valT_top ha hi k (fun j x y=>h j x (by omega))
  rw[show i+1+(k+1)=(i+1+k)+1 from rfl,valT,valT,h (i+1+k) (by omega) (by omega)]
  omega
theorem lt_of_top {a b:List Nat} (ha:Digs a) (hl:a.length=b.length) {i:Nat} (hn:i<a.length) (hi:a.getD i 0<b.getD i 0) (h : ∀j,i<j→j<a.length→a.getD j 0=b.getD j 0):valD a<valD b:=by
 have:=valT_top ha hi (a.length - (i+1)) (fun j x y=>h j x (by omega))
 rw[show i+1+(a.length - (i+1))=a.length from by omega] at this
 rw[valD,valD,←hl];exact this
theorem eq_of_all {a b:List Nat} (hl:a.length=b.length) (h : ∀j,j<a.length→a.getD j 0=b.getD j 0):valD a=valD b:=by
 rw[valD,valD,←hl];exact valT_congr h
theorem Norm.nil_iff {ds:List Nat} (h:Norm ds):valD ds=0↔ds = []:=by
 constructor
 ·intro h0
  apply Classical.byContradiction;intro hne
  have:=h.ge hne
  have:=pow_pos' (ds.length - 1)
  omega
 ·rintro rfl;rfl
theorem Norm.len_le {a b:List Nat} (ha:Norm a) (hb:Digs b) (h:valD a≤valD b):a.length≤b.length:=by
 apply Classical.byContradiction;intro hn
 have:=lt_of_len hb ha (by omega)
 omega
end Go.Id.B

namespace Go.Id.B
theorem getD_set {ds:List Nat} {k w:Nat} (hk:k<ds.length) (j:Nat):(ds.set k w).getD j 0=if j=k then w else ds.getD j 0:=by
 simp only[List.getD_eq_getElem?_getD,List.getElem?_set]
 by_cases h:k=j
 ·subst h;simp[hk]
 ·rw[if_neg h,if_neg (fun x=>h x.symm)]
theorem valT_set {ds:List Nat} {k w:Nat} (hk:k<ds.length) : ∀n,valT (ds.set k w) n+(if k<n then ds.getD k 0*18446744073709551616 ^ k else 0)=valT ds n+(if k<n then w*18446744073709551616 ^ k else 0)
 | 0=>by simp[valT]
 | n+1=>by
  have ih:=valT_set (w:=w) hk n
  rw[valT,valT,getD_set hk]
  by_cases h1:k<n
  ·rw[if_pos h1,if_pos h1] at ih
   rw[if_pos (show k<n+1 by omega),if_pos (show k<n+1 by omega),if_neg (show ¬n=k by omega)]
   omega
  ·rw[if_neg h1,if_neg h1] at ih
   by_cases h2:n=k
   ·subst h2
    rw[if_pos (Nat.lt_succ_self n),if_pos (Nat.lt_succ_self n),if_pos rfl]
    omega
   ·rw[if_neg (show ¬k<n+1 by omega),if_neg (show ¬k<n+1 by omega),if_neg h2]
    omega
theorem valD_set {ds:List Nat} {k:Nat} (w:Nat) (hk:k<ds.length):valD (ds.set k w)+ds.getD k 0*18446744073709551616 ^ k=valD ds+w*18446744073709551616 ^ k:=by
 have h:=valT_set (w:=w) hk ds.length
 rw[if_pos hk,if_pos hk] at h
 rw[valD,valD,List.length_set];exact h
theorem valT_repl (m:Nat) : ∀n,valT (List.replicate m 0) n=0
 | 0=>rfl
 | n+1=>by
  rw[valT,valT_repl m n]
  have:(List.replicate m 0).getD n 0=0:=by
   rw[List.getD_eq_getElem?_getD,List.getElem?_replicate];split<;>rfl
  rw[this];simp
theorem valD_repl (m:Nat):valD (List.replicate m 0)=0:=valT_repl m _
theorem getD_repl (m j:Nat):(List.replicate m 0).getD j 0=0:=by
 rw[List.getD_eq_getElem?_getD,List.getElem?_replicate];split<;>rfl
theorem Digs.set {ds:List Nat} (h:Digs ds) (k:Nat) {w:Nat} (hw:w<18446744073709551616):Digs (ds.set k w):=by
 intro d hd
 rcases List.mem_or_eq_of_mem_set hd with h1|h1
 ·exact h d h1
 ·omega
theorem Digs.repl (m:Nat):Digs (List.replicate m 0):=by
 intro d hd
 rw[List.mem_replicate] at hd
 omega
theorem Norm.lenlt {ds:List Nat} (h:Norm ds) {m:Nat} (hs:valD ds<18446744073709551616 ^ m):ds.length≤m:=by
 apply Classical.byContradiction;intro hn
 have hne:ds ≠ []:=by intro h0;subst h0;simp at hn
 have h1:=h.ge hne
 have h2:18446744073709551616 ^ m≤18446744073709551616 ^ (ds.length - 1):=Nat.pow_le_pow_right (by omega) (by omega)
 omega
end Go.Id.B

namespace Go.Id
open Go
theorem mul_high {x1 x0 y1 y0:Nat} (h0:x0<4294967296) (h1:x1<4294967296) (g0:y0<4294967296) (g1:y1<4294967296) :
  x1*y0+x0*y0 / 4294967296<18446744073709551616∧(x1*y0+x0*y0 / 4294967296) % 4294967296+x0*y1<18446744073709551616 ∧
   x1*y1+(x1*y0+x0*y0 / 4294967296) / 4294967296+((x1*y0+x0*y0 / 4294967296) % 4294967296+x0*y1) / 4294967296=(x1*4294967296+x0)*(y1*4294967296+y0) / 18446744073709551616:=by
 have b00:x0*y0≤4294967295*4294967295:=Nat.mul_le_mul (by omega) (by omega)
 have b10:x1*y0≤4294967295*4294967295:=Nat.mul_le_mul (by omega) (by omega)
 have b01:x0*y1≤4294967295*4294967295:=Nat.mul_le_mul (by omega) (by omega)
 have e:(x1*4294967296+x0)*(y1*4294967296+y0)=x1*y1*18446744073709551616+x1*y0*4294967296+x0*y1*4294967296+x0*y0:=by grind
 rw[e]
 generalize x0*y0=a at *
 generalize x1*y0=b at *
 generalize x0*y1=c at *
 generalize x1*y1=d at *
 refine⟨by omega,by omega,by omega⟩
def DivJ (y1 y0 u d q r:Nat):Prop:=q*y1+r=u∧(u*4294967296+d) / (y1*4294967296+y0)≤q∧q≤4294967297
theorem divJ_start {y1 y0 u d:Nat} (h1:2147483648≤y1) (h0:y0<4294967296) (hu:u<y1*4294967296+y0) (hd:d<4294967296):DivJ y1 y0 u d (u / y1) (u % y1):=by
 have e:=Nat.div_add_mod u y1
 have hm:=Nat.mod_lt u (show 0<y1 by omega)
 have e1:u / y1*y1=y1*(u / y1):=Nat.mul_comm _ _
 refine⟨by omega,?_,?_⟩
 ·generalize hq:u / y1=q at *
  rw[Nat.div_le_iff_le_mul_add_pred (by omega)]
  have e2:(y1*4294967296+y0)*q=y1*q*4294967296+y0*q:=by grind
  rw[e2]
  have:0≤y0*q:=Nat.zero_le _
  omega
 ·rw[Nat.div_le_iff_le_mul_add_pred (by omega)]
  omega
theorem divJ_step {y1 y0 u d q r:Nat} (h1:2147483648≤y1) (h0:y0<4294967296) (hu:u<y1*4294967296+y0) (hd:d<4294967296) (J:DivJ y1 y0 u d q r) (hc:4294967296≤q∨4294967296*r+d<q*y0):0<q∧DivJ y1 y0 u d (q - 1) (r+y1):=by
 obtain⟨j1,j2,j3⟩:=J
 have hlt:(u*4294967296+d) / (y1*4294967296+y0)<q:=by
  rw[Nat.div_lt_iff_lt_mul (by omega)]
  have e2:q*(y1*4294967296+y0)=q*y1*4294967296+q*y0:=by grind
  rw[e2]
  rcases hc with hc|hc
  ·have e3:4294967296*y0≤q*y0:=Nat.mul_le_mul_right _ hc
   have e4:4294967296*y1≤q*y1:=Nat.mul_le_mul_right _ hc
   omega
  ·omega
 have hq:0<q:=Nat.lt_of_le_of_lt (Nat.zero_le _) hlt
 refine⟨hq,?_,Nat.le_sub_one_of_lt hlt,by omega⟩
 have e5:(q - 1)*y1+y1=q*y1:=by
  obtain⟨p,rfl⟩ : ∃p,q=p+1:=⟨q - 1,by omega⟩
  rw[Nat.add_sub_cancel,Nat.add_mul,Nat.one_mul]
 omega
theorem divJ_done {y1 y0 u d q r:Nat} (h1:2147483648≤y1) (h0:y0<4294967296) (J:DivJ y1 y0 u d q r) (hc:q*y0≤4294967296*r+d):(u*4294967296+d) / (y1*4294967296+y0)=q:=by
 obtain⟨j1,j2,j3⟩:=J
 refine Nat.le_antisymm j2 ?_
 rw[Nat.le_div_iff_mul_le (by omega)]
 have e2:q*(y1*4294967296+y0)=q*y1*4294967296+q*y0:=by grind
 rw[e2];omega
theorem divJ_break {y1 y0 u d q r:Nat} (h1:2147483648≤y1) (h0:y0<4294967296) (J:DivJ y1 y0 u d q r) (hr:4294967296≤r) (hq:q≤4294967296):(u*4294967296+d) / (y1*4294967296+y0)=q:=by
 refine divJ_done h1 h0 J ?_
 have:q*y0≤4294967296*4294967295:=Nat.mul_le_mul hq (by omega)
 omega
end Go.Id

namespace Go.Id.B
theorem or_add {x y n:Nat} (hx:2 ^ n∣x) (hy:y<2 ^ n):x ||| y=x+y:=by
 obtain⟨c,rfl⟩:=hx
 exact(Nat.two_pow_add_eq_or_of_lt hy c).symm
theorem or_add' {x y n:Nat} (hx:x<2 ^ n) (hy:2 ^ n∣y):x ||| y=x+y:=by
 rw[Nat.or_comm,or_add hy hx,Nat.add_comm]
theorem valT_eq {ds:List Nat} (h:Digs ds) : ∀{n k:Nat},n≤k→valT ds k % 18446744073709551616 ^ n=valT ds n
 | n,0,hk=>by
  obtain rfl:n=0:=by omega
  simp[valT]
 | n,k+1,hk=>by
  by_cases hn:n=k+1
  ·subst hn;exact Nat.mod_eq_of_lt (valT_lt h _)
  ·have ih:=valT_eq h (show n≤k by omega)
   rw[valT]
   have hd:18446744073709551616 ^ n∣ds.getD k 0*18446744073709551616 ^ k:=Nat.dvd_trans (Nat.pow_dvd_pow _ (by omega)) (Nat.dvd_mul_left _ _)
   obtain⟨c,hc⟩:=hd
   rw[hc,Nat.add_mul_mod_self_left,ih]
theorem digit_eq {ds:List Nat} (h:Digs ds) (j:Nat):ds.getD j 0=valD ds / 18446744073709551616 ^ j % 18446744073709551616:=by
 have hp:=pow_pos' j
 by_cases hj:j<ds.length
 ·have e1:valT ds (j+1)=valD ds % 18446744073709551616 ^ (j+1):=(valT_eq h (show j+1≤ds.length by omega)).symm
  have e2:valT ds (j+1) / 18446744073709551616 ^ j=ds.getD j 0:=by
   rw[valT,Nat.add_mul_div_right _ _ hp,Nat.div_eq_of_lt (valT_lt h j),Nat.zero_add]
  rw[←e2,e1,Nat.pow_succ,Nat.mod_mul_right_div_self]
 ·rw[getD_of_ge (by omega)]
  have h1:=valD_lt h
  have h2:18446744073709551616 ^ ds.length≤18446744073709551616 ^ j:=Nat.pow_le_pow_right (by omega) (by omega)
  rw[Nat.div_eq_of_lt (by omega)]
theorem pow64 (j:Nat):18446744073709551616 ^ j=2 ^ (64*j):=by rw[Nat.pow_mul]
theorem bit_set {ds:List Nat} (h:Digs ds) {k:Nat} (hk:2 ^ (k+1)∣valD ds):ds.getD (k / 64) 0 ||| 2 ^ (k % 64)=ds.getD (k / 64) 0+2 ^ (k % 64)∧ds.getD (k / 64) 0+2 ^ (k % 64)<18446744073709551616:=by
 have hs:k % 64<64:=Nat.mod_lt _ (by omega)
 have hd:2 ^ (k % 64+1)∣ds.getD (k / 64) 0:=by
  rw[digit_eq h,pow64]
  obtain⟨c,hc⟩:=hk
  have e:2 ^ (k+1)=2 ^ (64*(k / 64))*2 ^ (k % 64+1):=by rw[←Nat.pow_add];congr 1;omega
  rw[hc,e,Nat.mul_assoc,Nat.mul_div_cancel_left _ (Nat.pow_pos (by omega))]
  have e2:18446744073709551616=2 ^ (k % 64+1)*2 ^ (63 - k % 64):=by rw[←Nat.pow_add,show k % 64+1+(63 - k % 64)=64 by omega]
  rw[show(18446744073709551616:Nat)=2 ^ (k % 64+1)*2 ^ (63 - k % 64) from e2]
  exact(Nat.dvd_mod_iff (Nat.dvd_mul_right _ _)).2 (Nat.dvd_mul_right _ _)
 have hlt:2 ^ (k % 64)<2 ^ (k % 64+1):=Nat.pow_lt_pow_right (by omega) (by omega)
 have hw:=getD_lt h (k / 64)
 refine⟨or_add hd hlt,?_⟩
 obtain⟨c,hc⟩:=hd
 rw[hc] at hw ⊢
 have e2:18446744073709551616=2 ^ (k % 64+1)*2 ^ (63 - k % 64):=by rw[←Nat.pow_add,show k % 64+1+(63 - k % 64)=64 by omega]
 rw[e2] at hw ⊢
 have hc2:c<2 ^ (63 - k % 64):=Nat.lt_of_mul_lt_mul_left hw
 have:2 ^ (k % 64+1)*(c+1)≤2 ^ (k % 64+1)*2 ^ (63 - k % 64):=Nat.mul_le_mul_left _ hc2
 rw[Nat.mul_add,Nat.mul_one] at this
 omega
theorem shl_parts {x s:Nat} (hx:x<18446744073709551616) (hs:s<64):x*2 ^ s % 18446744073709551616+x / 2 ^ (64 - s)*18446744073709551616=x*2 ^ s:=by
 have e:18446744073709551616=2 ^ (64 - s)*2 ^ s:=by rw[←Nat.pow_add,show 64 - s+s=64 by omega]
 have h:=Nat.div_add_mod (x*2 ^ s) 18446744073709551616
 have e2:x*2 ^ s / 18446744073709551616=x / 2 ^ (64 - s):=by rw[e,Nat.mul_div_mul_right _ _ (Nat.pow_pos (by omega))]
 rw[e2] at h
 omega
theorem shl_dvd (x:Nat) {s:Nat} (hs:s<64):2 ^ s∣x*2 ^ s % 18446744073709551616:=by
 have e:18446744073709551616=2 ^ s*2 ^ (64 - s):=by rw[←Nat.pow_add,show s+(64 - s)=64 by omega]
 rw[e]
 exact(Nat.dvd_mod_iff (Nat.dvd_mul_right _ _)).2 (Nat.dvd_mul_left _ _)
theorem shr_small {x s:Nat} (hx:x<18446744073709551616) (hs:s≤64):x / 2 ^ (64 - s)<2 ^ s:=by
 rw[Nat.div_lt_iff_lt_mul (Nat.pow_pos (by omega)),←Nat.pow_add,show s+(64 - s)=64 by omega];exact hx
theorem bits_of {ds:List Nat} {n k:Nat} (h:Digs ds) (hl:ds.length=n+1) (h1:2 ^ k≤ds.getD n 0) (h2:ds.getD n 0<2 ^ (k+1)):2 ^ (64*n+k)≤valD ds∧valD ds<2 ^ (64*n+k+1):=by
 rw[valD,hl,valT,pow64]
 have hb:=valT_lt h n
 rw[pow64] at hb
 have e1:2 ^ (64*n+k)=2 ^ k*2 ^ (64*n):=by rw[Nat.pow_add,Nat.mul_comm]
 have e2:2 ^ (64*n+k+1)=2 ^ (k+1)*2 ^ (64*n):=by rw[Nat.add_assoc,Nat.pow_add,Nat.mul_comm]
 rw[e1,e2]
 have h3:2 ^ k*2 ^ (64*n)≤ds.getD n 0*2 ^ (64*n):=Nat.mul_le_mul_right _ h1
 have h4:(ds.getD n 0+1)*2 ^ (64*n)≤2 ^ (k+1)*2 ^ (64*n):=Nat.mul_le_mul_right _ h2
 rw[Nat.add_mul,Nat.one_mul] at h4
 omega
def DivB (a b k V r:Nat):Prop:=a=b*V+r∧2 ^ k∣V∧r<b*2 ^ k
theorem divB_start {a b la lb:Nat} (ha:a<2 ^ la) (hb:2 ^ lb≤b) (hl:lb≤la):DivB a b (la - lb) 0 a:=by
 refine⟨by omega,Nat.dvd_zero _,?_⟩
 have h1:2 ^ lb*2 ^ (la - lb)≤b*2 ^ (la - lb):=Nat.mul_le_mul_right _ hb
 rw[←Nat.pow_add,show lb+(la - lb)=la by omega] at h1
 omega
theorem divB_one {a b k V r:Nat} (h:DivB a b (k+1) V r) (hc:b*2 ^ k≤r):DivB a b k (V+2 ^ k) (r - b*2 ^ k):=by
 obtain⟨h1,h2,h3⟩:=h
 have e:b*2 ^ (k+1)=b*2 ^ k+b*2 ^ k:=by rw[Nat.pow_succ];grind
 refine⟨?_,?_,by omega⟩
 ·rw[Nat.mul_add];omega
 ·exact(Nat.dvd_add_right (Nat.dvd_trans (Nat.pow_dvd_pow _ (by omega)) h2)).2 (Nat.dvd_refl _)
theorem divB_zero {a b k V r:Nat} (h:DivB a b (k+1) V r) (hc:r<b*2 ^ k):DivB a b k V r :=
 ⟨h.1,Nat.dvd_trans (Nat.pow_dvd_pow _ (by omega)) h.2.1,hc⟩
theorem divB_end {a b V r:Nat} (h:DivB a b 0 V r):V=a / b∧r=a % b:=by
 obtain⟨h1,_,h3⟩:=h
 rw[Nat.pow_zero,Nat.mul_one] at h3
 have e1:=Nat.mul_add_mod b V r
 have e2:=Nat.mul_add_div (show 0<b by omega) V r
 rw[←h1,Nat.mod_eq_of_lt h3] at e1
 rw[←h1,Nat.div_eq_of_lt h3,Nat.add_zero] at e2
 exact⟨e2.symm,e1.symm⟩
end Go.Id.B
