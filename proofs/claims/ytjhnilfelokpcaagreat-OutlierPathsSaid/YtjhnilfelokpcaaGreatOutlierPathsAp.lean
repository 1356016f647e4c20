/-
  Weakest preconditions over the ideal machine, seventh part: one step after the other. A continuation stands where the simplifier does not look (an argument depends on it); run with 'simp -dsimp'. Weakest preconditions over the ideal machine, eighth part: stores, made slices, built values.
-/
import Derived.Test.YtjhnilfelokpcaaGreatOutlierPathsAo
set_option linter.unusedVariables false
set_option linter.unusedSimpArgs false
set_option linter.defProp false
set_option linter.deprecated false
namespace Go.Id
open Go
def Nx {α:Type} (_:α):Type:=Unit
def nx {α:Type} {a:α}:Nx a:=()
def Do {κ:Type} (m:κ→Prop) (K:κ) (_:Nx K):Prop:=m K
def Bq (b:Bool) (pq:Prop×Prop) (_:Nx pq):Prop:=Br b pq.1 pq.2
theorem Ub {α:Type} (v:α) (K:α→Prop) (u:Nx K):Do (Ex (some v)) K u=K v:=D2 v K
theorem B9 {α β:Type} (o:Option α) (f:α→β) (K:β→Prop) (u:Nx K):Do (Ex (o.map f)) K u=Do (Ex o) (fun v=>K (f v)) nx:=Wl o f K
theorem zZ {α β:Type} (o:Option α) (f:α→Option β) (K:β→Prop) (u:Nx K):Do (Ex (o.bind f)) K u=Do (Ex o) (fun v=>Do (Ex (f v)) K nx) nx:=Tq o f K
theorem Gi {α:Type} (c:Prop) [Decidable c] (v:Option α) (hc:c) (K:α→Prop) (u:Nx K):Do (Ex (if c then v else none)) K u=Do (Ex v) K nx:=by rw[if_pos hc];rfl
theorem DQ (p q:Prop) (u:Nx (p,q)):Bq true (p,q) u=p:=Ts p q
theorem Aj (p q:Prop) (u:Nx (p,q)):Bq false (p,q) u=q:=Rq p q
theorem aA {b:Bool} {p q:Prop} (h1:b=true→p) (h2:b=false→q):Bq b (p,q) nx:=Br.intro h1 h2
def FE:Value→Option Value
 | .pointer (some a)=>some (.pointer (some a))
 | .func (.func f) xs ys=>some (.func (.func f) xs ys)
 | .func (.yield f) xs ys=>some (.func (.yield f) xs ys)
 | .map r=>some (.map r)
 | _=>none
theorem FC (b o:Nat):FE (ptr b o)=some (ptr b o):=rfl
theorem BI (f:FuncId) (xs ys:Array Value):FE (.func (.func f) xs ys)=some (.func (.func f) xs ys):=rfl
theorem FD (r:Option Nat):FE (.map r)=some (.map r):=rfl
section
variable (P:Program) (fr:Fr) (h:IH) (K:Value→IH→Prop) (u:Nx K)
theorem Qw (x:Operand):Do (wpOp P (.move x) fr h) K u=Do (Ex (opd fr x)) (fun v=>K v h) nx:=rfl
theorem Gq (x:Operand):Do (wpOp P (.assign x) fr h) K u=Do (Ex (opd fr x)) (fun v=>K v h) nx:=rfl
theorem Kx (t:TypeId):Do (wpOp P (.alloc t) fr h) K u=Do (Ex (aB P t)) (fun z=>K (ptr (2*h.n) 0) (h.new (.cells z 0 none))) nx:=rfl
theorem Uf (t:TypeId) (x:Operand):Do (wpOp P (.box t x) fr h) K u=Do (Ex (opd fr x)) (fun v=>K (ptr (2*h.n) 0) (h.new (.cells v.cells.toList 0 none))) nx:=rfl
theorem Qy (t:TypeId) (a:Operand):Do (wpOp P (.load t a) fr h) K u=Do (Ex (opd fr a)) (fun a=>Do (Ex (load P h t a)) (fun v=>K v h) nx) nx:=rfl
theorem Kn (t:TypeId) (a x:Operand):Do (wpOp P (.store t a x) fr h) K u=Do (Ex (opd fr a)) (fun a=>Do (Ex (opd fr x)) (fun x=>Do (Ex (store P h t a x)) (fun h=>K undef h) nx) nx) nx:=rfl
theorem Kw (op:BinOp) (t:TypeId) (x y:Operand) (s:TypeId):Do (wpOp P (.binOp op t x y s) fr h) K u=Do (Ex (opd fr x)) (fun a=>Do (Ex (opd fr y)) (fun b=>Do (Ex (binop P op t x y a b)) (fun v=>K v h) nx) nx) nx:=rfl
theorem Qv (c a b:Operand):Do (wpOp P (.pick c a b) fr h) K u=Do (Ex (opd fr c)) (fun c=>Do (Ex (opd fr a)) (fun a=>Do (Ex (opd fr b)) (fun b=>match c with
  | .bool c=>Bq c (K a h,K b h) nx
  | _=>False) nx) nx) nx:=by
 show wpOp P (.pick c a b) fr h K=_
 rw[KY]
 show _=Ex (opd fr c) _
 congr 1;funext c
 show _=Ex (opd fr a) _
 congr 1;funext a
 show _=Ex (opd fr b) _
 congr 1;funext b
 cases c<;>simp
 rename_i c
 cases c<;>simp[DQ,Aj]
theorem Cd (x:Operand) (i:Nat):Do (wpOp P (.extract x i) fr h) K u=Do (Ex (opd fr x)) (fun x=>match x with
  | .tuple vs=>Do (Ex vs[i]?) (fun v=>K v h) nx
  | _=>False) nx:=rfl
theorem Ac (f:FuncId) (a b:Array Operand):Do (wpOp P (.makeFunc (.func f) a b) fr h) K u=Do (Ex (gh fr a.toList)) (fun x=>Do (Ex (gh fr b.toList)) (fun y=>K (.func (.func f) x.toArray y.toArray) h) nx) nx:=rfl
theorem QF (f:Operand) (args:Array Operand) (ts:Array TypeId):Do (wpOp P (.call ⟨.value f,args,ts⟩) fr h) K u=Do (Ex (opd fr f)) (fun fv=>Do (Ex (gh fr args.toList)) (fun vs=>Do (WV P fv vs h) K nx) nx) nx:=rfl
theorem Cf (b:Builtin) (args:Array Operand) (ts:Array TypeId):Do (wpOp P (.call ⟨.builtin b,args,ts⟩) fr h) K u=Do (Ex (gh fr args.toList)) (fun vs=>Do (Ex (builtin P h b ts vs)) (fun r=>K r.1 r.2) nx) nx:=rfl
theorem w9 (t:TypeId) (x:Operand) (f:Nat):Do (wpOp P (.fieldAddr t x f) fr h) K u=Do (Ex (opd fr x)) (fun x=>Do (Ex (fieldAt P t f)) (fun off=>Do (Ex (asAddr x)) (fun a=>K (ptr a.1 (a.2+off)) h) nx) nx) nx:=by
 show wpOp P (.fieldAddr t x f) fr h K=_
 rw[yp]
 show _=Ex (opd fr x) _
 congr 1;funext x
 show _=Ex (fieldAt P t f) _
 cases fieldAt P t f<;>cases asAddr x<;>simp[Do]
theorem w7 (t:TypeId) (x i:Operand):Do (wpOp P (.indexAddr t x i) fr h) K u=Do (Ex (opd fr x)) (fun x=>Do (Ex (opd fr i)) (fun i=>Do (Ex (indexAddr P t x i)) (fun v=>K v h) nx) nx) nx:=rfl
theorem Qs (op:UnOp) (t:TypeId) (x:Operand):Do (wpOp P (.unOp op t x) fr h) K u=Do (Ex (opd fr x)) (fun v=>Do (Ex (bif plain v then cE P (Op.unary op v) else none)) (fun v=>K v h) nx) nx:=KX P fr h K op t x
theorem Ce (s d:TypeId) (x:Operand):Do (wpOp P (.convert s d x) fr h) K u=Do (Ex (opd fr x)) (fun v=>Do (Ex (mU P s d v)) (fun v=>K v h) nx) nx:=Cy P fr h K s d x
theorem w6 (t:TypeId) (l c:Operand):Do (wpOp P (.makeSlice t l c) fr h) K u=Do (Ex (opd fr l)) (fun l=>Do (Ex (opd fr c)) (fun c=>Do (Ex (makeSlice P h t l c)) (fun r=>K r.1 r.2) nx) nx) nx:=yo P fr h K t l c
theorem uL (t:TypeId) (n:Nat) (ps:Array (Nat×Operand)):Do (wpOp P (.buildSlice t n ps) fr h) K u=Do (Ex (partsOf fr ps.toList)) (fun ps=>Do (Ex (buildSlice P h t n ps)) (fun r=>K r.1 r.2) nx) nx:=xu P fr h K t n ps
theorem Ko (t:TypeId) (x:Operand) (lo hi mx:Option Operand):Do (wpOp P (.slice t x lo hi mx) fr h) K u=Do (Ex (opd fr x)) (fun x=>Do (Ex (cY fr lo)) (fun lo=>Do (Ex (cY fr hi)) (fun hi=>Do (Ex (cY fr mx)) (fun mx=>Do (Ex (cy P h t x lo hi mx)) (fun v=>K v h) nx) nx) nx) nx) nx:=GS P fr h K t x lo hi mx
theorem Ku (t:TypeId) (ps:Array (Nat×Operand)):Do (wpOp P (.build t ps) fr h) K u=Do (Ex (partsOf fr ps.toList)) (fun ps=>Do (Ex (dY P t ps)) (fun v=>K v h) nx) nx:=GW P fr h K t ps
theorem Kt (t:TypeId) (x:Operand) (f:Nat):Do (wpOp P (.field t x f) fr h) K u=Do (Ex (opd fr x)) (fun x=>Do (Ex (tk P t f x)) (fun v=>K v h) nx) nx:=GV P fr h K t x f
theorem Ab (x:Operand):Do (wpOp P (.nilCheck x) fr h) K u=Do (Ex (opd fr x)) (fun x=>Do (Ex (FE x)) (fun v=>K v h) nx) nx:=by
 show wpOp P (.nilCheck x) fr h K=_
 rw[Az]
 show _=Ex (opd fr x) _
 congr 1;funext x
 show _=Ex (FE x) _
 cases x with
 | pointer a=>cases a<;>simp[FE]
 | func f xs ys=>cases f<;>simp[FE]
 | _=>simp[FE]
theorem Gn (t:TypeId) (m k:Operand) (ok:Bool):Do (wpOp P (.lookup t m k ok) fr h) K u=Do (Ex (opd fr m)) (fun m=>Do (Ex (opd fr k)) (fun k=>Do (Ex (lookup P h t m k ok)) (fun v=>K v h) nx) nx) nx:=D8 P fr h K t m k ok
theorem wZ (t:TypeId) (m k v:Operand):Do (wpOp P (.mapUpdate t m k v) fr h) K u=Do (Ex (opd fr m)) (fun m=>Do (Ex (opd fr k)) (fun k=>Do (Ex (opd fr v)) (fun v=>Do (Ex (mapUpdate P h t m k v)) (fun h=>K undef h) nx) nx) nx) nx:=pN P fr h K t m k v
theorem Gp (t:TypeId) (m k v:Operand):Do (wpOp P (.insert t m k v) fr h) K u=Do (Ex (opd fr m)) (fun m=>Do (Ex (opd fr k)) (fun k=>Do (Ex (opd fr v)) (fun v=>Do (Ex (mapUpdate P h t m k v)) (fun h=>K undef h) nx) nx) nx) nx:=D9 P fr h K t m k v
theorem Cc (t:TypeId):Do (wpOp P (.makeMap t none) fr h) K u=K (.map (some (2*h.n))) (h.new (.map [])):=Cx P fr h K t
theorem Kr (t:TypeId) (x i:Operand):Do (wpOp P (.index t x i) fr h) K u=Do (Ex (opd fr x)) (fun x=>Do (Ex (opd fr i)) (fun i=>Do (Ex (oU P t x i)) (fun v=>K v h) nx) nx) nx:=GU P fr h K t x i
end
section
variable (P:Program) (nt:Nat) (all:List Oper) (d:Option Tmp) (o:Op) (ty:TypeId) (pos:String) (af:Array Edge) (l:List Oper) (fr:Fr) (h:IH)
theorem Ud (d:Nat) (v:Value) (K:Fr→Prop) (u:Nx K) (hd:d<nt):Do (eE nt fr (some d) v) K u=K ((d,v) :: fr):=GQ nt fr d v K hd
theorem Aa (v:Value) (K:Fr→Prop) (u:Nx K):Do (eE nt fr none v) K u=K fr:=rfl
theorem Ue (K:Fr→IH→Prop) (u:Nx K):Do (wpOps P nt all [] fr h) K u=K fr h:=rfl
theorem QC (K:Fr→IH→Prop) (u:Nx K):Do (wpOps P nt all (⟨d,o,ty,pos,af,none⟩ :: l) fr h) K u=Do (wpOp P o fr h) (fun v h=>Do (eE nt fr d v) (fun fr=>Do (wpOps P nt all l fr h) K nx) nx) nx:=rfl
theorem Ks (j:Nat) (want:Bool) (K:Fr→IH→Prop) (u:Nx K):Do (wpOps P nt all (⟨d,o,ty,pos,af,some (j,want)⟩ :: l) fr h) K u =
  Do (Ex ((all[j]?).bind (·.dst))) (fun g=>Do (Ex (ai fr g)) (fun b=>match b with
   | .bool b=>Bq (b == want) (Do (wpOp P o fr h) (fun v h=>Do (eE nt fr d v) (fun fr=>Do (wpOps P nt all l fr h) K nx) nx) nx,Do (eE nt fr d undef) (fun fr=>Do (wpOps P nt all l fr h) K nx) nx) nx
   | .tuple _=>Do (eE nt fr d undef) (fun fr=>Do (wpOps P nt all l fr h) K nx) nx
   | _=>False) nx) nx:=rfl
theorem Qt (tr:List (Fr×IH)) (K:List (Fr×IH)→Prop) (u:Nx K):Do (cJ P nt all [] fr h tr) K u=K (tr ++ [(fr,h)]):=rfl
theorem Km (tr:List (Fr×IH)) (K:List (Fr×IH)→Prop) (u:Nx K):Do (cJ P nt all (⟨d,o,ty,pos,af,none⟩ :: l) fr h tr) K u=Do (wpOp P o fr h) (fun v h1=>Do (eE nt fr d v) (fun fr1=>Do (cJ P nt all l fr1 h1 (tr ++ [(fr,h)])) K nx) nx) nx:=rfl
theorem Gl (j:Nat) (want:Bool) (tr:List (Fr×IH)) (K:List (Fr×IH)→Prop) (u:Nx K):Do (cJ P nt all (⟨d,o,ty,pos,af,some (j,want)⟩ :: l) fr h tr) K u =
  Do (Ex ((all[j]?).bind (·.dst))) (fun g=>Do (Ex (ai fr g)) (fun b=>match b with
   | .bool b=>Bq (b == want) (Do (wpOp P o fr h) (fun v h1=>Do (eE nt fr d v) (fun fr1=>Do (cJ P nt all l fr1 h1 (tr ++ [(fr,h)])) K nx) nx) nx,Do (eE nt fr d undef) (fun fr1=>Do (cJ P nt all l fr1 h (tr ++ [(fr,h)])) K nx) nx) nx
   | .tuple _=>Do (eE nt fr d undef) (fun fr1=>Do (cJ P nt all l fr1 h (tr ++ [(fr,h)])) K nx) nx
   | _=>False) nx) nx:=rfl
end
section
variable (P:Program) (fn:FuncId) (nt:Nat) (rd:Option Nat) (fr:Fr) (h:IH) (Q:bh→Fr→IH→Prop) (u:Nx Q)
def rA (K:Fr→IH→Prop) (Q:bh→Fr→IH→Prop) (e:bh) (fr:Fr) (h:IH):Prop:=match e with
 | .normal=>K fr h
 | .exit i=>Q (.exit i) fr h
 | .ret=>Q .ret fr h
def pg (id:Nat) (Q:bh→Fr→IH→Prop) (e:bh) (fr:Fr) (h:IH):Prop:=match e with
 | .exit i=>Br (i == id) (Q .normal fr h) (Q (.exit i) fr h)
 | .normal=>Q .normal fr h
 | .ret=>Q .ret fr h
theorem wE (K:Fr→IH→Prop):rA K Q .normal fr h=K fr h:=rfl
theorem Bs (K:Fr→IH→Prop) (i:Nat):rA K Q (.exit i) fr h=Q (.exit i) fr h:=rfl
theorem ET (K:Fr→IH→Prop):rA K Q .ret fr h=Q .ret fr h:=rfl
theorem rW (id:Nat):pg id Q .normal fr h=Q .normal fr h:=rfl
theorem Ak (id:Nat):pg id Q .ret fr h=Q .ret fr h:=rfl
theorem xj (id:Nat):pg id Q (.exit id) fr h=Q .normal fr h:=by simp[pg]
theorem xk (id i:Nat) (hi:(i == id)=false):pg id Q (.exit i) fr h=Q (.exit i) fr h:=by simp[pg,hi]
theorem Qu:Do (wpC P fn nt rd .skip fr h) Q u=Q .normal fr h:=rfl
theorem Gm (id:Nat) (ops:Array Oper):Do (wpC P fn nt rd (.region id ops false) fr h) Q u=Do (wpOps P nt ops.toList ops.toList fr h) (Q .normal) nx:=rfl
theorem QE (id:Nat) (ops:Array Oper) (hc:fL ops.toList=true):Do (wpC P fn nt rd (.region id ops true) fr h) Q u=Do (wpOps P nt ops.toList ops.toList fr h) (Q .normal) nx:=by
 show((fL ops.toList=true→wpOps P nt ops.toList ops.toList fr h (Q .normal))∧(fL ops.toList=false→IV P nt ops.toList fr h (Q .normal)))=_
 simp only[hc,true_implies,reduceCtorEq,false_implies,and_true]
 rfl
theorem kM (a b:Code):Do (wpC P fn nt rd (.seq a b) fr h) Q u=Do (wpC P fn nt rd a fr h) (rA (fun fr h=>Do (wpC P fn nt rd b fr h) Q nx) Q) nx:=by
 show wpC P fn nt rd a fr h _=wpC P fn nt rd a fr h _
 congr 1
theorem QD (c:Operand) (a b:Code):Do (wpC P fn nt rd (.cond c a b) fr h) Q u=Do (Ex (opd fr c)) (fun c=>match c with
  | .bool c=>Bq c (Do (wpC P fn nt rd a fr h) Q nx,Do (wpC P fn nt rd b fr h) Q nx) nx
  | _=>False) nx:=rfl
theorem Kv (id:Nat) (b:Code):Do (wpC P fn nt rd (.block id b) fr h) Q u=Do (wpC P fn nt rd b fr h) (pg id Q) nx:=rfl
theorem Qx (b:Code):Do (wpC P fn nt rd (.loop b) fr h) Q u=Do (xm P fn nt rd b fr h) Q nx:=rfl
theorem Kp (b:Code):Do (wpC P fn nt rd (.scope b) fr h) Q u=Do (wpC P fn nt rd b fr h) Q nx:=rfl
theorem wY (f:Operand) (ps:Array Tmp) (a b:Code):Do (wpC P fn nt rd (.rangeFunc f ps a b) fr h) Q u=Do (Av P fn nt rd f ps a b fr h) Q nx:=rfl
theorem QA (i:Nat):Do (wpC P fn nt rd (.exit i) fr h) Q u=Q (.exit i) fr h:=rfl
theorem Uc:Do (wpC P fn nt rd .ret fr h) Q u=Q .ret fr h:=rfl
end
def Hp (P:Program) (rs:List ResultVar) (K:Value→IH→Prop) (e:bh) (fr:Fr) (h:IH):Prop:=match e with
 | .exit _=>False
 | .normal=>Do (Ex (bg P fr h rs)) (fun l=>K (single l) h) nx
 | .ret=>Do (Ex (bg P fr h rs)) (fun l=>K (single l) h) nx
theorem wG (P:Program) (rs:List ResultVar) (K:Value→IH→Prop) (fr:Fr) (h:IH):Hp P rs K .normal fr h=Do (Ex (bg P fr h rs)) (fun l=>K (single l) h) nx:=rfl
theorem Fc (P:Program) (rs:List ResultVar) (K:Value→IH→Prop) (fr:Fr) (h:IH):Hp P rs K .ret fr h=Do (Ex (bg P fr h rs)) (fun l=>K (single l) h) nx:=rfl
theorem enter {P:Program} {f:FuncId} {fn:Func} {c:Code} {nt:Nat} {rs:List ResultVar} {first cap:Array Value} {vs:List Value} {h:IH} {K:Value→IH→Prop}
  (hf:P.funcs[f]?=some fn) (hb:fn.body=some c) (hn:fn.ntmps=nt) (hr:fn.results.toList=rs) (hl:(first.toList ++ (vs ++ cap.toList)).length≤nt)
  (w:Do (wpC P f nt none c (dC 0 (first.toList ++ (vs ++ cap.toList))) h) (Hp P rs K) nx):WV P (.func (.func f) first cap) vs h K :=
 Nu hf hb hn hr hl w
theorem call {P:Program} {fv:Value} {vs:List Value} {h:IH} {K L:Value→IH→Prop} (w:WV P fv vs h L) (k : ∀v h',L v h'→K v h'):Do (WV P fv vs h) K nx:=w.mono k
@[reducible] def Pst (p:Prop) (_:Nx p):Prop:=p
theorem cut {P:Program} {fn:FuncId} {nt:Nat} {rd:Option Nat} {a:Code} {fr:Fr} {h:IH} {K:Fr→IH→Prop} {Q:bh→Fr→IH→Prop} (R:Fr→IH→Prop)
  (w:Do (wpC P fn nt rd a fr h) (rA (fun fr h=>Pst (R fr h) nx) Q) nx) (k : ∀fr h,R fr h→K fr h):Do (wpC P fn nt rd a fr h) (rA K Q) nx :=
 lE (fun e fr h w=>by cases e<;>first|exact k _ _ w|exact w) w
def Pv (I:Nat→Fr→IH→Prop) (m:Nat) (Q:bh→Fr→IH→Prop) (e:bh) (fr:Fr) (h:IH):Prop:=match e with
 | .normal => ∃m',m'<m∧I m' fr h
 | .exit i=>Q (.exit i) fr h
 | .ret=>Q .ret fr h
theorem zr (I:Nat→Fr→IH→Prop) (m:Nat) (Q:bh→Fr→IH→Prop) (i:Nat) (fr:Fr) (h:IH):Pv I m Q (.exit i) fr h=Q (.exit i) fr h:=rfl
theorem BO (I:Nat→Fr→IH→Prop) (m:Nat) (Q:bh→Fr→IH→Prop) (fr:Fr) (h:IH):Pv I m Q .ret fr h=Q .ret fr h:=rfl
theorem loop {P:Program} {fn:FuncId} {nt:Nat} {rd:Option Nat} {b:Code} {Q:bh→Fr→IH→Prop} (I:Nat→Fr→IH→Prop) {fr:Fr} {h:IH} (m:Nat) (start:I m fr h)
  (step : ∀m fr h,I m fr h→Do (wpC P fn nt rd b fr h) (Pv I m Q) nx) (hm:qv b=none:=by rfl):Do (xm P fn nt rd b fr h) Q nx :=
 Ws I (fun m fr h hi=>step m fr h hi) start hm
theorem Qz (tr:List (Fr×IH)) (n:Nat) (K:Fr→IH→Prop) (u:Nx K):Do (GX tr n) K u=Do (Ex tr[n]?) (fun p=>K p.1 p.2) nx:=rfl
theorem ao {P:Program} {ops:List Oper} {tr:List (Fr×IH)} {i p:Nat} {o:Oper} {fr fr':Fr} {h h':IH} (ho:ops[i]?=some o) (hi:tr[i]?=some (fr,h)) (hw:bC ops o fr=some true) (hp:tr[p]?=some (fr',h')) (hs:fP P fr o.op h h'=true):cK P ops tr [(i,[p])]:=by
 refine⟨?_,trivial⟩
 simp only[ho,hi,hw]
 intro q hq
 simp only[List.mem_singleton] at hq
 subst hq
 simp only[hp]
 exact hs
theorem Cw {P:Program} {ops:List Oper} {tr:List (Fr×IH)} {i:Nat} {l:List Nat} {o:Oper} {fr:Fr} {h:IH} (ho:ops[i]?=some o) (hi:tr[i]?=some (fr,h)) (hw:bC ops o fr=some false):cK P ops tr [(i,l)]:=by
 refine⟨?_,trivial⟩
 simp only[ho,hi,hw]
theorem jQ {P:Program} {ops:List Oper} {tr:List (Fr×IH)} {e:Nat×List Nat} {l:List (Nat×List Nat)} (h1:cK P ops tr [e]) (h2:cK P ops tr l):cK P ops tr (e :: l):=⟨h1.1,h2⟩
theorem tD {P:Program} {ops:List Oper} {tr:List (Fr×IH)} {i p:Nat} {l:List Nat} (h1:cK P ops tr [(i,[p])]) (h2:cK P ops tr [(i,l)]):cK P ops tr [(i,p :: l)]:=by
 refine⟨?_,trivial⟩
 have a:=h1.1
 have b:=h2.1
 simp only at a b ⊢
 cases ho:ops[i]? with
 | none=>simp only[ho] at a
 | some o =>
  cases hi:tr[i]? with
  | none=>simp only[ho,hi] at a
  | some x =>
   obtain⟨fr,h⟩:=x
   simp only[ho,hi] at a b ⊢
   cases hw:bC ops o fr with
   | none=>trivial
   | some w =>
    cases w with
    | false=>trivial
    | true =>
     simp only[hw] at a b ⊢
     intro q hq
     rcases List.mem_cons.1 hq with rfl|hq
     ·exact a q (by simp)
     ·exact b q hq
theorem drawn {P:Program} {fn:FuncId} {nt:Nat} {rd:Option Nat} {id:Nat} {ops:Array Oper} {fr:Fr} {h:IH} {Q:bh→Fr→IH→Prop} (pl:List (Nat×List Nat)) (ho:kT ops.toList=true) (hp:Bz ops.toList=pl) (hne:pl.isEmpty=false)
  (w:Do (cJ P nt ops.toList ops.toList fr h []) (fun tr=>Pst (cK P ops.toList tr pl∧Do (GX tr ops.toList.length) (Q .normal) nx) nx) nx):Do (wpC P fn nt rd (.region id ops true) fr h) Q nx:=by
 subst hp
 refine⟨fun hc=>?_,fun _=>⟨ho,w⟩⟩
 simp[fL,List.isEmpty_iff] at hc hne
 exact absurd hc.2 hne
theorem Kq (P:Program) (fn:FuncId) (nt:Nat) (rd:Option Nat) (l:Nat) (fr:Fr) (h:IH) (Q:bh→Fr→IH→Prop) (u:Nx Q):Do (wpC P fn nt rd (.label l) fr h) Q u=Q .normal fr h:=rfl
theorem yI (v:Value):single [v]=v:=rfl
theorem yJ:single []=.tuple #[]:=rfl
theorem yH (a b:Value):single [a,b]=.tuple #[a,b]:=rfl
theorem tQ (a b c:Value):single [a,b,c]=.tuple #[a,b,c]:=rfl
theorem Pz (h:IH) (b o:Nat):ld h b o=(h.row b).bind (·[o]?):=rfl
theorem FB {α:Type} (l:List α) : [] ++ l=l:=rfl
theorem GH {α:Type} (l:List α):l ++ []=l:=List.append_nil l
theorem Cg {α:Type} (x:α) (l m:List α):(x :: l) ++ m=x :: (l ++ m):=rfl
theorem F2 {α:Type} {d:Decidable True} (a b:α):ite True a b=a:=if_pos trivial
theorem BT {α:Type} {d:Decidable False} (a b:α):ite False a b=b:=if_neg id
theorem An {α β:Type} (a:α) (f:α→Option β):(some a).bind f=f a:=rfl
theorem BK {α β:Type} (a:α) (f:α→β):(some a).map f=some (f a):=rfl
theorem BX {α:Type} (x:α) (l:List α):(x :: l)[0]?=some x:=rfl
theorem BY {α:Type} (x:α) (l:List α) (n:Nat):(x :: l)[n+1]?=l[n]?:=rfl
theorem Gb {α:Type} (l:List α) (n:Nat):l.toArray[n]?=l[n]?:=List.getElem?_toArray
theorem Je {α:Type} (l:List α):l.toArray.toList=l:=rfl
theorem Em:undef=Value.tuple #[]:=rfl
def wpS:=And.intro @Qw (And.intro @Gq (And.intro @Kx (And.intro @Uf (And.intro @Qy (And.intro @Kn (And.intro @Kw (And.intro @Qv (
 And.intro @Cd (And.intro @Ac (And.intro @QF (And.intro @Cf (And.intro @w9 (And.intro @w7 (And.intro @Qs (And.intro @Ce (
 And.intro @w6 (And.intro @uL (And.intro @Ko (And.intro @Ku (And.intro @Kt (And.intro (And.intro @Ab (And.intro @FC (And.intro @BI (And.intro @FD @Kq)))) (And.intro @Gn (And.intro (And.intro @wZ @Gp) (
 And.intro @Cc (And.intro @Kr (And.intro @Ud (And.intro @Aa (And.intro @Ue (And.intro @QC (And.intro @Ks (And.intro @Qt (
 And.intro @Km (And.intro @Gl (And.intro @wE (And.intro @Bs (And.intro @ET (And.intro @rW (And.intro @Ak (And.intro @xj (
 And.intro @xk (And.intro @Qu (And.intro @Gm (And.intro @QE (And.intro @kM (And.intro @QD (And.intro @Kv (And.intro @Qx (
 And.intro @Kp (And.intro @wY (And.intro @QA (And.intro @Uc (And.intro @wG (And.intro @Fc (And.intro @zr (And.intro @BO (
 And.intro @Ub (And.intro @B9 (And.intro @zZ (And.intro @Gi (And.intro @DQ (And.intro @Aj (And.intro @JP (And.intro @Fq (
 And.intro @zd (And.intro @rR (And.intro @qk (And.intro @nR (And.intro @mL (And.intro @l6 (And.intro @nS (And.intro @nT (
 And.intro @Fo (And.intro @BG (And.intro @wK (And.intro @ug (And.intro @wN (And.intro @wM (And.intro @oh (And.intro @uG (
 And.intro @wV (And.intro @FB (And.intro @GH (And.intro @Cg (And.intro @F2 (And.intro @BT (And.intro @An (And.intro @BK (
 And.intro @and_true (And.intro @true_and (And.intro @Nat.zero_add (And.intro @Nat.add_zero (And.intro @Nat.zero_mul (And.intro @Nat.one_mul (And.intro @Nat.mul_one (And.intro @qb (
 And.intro @rO (And.intro @tX (And.intro @rP (And.intro @wh (And.intro @vX (And.intro @v5 (And.intro @we (And.intro @vZ (
 And.intro @v8 (And.intro @v9 (And.intro @wa (And.intro @wc (And.intro @Q8 (And.intro @Ul (And.intro @QY (And.intro @Q7 (
 And.intro @Q9 (And.intro @Um (And.intro @GF (And.intro @Oo (And.intro @TF (And.intro @Oq (And.intro @Ot (And.intro @TL (
 And.intro @OQ (And.intro @OK (And.intro @vb (And.intro @Ba (And.intro @wrap_i64 (And.intro @tC (And.intro @wrap_u8 (And.intro @D7 (
 And.intro @wrap_u32 (And.intro @Int.toNat_natCast (And.intro @Int.toNat_one (And.intro @Int.toNat_zero (And.intro @builtin_len (And.intro @iD (And.intro @rS (And.intro @re (
 And.intro @zV (And.intro @Pz (And.intro @TJ (And.intro @Ao (And.intro @BX (And.intro @BY (And.intro @Gb (And.intro @Je (
 And.intro @Ck (And.intro @Ag (And.intro @xg (And.intro @Ci (And.intro @Cl (And.intro @Af (And.intro @rU (And.intro @Cj (
 And.intro @uN (And.intro @ax (And.intro @zk (And.intro @ay (And.intro @yY (And.intro @kS (And.intro @wF (And.intro @tV (
 And.intro @qa (And.intro @ab (And.intro @ar (And.intro @aa (And.intro @ah (And.intro @yI (And.intro @yH (And.intro @yJ (
 And.intro @tQ (And.intro @Qz (@Em))))))))))))))))))))))))))))))))))))))))))))))))))))))))))))))))))))))))))))))))))))))))))))))))))))))))))))))))))))))))))))))))))))))))))))))))))))))))))))))))))))))))))
def wpR:=And.intro @Qw (And.intro @Gq (And.intro @Kx (And.intro @Uf (And.intro @Qy (And.intro @Kn (And.intro @Kw (And.intro @Qv (
 And.intro @Cd (And.intro @Ac (And.intro @QF (And.intro @Cf (And.intro @w9 (And.intro @w7 (And.intro @Qs (And.intro @Ce (
 And.intro @w6 (And.intro @uL (And.intro @Ko (And.intro @Ku (And.intro @Kt (And.intro (And.intro @Ab (And.intro @FC (And.intro @BI (And.intro @FD @Kq)))) (And.intro @Gn (And.intro (And.intro @wZ @Gp) (
 And.intro @Cc (And.intro @Kr (And.intro @Ud (And.intro @Aa (And.intro @Ue (And.intro @QC (And.intro @Ks (And.intro @Qt (
 And.intro @Km (And.intro @Gl (And.intro @wE (And.intro @Bs (And.intro @ET (And.intro @rW (And.intro @Ak (And.intro @xj (
 And.intro @xk (And.intro @Qu (And.intro @Gm (And.intro @QE (And.intro @QD (And.intro @Kv (And.intro @Qx (And.intro @Kp (
 And.intro @wY (And.intro @QA (And.intro @Uc (And.intro @wG (And.intro @Fc (And.intro @zr (And.intro @BO (And.intro @Ub (
 And.intro @B9 (And.intro @zZ (And.intro @Gi (And.intro @DQ (And.intro @Aj (And.intro @JP (And.intro @Fq (And.intro @zd (
 And.intro @rR (And.intro @qk (And.intro @nR (And.intro @mL (And.intro @l6 (And.intro @nS (And.intro @nT (And.intro @Fo (
 And.intro @BG (And.intro @wK (And.intro @ug (And.intro @wN (And.intro @wM (And.intro @oh (And.intro @uG (And.intro @wV (
 And.intro @FB (And.intro @GH (And.intro @Cg (And.intro @F2 (And.intro @BT (And.intro @An (And.intro @BK (And.intro @and_true (
 And.intro @true_and (And.intro @Nat.zero_add (And.intro @Nat.add_zero (And.intro @Nat.zero_mul (And.intro @Nat.one_mul (And.intro @Nat.mul_one (And.intro @qb (And.intro @rO (
 And.intro @tX (And.intro @rP (And.intro @wh (And.intro @vX (And.intro @v5 (And.intro @we (And.intro @vZ (And.intro @v8 (
 And.intro @v9 (And.intro @wa (And.intro @wc (And.intro @Q8 (And.intro @Ul (And.intro @QY (And.intro @Q7 (And.intro @Q9 (
 And.intro @Um (And.intro @GF (And.intro @Oo (And.intro @TF (And.intro @Oq (And.intro @Ot (And.intro @TL (And.intro @OQ (
 And.intro @OK (And.intro @vb (And.intro @Ba (And.intro @wrap_i64 (And.intro @tC (And.intro @wrap_u8 (And.intro @D7 (And.intro @wrap_u32 (
 And.intro @Int.toNat_natCast (And.intro @Int.toNat_one (And.intro @Int.toNat_zero (And.intro @builtin_len (And.intro @iD (And.intro @rS (And.intro @re (And.intro @zV (
 And.intro @Pz (And.intro @TJ (And.intro @Ao (And.intro @BX (And.intro @BY (And.intro @Gb (And.intro @Je (And.intro @Ck (
 And.intro @Ag (And.intro @xg (And.intro @Ci (And.intro @Cl (And.intro @Af (And.intro @rU (And.intro @Cj (And.intro @uN (
 And.intro @ax (And.intro @zk (And.intro @ay (And.intro @yY (And.intro @kS (And.intro @wF (And.intro @tV (And.intro @qa (
 And.intro @ab (And.intro @ar (And.intro @aa (And.intro @ah (And.intro @yI (And.intro @yH (And.intro @yJ (And.intro @tQ (
 And.intro @Qz (@Em)))))))))))))))))))))))))))))))))))))))))))))))))))))))))))))))))))))))))))))))))))))))))))))))))))))))))))))))))))))))))))))))))))))))))))))))))))))))))))))))))))))))))
end Go.Id

namespace Go.Id
open Go
theorem Hc (cs:List Value):IH.aG cs 0 []=cs:=by simp[IH.aG]
theorem EF (c v:Value) (cs vs:List Value):IH.aG (c :: cs) 0 (v :: vs)=v :: IH.aG cs 0 vs:=by simp[IH.aG]
theorem wC (c:Value) (cs vs:List Value) (n:Nat):IH.aG (c :: cs) (n+1) vs=c :: IH.aG cs n vs:=by
 simp[IH.aG,show n+1+vs.length=(n+vs.length)+1 from by omega]
theorem jF {cs:List Value} {n:Nat} {v:Value} (h:n<cs.length):IH.aG cs n [v]=cs.set n v:=by
 simp only[IH.aG,List.length_singleton,List.singleton_append]
 exact(List.set_eq_take_append_cons_drop.trans (if_pos h)).symm
theorem gC {cs vs:List Value} (h:cs.length=vs.length):IH.aG cs 0 vs=vs:=by
 simp[IH.aG,h]
theorem SX (k:IntKind) (n:Int):aH (.int k n)=true:=rfl
theorem QN (b:Bool):aH (.bool b)=true:=rfl
theorem MW (a:Option Addr) (n k:Nat):aH (.slice a n k)=true:=rfl
theorem SV (b o:Nat):aH (ptr b o)=true:=rfl
theorem QM (f:Fn) (a b:Array Value):aH (.func f a b)=true:=rfl
theorem SW (r:Option Nat):aH (.map r)=true:=rfl
theorem Gt:aH .nilFunc=true:=rfl
theorem Is:aH (.pointer none)=true:=rfl
theorem Rf (p:Value→Bool):([]:List Value).all p=true:=rfl
theorem Np (p:Value→Bool) (v:Value) (l:List Value):(v :: l).all p=(p v && l.all p):=rfl
theorem Ww (b:Bool):(true && b)=b:=rfl
theorem XK (b:Bool):(false && b)=false:=rfl
theorem Yk (b:Bool):(b && true)=b:=by cases b<;>rfl
theorem Py {α:Type}:([]:List α).length=0:=rfl
theorem Mv {α:Type} (v:α) (l:List α):(v :: l).length=l.length+1:=rfl
def stE (n:Nat) (h:IH) (k o:Nat) (vs:List Value):Option bR→Option IH
 | some (.cells cs e none)=>if vs.length=n∧vs.all aH=true∧o+n≤cs.length then some (h.put k (.cells (IH.aG cs o vs) e none)) else none
 | some (.cells cs e (some f))=>if vs.length=n∧vs.all aH=true then h.wr (2*k) o vs else none
 | _=>none
theorem dO {P:Program} {t:TypeId} {n:Nat} (hT:aJ P t=some n) (h:IH) (k o:Nat) (v:Value):store P h t (ptr (2*k) o) v=stE n h k o v.cells.toList (h.ext.get k):=by
 have h1:(2*k % 2 == 1)=false:=by simp
 have h2:2*k / 2=k:=by omega
 simp only[store,asAddr,ptr,hT,cond_eq_ite,Bool.and_eq_true,beq_iff_eq]
 rw[show v.cells.size=v.cells.toList.length from by simp]
 generalize v.cells.toList=vs
 cases hg:h.ext.get k with
 | none=>simp[stE,IH.wr,h2,hg]
 | some ob =>
  cases ob with
  | cells cs e f =>
   cases f with
   | none =>
    simp only[stE,IH.wr,h1,h2,hg,cond_eq_ite,Nat.ble_eq,Bool.false_eq_true,if_false]
    by_cases hc:vs.length=n∧vs.all aH=true
    ·rw[if_pos hc]
     obtain⟨rfl,hc2⟩:=hc
     by_cases hl:o+vs.length≤cs.length
     ·rw[if_pos hl,if_pos ⟨rfl,hc2,hl⟩];rfl
     ·rw[if_neg hl,if_neg fun x=>hl x.2.2]
    ·rw[if_neg hc,if_neg fun x=>hc ⟨x.1,x.2.1⟩]
   | some f=>simp[stE]
  | _=>simp[stE,IH.wr,h2,hg]
theorem UL (n:Nat) (h:IH) (k o:Nat) (vs cs:List Value) (e:Nat):stE n h k o vs (some (.cells cs e none))=if vs.length=n∧vs.all aH=true∧o+n≤cs.length then some (h.put k (.cells (IH.aG cs o vs) e none)) else none:=rfl
theorem qG (h:IH) {sz m:Nat} {cs:List Value} (hz:0<sz) (hl:cs.length=m*sz) (hm:0<m):bI (h.new (.cells cs sz none)) sz (.slice (some ⟨2*h.n,0,none⟩) m (2*m+1)) m cs:=by
 refine⟨hz,hl,.inr ⟨2*h.n,0,2*m+1,rfl,.inr ⟨by omega,by omega,cs,.inr ⟨by omega,by simp,none,?_⟩,?_,?_,by omega⟩⟩⟩
 ·rw[show 2*h.n / 2=h.n from by omega,kV,if_pos rfl]
 ·exact kS _ _ _ _ rfl
 ·rw[List.drop_zero,List.take_of_length_le (by omega)]
theorem cD {h:IH} {k sz n c:Nat} {cs:List Value} {f:Option Nat} (hg:h.ext.get k=some (.cells cs sz f)) (hk:k<h.n) (hz:0<sz) (hl:cs.length=n*sz) (hc:0<c) (hn:n≤c / 2):bI h sz (.slice (some ⟨2*k,0,none⟩) n c) n cs:=by
 refine⟨hz,hl,.inr ⟨2*k,0,c,rfl,.inr ⟨hc,hn,cs,.inr ⟨by omega,by omega,f,?_⟩,?_,?_,by omega⟩⟩⟩
 ·rw[show 2*k / 2=k from by omega,hg]
 ·rw[ji];simp[IH.cells,hg]
 ·rw[List.drop_zero,List.take_of_length_le (by omega)]
theorem Acc.Aq {h:IH} {n0 sz:Nat} {v:Value} {n:Nat} {cs:List Value} (a:Acc h n0 sz v n cs) {P:Program} {t:TypeId} {bytes:Nat} (hT:kL P t=some (sz,bytes)) {m:Nat} {new:List Value} (hm:0<m) (hl:new.length=m*sz)
  (hc:new.all aH=true) (hsz:(n+m)*(bytes+1)≤1099511627776) (h0:n0≤h.n) {h0':IH} (e0:Ext h0' h) (hn0:h0'.n≤n0) :
  ∃v' h',append P (h.new (.cells new sz none)) t v (.slice (some ⟨2*h.n,0,none⟩) m (2*m+1))=some (v',h')∧Acc h' n0 sz v' (n+m) (cs ++ new)∧Grow h h'∧Ext h0' h':=by
 have e1:Ext h (h.new (.cells new sz none)):=(Ext.refl h).new _
 obtain⟨v',h',b1,b2,b3,b4,b5⟩:=(a.ext e1).app hT (qG h a.1 hl hm) hm hc hsz (by simp;omega) (e0.trans e1) hn0
 exact⟨v',h',b1,b2,e1.grow.trans b3,b5⟩
theorem Acc.DX {h:IH} {n0:Nat} {v:Value} {n:Nat} {cs:List Value} (a:Acc h n0 1 v n cs) {P:Program} {t:TypeId} {bytes:Nat} (hT:kL P t=some (1,bytes)) {x:Value}
  (hc:aH x=true) (hsz:(n+1)*(bytes+1)≤1099511627776) (h0:n0≤h.n) {h0':IH} (e0:Ext h0' h) (hn0:h0'.n≤n0) :
  ∃v' h',append P (h.new (.cells [x] 1 none)) t v (.slice (some ⟨2*h.n,0,none⟩) 1 3)=some (v',h')∧Acc h' n0 1 v' (n+1) (cs ++ [x])∧Grow h h'∧Ext h0' h' :=
 a.Aq hT (m:=1) (new:=[x]) (by omega) rfl (by simp[hc]) hsz h0 e0 hn0
theorem Acc.app2 {h:IH} {n0:Nat} {v:Value} {n:Nat} {cs:List Value} (a:Acc h n0 1 v n cs) {P:Program} {t:TypeId} {bytes:Nat} (hT:kL P t=some (1,bytes)) {x y:Value}
  (hc:aH x=true) (hc2:aH y=true) (hsz:(n+2)*(bytes+1)≤1099511627776) (h0:n0≤h.n) {h0':IH} (e0:Ext h0' h) (hn0:h0'.n≤n0) :
  ∃v' h',append P (h.new (.cells [x,y] 1 none)) t v (.slice (some ⟨2*h.n,0,none⟩) 2 5)=some (v',h')∧Acc h' n0 1 v' (n+2) (cs ++ [x,y])∧Grow h h'∧Ext h0' h' :=
 a.Aq hT (m:=2) (new:=[x,y]) (by omega) rfl (by simp[hc,hc2]) hsz h0 e0 hn0
theorem uq {P:Program} {t:TypeId} {n b:Nat} {z:List Value} (hT:uo P t=some (n,b,z)) (h:IH) (k j:IntKind) {l c:Int} (h0:0≤l) (h1:l≤c) (h2:c*(b+1)≤1099511627776) :
  makeSlice P h t (.int k l) (.int j c)=some (.slice (some ⟨2*h.n,0,none⟩) l.toNat (2*c.toNat+1),h.new (.cells (bS c.toNat z) n none)):=by
 obtain⟨l,rfl⟩:=Int.eq_ofNat_of_zero_le h0
 obtain⟨c,rfl⟩:=Int.eq_ofNat_of_zero_le (Int.le_trans h0 h1)
 unfold uo at hT
 split at hT
 case h_2=>cases hT
 rename_i e hu
 split at hT
 case h_2=>cases hT
 rename_i zz a1 a2 a3
 simp only[cond_eq_ite,beq_iff_eq] at hT
 split at hT
 case isFalse=>cases hT
 rename_i hz
 cases hT
 have hc2:c*(b+1)≤aI:=by
  have:((c*(b+1):Nat):Int)≤1099511627776:=by simpa using h2
  simp only[aI];omega
 have hcm:c≤aI:=Nat.le_trans (Nat.le_mul_of_pos_right c (by omega)) hc2
 have e1:iq (.int k (l:Int)) aI=some l:=iY (by omega)
 have e2:iq (.int j (c:Int)) aI=some c:=iY hcm
 have e3:(Nat.ble l c && Nat.ble (c*(b+1)) aI && z.length == n)=true:=by
  simp[Nat.ble_eq,hz,hc2];omega
 simp only[makeSlice,hu,e1,e2,a1,a2,a3,e3,cond_true,Int.toNat_natCast]
theorem iu {P:Program} {t:TypeId} {n b:Nat} {z:List Value} (hT:uo P t=some (n,b,z)) (h:IH) (len:Nat) (ps:List (Nat×Value)) (hl:len*n≤16777216) :
  buildSlice P h t len ps=(cj (fun i=>some (i*n,n)) (bS len z) ps).map fun cells=>(.slice (some ⟨2*h.n,0,none⟩) len (2*len+1),h.new (.cells cells n none)):=by
 unfold uo at hT
 split at hT
 case h_2=>cases hT
 rename_i e hu
 split at hT
 case h_2=>cases hT
 rename_i zz a1 a2 a3
 simp only[cond_eq_ite,beq_iff_eq] at hT
 split at hT
 case isFalse=>cases hT
 rename_i hz
 cases hT
 have e3:(Nat.ble (len*n) iZ && z.length == n)=true:=by
  simp[Nat.ble_eq,hz,iZ];exact hl
 simp only[buildSlice,hu,a1,a3,e3,cond_true]
 cases cj (fun i=>some (i*n,n)) (bS len z) ps<;>rfl
theorem MN (place:Nat→Option (Nat×Nat)) (cs:List Value):cj place cs []=some cs:=rfl
theorem Ij (place:Nat→Option (Nat×Nat)) (cs:List Value) (i:Nat) (v:Value) (l:List (Nat×Value)) :
  cj place cs ((i,v) :: l)=(place i).bind fun p=>if v.cells.toList.length=p.2∧p.1+p.2≤cs.length then cj place (IH.aG cs p.1 v.cells.toList) l else none:=by
 simp only[cj]
 cases place i with
 | none=>rfl
 | some p =>
  simp only[Option.bind_some,cond_eq_ite,Bool.and_eq_true,beq_iff_eq,Nat.ble_eq]
  simp
theorem LG (z:List Value):bS 0 z = []:=rfl
theorem Bu (n:Nat) (z:List Value):bS (n+1) z=z ++ bS n z:=rfl
theorem Fe (n:Nat) (v:Value):bS n [v]=List.replicate n v:=by
 induction n with
 | zero=>rfl
 | succ n ih=>rw[Bu,ih,List.replicate_succ];rfl
theorem df {P:Program} {t:TypeId} {z:List Value} (hz:aB P t=some z) (ha:bU P t=true) (ps:List (Nat×Value)):dY P t ps=(cj (placeOf P t) z ps).map fun cs=>.agg cs.toArray:=by
 simp[dY,hz,ha]
theorem hI {P:Program} {fn:FuncId} {nt:Nat} {rd:Option Nat} {a c:Code} {fr:Fr} {h:IH} {K:Fr→IH→Prop} {Q:bh→Fr→IH→Prop} {b:Bool} (R:Fr→IH→Prop)
  (h1:b=true→Do (wpC P fn nt rd a fr h) (rA (fun fr h=>Pst (R fr h) nx) Q) nx) (h2:b=false→Do (wpC P fn nt rd c fr h) (rA (fun fr h=>Pst (R fr h) nx) Q) nx) (k : ∀fr h,R fr h→K fr h) :
  Bq b (Do (wpC P fn nt rd a fr h) (rA K Q) nx,Do (wpC P fn nt rd c fr h) (rA K Q) nx) nx :=
 aA (fun hb=>cut R (h1 hb) k) fun hb=>cut R (h2 hb) k
theorem wu {P:Program} {fr:Fr} {o:Op} {h h' x y:IH} {v:Value} (h1:iop P fr o h=some (v,x)) (h2:iop P fr o h'=some (v,y)):fP P fr o h h'=true:=by
 simp[fP,h1,h2,Gg]
theorem aT {P:Program} {fr:Fr} {t:TypeId} {a:Operand} {av v:Value} {h h':IH} (ha:opd fr a=some av) (h1:load P h t av=some v) (h2:load P h' t av=some v):fP P fr (.load t a) h h'=true :=
 wu (by simp[iop,ha,h1];exact⟨rfl,rfl⟩) (by simp[iop,ha,h2];rfl)
theorem cS (P:Program) {α β:Type} (f:α→Sem β) : ∀s:Sem α,az P (s.bind f)=(az P s).bind fun a=>az P (f a)
 | .pure a=>rfl
 | .program k=>cS P f (k P)
 | .load _ _ _=>rfl
 | .store _ _ _ _=>rfl
 | .new _ _=>rfl
 | .shape _ _=>rfl
 | .freeze _ _ _=>rfl
 | .frozen _ _=>rfl
 | .getObj _ _=>rfl
 | .setObj _ _ _=>rfl
 | .choose _ _=>rfl
 | .sys _ _=>rfl
 | .mark _ _=>rfl
 | .halt _=>rfl
theorem zY {P:Program} {t:TypeId} (hT:P.underlying t=some .bool) (a b:Bool):az P (Op.equal t (.bool a) (.bool b))=some (a == b):=by
 show az P (Sem.bind (underlying t) _)=_
 rw[iJ hT];rfl
theorem Am {P:Program} {t:TypeId} (hT:P.underlying t=some .bool) (ox oy:Operand) (a b:Bool):binop P .eql t ox oy (.bool a) (.bool b)=some (.bool (a == b)):=by
 refine dE P t ox oy rfl rfl rfl ?_
 show az P (Sem.bind (Op.equal t (.bool a) (.bool b)) fun r=>Sem.pure (Value.bool r))=_
 rw[cS,zY hT];rfl
theorem Al {P:Program} {t:TypeId} (hT:P.underlying t=some .bool) (ox oy:Operand) (a b:Bool):binop P .neq t ox oy (.bool a) (.bool b)=some (.bool (!(a == b))):=by
 refine dE P t ox oy rfl rfl rfl ?_
 show az P (Sem.bind (Op.equal t (.bool a) (.bool b)) fun r=>Sem.pure (Value.bool (!r)))=_
 rw[cS,zY hT];rfl
theorem Jn (P:Program) (t:TypeId) (ox oy:Operand) {j:IntKind} {a b:Nat} (h:a*2 ^ b<18446744073709551616) (hb:b≤64):binop P .shl t ox oy (.int .u64 (a:Int)) (.int j (b:Int))=some (.int .u64 ((a*2 ^ b:Nat):Int)):=by
 rw[ov P t ox oy (by omega)]
 show some (Value.int .u64 (IntKind.u64.wrap ((a:Int)*2 ^ min b 64)))=_
 rw[Nat.min_eq_left hb,show(a:Int)*2 ^ b=((a*2 ^ b:Nat):Int) from by simp,di h]
theorem uJ {a b:Int} (h:a<b):decide (a<b)=true:=by simpa using h
theorem uK {a b:Int} (h : ¬a<b):decide (a<b)=false:=by simpa using h
theorem Qq {a b:Int} (h:a≤b):decide (a≤b)=true:=by simpa using h
theorem Qr {a b:Int} (h : ¬a≤b):decide (a≤b)=false:=by simpa using h
theorem Nj {a b:Int} (h:a=b):(a == b)=true:=by simpa using h
theorem Nk {a b:Int} (h : ¬a=b):(a == b)=false:=by simpa using h
theorem Nd {a b:Int} (h : ¬a=b):(a != b)=true:=by simpa using h
theorem Nf {a b:Int} (h:a=b):(a != b)=false:=by simpa using h
theorem Ni (b:Bool):(b == true)=b:=by cases b<;>rfl
theorem IC (b:Bool):(b == false) = !b:=by cases b<;>rfl
theorem Mm:(!true)=false:=rfl
theorem HM:(!false)=true:=rfl
theorem Ph (b:Bool):(!(!b))=b:=by cases b<;>rfl
theorem Qf {α:Type} (a:α):(a=a)=True:=by simp
def wpT:=And.intro @MN (And.intro @Ij (And.intro @Hc (And.intro @EF (And.intro @wC (And.intro @LG (And.intro @Bu (And.intro @UL (
 And.intro @Ww (And.intro @XK (And.intro @Yk (And.intro @SX (And.intro @QN (And.intro @MW (And.intro @SV (And.intro @QM (
 And.intro @SW (And.intro @Gt (And.intro @Is (And.intro @Rf (And.intro @Np (And.intro @Py (And.intro @Mv (And.intro @Qf (
 And.intro @uJ (And.intro @uK (And.intro @Qq (And.intro @Qr (And.intro @Nj (And.intro @Nk (And.intro @Nd (And.intro @Nf (
 And.intro @Ni (And.intro @IC (And.intro @Mm (And.intro @HM (And.intro @Ph (And.intro @true_and (@and_true))))))))))))))))))))))))))))))))))))))
end Go.Id
