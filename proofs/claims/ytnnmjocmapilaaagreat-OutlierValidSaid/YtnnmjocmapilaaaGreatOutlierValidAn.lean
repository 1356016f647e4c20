/-
  Weakest preconditions over the ideal machine, seventh part: one step after the other
-/
import Derived.Test.YtnnmjocmapilaaaGreatOutlierValidAm
import Derived.OpenShut
import Derived.ChangeStays
import Derived.ChangeSame
import Derived.Deep.Slices
import Derived.Test.YtnnmjocmapilaaaGreatRows
import Derived.ProofKit
set_option linter.unusedVariables false
set_option linter.unusedSimpArgs false
set_option linter.defProp false
set_option linter.deprecated false
namespace Go.Id
open Go
def Nx {α:Type} (_:α):Type:=Unit
def nx {α:Type} {a:α}:Nx a:=()
def Do {κ:Type} (m:κ→Prop) (K:κ) (_:Nx K):Prop:=m K
def Bq (b:Bool) (pq:Prop×Prop) (_:Nx pq):Prop:=Br b pq.1 pq.2
theorem Vv {α:Type} (v:α) (K:α→Prop) (u:Nx K):Do (Ex (some v)) K u=K v:=Ey v K
theorem Cv {α β:Type} (o:Option α) (f:α→β) (K:β→Prop) (u:Nx K):Do (Ex (o.map f)) K u=Do (Ex o) (fun v=>K (f v)) nx:=XW o f K
theorem Ap {α β:Type} (o:Option α) (f:α→Option β) (K:β→Prop) (u:Nx K):Do (Ex (o.bind f)) K u=Do (Ex o) (fun v=>Do (Ex (f v)) K nx) nx:=UD o f K
theorem GY {α:Type} (c:Prop) [Decidable c] (v:Option α) (hc:c) (K:α→Prop) (u:Nx K):Do (Ex (if c then v else none)) K u=Do (Ex v) K nx:=by rw[if_pos hc];rfl
theorem Em (p q:Prop) (u:Nx (p,q)):Bq true (p,q) u=p:=UF p q
theorem AL (p q:Prop) (u:Nx (p,q)):Bq false (p,q) u=q:=Sr p q
theorem aq {b:Bool} {p q:Prop} (h1:b=true→p) (h2:b=false→q):Bq b (p,q) nx:=Br.intro h1 h2
def Gr:Value→Option Value
 | .pointer (some a)=>some (.pointer (some a))
 | .func (.func f) xs ys=>some (.func (.func f) xs ys)
 | .func (.yield f) xs ys=>some (.func (.yield f) xs ys)
 | .map r=>some (.map r)
 | _=>none
theorem Gp (b o:Nat):Gr (ptr b o)=some (ptr b o):=rfl
theorem BW (f:FuncId) (xs ys:Array Value):Gr (.func (.func f) xs ys)=some (.func (.func f) xs ys):=rfl
theorem Gq (r:Option Nat):Gr (.map r)=some (.map r):=rfl
section
variable (P:Program) (fr:Fr) (h:IH) (K:Value→IH→Prop) (u:Nx K)
theorem RA (x:Operand):Do (wpOp P (.move x) fr h) K u=Do (Ex (opd fr x)) (fun v=>K v h) nx:=rfl
theorem G5 (x:Operand):Do (wpOp P (.assign x) fr h) K u=Do (Ex (opd fr x)) (fun v=>K v h) nx:=rfl
theorem LS (t:TypeId):Do (wpOp P (.alloc t) fr h) K u=Do (Ex (aC P t)) (fun z=>K (ptr (2*h.n) 0) (h.new (.cells z 0 none))) nx:=rfl
theorem Vz (t:TypeId) (x:Operand):Do (wpOp P (.box t x) fr h) K u=Do (Ex (opd fr x)) (fun v=>K (ptr (2*h.n) 0) (h.new (.cells v.cells.toList 0 none))) nx:=rfl
theorem RC (t:TypeId) (a:Operand):Do (wpOp P (.load t a) fr h) K u=Do (Ex (opd fr a)) (fun a=>Do (Ex (load P h t a)) (fun v=>K v h) nx) nx:=rfl
theorem LI (t:TypeId) (a x:Operand):Do (wpOp P (.store t a x) fr h) K u=Do (Ex (opd fr a)) (fun a=>Do (Ex (opd fr x)) (fun x=>Do (Ex (store P h t a x)) (fun h=>K undef h) nx) nx) nx:=rfl
theorem LR (op:BinOp) (t:TypeId) (x y:Operand) (s:TypeId):Do (wpOp P (.binOp op t x y s) fr h) K u=Do (Ex (opd fr x)) (fun a=>Do (Ex (opd fr y)) (fun b=>Do (Ex (binop P op t x y a b)) (fun v=>K v h) nx) nx) nx:=rfl
theorem Rz (c a b:Operand):Do (wpOp P (.pick c a b) fr h) K u=Do (Ex (opd fr c)) (fun c=>Do (Ex (opd fr a)) (fun a=>Do (Ex (opd fr b)) (fun b=>match c with
  | .bool c=>Bq c (K a h,K b h) nx
  | _=>False) nx) nx) nx:=by
 show wpOp P (.pick c a b) fr h K=_
 rw[Mr]
 show _=Ex (opd fr c) _
 congr 1;funext c
 show _=Ex (opd fr a) _
 congr 1;funext a
 show _=Ex (opd fr b) _
 congr 1;funext b
 cases c<;>simp
 rename_i c
 cases c<;>simp[Em,AL]
theorem CA (x:Operand) (i:Nat):Do (wpOp P (.extract x i) fr h) K u=Do (Ex (opd fr x)) (fun x=>match x with
  | .tuple vs=>Do (Ex vs[i]?) (fun v=>K v h) nx
  | _=>False) nx:=rfl
theorem Ay (f:FuncId) (a b:Array Operand):Do (wpOp P (.makeFunc (.func f) a b) fr h) K u=Do (Ex (gA fr a.toList)) (fun x=>Do (Ex (gA fr b.toList)) (fun y=>K (.func (.func f) x.toArray y.toArray) h) nx) nx:=rfl
theorem RI (f:Operand) (args:Array Operand) (ts:Array TypeId):Do (wpOp P (.call ⟨.value f,args,ts⟩) fr h) K u=Do (Ex (opd fr f)) (fun fv=>Do (Ex (gA fr args.toList)) (fun vs=>Do (WV P fv vs h) K nx) nx) nx:=rfl
theorem CC (b:Builtin) (args:Array Operand) (ts:Array TypeId):Do (wpOp P (.call ⟨.builtin b,args,ts⟩) fr h) K u=Do (Ex (gA fr args.toList)) (fun vs=>Do (Ex (builtin P h b ts vs)) (fun r=>K r.1 r.2) nx) nx:=rfl
theorem xK (t:TypeId) (x:Operand) (f:Nat):Do (wpOp P (.fieldAddr t x f) fr h) K u=Do (Ex (opd fr x)) (fun x=>Do (Ex (fieldAt P t f)) (fun off=>Do (Ex (asAddr x)) (fun a=>K (ptr a.1 (a.2+off)) h) nx) nx) nx:=by
 show wpOp P (.fieldAddr t x f) fr h K=_
 rw[yL]
 show _=Ex (opd fr x) _
 congr 1;funext x
 show _=Ex (fieldAt P t f) _
 cases fieldAt P t f<;>cases asAddr x<;>simp[Do]
theorem xJ (t:TypeId) (x i:Operand):Do (wpOp P (.indexAddr t x i) fr h) K u=Do (Ex (opd fr x)) (fun x=>Do (Ex (opd fr i)) (fun i=>Do (Ex (indexAddr P t x i)) (fun v=>K v h) nx) nx) nx:=rfl
theorem Rw (op:UnOp) (t:TypeId) (x:Operand):Do (wpOp P (.unOp op t x) fr h) K u=Do (Ex (opd fr x)) (fun v=>Do (Ex (bif plain v then cw P (Op.unary op v) else none)) (fun v=>K v h) nx) nx:=Mq P fr h K op t x
theorem CB (s d:TypeId) (x:Operand):Do (wpOp P (.convert s d x) fr h) K u=Do (Ex (opd fr x)) (fun v=>Do (Ex (mZ P s d v)) (fun v=>K v h) nx) nx:=CW P fr h K s d x
theorem xI (t:TypeId) (l c:Operand):Do (wpOp P (.makeSlice t l c) fr h) K u=Do (Ex (opd fr l)) (fun l=>Do (Ex (opd fr c)) (fun c=>Do (Ex (makeSlice P h t l c)) (fun r=>K r.1 r.2) nx) nx) nx:=yK P fr h K t l c
theorem vv (t:TypeId) (n:Nat) (ps:Array (Nat×Operand)):Do (wpOp P (.buildSlice t n ps) fr h) K u=Do (Ex (partsOf fr ps.toList)) (fun ps=>Do (Ex (buildSlice P h t n ps)) (fun r=>K r.1 r.2) nx) nx:=xU P fr h K t n ps
theorem LJ (t:TypeId) (x:Operand) (lo hi mx:Option Operand):Do (wpOp P (.slice t x lo hi mx) fr h) K u=Do (Ex (opd fr x)) (fun x=>Do (Ex (cX fr lo)) (fun lo=>Do (Ex (cX fr hi)) (fun hi=>Do (Ex (cX fr mx)) (fun mx=>Do (Ex (cJ P h t x lo hi mx)) (fun v=>K v h) nx) nx) nx) nx) nx:=HE P fr h K t x lo hi mx
theorem LP (t:TypeId) (ps:Array (Nat×Operand)):Do (wpOp P (.build t ps) fr h) K u=Do (Ex (partsOf fr ps.toList)) (fun ps=>Do (Ex (iS P t ps)) (fun v=>K v h) nx) nx:=HH P fr h K t ps
theorem LO (t:TypeId) (x:Operand) (f:Nat):Do (wpOp P (.field t x f) fr h) K u=Do (Ex (opd fr x)) (fun x=>Do (Ex (tP P t f x)) (fun v=>K v h) nx) nx:=HG P fr h K t x f
theorem Ax (x:Operand):Do (wpOp P (.nilCheck x) fr h) K u=Do (Ex (opd fr x)) (fun x=>Do (Ex (Gr x)) (fun v=>K v h) nx) nx:=by
 show wpOp P (.nilCheck x) fr h K=_
 rw[AX]
 show _=Ex (opd fr x) _
 congr 1;funext x
 show _=Ex (Gr x) _
 cases x with
 | pointer a=>cases a<;>simp[Gr]
 | func f xs ys=>cases f<;>simp[Gr]
 | _=>simp[Gr]
theorem G2 (t:TypeId) (m k:Operand) (ok:Bool):Do (wpOp P (.lookup t m k ok) fr h) K u=Do (Ex (opd fr m)) (fun m=>Do (Ex (opd fr k)) (fun k=>Do (Ex (lookup P h t m k ok)) (fun v=>K v h) nx) nx) nx:=EG P fr h K t m k ok
theorem xH (t:TypeId) (m k v:Operand):Do (wpOp P (.mapUpdate t m k v) fr h) K u=Do (Ex (opd fr m)) (fun m=>Do (Ex (opd fr k)) (fun k=>Do (Ex (opd fr v)) (fun v=>Do (Ex (mapUpdate P h t m k v)) (fun h=>K undef h) nx) nx) nx) nx:=pX P fr h K t m k v
theorem G3 (t:TypeId) (m k v:Operand):Do (wpOp P (.insert t m k v) fr h) K u=Do (Ex (opd fr m)) (fun m=>Do (Ex (opd fr k)) (fun k=>Do (Ex (opd fr v)) (fun v=>Do (Ex (mapUpdate P h t m k v)) (fun h=>K undef h) nx) nx) nx) nx:=EI P fr h K t m k v
theorem Cz (t:TypeId):Do (wpOp P (.makeMap t none) fr h) K u=K (.map (some (2*h.n))) (h.new (.map [])):=CV P fr h K t
theorem LM (t:TypeId) (x i:Operand):Do (wpOp P (.index t x i) fr h) K u=Do (Ex (opd fr x)) (fun x=>Do (Ex (opd fr i)) (fun i=>Do (Ex (tI P t x i)) (fun v=>K v h) nx) nx) nx:=HF P fr h K t x i
end
section
variable (P:Program) (nt:Nat) (all:List Oper) (d:Option Tmp) (o:Op) (ty:TypeId) (pos:String) (af:Array Edge) (l:List Oper) (fr:Fr) (h:IH)
theorem Vx (d:Nat) (v:Value) (K:Fr→Prop) (u:Nx K) (hd:d<nt):Do (eF nt fr (some d) v) K u=K ((d,v) :: fr):=HB nt fr d v K hd
theorem Aw (v:Value) (K:Fr→Prop) (u:Nx K):Do (eF nt fr none v) K u=K fr:=rfl
theorem Vy (K:Fr→IH→Prop) (u:Nx K):Do (wpOps P nt all [] fr h) K u=K fr h:=rfl
theorem RF (K:Fr→IH→Prop) (u:Nx K):Do (wpOps P nt all (⟨d,o,ty,pos,af,none⟩ :: l) fr h) K u=Do (wpOp P o fr h) (fun v h=>Do (eF nt fr d v) (fun fr=>Do (wpOps P nt all l fr h) K nx) nx) nx:=rfl
theorem LN (j:Nat) (want:Bool) (K:Fr→IH→Prop) (u:Nx K):Do (wpOps P nt all (⟨d,o,ty,pos,af,some (j,want)⟩ :: l) fr h) K u =
  Do (Ex ((all[j]?).bind (·.dst))) (fun g=>Do (Ex (ab fr g)) (fun b=>match b with
   | .bool b=>Bq (b == want) (Do (wpOp P o fr h) (fun v h=>Do (eF nt fr d v) (fun fr=>Do (wpOps P nt all l fr h) K nx) nx) nx,Do (eF nt fr d undef) (fun fr=>Do (wpOps P nt all l fr h) K nx) nx) nx
   | .tuple _=>Do (eF nt fr d undef) (fun fr=>Do (wpOps P nt all l fr h) K nx) nx
   | _=>False) nx) nx:=rfl
theorem Rx (tr:List (Fr×IH)) (K:List (Fr×IH)→Prop) (u:Nx K):Do (cH P nt all [] fr h tr) K u=K (tr ++ [(fr,h)]):=rfl
theorem LH (tr:List (Fr×IH)) (K:List (Fr×IH)→Prop) (u:Nx K):Do (cH P nt all (⟨d,o,ty,pos,af,none⟩ :: l) fr h tr) K u=Do (wpOp P o fr h) (fun v h1=>Do (eF nt fr d v) (fun fr1=>Do (cH P nt all l fr1 h1 (tr ++ [(fr,h)])) K nx) nx) nx:=rfl
theorem G0 (j:Nat) (want:Bool) (tr:List (Fr×IH)) (K:List (Fr×IH)→Prop) (u:Nx K):Do (cH P nt all (⟨d,o,ty,pos,af,some (j,want)⟩ :: l) fr h tr) K u =
  Do (Ex ((all[j]?).bind (·.dst))) (fun g=>Do (Ex (ab fr g)) (fun b=>match b with
   | .bool b=>Bq (b == want) (Do (wpOp P o fr h) (fun v h1=>Do (eF nt fr d v) (fun fr1=>Do (cH P nt all l fr1 h1 (tr ++ [(fr,h)])) K nx) nx) nx,Do (eF nt fr d undef) (fun fr1=>Do (cH P nt all l fr1 h (tr ++ [(fr,h)])) K nx) nx) nx
   | .tuple _=>Do (eF nt fr d undef) (fun fr1=>Do (cH P nt all l fr1 h (tr ++ [(fr,h)])) K nx) nx
   | _=>False) nx) nx:=rfl
end
section
variable (P:Program) (fn:FuncId) (nt:Nat) (rd:Option Nat) (fr:Fr) (h:IH) (Q:bf→Fr→IH→Prop) (u:Nx Q)
def qq (K:Fr→IH→Prop) (Q:bf→Fr→IH→Prop) (e:bf) (fr:Fr) (h:IH):Prop:=match e with
 | .normal=>K fr h
 | .exit i=>Q (.exit i) fr h
 | .ret=>Q .ret fr h
def my (id:Nat) (Q:bf→Fr→IH→Prop) (e:bf) (fr:Fr) (h:IH):Prop:=match e with
 | .exit i=>Br (i == id) (Q .normal fr h) (Q (.exit i) fr h)
 | .normal=>Q .normal fr h
 | .ret=>Q .ret fr h
theorem xi (K:Fr→IH→Prop):qq K Q .normal fr h=K fr h:=rfl
theorem BG (K:Fr→IH→Prop) (i:Nat):qq K Q (.exit i) fr h=Q (.exit i) fr h:=rfl
theorem FC (K:Fr→IH→Prop):qq K Q .ret fr h=Q .ret fr h:=rfl
theorem sU (id:Nat):my id Q .normal fr h=Q .normal fr h:=rfl
theorem AM (id:Nat):my id Q .ret fr h=Q .ret fr h:=rfl
theorem xO (id:Nat):my id Q (.exit id) fr h=Q .normal fr h:=by simp[my]
theorem xP (id i:Nat) (hi:(i == id)=false):my id Q (.exit i) fr h=Q (.exit i) fr h:=by simp[my,hi]
theorem Ry:Do (wpC P fn nt rd .skip fr h) Q u=Q .normal fr h:=rfl
theorem G1 (id:Nat) (ops:Array Oper):Do (wpC P fn nt rd (.region id ops false) fr h) Q u=Do (wpOps P nt ops.toList ops.toList fr h) (Q .normal) nx:=rfl
theorem RH (id:Nat) (ops:Array Oper) (hc:fO ops.toList=true):Do (wpC P fn nt rd (.region id ops true) fr h) Q u=Do (wpOps P nt ops.toList ops.toList fr h) (Q .normal) nx:=by
 show((fO ops.toList=true→wpOps P nt ops.toList ops.toList fr h (Q .normal))∧(fO ops.toList=false→JV P nt ops.toList fr h (Q .normal)))=_
 simp only[hc,true_implies,reduceCtorEq,false_implies,and_true]
 rfl
theorem mu (a b:Code):Do (wpC P fn nt rd (.seq a b) fr h) Q u=Do (wpC P fn nt rd a fr h) (qq (fun fr h=>Do (wpC P fn nt rd b fr h) Q nx) Q) nx:=by
 show wpC P fn nt rd a fr h _=wpC P fn nt rd a fr h _
 congr 1
theorem RG (c:Operand) (a b:Code):Do (wpC P fn nt rd (.cond c a b) fr h) Q u=Do (Ex (opd fr c)) (fun c=>match c with
  | .bool c=>Bq c (Do (wpC P fn nt rd a fr h) Q nx,Do (wpC P fn nt rd b fr h) Q nx) nx
  | _=>False) nx:=rfl
theorem LQ (id:Nat) (b:Code):Do (wpC P fn nt rd (.block id b) fr h) Q u=Do (wpC P fn nt rd b fr h) (my id Q) nx:=rfl
theorem RB (b:Code):Do (wpC P fn nt rd (.loop b) fr h) Q u=Do (xR P fn nt rd b fr h) Q nx:=rfl
theorem LK (b:Code):Do (wpC P fn nt rd (.scope b) fr h) Q u=Do (wpC P fn nt rd b fr h) Q nx:=rfl
theorem xG (f:Operand) (ps:Array Tmp) (a b:Code):Do (wpC P fn nt rd (.rangeFunc f ps a b) fr h) Q u=Do (tW P fn nt rd f ps a b fr h) Q nx:=rfl
theorem RE (i:Nat):Do (wpC P fn nt rd (.exit i) fr h) Q u=Q (.exit i) fr h:=rfl
theorem Vw:Do (wpC P fn nt rd .ret fr h) Q u=Q .ret fr h:=rfl
end
def MW (P:Program) (rs:List ResultVar) (K:Value→IH→Prop) (e:bf) (fr:Fr) (h:IH):Prop:=match e with
 | .exit _=>False
 | .normal=>Do (Ex (bd P fr h rs)) (fun l=>K (single l) h) nx
 | .ret=>Do (Ex (bd P fr h rs)) (fun l=>K (single l) h) nx
theorem xk (P:Program) (rs:List ResultVar) (K:Value→IH→Prop) (fr:Fr) (h:IH):MW P rs K .normal fr h=Do (Ex (bd P fr h rs)) (fun l=>K (single l) h) nx:=rfl
theorem FI (P:Program) (rs:List ResultVar) (K:Value→IH→Prop) (fr:Fr) (h:IH):MW P rs K .ret fr h=Do (Ex (bd P fr h rs)) (fun l=>K (single l) h) nx:=rfl
theorem enter {P:Program} {f:FuncId} {fn:Func} {c:Code} {nt:Nat} {rs:List ResultVar} {first cap:Array Value} {vs:List Value} {h:IH} {K:Value→IH→Prop}
  (hf:P.funcs[f]?=some fn) (hb:fn.body=some c) (hn:fn.ntmps=nt) (hr:fn.results.toList=rs) (hl:(first.toList ++ (vs ++ cap.toList)).length≤nt)
  (w:Do (wpC P f nt none c (dD 0 (first.toList ++ (vs ++ cap.toList))) h) (MW P rs K) nx):WV P (.func (.func f) first cap) vs h K :=
 OQ hf hb hn hr hl w
theorem call {P:Program} {fv:Value} {vs:List Value} {h:IH} {K L:Value→IH→Prop} (w:WV P fv vs h L) (k : ∀v h',L v h'→K v h'):Do (WV P fv vs h) K nx:=w.mono k
@[reducible] def Pst (p:Prop) (_:Nx p):Prop:=p
theorem cut {P:Program} {fn:FuncId} {nt:Nat} {rd:Option Nat} {a:Code} {fr:Fr} {h:IH} {K:Fr→IH→Prop} {Q:bf→Fr→IH→Prop} (R:Fr→IH→Prop)
  (w:Do (wpC P fn nt rd a fr h) (qq (fun fr h=>Pst (R fr h) nx) Q) nx) (k : ∀fr h,R fr h→K fr h):Do (wpC P fn nt rd a fr h) (qq K Q) nx :=
 lM (fun e fr h w=>by cases e<;>first|exact k _ _ w|exact w) w
def Qy (I:Nat→Fr→IH→Prop) (m:Nat) (Q:bf→Fr→IH→Prop) (e:bf) (fr:Fr) (h:IH):Prop:=match e with
 | .normal => ∃m',m'<m∧I m' fr h
 | .exit i=>Q (.exit i) fr h
 | .ret=>Q .ret fr h
theorem zT (I:Nat→Fr→IH→Prop) (m:Nat) (Q:bf→Fr→IH→Prop) (i:Nat) (fr:Fr) (h:IH):Qy I m Q (.exit i) fr h=Q (.exit i) fr h:=rfl
theorem B9 (I:Nat→Fr→IH→Prop) (m:Nat) (Q:bf→Fr→IH→Prop) (fr:Fr) (h:IH):Qy I m Q .ret fr h=Q .ret fr h:=rfl
theorem loop {P:Program} {fn:FuncId} {nt:Nat} {rd:Option Nat} {b:Code} {Q:bf→Fr→IH→Prop} (I:Nat→Fr→IH→Prop) {fr:Fr} {h:IH} (m:Nat) (start:I m fr h)
  (step : ∀m fr h,I m fr h→Do (wpC P fn nt rd b fr h) (Qy I m Q) nx) (hm:qS b=none:=by rfl):Do (xR P fn nt rd b fr h) Q nx :=
 Ye I (fun m fr h hi=>step m fr h hi) start hm
theorem RD (tr:List (Fr×IH)) (n:Nat) (K:Fr→IH→Prop) (u:Nx K):Do (HI tr n) K u=Do (Ex tr[n]?) (fun p=>K p.1 p.2) nx:=rfl
theorem ad {P:Program} {ops:List Oper} {tr:List (Fr×IH)} {i p:Nat} {o:Oper} {fr fr':Fr} {h h':IH} (ho:ops[i]?=some o) (hi:tr[i]?=some (fr,h)) (hw:bA ops o fr=some true) (hp:tr[p]?=some (fr',h')) (hs:gE P fr o.op h h'=true):cI P ops tr [(i,[p])]:=by
 refine⟨?_,trivial⟩
 simp only[ho,hi,hw]
 intro q hq
 simp only[List.mem_singleton] at hq
 subst hq
 simp only[hp]
 exact hs
theorem oz {P:Program} {ops:List Oper} {tr:List (Fr×IH)} {i:Nat} {l:List Nat} {o:Oper} {fr:Fr} {h:IH} (ho:ops[i]?=some o) (hi:tr[i]?=some (fr,h)) (hw:bA ops o fr=some false):cI P ops tr [(i,l)]:=by
 refine⟨?_,trivial⟩
 simp only[ho,hi,hw]
theorem jS {P:Program} {ops:List Oper} {tr:List (Fr×IH)} {e:Nat×List Nat} {l:List (Nat×List Nat)} (h1:cI P ops tr [e]) (h2:cI P ops tr l):cI P ops tr (e :: l):=⟨h1.1,h2⟩
theorem ub {P:Program} {ops:List Oper} {tr:List (Fr×IH)} {i p:Nat} {l:List Nat} (h1:cI P ops tr [(i,[p])]) (h2:cI P ops tr [(i,l)]):cI P ops tr [(i,p :: l)]:=by
 refine⟨?_,trivial⟩
 have a:=h1.1
 have b:=h2.1
 simp only at a b ⊢
 cases ho:ops[i]? with
 | none=>simp only[ho] at a
 | some o =>
  cases hi:tr[i]? with
  | none=>simp only[ho,hi] at a
  | some x =>
   obtain⟨fr,h⟩:=x
   simp only[ho,hi] at a b ⊢
   cases hw:bA ops o fr with
   | none=>trivial
   | some w =>
    cases w with
    | false=>trivial
    | true =>
     simp only[hw] at a b ⊢
     intro q hq
     rcases List.mem_cons.1 hq with rfl|hq
     ·exact a q (by simp)
     ·exact b q hq
theorem drawn {P:Program} {fn:FuncId} {nt:Nat} {rd:Option Nat} {id:Nat} {ops:Array Oper} {fr:Fr} {h:IH} {Q:bf→Fr→IH→Prop} (pl:List (Nat×List Nat)) (ho:lh ops.toList=true) (hp:BO ops.toList=pl) (hne:pl.isEmpty=false)
  (w:Do (cH P nt ops.toList ops.toList fr h []) (fun tr=>Pst (cI P ops.toList tr pl∧Do (HI tr ops.toList.length) (Q .normal) nx) nx) nx):Do (wpC P fn nt rd (.region id ops true) fr h) Q nx:=by
 subst hp
 refine⟨fun hc=>?_,fun _=>⟨ho,w⟩⟩
 simp[fO,List.isEmpty_iff] at hc hne
 exact absurd hc.2 hne
theorem LL (P:Program) (fn:FuncId) (nt:Nat) (rd:Option Nat) (l:Nat) (fr:Fr) (h:IH) (Q:bf→Fr→IH→Prop) (u:Nx Q):Do (wpC P fn nt rd (.label l) fr h) Q u=Q .normal fr h:=rfl
theorem zf (v:Value):single [v]=v:=rfl
theorem zg:single []=.tuple #[]:=rfl
theorem ze (a b:Value):single [a,b]=.tuple #[a,b]:=rfl
theorem uw (a b c:Value):single [a,b,c]=.tuple #[a,b,c]:=rfl
theorem QE (h:IH) (b o:Nat):ld h b o=(h.row b).bind (·[o]?):=rfl
theorem Gn {α:Type} (l:List α) : [] ++ l=l:=rfl
theorem Hq {α:Type} (l:List α):l ++ []=l:=List.append_nil l
theorem CF {α:Type} (x:α) (l m:List α):(x :: l) ++ m=x :: (l ++ m):=rfl
theorem GO {α:Type} {d:Decidable True} (a b:α):ite True a b=a:=if_pos trivial
theorem Ce {α:Type} {d:Decidable False} (a b:α):ite False a b=b:=if_neg id
theorem AP {α β:Type} (a:α) (f:α→Option β):(some a).bind f=f a:=rfl
theorem BZ {α β:Type} (a:α) (f:α→β):(some a).map f=some (f a):=rfl
theorem Ci {α:Type} (x:α) (l:List α):(x :: l)[0]?=some x:=rfl
theorem Cj {α:Type} (x:α) (l:List α) (n:Nat):(x :: l)[n+1]?=l[n]?:=rfl
theorem GS {α:Type} (l:List α) (n:Nat):l.toArray[n]?=l[n]?:=List.getElem?_toArray
theorem J9 {α:Type} (l:List α):l.toArray.toList=l:=rfl
theorem EW:undef=Value.tuple #[]:=rfl
def wpS:=And.intro @RA (And.intro @G5 (And.intro @LS (And.intro @Vz (And.intro @RC (And.intro @LI (And.intro @LR (And.intro @Rz (
 And.intro @CA (And.intro @Ay (And.intro @RI (And.intro @CC (And.intro @xK (And.intro @xJ (And.intro @Rw (And.intro @CB (
 And.intro @xI (And.intro @vv (And.intro @LJ (And.intro @LP (And.intro @LO (And.intro (And.intro @Ax (And.intro @Gp (And.intro @BW (And.intro @Gq @LL)))) (And.intro @G2 (And.intro (And.intro @xH @G3) (
 And.intro @Cz (And.intro @LM (And.intro @Vx (And.intro @Aw (And.intro @Vy (And.intro @RF (And.intro @LN (And.intro @Rx (
 And.intro @LH (And.intro @G0 (And.intro @xi (And.intro @BG (And.intro @FC (And.intro @sU (And.intro @AM (And.intro @xO (
 And.intro @xP (And.intro @Ry (And.intro @G1 (And.intro @RH (And.intro @mu (And.intro @RG (And.intro @LQ (And.intro @RB (
 And.intro @LK (And.intro @xG (And.intro @RE (And.intro @Vw (And.intro @xk (And.intro @FI (And.intro @zT (And.intro @B9 (
 And.intro @Vv (And.intro @Cv (And.intro @Ap (And.intro @GY (And.intro @Em (And.intro @AL (And.intro @KO (And.intro @Gb (
 And.intro @zJ (And.intro @sK (And.intro @qG (And.intro @nP (And.intro @mM (And.intro @me (And.intro @nQ (And.intro @nR (
 And.intro @F9 (And.intro @BS (And.intro @xq (And.intro @uP (And.intro @xu (And.intro @xr (And.intro @oo (And.intro @vi (
 And.intro @xF (And.intro @Gn (And.intro @Hq (And.intro @CF (And.intro @GO (And.intro @Ce (And.intro @AP (And.intro @BZ (
 And.intro @and_true (And.intro @true_and (And.intro @Nat.zero_add (And.intro @Nat.add_zero (And.intro @Nat.zero_mul (And.intro @Nat.one_mul (And.intro @Nat.mul_one (And.intro @qz (
 And.intro @sG (And.intro @uG (And.intro @sH (And.intro @w6 (And.intro @wO (And.intro @wU (And.intro @wZ (And.intro @wT (
 And.intro @wV (And.intro @wW (And.intro @wX (And.intro @wY (And.intro @R8 (And.intro @VE (And.intro @RX (And.intro @R7 (
 And.intro @R9 (And.intro @VF (And.intro @Ho (And.intro @UY (And.intro @UZ (And.intro @Pv (And.intro @Pw (And.intro @U5 (
 And.intro @U4 (And.intro @PQ (And.intro @vO (And.intro @Bo (And.intro @wrap_i64 (And.intro @ua (And.intro @wrap_u8 (And.intro @EF (
 And.intro @wrap_u32 (And.intro @Int.toNat_natCast (And.intro @Int.toNat_one (And.intro @Int.toNat_zero (And.intro @builtin_len (And.intro @kM (And.intro @sL (And.intro @wC (
 And.intro @Al (And.intro @QE (And.intro @U2 (And.intro @AQ (And.intro @Ci (And.intro @Cj (And.intro @GS (And.intro @J9 (
 And.intro @CI (And.intro @AG (And.intro @xN (And.intro @CG (And.intro @CJ (And.intro @AF (And.intro @sP (And.intro @CH (
 And.intro @vy (And.intro @aI (And.intro @zO (And.intro @aH (And.intro @zB (And.intro @jk (And.intro @xj (And.intro @uE (
 And.intro @qv (And.intro @ah (And.intro @ax (And.intro @ae (And.intro @ak (And.intro @zf (And.intro @ze (And.intro @zg (
 And.intro @uw (And.intro @RD (@EW))))))))))))))))))))))))))))))))))))))))))))))))))))))))))))))))))))))))))))))))))))))))))))))))))))))))))))))))))))))))))))))))))))))))))))))))))))))))))))))))))))))))))
def wpR:=And.intro @RA (And.intro @G5 (And.intro @LS (And.intro @Vz (And.intro @RC (And.intro @LI (And.intro @LR (And.intro @Rz (
 And.intro @CA (And.intro @Ay (And.intro @RI (And.intro @CC (And.intro @xK (And.intro @xJ (And.intro @Rw (And.intro @CB (
 And.intro @xI (And.intro @vv (And.intro @LJ (And.intro @LP (And.intro @LO (And.intro (And.intro @Ax (And.intro @Gp (And.intro @BW (And.intro @Gq @LL)))) (And.intro @G2 (And.intro (And.intro @xH @G3) (
 And.intro @Cz (And.intro @LM (And.intro @Vx (And.intro @Aw (And.intro @Vy (And.intro @RF (And.intro @LN (And.intro @Rx (
 And.intro @LH (And.intro @G0 (And.intro @xi (And.intro @BG (And.intro @FC (And.intro @sU (And.intro @AM (And.intro @xO (
 And.intro @xP (And.intro @Ry (And.intro @G1 (And.intro @RH (And.intro @RG (And.intro @LQ (And.intro @RB (And.intro @LK (
 And.intro @xG (And.intro @RE (And.intro @Vw (And.intro @xk (And.intro @FI (And.intro @zT (And.intro @B9 (And.intro @Vv (
 And.intro @Cv (And.intro @Ap (And.intro @GY (And.intro @Em (And.intro @AL (And.intro @KO (And.intro @Gb (And.intro @zJ (
 And.intro @sK (And.intro @qG (And.intro @nP (And.intro @mM (And.intro @me (And.intro @nQ (And.intro @nR (And.intro @F9 (
 And.intro @BS (And.intro @xq (And.intro @uP (And.intro @xu (And.intro @xr (And.intro @oo (And.intro @vi (And.intro @xF (
 And.intro @Gn (And.intro @Hq (And.intro @CF (And.intro @GO (And.intro @Ce (And.intro @AP (And.intro @BZ (And.intro @and_true (
 And.intro @true_and (And.intro @Nat.zero_add (And.intro @Nat.add_zero (And.intro @Nat.zero_mul (And.intro @Nat.one_mul (And.intro @Nat.mul_one (And.intro @qz (And.intro @sG (
 And.intro @uG (And.intro @sH (And.intro @w6 (And.intro @wO (And.intro @wU (And.intro @wZ (And.intro @wT (And.intro @wV (
 And.intro @wW (And.intro @wX (And.intro @wY (And.intro @R8 (And.intro @VE (And.intro @RX (And.intro @R7 (And.intro @R9 (
 And.intro @VF (And.intro @Ho (And.intro @UY (And.intro @UZ (And.intro @Pv (And.intro @Pw (And.intro @U5 (And.intro @U4 (
 And.intro @PQ (And.intro @vO (And.intro @Bo (And.intro @wrap_i64 (And.intro @ua (And.intro @wrap_u8 (And.intro @EF (And.intro @wrap_u32 (
 And.intro @Int.toNat_natCast (And.intro @Int.toNat_one (And.intro @Int.toNat_zero (And.intro @builtin_len (And.intro @kM (And.intro @sL (And.intro @wC (And.intro @Al (
 And.intro @QE (And.intro @U2 (And.intro @AQ (And.intro @Ci (And.intro @Cj (And.intro @GS (And.intro @J9 (And.intro @CI (
 And.intro @AG (And.intro @xN (And.intro @CG (And.intro @CJ (And.intro @AF (And.intro @sP (And.intro @CH (And.intro @vy (
 And.intro @aI (And.intro @zO (And.intro @aH (And.intro @zB (And.intro @jk (And.intro @xj (And.intro @uE (And.intro @qv (
 And.intro @ah (And.intro @ax (And.intro @ae (And.intro @ak (And.intro @zf (And.intro @ze (And.intro @zg (And.intro @uw (
 And.intro @RD (@EW)))))))))))))))))))))))))))))))))))))))))))))))))))))))))))))))))))))))))))))))))))))))))))))))))))))))))))))))))))))))))))))))))))))))))))))))))))))))))))))))))))))))))
end Go.Id
namespace Go.Id
theorem dx {p : Prop} (h : p := by first | omega | (simp only [aI, aH]; omega) | decide +kernel | ((repeat first | rw [aI] | rw [aH]); all_goals fail) | fail) : p := h
theorem aP {α : Sort _} (a : α) : ∃ x, x = a := ⟨a, rfl⟩
theorem il {α : Type _} {l : List α} {i : Nat} (h : i < l.length) : ∃ a, l[i]? = some a := ⟨_, List.getElem?_eq_getElem h⟩
open Go Go.RowKit Go.ChangeShapes Go.WideShapes Go.Deep
theorem JD {n:String} {a:List Value} {v:Value} (h:mw n a=some v):n = "math/bits.Add64" ∨ n = "math/bits.Sub64" := by
 unfold mw at h
 split at h
 ·simp only[cond_eq_ite] at h
  split at h
  ·split at h
   ·rename_i hn;exact .inl (by simpa using hn)
   ·split at h
    ·rename_i hn;exact .inr (by simpa using hn)
    ·cases h
  ·cases h
 ·cases h
theorem We {P:Program} (h1:P.follows .mixedOrders=true) (h2:(P.funcs.toList.all fun fn => !(fn.body.isSome && fn.name == "runtime.NumGoroutine") && (fn.body.isSome || ((fn.name == fn.origin || fn.origin == "") || !(fn.name == "math/bits.Add64" || fn.name == "math/bits.Sub64"))))=true):Sound (E0 P) where
 mixed:=h1
 origin f fn hf hb {args v} hc:=by
  have hm:fn∈P.funcs.toList:=by
   rw[Array.mem_toList_iff];exact Array.mem_of_getElem? hf
  have h:=List.all_eq_true.1 h2 fn hm
  rw[hb] at h
  have hn:fn.name = "math/bits.Add64" ∨ fn.name = "math/bits.Sub64" := JD hc
  have h':(fn.name == fn.origin || fn.origin == "")=true:=by
   rcases hn with hn|hn<;>rw[hn] at h ⊢ <;> exact(show _ from by simpa using h)
  rw[Bool.or_eq_true,beq_iff_eq,beq_iff_eq] at h'
  exact h'.imp Eq.symm id
 names f fn hf hb:=by
  have hm:fn∈P.funcs.toList:=by
   rw[Array.mem_toList_iff];exact Array.mem_of_getElem? hf
  have:=List.all_eq_true.1 h2 fn hm
  rw[Bool.and_eq_true] at this
  have:=this.1
  rw[hb] at this
  simpa using this
 GM f g h:=by cases h
 rZ f g h:=by cases h
structure SlArg (W:World) (z:Nat) (v:Value) (n:Nat) (cs:List Value):Prop where
 z0:0<z
 len:cs.length=n*z
 sc : ∀x∈cs,bD x=true
 ex:(v=.slice none 0 0∧n=0) ∨ ∃a cap,v=.slice (some a) n cap∧n≤cap∧(0<n→a.spot=none ∧ ∀j,j<n*z→W.cell? ⟨a.block,a.off+j,none⟩=cs[j]?)
section
variable {H:Type} {enc:TypeId×Value→H} {P:Program} {W:World} {held:Bool}
theorem JK {W W':World} (hk:Below W.heap.size W W') {p:MemPlace} (hp:p.block<W.heap.size):W.sameAt W' p:=by
 cases p with
 | cell b off =>
  show W'.cell? _=W.cell? _
  unfold World.cell?
  rw[hk.block b hp]
 | map b=>exact hk.block b hp
theorem sB {W':World} {T:TypeId→Prop} (K:Kids P T) (hsz : ∀{t e:TypeId},T t→P.underlying t=some (.slice e)→0<P.cellsOf e) (hk:Below W.heap.size W W') {sp:Nat→Bool} :
  ∀{ts:List TypeId} {vs:List Value} {ds:List (DataW H)} {ps:List MemPlace},DataW.TrodAll enc P W 0 (fun _=>true) true ts vs ds ps→(∀t∈ts,T t)→(∀p∈ps,sp p.block=true)→DataW.TrodAll enc P W' 0 sp true ts vs ds ps
 | [],_,_,_,h,_,_=>by
  obtain⟨rfl,rfl,rfl⟩:=trodAll_nil h
  rfl
 | t :: ts,_,_,_,h,hT,hs=>by
  obtain⟨v,vs,d,ds,p,q,rfl,rfl,rfl,⟨fuel,h1⟩,h2⟩:=trodAll_cons h
  refine⟨p,q,⟨fuel,?_⟩,sB K hsz hk h2 (fun t ht=>hT t (by simp[ht])) (fun x hx=>hs x (by simp[hx])),rfl⟩
  exact DataW.trod_stays K hsz (fun h=>by cases h) (hT t (by simp)) h1 (fun x hx=>JK hk (DataW.trod_lt _ _ _ _ h1 x hx)) (fun x hx=>hs x (by simp[hx]))
end
section
variable {H:Type} {enc:TypeId×Value→H} {P:Program} {W:World} {base:Nat} {sp:Nat→Bool} {held:Bool}
theorem uf {t:TypeId} {k:IntKind} {m:Nat} (hk:k.min=0) (hm:k.max=m) (ht:P.underlying t=some (.int k)) {fuel:Nat} {cs:List Value} {x:DataW H×List MemPlace} (h:DataW.trod enc P W base sp held fuel t cs=some x) : ∃i:Nat,cs = [.int k (i:Int)]∧i≤m:=by
 obtain⟨n,rfl,_,hw⟩:=DataW.trod_int ht h
 simp only[Lit.wf,Bool.and_eq_true,decide_eq_true_eq] at hw
 exact⟨n.toNat,by rw[Int.toNat_of_nonneg (by omega)],by omega⟩
end
def tv (r s:Nat):Nat:=(r+s)*(r+s)+s
theorem P7 {a b c d:Nat} (h:tv a b=tv c d):a=c∧b=d:=by
 have key : ∀{x y u v:Nat},u≤x→v≤y→x<y→x*x+u≠y*y+v:=by
  intro x y u v hu hv hxy e
  have h1:(x+1)*(x+1)≤y*y:=Nat.mul_le_mul hxy hxy
  have h2:(x+1)*(x+1)=x*x+2*x+1:=by rw[Nat.add_mul,Nat.mul_add];omega
  omega
 unfold tv at h
 rcases Nat.lt_trichotomy (a+b) (c+d) with hl|he|hg
 ·exact absurd h (key (by omega) (by omega) hl)
 ·rw[he] at h;omega
 ·exact absurd h.symm (key (by omega) (by omega) hg)
open Classical in
noncomputable def plA (i:Nat):Nat×Nat:=if h : ∃p:Nat×Nat,tv p.1 p.2=i then Classical.choose h else (0,0)
theorem P8 (r s:Nat):plA (tv r s)=(r,s):=by
 have h : ∃p:Nat×Nat,tv p.1 p.2=tv r s:=⟨(r,s),rfl⟩
 unfold plA
 rw[dif_pos h]
 obtain⟨h1,h2⟩:=P7 (Classical.choose_spec h)
 exact Prod.ext h1 h2
def dc:Value→Bool
 | .slice (some a) n cap=>n == 0 || (Nat.ble n cap && a.spot.isNone)
 | v=>bD v
def trV:Value→Value
 | .slice (some a) n cap=>if n=0 then .slice (some ⟨1,0,none⟩) 0 0 else .slice (some ⟨2*(4294967296+tv a.block a.off)+1,0,none⟩) n (2*cap+1)
 | v=>v
theorem Ph {v:Value} (h:bD v=true):trV v=v:=by
 unfold trV
 split
 ·simp[bD] at h
 ·rfl
theorem rC {v:Value} (h:dc v=true):aD (Mp.lg plA) (trV v) v:=by
 unfold dc at h
 split at h
 ·rename_i a n cap
  simp only[trV]
  by_cases h0:n=0
  ·subst h0
   simp only[if_true]
   exact .lost
  ·simp only[if_neg h0]
   obtain⟨b,o,sp⟩:=a
   simp only[Bool.or_eq_true,beq_iff_eq,h0,false_or,Bool.and_eq_true,Nat.ble_eq,Option.isNone_iff_eq_none] at h
   obtain⟨h1,rfl⟩:=h
   have hm:=Mp.uk plA (tv b o)
   rw[P8] at hm
   exact .slice (m:=Mp.lg plA) (r:=b) (s:=o) (o:=0) hm (by omega) (by omega) (by omega) (by omega) (by omega)
 ·rename_i hne
  rw[Ph h]
  exact .bD h
def kZ (W:World) (r s:Nat):List Value:=match W.heap[r]? with
 | some (.cells c _ _)=>((c.toList.drop s).takeWhile dc).map trV
 | _ => []
noncomputable def yW (G:Nat→Option (List Value)) (W:World) (b:Nat):Option (List Value):=if b<4294967296 then G b else
 (match W.heap[(plA (b - 4294967296)).1]? with
  | some (.cells c _ _)=>if (plA (b - 4294967296)).2≤c.size then some (kZ W (plA (b - 4294967296)).1 (plA (b - 4294967296)).2) else none
  | _=>none)
theorem sC {α:Type} (p:α→Bool) : ∀(l:List α) (i:Nat) (x:α),(l.takeWhile p)[i]?=some x→l[i]?=some x∧p x=true
 | [],i,x,h=>by simp at h
 | a :: l,i,x,h=>by
  rw[List.takeWhile_cons] at h
  by_cases hp:p a=true
  ·rw[if_pos hp] at h
   cases i with
   | zero=>simp at h;subst h;exact⟨rfl,hp⟩
   | succ i=>simpa using sC p l i x (by simpa using h)
  ·rw[if_neg hp] at h;simp at h
theorem qi {α:Type} (p:α→Bool) : ∀(l:List α) (n:Nat),n≤l.length→(∀x∈l.take n,p x=true)→(l.takeWhile p).take n=l.take n∧n≤(l.takeWhile p).length
 | l,0,_,_=>by simp
 | [],n+1,h,_=>by simp at h
 | a :: l,n+1,h,hp=>by
  have h1:p a=true:=hp a (by simp)
  obtain⟨h2,h3⟩:=qi p l n (by simpa using h) (fun x hx=>hp x (by simp[hx]))
  rw[List.takeWhile_cons,if_pos h1]
  simp[h2,h3]
theorem SH {W:World} {G:Nat→Option (List Value)} (hG : ∀b cs,G b=some cs → ∃c el fz,W.heap[b]?=some (.cells c el fz)∧cs.length≤c.size ∧ ∀(j:Nat) (x:Value),cs[j]?=some x→c[j]?=some x∧bD x=true):JQ plA (yW G W) W:=by
 intro b cs hb
 unfold yW at hb
 split at hb
 ·rename_i hlt
  obtain⟨c,el,fz,h1,h2,h3⟩:=hG b cs hb
  refine⟨b,0,Mp.xf _ hlt,c,el,fz,h1,by omega,fun i v hv=>?_⟩
  obtain⟨h4,h5⟩:=h3 i v hv
  exact⟨v,by rw[Nat.zero_add];exact h4,.bD h5⟩
 ·rename_i hge
  have hm:=Mp.uk plA (b - 4294967296)
  rw[show 4294967296+(b - 4294967296)=b from by omega] at hm
  obtain⟨r,s,hrs⟩ : ∃r s,plA (b - 4294967296)=(r,s):=⟨_,_,rfl⟩
  rw[hrs] at hm hb
  simp only at hb
  split at hb
  ·rename_i c el fz hh
   split at hb
   ·rename_i hs
    cases hb
    refine⟨r,s,hm,c,el,fz,hh,?_,fun i v hv=>?_⟩
    ·have:(kZ W r s).length≤(c.toList.drop s).length:=by
      simp only[kZ,hh,List.length_map]
      exact(List.takeWhile_sublist _).length_le
     rw[List.length_drop] at this
     have e:c.toList.length=c.size:=Array.length_toList
     have e2:(kZ W r s).toArray.size=(kZ W r s).length:=rfl
     simp only[Array.length_toList] at *
     omega
    ·simp only[kZ,hh,List.getElem?_map,Option.map_eq_some_iff] at hv
     obtain⟨y,hy,rfl⟩:=hv
     obtain⟨h1,h2⟩:=sC _ _ _ _ hy
     rw[List.getElem?_drop,Array.getElem?_toList] at h1
     exact⟨y,h1,rC h2⟩
   ·cases hb
  ·cases hb
section
variable {H:Type} {enc:TypeId×Value→H} {P:Program} {W:World} {held:Bool}
theorem tj {t e:TypeId} (ht:P.underlying t=some (.slice e)) {z:Nat} (hz:P.cellsOf e=z) (z0:0<z) {R:List Value→Prop}
  (elem : ∀(n:Nat) (cs:List Value) (x:DataW H×List MemPlace),DataW.trod enc P W 0 (fun _=>true) held n e cs=some x→R cs ∧ ∀y∈cs,dc y=true) (G:Nat→Option (List Value))
  {fuel:Nat} {cs0:List Value} {x:DataW H×List MemPlace} (h:DataW.trod enc P W 0 (fun _=>true) held fuel t cs0=some x) :
  ∃(v:Value) (n:Nat) (cs:List Value),cs0 = [v]∧dc v=true∧n≤maxLen∧bJ (IH.start (yW G W)) z (trV v) n (cs.map trV) ∧ ∀i,i<n→R ((cs.drop (i*z)).take z):=by
 rcases open_slice ht h with⟨h1,_⟩|⟨a,len,capp,m,k,D,Pl,h1,_,hl,od,hm,_,hx⟩
 ·subst h1
  exact⟨_,0,[],rfl,rfl,Nat.zero_le _,bJ.nil _ z0,fun i hi=>by omega⟩
 ·subst h1
  simp only[if_true] at hm
  subst hm
  rw[hz] at hx
  rcases Nat.eq_zero_or_pos len with rfl|h0
  ·refine⟨_,0,[],rfl,by simp[dc],Nat.zero_le _,?_,fun i hi=>by omega⟩
   simp only[trV,if_true]
   exact⟨z0,by simp,.inr ⟨1,0,0,rfl,.inl ⟨rfl,rfl⟩⟩⟩
  ·have spot:a.spot=none:=by
    obtain⟨cs',h1,_⟩:=hx 0 (by omega)
    obtain⟨_,hlen,hc⟩:=World.cells?_some h1
    have:=hc 0 z0
    rw[List.getElem?_eq_getElem (by omega),Nat.zero_mul] at this
    unfold World.cell? at this
    simp only[Addr.add,if_true] at this
    split at this
    ·split at this
     ·cases this
     ·rename_i h3;simpa using h3
    ·cases this
   have Ue : ∀j,a.add j=⟨a.block,a.off+j,none⟩:=fun j=>by
    unfold Addr.add
    split
    ·rename_i h0;subst h0;rw[←spot];rfl
    ·rfl
   have key : ∀i,i<len → ∃cs':List Value,cs'.length=z∧(∀j,j<z→W.cell? ⟨a.block,a.off+(i*z+j),none⟩=cs'[j]?)∧R cs' ∧ ∀y∈cs',dc y=true:=by
    intro i hi
    obtain⟨cs',h1,h2⟩:=hx i (by omega)
    obtain⟨_,hlen,hc⟩:=World.cells?_some h1
    obtain⟨h4,h5⟩:=elem k cs' _ h2
    refine⟨cs',hlen,fun j hj=>?_,h4,h5⟩
    have h3:=hc j hj
    rw[add_add,Ue] at h3
    exact h3
   obtain⟨c,el,fz,hh⟩ : ∃c el fz,W.heap[a.block]?=some (.cells c el fz):=by
    obtain⟨cs',hl0,h1,_⟩:=key 0 h0
    have:=h1 0 z0
    rw[List.getElem?_eq_getElem (by omega)] at this
    unfold World.cell? at this
    split at this
    ·rename_i c el fz hh;exact⟨c,el,fz,hh⟩
    ·cases this
   have cell : ∀j,W.cell? ⟨a.block,j,none⟩=c[j]?:=fun j=>by
    unfold World.cell?
    rw[hh]
    simp
   have hsz:a.off+len*z≤c.size:=by
    obtain⟨cs',hl0,h1,_⟩:=key (len - 1) (by omega)
    have:=h1 (z - 1) (by omega)
    rw[cell,List.getElem?_eq_getElem (by omega)] at this
    have:=(Array.getElem?_eq_some_iff.1 this).1
    have e:(len - 1)*z+z=len*z:=by rw[←Nat.succ_mul];congr 1;omega
    omega
   have hat : ∀j,j<len*z → ∃y,c[a.off+j]?=some y∧dc y=true:=by
    intro j hj
    have hi:j / z<len:=(Nat.div_lt_iff_lt_mul z0).2 hj
    have hr:j % z<z:=Nat.mod_lt _ z0
    have hjz:j / z*z+j % z=j:=by rw[Nat.mul_comm];exact Nat.div_add_mod j z
    obtain⟨cs',hl0,h1,_,h5⟩:=key (j / z) hi
    have:=h1 (j % z) hr
    rw[hjz,cell,List.getElem?_eq_getElem (by omega)] at this
    exact⟨_,this,h5 _ (List.getElem_mem _)⟩
   have ef : ∀y∈(c.toList.drop a.off).take (len*z),dc y=true:=by
    intro y hy
    obtain⟨j,hj⟩:=List.mem_iff_getElem?.1 hy
    rw[List.getElem?_take] at hj
    split at hj
    ·rename_i hjl
     rw[List.getElem?_drop,Array.getElem?_toList] at hj
     obtain⟨y',h1,h2⟩:=hat j hjl
     rw[hj] at h1;cases h1;exact h2
    ·cases hj
   have hdl:len*z≤(c.toList.drop a.off).length:=by rw[List.length_drop,Array.length_toList];omega
   obtain⟨tw1,tw2⟩:=qi dc _ _ hdl ef
   refine⟨_,len,(c.toList.drop a.off).take (len*z),rfl,?_,by omega,?_,fun i hi=>?_⟩
   ·simp[dc,spot,hl]
   ·simp only[trV,if_neg (by omega : ¬len=0)]
    have uY:0<len*z:=Nat.mul_pos h0 z0
    refine⟨z0,by simp[List.length_take];rw[List.length_drop,Array.length_toList] at hdl;omega,.inr ⟨2*(4294967296+tv a.block a.off)+1,0,_,rfl,.inr ⟨by omega,by omega,kZ W a.block a.off,.inl ⟨by omega,by omega⟩,?_,?_,?_⟩⟩⟩
    ·have e1:((2*(4294967296+tv a.block a.off)+1) % 2 == 1)=true:=by simp
     have e2:(2*(4294967296+tv a.block a.off)+1) / 2=4294967296+tv a.block a.off:=by omega
     simp only[IH.row,e1,cond_true,e2,IH.start,yW]
     rw[if_neg (by omega),show 4294967296+tv a.block a.off - 4294967296=tv a.block a.off from by omega,P8]
     simp only[hh]
     rw[if_pos (by omega)]
    ·rw[List.drop_zero]
     simp only[kZ,hh]
     rw[←List.map_take,tw1]
    ·simp only[kZ,hh,List.length_map]
     omega
   ·have hlz:i*z+z≤len*z:=by
     rw[←Nat.succ_mul];exact Nat.mul_le_mul_right _ hi
    obtain⟨cs',hl0,h1,h4,_⟩:=key i hi
    have:(((c.toList.drop a.off).take (len*z)).drop (i*z)).take z=cs':=by
     apply List.ext_getElem?
     intro j
     rw[List.getElem?_take]
     by_cases hj:j<z
     ·rw[if_pos hj,List.getElem?_drop,List.getElem?_take,if_pos (by omega),List.getElem?_drop,Array.getElem?_toList,←cell,h1 j hj]
     ·rw[if_neg hj,List.getElem?_eq_none (by omega)]
    rw[this]
    exact h4
end
end Go.Id
namespace Go.Proofs.YtnnmjocmapilaaaGreat
open Go.ChangeShapes Go.WideShapes Go.ChangeAt Go.RowKit Go.Id
theorem Tryz.own:ownKnob Tryz.prog.godebug=none:=by kernel_rfl
theorem Tryz.laidOut:laidOutB Tryz.prog=true:=by kernel_rfl
theorem Tryz.mapsOut:mapsRowed Tryz.prog=true:=by kernel_rfl
theorem Tryz.kids:Kids Tryz.prog (· < Tryz.prog.types.size):=kids_rows Tryz.laidOut Tryz.mapsOut
theorem Tryz.slices:((List.range Tryz.prog.types.size).all fun t=>match Tryz.prog.underlying t with
 | some (.slice e)=>decide (0<Tryz.prog.cellsOf e)
 | _=>true)=true:=by kernel_rfl
theorem Tryz.pos {t e:TypeId} (h:t<Tryz.prog.types.size) (hu:Tryz.prog.underlying t=some (.slice e)):0<Tryz.prog.cellsOf e:=by
 have:=List.all_eq_true.1 Tryz.slices t (by simpa using h)
 rw[hu] at this
 simpa using this
theorem Tryz.sound:Sound (E0 Tryz.prog):=We (by kernel_rfl) (by kernel_rfl)
end Go.Proofs.YtnnmjocmapilaaaGreat
