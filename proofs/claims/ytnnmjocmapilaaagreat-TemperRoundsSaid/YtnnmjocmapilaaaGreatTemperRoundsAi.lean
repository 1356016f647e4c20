/-
  Weakest preconditions over the ideal machine, seventh part: one step after the other
-/
import Derived.Test.YtnnmjocmapilaaaGreatTemperRoundsAh
set_option linter.unusedVariables false
set_option linter.unusedSimpArgs false
set_option linter.defProp false
set_option linter.deprecated false
namespace Go.Id
open Go
open Go renaming Operand→QY,Program→QX,TypeId→QZ,Value→QQ
open Nat renaming reduceAdd→zA,reduceEqDiff→zE,reduceLeDiff→zL
open Nat (reduceMul)
set_option maxHeartbeats 16000000
section
def Nx {α:Type} (_:α):Type:=Unit
def nx {α:Type} {a:α}:Nx a:=()
def Do {κ:Type} (m:κ→Prop) (K:κ) (_:Nx K):Prop:=m K
def Bq (b:Bool) (pq:Prop×Prop) (_:Nx pq):Prop:=Br b pq.1 pq.2
def VZ {α:Type} (v:α) (K:α→Prop) (u:Nx K):Do (Ex (some v)) K u=K v:=HN v K
def FH {α β:Type} (o:Option α) (f:α→β) (K:β→Prop) (u:Nx K):Do (Ex (o.map f)) K u=Do (Ex o) (fun v=>K (f v)) nx:=Yf o f K
def DG {α β:Type} (o:Option α) (f:α→Option β) (K:β→Prop) (u:Nx K):Do (Ex (o.bind f)) K u=Do (Ex o) (fun v=>Do (Ex (f v)) K nx) nx:=Vi o f K
def JG {α:Type} (c:Prop) [Decidable c] (v:Option α) (hc:c) (K:α→Prop) (u:Nx K):Do (Ex (if c then v else none)) K u=Do (Ex v) K nx:=by rw[aq hc];rfl
def HH (p q:Prop) (u:Nx (p,q)):Bq true (p,q) u=p:=Vk p q
def DU (p q:Prop) (u:Nx (p,q)):Bq false (p,q) u=q:=Tu p q
def aG {b:Bool} {p q:Prop} (h1:b=true→p) (h2:b=false→q):Bq b (p,q) nx:=Br.intro h1 h2
def I8:QQ→Option QQ
 | .pointer (some a)=>some (.pointer (some a))
 | .func (.func f) xs ys=>some (.func (.func f) xs ys)
 | .func (.yield f) xs ys=>some (.func (.yield f) xs ys)
 | .map r=>some (.map r)
 | _=>none
def I6 (b o:Nat):I8 (ptr b o)=some (ptr b o):=rfl
def Fo (f:FuncId) (xs ys:Array QQ):I8 (.func (.func f) xs ys)=some (.func (.func f) xs ys):=rfl
def I7 (r:Option Nat):I8 (.map r)=some (.map r):=rfl
section
variable (P:QX) (fr:Fr) (h:IH) (K:QQ→IH→Prop) (u:Nx K)
def SD (x:QY):Do (wpOp P (.move x) fr h) K u=Do (Ex (opd fr x)) (fun v=>K v h) nx:=rfl
def JM (x:QY):Do (wpOp P (.assign x) fr h) K u=Do (Ex (opd fr x)) (fun v=>K v h) nx:=rfl
def NV (t:QZ):Do (wpOp P (.alloc t) fr h) K u=Do (Ex (bC P t)) (fun z=>K (ptr (2*h.n) 0) (h.new (.cells z 0 none))) nx:=rfl
def V6 (t:QZ) (x:QY):Do (wpOp P (.box t x) fr h) K u=Do (Ex (opd fr x)) (fun v=>K (ptr (2*h.n) 0) (h.new (.cells v.cells.toList 0 none))) nx:=rfl
def SF (t:QZ) (a:QY):Do (wpOp P (.load t a) fr h) K u=Do (Ex (opd fr a)) (fun a=>Do (Ex (load P h t a)) (fun v=>K v h) nx) nx:=rfl
def NL (t:QZ) (a x:QY):Do (wpOp P (.store t a x) fr h) K u=Do (Ex (opd fr a)) (fun a=>Do (Ex (opd fr x)) (fun x=>Do (Ex (store P h t a x)) (fun h=>K undef h) nx) nx) nx:=rfl
def NU (op:BinOp) (t:QZ) (x y:QY) (s:QZ):Do (wpOp P (.binOp op t x y s) fr h) K u=Do (Ex (opd fr x)) (fun a=>Do (Ex (opd fr y)) (fun b=>Do (Ex (binop P op t x y a b)) (fun v=>K v h) nx) nx) nx:=rfl
def SC (c a b:Operand):Do (wpOp P (.pick c a b) fr h) K u=Do (Ex (opd fr c)) (fun c=>Do (Ex (opd fr a)) (fun a=>Do (Ex (opd fr b)) (fun b=>match c with
  | .bool c=>Bq c (K a h,K b h) nx
  | _=>False) nx) nx) nx:=by
 show wpOp P (.pick c a b) fr h K=_;rw[Ok];show _=Ex (opd fr c) _;congr 1;funext c;show _=Ex (opd fr a) _;congr 1;funext a;show _=Ex (opd fr b) _;congr 1;funext b;cases c<;>simp;rename_i c;cases c<;>simp[HH,DU]
def FM (x:QY) (i:Nat):Do (wpOp P (.extract x i) fr h) K u=Do (Ex (opd fr x)) (fun x=>match x with
  | .tuple vs=>Do (Ex vs[i]?) (fun v=>K v h) nx
  | _=>False) nx:=rfl
def DN (f:FuncId) (a b:Array QY):Do (wpOp P (.makeFunc (.func f) a b) fr h) K u=Do (Ex (nV fr a.toList)) (fun x=>Do (Ex (nV fr b.toList)) (fun y=>K (.func (.func f) x.toArray y.toArray) h) nx) nx:=rfl
def SL (f:QY) (args:Array QY) (ts:Array QZ):Do (wpOp P (.call ⟨.value f,args,ts⟩) fr h) K u=Do (Ex (opd fr f)) (fun fv=>Do (Ex (nV fr args.toList)) (fun vs=>Do (WV P fv vs h) K nx) nx) nx:=rfl
def FO (b:Builtin) (args:Array QY) (ts:Array QZ):Do (wpOp P (.call ⟨.builtin b,args,ts⟩) fr h) K u=Do (Ex (nV fr args.toList)) (fun vs=>Do (Ex (builtin P h b ts vs)) (fun r=>K r.1 r.2) nx) nx:=rfl
def Bf (t:TypeId) (x:Operand) (f:Nat):Do (wpOp P (.fieldAddr t x f) fr h) K u=Do (Ex (opd fr x)) (fun x=>Do (Ex (fieldAt P t f)) (fun off=>Do (Ex (asAddr x)) (fun a=>K (ptr a.1 (a.2+off)) h) nx) nx) nx:=by show wpOp P (.fieldAddr t x f) fr h K=_;rw[Cs];show _=Ex (opd fr x) _;congr 1;funext x;show _=Ex (fieldAt P t f) _;cases fieldAt P t f<;>cases asAddr x<;>simp[Do]
def Be (t:QZ) (x i:QY):Do (wpOp P (.indexAddr t x i) fr h) K u=Do (Ex (opd fr x)) (fun x=>Do (Ex (opd fr i)) (fun i=>Do (Ex (indexAddr P t x i)) (fun v=>K v h) nx) nx) nx:=rfl
def Sy (op:UnOp) (t:QZ) (x:QY):Do (wpOp P (.unOp op t x) fr h) K u=Do (Ex (opd fr x)) (fun v=>Do (Ex (bif plain v then fb P (Op.unary op v) else none)) (fun v=>K v h) nx) nx:=Oj P fr h K op t x
def FN (s d:QZ) (x:QY):Do (wpOp P (.convert s d x) fr h) K u=Do (Ex (opd fr x)) (fun v=>Do (Ex (zg P s d v)) (fun v=>K v h) nx) nx:=GC P fr h K s d x
def Bd (t:QZ) (l c:QY):Do (wpOp P (.makeSlice t l c) fr h) K u=Do (Ex (opd fr l)) (fun l=>Do (Ex (opd fr c)) (fun c=>Do (Ex (makeSlice P h t l c)) (fun r=>K r.1 r.2) nx) nx) nx:=Cr P fr h K t l c
def ze (t:QZ) (n:Nat) (ps:Array (Nat×QY)):Do (wpOp P (.buildSlice t n ps) fr h) K u=Do (Ex (partsOf fr ps.toList)) (fun ps=>Do (Ex (buildSlice P h t n ps)) (fun r=>K r.1 r.2) nx) nx:=Bp P fr h K t n ps
def NM (t:QZ) (x:QY) (lo hi mx:Option QY):Do (wpOp P (.slice t x lo hi mx) fr h) K u=Do (Ex (opd fr x)) (fun x=>Do (Ex (iF fr lo)) (fun lo=>Do (Ex (iF fr hi)) (fun hi=>Do (Ex (iF fr mx)) (fun mx=>Do (Ex (dE P h t x lo hi mx)) (fun v=>K v h) nx) nx) nx) nx) nx:=Kr P fr h K t x lo hi mx
def NS (t:QZ) (ps:Array (Nat×QY)):Do (wpOp P (.build t ps) fr h) K u=Do (Ex (partsOf fr ps.toList)) (fun ps=>Do (Ex (iP P t ps)) (fun v=>K v h) nx) nx:=Ku P fr h K t ps
def NR (t:QZ) (x:QY) (f:Nat):Do (wpOp P (.field t x f) fr h) K u=Do (Ex (opd fr x)) (fun x=>Do (Ex (xT P t f x)) (fun v=>K v h) nx) nx:=Kt P fr h K t x f
def DM (x:Operand):Do (wpOp P (.nilCheck x) fr h) K u=Do (Ex (opd fr x)) (fun x=>Do (Ex (I8 x)) (fun v=>K v h) nx) nx:=by
 show wpOp P (.nilCheck x) fr h K=_;rw[D8];show _=Ex (opd fr x) _;congr 1;funext x;show _=Ex (I8 x) _;cases x with
 | pointer a=>cases a<;>simp[I8]
 | func f xs ys=>cases f<;>simp[I8]
 | _=>simp[I8]
def JK (t:QZ) (m k:QY) (ok:Bool):Do (wpOp P (.lookup t m k ok) fr h) K u=Do (Ex (opd fr m)) (fun m=>Do (Ex (opd fr k)) (fun k=>Do (Ex (lookup P h t m k ok)) (fun v=>K v h) nx) nx) nx:=HV P fr h K t m k ok
def Bc (t:QZ) (m k v:QY):Do (wpOp P (.mapUpdate t m k v) fr h) K u=Do (Ex (opd fr m)) (fun m=>Do (Ex (opd fr k)) (fun k=>Do (Ex (opd fr v)) (fun v=>Do (Ex (mapUpdate P h t m k v)) (fun h=>K undef h) nx) nx) nx) nx:=ur P fr h K t m k v
def JL (t:QZ) (m k v:QY):Do (wpOp P (.insert t m k v) fr h) K u=Do (Ex (opd fr m)) (fun m=>Do (Ex (opd fr k)) (fun k=>Do (Ex (opd fr v)) (fun v=>Do (Ex (mapUpdate P h t m k v)) (fun h=>K undef h) nx) nx) nx) nx:=HW P fr h K t m k v
def FL (t:QZ):Do (wpOp P (.makeMap t none) fr h) K u=K (.map (some (2*h.n))) (h.new (.map [])):=GB P fr h K t
def NP (t:QZ) (x i:QY):Do (wpOp P (.index t x i) fr h) K u=Do (Ex (opd fr x)) (fun x=>Do (Ex (opd fr i)) (fun i=>Do (Ex (uS P t x i)) (fun v=>K v h) nx) nx) nx:=Ks P fr h K t x i
end
section
variable (P:QX) (nt:Nat) (all:List Oper) (d:Option Tmp) (o:Op) (ty:QZ) (pos:String) (af:Array Edge) (l:List Oper) (fr:Fr) (h:IH)
def V4 (d:Nat) (v:QQ) (K:Fr→Prop) (u:Nx K) (hd:d<nt):Do (gX nt fr (some d) v) K u=K ((d,v) :: fr):=Kp nt fr d v K hd
def DL (v:QQ) (K:Fr→Prop) (u:Nx K):Do (gX nt fr none v) K u=K fr:=rfl
def V5 (K:Fr→IH→Prop) (u:Nx K):Do (wpOps P nt all [] fr h) K u=K fr h:=rfl
def SI (K:Fr→IH→Prop) (u:Nx K):Do (wpOps P nt all (⟨d,o,ty,pos,af,none⟩ :: l) fr h) K u=Do (wpOp P o fr h) (fun v h=>Do (gX nt fr d v) (fun fr=>Do (wpOps P nt all l fr h) K nx) nx) nx:=rfl
def NQ (j:Nat) (want:Bool) (K:Fr→IH→Prop) (u:Nx K):Do (wpOps P nt all (⟨d,o,ty,pos,af,some (j,want)⟩ :: l) fr h) K u = Do (Ex ((all[j]?).bind (·.dst))) (fun g=>Do (Ex (ax fr g)) (fun b=>match b with
   | .bool b=>Bq (b == want) (Do (wpOp P o fr h) (fun v h=>Do (gX nt fr d v) (fun fr=>Do (wpOps P nt all l fr h) K nx) nx) nx,Do (gX nt fr d undef) (fun fr=>Do (wpOps P nt all l fr h) K nx) nx) nx
   | .tuple _=>Do (gX nt fr d undef) (fun fr=>Do (wpOps P nt all l fr h) K nx) nx
   | _=>False) nx) nx:=rfl
def Sz (tr:List (Fr×IH)) (K:List (Fr×IH)→Prop) (u:Nx K):Do (fL P nt all [] fr h tr) K u=K (tr ++ [(fr,h)]):=rfl
def NK (tr:List (Fr×IH)) (K:List (Fr×IH)→Prop) (u:Nx K):Do (fL P nt all (⟨d,o,ty,pos,af,none⟩ :: l) fr h tr) K u=Do (wpOp P o fr h) (fun v h1=>Do (gX nt fr d v) (fun fr1=>Do (fL P nt all l fr1 h1 (tr ++ [(fr,h)])) K nx) nx) nx:=rfl
def JI (j:Nat) (want:Bool) (tr:List (Fr×IH)) (K:List (Fr×IH)→Prop) (u:Nx K):Do (fL P nt all (⟨d,o,ty,pos,af,some (j,want)⟩ :: l) fr h tr) K u = Do (Ex ((all[j]?).bind (·.dst))) (fun g=>Do (Ex (ax fr g)) (fun b=>match b with
   | .bool b=>Bq (b == want) (Do (wpOp P o fr h) (fun v h1=>Do (gX nt fr d v) (fun fr1=>Do (fL P nt all l fr1 h1 (tr ++ [(fr,h)])) K nx) nx) nx,Do (gX nt fr d undef) (fun fr1=>Do (fL P nt all l fr1 h (tr ++ [(fr,h)])) K nx) nx) nx
   | .tuple _=>Do (gX nt fr d undef) (fun fr1=>Do (fL P nt all l fr1 h (tr ++ [(fr,h)])) K nx) nx
   | _=>False) nx) nx:=rfl
end
section
variable (P:QX) (fn:FuncId) (nt:Nat) (rd:Option Nat) (fr:Fr) (h:IH) (Q:dL→Fr→IH→Prop) (u:Nx Q)
def rL (K:Fr→IH→Prop) (Q:dL→Fr→IH→Prop) (e:dL) (fr:Fr) (h:IH):Prop:=match e with
 | .normal=>K fr h
 | .exit i=>Q (.exit i) fr h
 | .ret=>Q .ret fr h
def qB (id:Nat) (Q:dL→Fr→IH→Prop) (e:dL) (fr:Fr) (h:IH):Prop:=match e with
 | .exit i=>Br (i == id) (Q .normal fr h) (Q (.exit i) fr h)
 | .normal=>Q .normal fr h
 | .ret=>Q .ret fr h
def AL (K:Fr→IH→Prop):rL K Q .normal fr h=K fr h:=rfl
def Fb (K:Fr→IH→Prop) (i:Nat):rL K Q (.exit i) fr h=Q (.exit i) fr h:=rfl
def ID (K:Fr→IH→Prop):rL K Q .ret fr h=Q .ret fr h:=rfl
def wP (id:Nat):qB id Q .normal fr h=Q .normal fr h:=rfl
def DV (id:Nat):qB id Q .ret fr h=Q .ret fr h:=rfl
def Bj (id:Nat):qB id Q (.exit id) fr h=Q .normal fr h:=by simp[qB]
def Bk (id i:Nat) (hi:(i == id)=false):qB id Q (.exit i) fr h=Q (.exit i) fr h:=by simp[qB,hi]
def SB:Do (wpC P fn nt rd .skip fr h) Q u=Q .normal fr h:=rfl
def JJ (id:Nat) (ops:Array Oper):Do (wpC P fn nt rd (.region id ops false) fr h) Q u=Do (wpOps P nt ops.toList ops.toList fr h) (Q .normal) nx:=rfl
def SK (id:Nat) (ops:Array Oper) (hc:jP ops.toList=true):Do (wpC P fn nt rd (.region id ops true) fr h) Q u=Do (wpOps P nt ops.toList ops.toList fr h) (Q .normal) nx:=by show((jP ops.toList=true→wpOps P nt ops.toList ops.toList fr h (Q .normal))∧(jP ops.toList=false→My P nt ops.toList fr h (Q .normal)))=_;simp only[hc,true_implies,reduceCtorEq,false_implies,and_true];rfl
theorem mE (a b:Code):Do (wpC P fn nt rd (.seq a b) fr h) Q u=Do (wpC P fn nt rd a fr h) (rL (fun fr h=>Do (wpC P fn nt rd b fr h) Q nx) Q) nx:=by show wpC P fn nt rd a fr h _=wpC P fn nt rd a fr h _;congr 1
def SJ (c:QY) (a b:Code):Do (wpC P fn nt rd (.cond c a b) fr h) Q u=Do (Ex (opd fr c)) (fun c=>match c with
  | .bool c=>Bq c (Do (wpC P fn nt rd a fr h) Q nx,Do (wpC P fn nt rd b fr h) Q nx) nx
  | _=>False) nx:=rfl
def NT (id:Nat) (b:Code):Do (wpC P fn nt rd (.block id b) fr h) Q u=Do (wpC P fn nt rd b fr h) (qB id Q) nx:=rfl
def SE (b:Code):Do (wpC P fn nt rd (.loop b) fr h) Q u=Do (Bl P fn nt rd b fr h) Q nx:=rfl
def NN (b:Code):Do (wpC P fn nt rd (.scope b) fr h) Q u=Do (wpC P fn nt rd b fr h) Q nx:=rfl
def Bb (f:QY) (ps:Array Tmp) (a b:Code):Do (wpC P fn nt rd (.rangeFunc f ps a b) fr h) Q u=Do (vg P fn nt rd f ps a b fr h) Q nx:=rfl
def SH (i:Nat):Do (wpC P fn nt rd (.exit i) fr h) Q u=Q (.exit i) fr h:=rfl
def V0:Do (wpC P fn nt rd .ret fr h) Q u=Q .ret fr h:=rfl
end
def T3 (P:QX) (rs:List ResultVar) (K:QQ→IH→Prop) (e:dL) (fr:Fr) (h:IH):Prop:=match e with
 | .exit _=>False
 | .normal=>Do (Ex (eG P fr h rs)) (fun l=>K (single l) h) nx
 | .ret=>Do (Ex (eG P fr h rs)) (fun l=>K (single l) h) nx
def AN (P:QX) (rs:List ResultVar) (K:QQ→IH→Prop) (fr:Fr) (h:IH):T3 P rs K .normal fr h=Do (Ex (eG P fr h rs)) (fun l=>K (single l) h) nx:=rfl
def IN (P:QX) (rs:List ResultVar) (K:QQ→IH→Prop) (fr:Fr) (h:IH):T3 P rs K .ret fr h=Do (Ex (eG P fr h rs)) (fun l=>K (single l) h) nx:=rfl
variable {h:IH}{nt:Nat}{K:QQ→IH→Prop}{P:QX}{vs:List QQ}
def enter {f:FuncId} {fn:Func} {c:Code} {rs:List ResultVar} {first cap:Array QQ}  (hf:P.funcs[f]?=some fn) (hb:fn.body=some c) (hn:fn.ntmps=nt) (hr:fn.results.toList=rs) (hl:(first.toList ++ (vs ++ cap.toList)).length≤nt)(w:Do (wpC P f nt none c (nj 0 (first.toList ++ (vs ++ cap.toList))) h) (T3 P rs K) nx):WV P (.func (.func f) first cap) vs h K :=
 P1 hf hb hn hr hl w
def call {fv:QQ} {L:QQ→IH→Prop} (w:WV P fv vs h L) (k : ∀v h',L v h'→K v h'):Do (WV P fv vs h) K nx:=w.mono k
variable {fn:FuncId}{rd:Option Nat}{Q:dL→Fr→IH→Prop}{fr:Fr}
@[reducible] def Pst (p:Prop) (_:Nx p):Prop:=p
theorem cut {a:Code} {K:Fr→IH→Prop} (R:Fr→IH→Prop)(w:Do (wpC P fn nt rd a fr h) (rL (fun fr h=>Pst (R fr h) nx) Q) nx) (k : ∀fr h,R fr h→K fr h):Do (wpC P fn nt rd a fr h) (rL K Q) nx :=
 qa (fun e fr h w=>by cases e<;>first|exact k _ _ w|exact w) w
def Rp (I:Nat→Fr→IH→Prop) (m:Nat) (Q:dL→Fr→IH→Prop) (e:dL) (fr:Fr) (h:IH):Prop:=match e with
 | .normal => ∃m',m'<m∧I m' fr h
 | .exit i=>Q (.exit i) fr h
 | .ret=>Q .ret fr h
def Di (I:Nat→Fr→IH→Prop) (m:Nat) (Q:dL→Fr→IH→Prop) (i:Nat) (fr:Fr) (h:IH):Rp I m Q (.exit i) fr h=Q (.exit i) fr h:=rfl
def Ft (I:Nat→Fr→IH→Prop) (m:Nat) (Q:dL→Fr→IH→Prop) (fr:Fr) (h:IH):Rp I m Q .ret fr h=Q .ret fr h:=rfl
def loop {b:Code} (I:Nat→Fr→IH→Prop) (m:Nat) (start:I m fr h)(step : ∀m fr h,I m fr h→Do (wpC P fn nt rd b fr h) (Rp I m Q) nx) (hm:uU b=none:=by rfl):Do (Bl P fn nt rd b fr h) Q nx :=
 Ym I (fun m fr h hi=>step m fr h hi) start hm
def SG (tr:List (Fr×IH)) (n:Nat) (K:Fr→IH→Prop) (u:Nx K):Do (Kv tr n) K u=Do (Ex tr[n]?) (fun p=>K p.1 p.2) nx:=rfl
variable {p i:Nat}{ops:List Oper}{o:Oper}{tr:List (Fr×IH)}
def az {fr':Fr} {h':IH} (ho:ops[i]?=some o) (hi:tr[i]?=some (fr,h)) (hw:dW ops o fr=some true) (hp:tr[p]?=some (fr',h')) (hs:jS P fr o.op h h'=true):fM P ops tr [(i,[p])]:=by refine⟨?_,trivial⟩;simp only[ho,hi,hw];intro q hq;simp only[gQ] at hq;subst hq;simp only[hp];exact hs
variable {l:List Nat}
def GA (ho:ops[i]?=some o) (hi:tr[i]?=some (fr,h)) (hw:dW ops o fr=some false):fM P ops tr [(i,l)]:=by refine⟨?_,trivial⟩;simp only[ho,hi,hw]
def oj {e:Nat×List Nat} {l:List (Nat×List Nat)} (h1:fM P ops tr [e]) (h2:fM P ops tr l):fM P ops tr (e :: l):=⟨h1.1,h2⟩
def ye (h1:fM P ops tr [(i,[p])]) (h2:fM P ops tr [(i,l)]):fM P ops tr [(i,p :: l)]:=by
 refine⟨?_,trivial⟩;have a:=h1.1;have b:=h2.1;simp only at a b ⊢;cases ho:ops[i]? with
 | none=>simp only[ho] at a
 | some o =>
  cases hi:tr[i]? with
  | none=>simp only[ho,hi] at a
  | some x =>
   obtain⟨fr,h⟩:=x
   simp only[ho,hi] at a b ⊢
   cases hw:dW ops o fr with
   | none=>trivial
   | some w =>
    cases w with
    | false=>trivial
    | true =>
     simp only[hw] at a b ⊢;intro q hq;rcases dV.1 hq with rfl|hq;·exact a q ab
     ·exact b q hq
def drawn {id:Nat} {ops:Array Oper} (pl:List (Nat×List Nat)) (ho:tz ops.toList=true) (hp:Fi ops.toList=pl) (hne:pl.isEmpty=false)(w:Do (fL P nt ops.toList ops.toList fr h []) (fun tr=>Pst (fM P ops.toList tr pl∧Do (Kv tr ops.toList.length) (Q .normal) nx) nx) nx):Do (wpC P fn nt rd (.region id ops true) fr h) Q nx:=by subst hp;refine⟨fun hc=>?_,fun _=>⟨ho,w⟩⟩;simp[jP,List.isEmpty_iff] at hc hne;exact absurd hc.2 hne
def NO (P:QX) (fn:FuncId) (nt:Nat) (rd:Option Nat) (l:Nat) (fr:Fr) (h:IH) (Q:dL→Fr→IH→Prop) (u:Nx Q):Do (wpC P fn nt rd (.label l) fr h) Q u=Q .normal fr h:=rfl
def CL (v:QQ):single [v]=v:=rfl
def CM:single []=.tuple #[]:=rfl
def CK (a b:QQ):single [a,b]=.tuple #[a,b]:=rfl
def yq (a b c:QQ):single [a,b,c]=.tuple #[a,b,c]:=rfl
def Rw (h:IH) (b o:Nat):ld h b o=(h.row b).bind (·[o]?):=rfl
def I5 {α:Type} (l:List α) : [] ++ l=l:=rfl
def J2 {α:Type} (l:List α):l ++ []=l:=Gx l
def FP {α:Type} (x:α) (l m:List α):(x :: l) ++ m=x :: (l ++ m):=rfl
def Jq {α:Type} {d:Decidable True} (a b:α):ite True a b=a:=aq trivial
def Fx {α:Type} {d:Decidable False} (a b:α):ite False a b=b:=ah id
def DY {α β:Type} (a:α) (f:α→Option β):(some a).bind f=f a:=rfl
def Fp {α β:Type} (a:α) (f:α→β):(some a).map f=some (f a):=rfl
def FB {α:Type} (x:α) (l:List α):(x :: l)[0]?=some x:=rfl
def FC {α:Type} (x:α) (l:List α) (n:Nat):(x :: l)[n+1]?=l[n]?:=rfl
def Jx {α:Type} (l:List α) (n:Nat):l.toArray[n]?=l[n]?:=Cg
def MF {α:Type} (l:List α):l.toArray.toList=l:=rfl
def Ic:undef=QQ.tuple #[]:=rfl
def wpS:=aB @SD (aB @JM (aB @NV (aB @V6 (aB @SF (aB @NL (aB @NU (aB @SC (aB @FM (aB @DN (aB @SL (aB @FO (aB @Bf (aB @Be (aB @Sy (aB @FN (aB @Bd (aB @ze (aB @NM (aB @NS (aB @NR (aB (aB @DM (aB @I6 (aB @Fo (aB @I7 @NO)))) (aB @JK (aB (aB @Bc @JL) (aB @FL (aB @NP (aB @V4 (aB @DL (aB @V5 (aB @SI (aB @NQ (aB @Sz (aB @NK (aB @JI (aB @AL (aB @Fb (aB @ID (aB @wP (aB @DV (aB @Bj (aB @Bk (aB @SB (aB @JJ (aB @SK (aB @mE (aB @SJ (aB @NT (aB @SE (aB @NN (aB @Bb (aB @SH (aB @V0 (aB @AN (aB @IN (aB @Di (aB @Ft (aB @VZ (aB @FH (aB @DG (aB @JG (aB @HH (aB @DU (aB @Nh (aB @IZ (aB @C7 (aB @wJ (aB @uM (aB @rN (aB @qN (aB @qi (aB @rO (aB @rP (aB @IX (aB @Fm (aB @AT (aB @yI (aB @AV (aB @AU (aB @sf (aB @y9 (aB @Ba (aB @I5 (aB @J2 (aB @FP (aB @Jq (aB @Fx (aB @DY (aB @Fp (aB @and_true (aB @true_and (aB @Nat.zero_add (aB @Nat.add_zero (aB @Nat.zero_mul (aB @Nat.one_mul (aB @Nat.mul_one (aB @uH (aB @wG (aB @yz (aB @wH (aB @Ga (aB @F0 (aB @F4 (aB @F9 (aB @F3 (aB @F5 (aB @F6 (aB @F7 (aB @F8 (aB @Tc (aB @Wd (aB @SY (aB @Tb (aB @Td (aB @We (aB @J1 (aB @Qu (aB @Vy (aB @Qv (aB @Qw (aB @VE (aB @QL (aB @QI (aB @EN (aB @EO (aB @wrap_i64 (aB @yd (aB @wrap_u8 (aB @HU (aB @wrap_u32 (aB @Int.toNat_natCast (aB @Int.toNat_one (aB @Int.toNat_zero (aB @builtin_len (aB @lY (aB @wK (aB @vM (aB @DD (aB @Rw (aB @VD (aB @DZ (aB @FB (aB @FC (aB @Jx (aB @MF (aB @FX (aB @DR (aB @Bi (aB @FU (aB @FY (aB @DQ (aB @wN (aB @FV (aB @zi (aB @aH (aB @De (aB @aJ (aB @C3 (aB @pF (aB @AM (aB @yy (aB @uF (aB @ar (aB @aE (aB @aj (aB @au (aB @CL (aB @CK (aB @CM (aB @yq (aB @SG (@Ic))))))))))))))))))))))))))))))))))))))))))))))))))))))))))))))))))))))))))))))))))))))))))))))))))))))))))))))))))))))))))))))))))))))))))))))))))))))))))))))))))))))))))
def wpR:=aB @SD (aB @JM (aB @NV (aB @V6 (aB @SF (aB @NL (aB @NU (aB @SC (aB @FM (aB @DN (aB @SL (aB @FO (aB @Bf (aB @Be (aB @Sy (aB @FN (aB @Bd (aB @ze (aB @NM (aB @NS (aB @NR (aB (aB @DM (aB @I6 (aB @Fo (aB @I7 @NO)))) (aB @JK (aB (aB @Bc @JL) (aB @FL (aB @NP (aB @V4 (aB @DL (aB @V5 (aB @SI (aB @NQ (aB @Sz (aB @NK (aB @JI (aB @AL (aB @Fb (aB @ID (aB @wP (aB @DV (aB @Bj (aB @Bk (aB @SB (aB @JJ (aB @SK (aB @SJ (aB @NT (aB @SE (aB @NN (aB @Bb (aB @SH (aB @V0 (aB @AN (aB @IN (aB @Di (aB @Ft (aB @VZ (aB @FH (aB @DG (aB @JG (aB @HH (aB @DU (aB @Nh (aB @IZ (aB @C7 (aB @wJ (aB @uM (aB @rN (aB @qN (aB @qi (aB @rO (aB @rP (aB @IX (aB @Fm (aB @AT (aB @yI (aB @AV (aB @AU (aB @sf (aB @y9 (aB @Ba (aB @I5 (aB @J2 (aB @FP (aB @Jq (aB @Fx (aB @DY (aB @Fp (aB @and_true (aB @true_and (aB @Nat.zero_add (aB @Nat.add_zero (aB @Nat.zero_mul (aB @Nat.one_mul (aB @Nat.mul_one (aB @uH (aB @wG (aB @yz (aB @wH (aB @Ga (aB @F0 (aB @F4 (aB @F9 (aB @F3 (aB @F5 (aB @F6 (aB @F7 (aB @F8 (aB @Tc (aB @Wd (aB @SY (aB @Tb (aB @Td (aB @We (aB @J1 (aB @Qu (aB @Vy (aB @Qv (aB @Qw (aB @VE (aB @QL (aB @QI (aB @EN (aB @EO (aB @wrap_i64 (aB @yd (aB @wrap_u8 (aB @HU (aB @wrap_u32 (aB @Int.toNat_natCast (aB @Int.toNat_one (aB @Int.toNat_zero (aB @builtin_len (aB @lY (aB @wK (aB @vM (aB @DD (aB @Rw (aB @VD (aB @DZ (aB @FB (aB @FC (aB @Jx (aB @MF (aB @FX (aB @DR (aB @Bi (aB @FU (aB @FY (aB @DQ (aB @wN (aB @FV (aB @zi (aB @aH (aB @De (aB @aJ (aB @C3 (aB @pF (aB @AM (aB @yy (aB @uF (aB @ar (aB @aE (aB @aj (aB @au (aB @CL (aB @CK (aB @CM (aB @yq (aB @SG (@Ic)))))))))))))))))))))))))))))))))))))))))))))))))))))))))))))))))))))))))))))))))))))))))))))))))))))))))))))))))))))))))))))))))))))))))))))))))))))))))))))))))))))))))
end
section
def KM (cs:List QQ):IH.bf cs 0 []=cs:=by simp[IH.bf]
def It (c v:QQ) (cs vs:List QQ):IH.bf (c :: cs) 0 (v :: vs)=v :: IH.bf cs 0 vs:=by simp[IH.bf]
theorem AJ (c:QQ) (cs vs:List QQ) (n:Nat):IH.bf (c :: cs) (n+1) vs=c :: IH.bf cs n vs:=by simp[IH.bf,show n+1+vs.length=(n+vs.length)+1 from by omega]
variable {cs:List QQ}{v:QQ}{n:Nat}
theorem jM (h:n<cs.length):IH.bf cs n [v]=cs.set n v:=by simp only[IH.bf,qZ,List.singleton_append];exact(List.set_eq_take_append_cons_drop.trans (aq h)).symm
def jN {vs:List QQ} (h:cs.length=vs.length):IH.bf cs 0 vs=vs:=by simp[IH.bf,h]
def U3 (k:IntKind) (n:Int):bB (.int k n)=true:=rfl
def JP (b:Bool):bB (.bool b)=true:=rfl
def Pz (a:Option Addr) (n k:Nat):bB (.slice a n k)=true:=rfl
def U1 (b o:Nat):bB (ptr b o)=true:=rfl
def SP (f:Fn) (a b:Array QQ):bB (.func f a b)=true:=rfl
def U2 (r:Option Nat):bB (.map r)=true:=rfl
def JO:bB .nilFunc=true:=rfl
def Mg:bB (.pointer none)=true:=rfl
def Th (p:QQ→Bool):([]:List QQ).all p=true:=rfl
def PW (p:QQ→Bool) (v:QQ) (l:List QQ):(v :: l).all p=(p v && l.all p):=rfl
def Yr (b:Bool):(true && b)=b:=rfl
def ZY (b:Bool):(false && b)=false:=rfl
def Zaw (b:Bool):(b && true)=b:=by cases b<;>rfl
def Rs {α:Type}:([]:List α).length=0:=rfl
def O5 {α:Type} (v:α) (l:List α):(v :: l).length=l.length+1:=rfl
def stE (n:Nat) (h:IH) (k o:Nat) (vs:List QQ):Option cX→Option IH
 | some (.cells cs e none)=>if vs.length=n∧vs.all bB=true∧o+n≤cs.length then some (h.put k (.cells (IH.bf cs o vs) e none)) else none
 | some (.cells cs e (some f))=>if vs.length=n∧vs.all bB=true then h.wr (2*k) o vs else none
 | _=>none
variable {P:QX}{t:TypeId}
def fR (hT:bK P t=some n) (h:IH) (k o:Nat) (v:QQ):store P h t (ptr (2*k) o) v=stE n h k o v.cells.toList (h.ext.get k):=by
 have h1:(2*k % 2 == 1)=false:=ab;have h2:2*k / 2=k:=aa;simp only[store,asAddr,ptr,hT,aX,fK,bT];rw[show v.cells.size=v.cells.toList.length from by simp];generalize v.cells.toList=vs;cases hg:h.ext.get k with
 | none=>simp[stE,IH.wr,h2,hg]
 | some ob =>
  cases ob with
  | cells cs e f =>
   cases f with
   | none =>
    simp only[stE,IH.wr,h1,h2,hg,aX,ch,fJ,cE];by_cases hc:vs.length=n∧vs.all bB=true
    ·rw[aq hc];obtain⟨rfl,hc2⟩:=hc;by_cases hl:o+vs.length≤cs.length
     ·rw[aq hl,aq ⟨rfl,hc2,hl⟩];rfl
     ·rw[ah hl,ah fun x=>hl x.2.2]
    ·rw[ah hc,ah fun x=>hc ⟨x.1,x.2.1⟩]
   | some f=>simp[stE]
  | _=>simp[stE,IH.wr,h2,hg]
def WC (n:Nat) (h:IH) (k o:Nat) (vs cs:List QQ) (e:Nat):stE n h k o vs (some (.cells cs e none))=if vs.length=n∧vs.all bB=true∧o+n≤cs.length then some (h.put k (.cells (IH.bf cs o vs) e none)) else none:=rfl
variable {sz m:Nat}
def oQ (h:IH) (hz:0<sz) (hl:cs.length=m*sz) (hm:0<m):df (h.new (.cells cs sz none)) sz (.slice (some ⟨2*h.n,0,none⟩) m (2*m+1)) m cs:=by
 refine⟨hz,hl,.inr ⟨2*h.n,0,2*m+1,rfl,.inr ⟨aa,aa,cs,.inr ⟨aa,ab,none,?_⟩,?_,?_,aa⟩⟩⟩;·rw[show 2*h.n / 2=h.n from by omega,pJ,aq rfl]
 ·exact pF _ _ _ _ rfl
 ·rw[cC,fB aa]
variable {h:IH}
def fX {k c:Nat} {f:Option Nat} (hg:h.ext.get k=some (.cells cs sz f)) (hk:k<h.n) (hz:0<sz) (hl:cs.length=n*sz) (hc:0<c) (hn:n≤c / 2):df h sz (.slice (some ⟨2*k,0,none⟩) n c) n cs:=by
 refine⟨hz,hl,.inr ⟨2*k,0,c,rfl,.inr ⟨hc,hn,cs,.inr ⟨aa,aa,f,?_⟩,?_,?_,aa⟩⟩⟩;·rw[show 2*k / 2=k from by omega,hg]
 ·rw[mW];simp[IH.cells,hg]
 ·rw[cC,fB aa]
variable {bytes:Nat}{h0':IH}{n0:Nat}
def Acc.qC (a:Acc h n0 sz v n cs) (hT:oR P t=some (sz,bytes)) {new:List QQ} (hm:0<m) (hl:new.length=m*sz)(hc:new.all bB=true) (hsz:(n+m)*(bytes+1)≤1099511627776) (h0:n0≤h.n) (e0:Ext h0' h) (hn0:h0'.n≤n0) :∃v' h',append P (h.new (.cells new sz none)) t v (.slice (some ⟨2*h.n,0,none⟩) m (2*m+1))=some (v',h')∧Acc h' n0 sz v' (n+m) (cs ++ new)∧Grow h h'∧Ext h0' h':=by have e1:Ext h (h.new (.cells new sz none)):=(Ext.refl h).new _;obtain⟨v',h',b1,b2,b3,b4,b5⟩:=(a.ext e1).app hT (oQ h a.1 hl hm) hm hc hsz aT (e0.trans e1) hn0;exact⟨v',h',b1,b2,e1.grow.trans b3,b5⟩
variable {x:QQ}
def Acc.xY (a:Acc h n0 1 v n cs) (hT:oR P t=some (1,bytes))  (hc:bB x=true) (hsz:(n+1)*(bytes+1)≤1099511627776) (h0:n0≤h.n) (e0:Ext h0' h) (hn0:h0'.n≤n0) :∃v' h',append P (h.new (.cells [x] 1 none)) t v (.slice (some ⟨2*h.n,0,none⟩) 1 3)=some (v',h')∧Acc h' n0 1 v' (n+1) (cs ++ [x])∧Grow h h'∧Ext h0' h' :=
 a.qC hT (m:=1) (new:=[x]) aa rfl (by simp[hc]) hsz h0 e0 hn0
def Acc.app2 (a:Acc h n0 1 v n cs) (hT:oR P t=some (1,bytes)) {y:QQ}(hc:bB x=true) (hc2:bB y=true) (hsz:(n+2)*(bytes+1)≤1099511627776) (h0:n0≤h.n) (e0:Ext h0' h) (hn0:h0'.n≤n0) :∃v' h',append P (h.new (.cells [x,y] 1 none)) t v (.slice (some ⟨2*h.n,0,none⟩) 2 5)=some (v',h')∧Acc h' n0 1 v' (n+2) (cs ++ [x,y])∧Grow h h'∧Ext h0' h' :=
 a.qC hT (m:=2) (new:=[x,y]) aa rfl (by simp[hc,hc2]) hsz h0 e0 hn0
variable {z:List QQ}{b:Nat}
def tD (hT:rQ P t=some (n,b,z)) (h:IH) (k j:IntKind) {l c:Int} (h0:0≤l) (h1:l≤c) (h2:c*(b+1)≤1099511627776) :makeSlice P h t (.int k l) (.int j c)=some (.slice (some ⟨2*h.n,0,none⟩) l.toNat (2*c.toNat+1),h.new (.cells (de c.toNat z) n none)):=by
 obtain⟨l,rfl⟩:=fV h0;obtain⟨c,rfl⟩:=fV (Int.le_trans h0 h1);unfold rQ at hT;split at hT
 case h_2=>cases hT
 rename_i e hu;split at hT
 case h_2=>cases hT
 rename_i zz a1 a2 a3;simp only[aX,bT] at hT;split at hT
 case isFalse=>cases hT
 rename_i hz;cases hT;have hc2:c*(b+1)≤bZ:=by
  have:((c*(b+1):Nat):Int)≤1099511627776:=by simpa using h2
  simp only[bZ];omega
 have hcm:c≤bZ:=bV (Ke c aa) hc2;have e1:oM (.int k (l:Int)) bZ=some l:=mz aa;have e2:oM (.int j (c:Int)) bZ=some c:=mz hcm;have e3:(Nat.ble l c && Nat.ble (c*(b+1)) bZ && z.length == n)=true:=by simp[ch,hz,hc2];omega
 simp only[makeSlice,hu,e1,e2,a1,a2,a3,e3,cg,iv]
def gD (hT:rQ P t=some (n,b,z)) (h:IH) (len:Nat) (ps:List (Nat×QQ)) (hl:len*n≤16777216) :buildSlice P h t len ps=(eK (fun i=>some (i*n,n)) (de len z) ps).map fun cells=>(.slice (some ⟨2*h.n,0,none⟩) len (2*len+1),h.new (.cells cells n none)):=by
 unfold rQ at hT;split at hT
 case h_2=>cases hT
 rename_i e hu;split at hT
 case h_2=>cases hT
 rename_i zz a1 a2 a3;simp only[aX,bT] at hT;split at hT
 case isFalse=>cases hT
 rename_i hz;cases hT;have e3:(Nat.ble (len*n) sr && z.length == n)=true:=by simp[ch,hz,sr];exact hl
 simp only[buildSlice,hu,a1,a3,e3,cg];cases eK (fun i=>some (i*n,n)) (de len z) ps<;>rfl
def Pm (place:Nat→Option (Nat×Nat)) (cs:List QQ):eK place cs []=some cs:=rfl
def Ma (place:Nat→Option (Nat×Nat)) (cs:List QQ) (i:Nat) (v:QQ) (l:List (Nat×QQ)) :eK place cs ((i,v) :: l)=(place i).bind fun p=>if v.cells.toList.length=p.2∧p.1+p.2≤cs.length then eK place (IH.bf cs p.1 v.cells.toList) l else none:=by
 simp only[eK];cases place i with
 | none=>rfl
 | some p =>
  simp only[kD,aX,fK,bT,ch];simp
theorem Ff (z:List QQ):de 0 z = []:=rfl
theorem zR (n:Nat) (z:List QQ):de (n+1) z=z ++ de n z:=rfl
theorem IQ (n:Nat) (v:QQ):de n [v]=List.replicate n v:=by
 induction n with
 | zero=>rfl
 | succ n ih=>rw[zR,ih,List.replicate_succ];rfl
def gu (hz:bC P t=some z) (ha:dZ P t=true) (ps:List (Nat×QQ)):iP P t ps=(eK (placeOf P t) z ps).map fun cs=>.agg cs.toArray:=by simp[iP,hz,ha]
variable {fr:Fr}
def jQ {fn:FuncId} {nt:Nat} {rd:Option Nat} {a c:Code} {K:Fr→IH→Prop} {Q:dL→Fr→IH→Prop} {b:Bool} (R:Fr→IH→Prop)(h1:b=true→Do (wpC P fn nt rd a fr h) (rL (fun fr h=>Pst (R fr h) nx) Q) nx) (h2:b=false→Do (wpC P fn nt rd c fr h) (rL (fun fr h=>Pst (R fr h) nx) Q) nx) (k : ∀fr h,R fr h→K fr h) :Bq b (Do (wpC P fn nt rd a fr h) (rL K Q) nx,Do (wpC P fn nt rd c fr h) (rL K Q) nx) nx :=
 aG (fun hb=>cut R (h1 hb) k) fun hb=>cut R (h2 hb) k
variable {h':IH}
def qK {o:Op} {x y:IH} (h1:iop P fr o h=some (v,x)) (h2:iop P fr o h'=some (v,y)):jS P fr o h h'=true:=by simp[jS,h1,h2,JD]
def aO {a:QY} {av:QQ} (ha:opd fr a=some av) (h1:load P h t av=some v) (h2:load P h' t av=some v):jS P fr (.load t a) h h'=true :=
 qK (by simp[iop,ha,h1];exact⟨rfl,rfl⟩) (by simp[iop,ha,h2];rfl)
theorem fk (P:QX) {α β:Type} (f:α→Sem β) : ∀s:Sem α,aI P (s.bind f)=(aI P s).bind fun a=>aI P (f a)
 | .pure a=>rfl
 | .program k=>fk P f (k P)
 | .load _ _ _=>rfl
 | .store _ _ _ _=>rfl
 | .new _ _=>rfl
 | .shape _ _=>rfl
 | .freeze _ _ _=>rfl
 | .frozen _ _=>rfl
 | .getObj _ _=>rfl
 | .setObj _ _ _=>rfl
 | .choose _ _=>rfl
 | .sys _ _=>rfl
 | .mark _ _=>rfl
 | .halt _=>rfl
theorem DF (hT:P.underlying t=some .bool) (a b:Bool):aI P (Op.equal t (.bool a) (.bool b))=some (a == b):=by show aI P (Sem.bind (underlying t) _)=_;rw[mg hT];rfl
def DX (hT:P.underlying t=some .bool) (ox oy:QY) (a b:Bool):binop P .eql t ox oy (.bool a) (.bool b)=some (.bool (a == b)):=by refine gf P t ox oy rfl rfl rfl ?_;show aI P (Sem.bind (Op.equal t (.bool a) (.bool b)) fun r=>Sem.pure (QQ.bool r))=_;rw[fk,DF hT];rfl
def DW (hT:P.underlying t=some .bool) (ox oy:QY) (a b:Bool):binop P .neq t ox oy (.bool a) (.bool b)=some (.bool (!(a == b))):=by refine gf P t ox oy rfl rfl rfl ?_;show aI P (Sem.bind (Op.equal t (.bool a) (.bool b)) fun r=>Sem.pure (QQ.bool (!r)))=_;rw[fk,DF hT];rfl
theorem ML (P:QX) (t:TypeId) (ox oy:QY) {j:IntKind} {a:Nat} (h:a*2 ^ b<18446744073709551616) (hb:b≤64):binop P .shl t ox oy (.int .u64 (a:Int)) (.int j (b:Int))=some (.int .u64 ((a*2 ^ b:Nat):Int)):=by rw[vU P t ox oy aa];show some (QQ.int .u64 (IntKind.u64.wrap ((a:Int)*2 ^ min b 64)))=_;rw[nI hb,show(a:Int)*2 ^ b=((a*2 ^ b:Nat):Int) from by simp,gv h]
def zb {a b:Int} (h:a<b):decide (a<b)=true:=by simpa using h
def zd {a b:Int} (h : ¬a<b):decide (a<b)=false:=by simpa using h
def Sw {a b:Int} (h:a≤b):decide (a≤b)=true:=by simpa using h
def Sx {a b:Int} (h : ¬a≤b):decide (a≤b)=false:=by simpa using h
def PM {a b:Int} (h:a=b):(a == b)=true:=by simpa using h
def PN {a b:Int} (h : ¬a=b):(a == b)=false:=by simpa using h
def PJ {a b:Int} (h : ¬a=b):(a != b)=true:=by simpa using h
def PK {a b:Int} (h:a=b):(a != b)=false:=by simpa using h
def PL (b:Bool):(b == true)=b:=by cases b<;>rfl
def Mo (b:Bool):(b == false) = !b:=by cases b<;>rfl
def OZ:(!true)=false:=rfl
def Lr:(!false)=true:=rfl
def Rd (b:Bool):(!(!b))=b:=by cases b<;>rfl
def Sl {α:Type} (a:α):(a=a)=True:=ab
def wpT:=aB @Pm (aB @Ma (aB @KM (aB @It (aB @AJ (aB @Ff (aB @zR (aB @WC (aB @Yr (aB @ZY (aB @Zaw (aB @U3 (aB @JP (aB @Pz (aB @U1 (aB @SP (aB @U2 (aB @JO (aB @Mg (aB @Th (aB @PW (aB @Rs (aB @O5 (aB @Sl (aB @zb (aB @zd (aB @Sw (aB @Sx (aB @PM (aB @PN (aB @PJ (aB @PK (aB @PL (aB @Mo (aB @OZ (aB @Lr (aB @Rd (aB @true_and (@and_true))))))))))))))))))))))))))))))))))))))
end
section
section
variable {P:Program}
variable {α:Type}
theorem cU {β:Type} {s:Sem α} {f:α→Sem β} {a:α} (h:aI P s=some a):aI P (s >>= f)=aI P (f a):=by show aI P (s.bind f)=_;rw[fk,h];rfl
theorem vB (a:α):aI P (pure a:Sem α)=some a:=rfl
variable {t:TypeId}
theorem fH {d:TypeDesc} (h:P.underlying t=some d):aI P (underlying t)=some d:=by have e:aI P (underlying t)=aI P ((match P.underlying t with|some d=>(pure d:Sem TypeDesc)|none=>stuck "no such type")):=rfl;rw[e,h];rfl
variable {e:TypeId}{n:Nat}
theorem Fh (h:bK P e=some n):aI P (sizeOf e)=some n:=by simp only[bK,bI] at h;obtain⟨i,hi,rfl⟩:=h;have e2:aI P (sizeOf e)=aI P ((match P.info? e with|some i=>(pure i:Sem TypeInfo)|none=>stuck "no such type").bind fun i=>pure i.size):=rfl;rw[e2,hi];rfl
variable {k:IntKind}
theorem MV (he:P.underlying e=some (.int k)) {cs:Array QQ} {off:Nat} {v:QQ} (hv:cs[off]?=some v):aI P (part e cs off)=some v:=by
 unfold part;have h1:aI P (isAgg e)=some false:=by unfold isAgg;rw[cU (fH he)];rfl
 rw[cU h1];simp only[fJ,cE,hv];rfl
theorem yF {j:IntKind} (he:P.underlying e=some (.int j)) (d:Nat) (a b:Int):aI P (Op.equalIn (d+1) e (.int k a) (.int k b))=some (a == b):=by unfold Op.equalIn;rw[cU (fH he)];simp only[cq];rfl
def JC (xs ys:List Int) (is:List Nat):Bool:=is.all fun i=>xs[i]? == ys[i]?
theorem QT {xs ys:List Int} (body:Nat→Option Bool×Unit→Sem (ForInStep (Option Bool×Unit))) (g:Option Bool×Unit→Sem Bool)(hb : ∀i,i<n → ∀r,aI P (body i r)=some (if (xs[i]? == ys[i]?)=true then .yield (none,()) else .done (some false,()))) : ∀is:List Nat,(∀i∈is,i<n) → aI P (forIn is ((none,()):Option Bool×Unit) body >>= g)=aI P (g (if JC xs ys is=true then (none,()) else (some false,()))):=by
 have assoc : ∀(s:Sem (ForInStep (Option Bool×Unit))) (g1:ForInStep (Option Bool×Unit)→Sem (Option Bool×Unit)) (f2:Option Bool×Unit→Sem Bool),aI P ((s >>= g1) >>= f2)=aI P (s >>= fun x=>g1 x >>= f2):=fun s g1 f2=>by
  show aI P ((s.bind g1).bind f2)=aI P (s.bind fun x=>(g1 x).bind f2);rw[fk,fk,fk];cases aI P s with
  | none=>rfl
  | some a=>simp only[kD];rw[fk]
 intro is
 induction is with
 | nil=>intro _;rfl
 | cons i is ih =>
  intro hi;have h1:=hb i (hi i ab) (none,());rw[List.forIn_cons,assoc,cU h1];have hz:JC xs ys (i :: is)=((xs[i]? == ys[i]?) && JC xs ys is):=rfl;rw[hz];cases hc:(xs[i]? == ys[i]?) with
  | true =>
   rw[Bool.true_and,←ih fun j hj=>hi j (by simp[hj])];rfl
  | false =>
   rw[Cm];rfl
theorem tu (hT:P.underlying t=some (.array n e)) (he:P.underlying e=some (.int k)) (hs:bK P e=some 1) (d:Nat) (xs ys:List Int) (hx:xs.length=n) (hy:ys.length=n) :aI P (Op.equalIn (d+2) t (.agg (xs.map (.int k)).toArray) (.agg (ys.map (.int k)).toArray))=some (decide (xs=ys)):=by
 unfold Op.equalIn;rw[cU (fH hT)];simp only;rw[cU (Fh hs)]
 simp only[Std.Legacy.Range.forIn_eq_forIn_range',Std.Legacy.Range.size,Nat.sub_zero,Nat.add_one_sub_one,Nat.div_one]
 rw[QT (n:=n) (xs:=xs) (ys:=ys) _ _ (fun i hin r=>?_) (List.range' 0 n) (fun i hi=>?_)]
 ·have hz:JC xs ys (List.range' 0 n)=decide (xs=ys):=by
   rw[Bool.eq_iff_iff];simp only[JC,ji,List.mem_range'_1,bT,aS];constructor
   ·intro h;apply iO;intro i;by_cases hi:i<n
    ·exact h i ⟨dQ _,aa⟩
    ·rw[cy aa,cy aa]
   ·rintro rfl i _;rfl
  rw[hz];by_cases h:xs=ys;·simp[h];rfl
  ·simp[h];rfl
 ·have hxi:(xs.map (QQ.int k)).toArray[i*1]?=some (.int k (xs[i]' aa)):=by simp[hx,hin]
  have hyi:(ys.map (QQ.int k)).toArray[i*1]?=some (.int k (ys[i]' aa)):=by simp[hy,hin]
  rw[cU (MV he hxi),cU (MV he hyi),cU (yF he d _ _)];rw[aK (show i<xs.length by omega),aK (show i<ys.length by omega)];rw[show(some (xs[i]' aa) == some (ys[i]' aa))=(xs[i]' aa == ys[i]' aa) from rfl];cases(xs[i]' aa == ys[i]' aa)<;>rfl
 ·rw[List.mem_range'_1] at hi;omega
theorem wT (hT:P.underlying t=some (.array n e)) (he:P.underlying e=some (.int k)) (hs:bK P e=some 1) (hg:P.eqGuardType P.depth t=false) (ox oy:Operand) (xs ys:List Int) (hx:xs.length=n) (hy:ys.length=n) :binop P .eql t ox oy (.agg (xs.map (.int k)).toArray) (.agg (ys.map (.int k)).toArray)=some (.bool (decide (xs=ys))):=by
 have hp : ∀l:List Int,plain (.agg (l.map (QQ.int k)).toArray)=true:=by intro l;simp[plain,dN]
 refine gf P t ox oy (hp _) (hp _) rfl ?_;have h1:aI P (eqGuard .eql t ox oy (.agg (xs.map (.int k)).toArray) (.agg (ys.map (.int k)).toArray))=some ():=by show aI P (if (!P.eqGuardType P.depth t)=true then _ else _)=_;rw[hg];rfl
 rw[cU h1];show aI P (Op.equal t _ _ >>= fun r=>pure (QQ.bool r))=_;have h2:aI P (Op.equal t (.agg (xs.map (.int k)).toArray) (.agg (ys.map (.int k)).toArray))=some (decide (xs=ys)):=tu hT he hs 9998 xs ys hx hy;rw[cU h2];rfl
theorem Ez (hT:P.underlying t=some (.array n e)) (he:P.underlying e=some (.int k)) (hs:bK P e=some 1) (hg:P.eqGuardType P.depth t=false) (ox oy:Operand) (xs ys:List Int) (hx:xs.length=n) (hy:ys.length=n) :binop P .neq t ox oy (.agg (xs.map (.int k)).toArray) (.agg (ys.map (.int k)).toArray)=some (.bool (!decide (xs=ys))):=by
 have hp : ∀l:List Int,plain (.agg (l.map (QQ.int k)).toArray)=true:=by intro l;simp[plain,dN]
 refine gf P t ox oy (hp _) (hp _) rfl ?_;have h1:aI P (eqGuard .neq t ox oy (.agg (xs.map (.int k)).toArray) (.agg (ys.map (.int k)).toArray))=some ():=by show aI P (if (!P.eqGuardType P.depth t)=true then _ else _)=_;rw[hg];rfl
 rw[cU h1];show aI P (Op.equal t _ _ >>= fun r=>pure (QQ.bool (!r)))=_;have h2:aI P (Op.equal t (.agg (xs.map (.int k)).toArray) (.agg (ys.map (.int k)).toArray))=some (decide (xs=ys)):=tu hT he hs 9998 xs ys hx hy;rw[cU h2];rfl
end
end
section
def mH (h:IH) (sz:Nat) (v:QQ) (n:Nat) (cs:List QQ):Prop :=
 0<sz∧cs.length=n*sz∧((v=.slice none 0 0∧n=0) ∨ ∃b o k,v=.slice (some ⟨b,o,none⟩) n k∧(n=0 ∨ ∃row,h.row b=some row∧(row.drop o).take (n*sz)=cs∧o+n*sz≤row.length))
variable {h:IH}{cs:List QQ}{n:Nat}{v:QQ}{sz:Nat}
def df.now (s:df h sz v n cs):mH h sz v n cs:=by
 obtain⟨hz,hl,s|⟨b,o,k,rfl,s⟩⟩:=s;·exact⟨hz,hl,.inl s⟩
 ·refine⟨hz,hl,.inr ⟨b,o,k,rfl,?_⟩⟩;rcases s with⟨h1,_⟩|⟨_,_,row,_,h1,h2,h3⟩
  ·exact .inl h1
  ·exact .inr ⟨row,h1,h2,h3⟩
def mH.form (s:mH h sz v n cs) : ∃a k,v=.slice a n k:=by
 obtain⟨hz,hl,⟨rfl,rfl⟩|⟨b,o,k,rfl,s⟩⟩:=s;·exact⟨_,_,rfl⟩
 ·exact⟨_,_,rfl⟩
variable {P:Program}{t:TypeId}
theorem mH.len (s:mH h sz v n cs) (hT:fm P (some t)=true) (h':IH):tE P h' t v=some (.int .i64 n):=by obtain⟨a,k,rfl⟩:=s.form;exact xM hT _ _ _ _
def mH.idx (s:mH h sz v n cs) (hT:iK P t=some sz) {k:IntKind} {j:Nat} (hj:j<n):indexAddr P t v (.int k j)=some (bq v (j*sz)):=by
 obtain⟨hz,hl,⟨rfl,rfl⟩|⟨b,o,k,rfl,s⟩⟩:=s;·omega
 ·rw[lY,hT];simp[bq,vM hj]
variable {c:Nat}
def mH.ld (s:mH h sz v n cs) (hc:c<cs.length) (hT:cu P t=some false):load P h t (bq v c)=cs[c]?:=by
 obtain⟨hz,hl,⟨rfl,rfl⟩|⟨b,o,k,rfl,s'⟩⟩:=s;·simp at hl;simp[hl] at hc
 ·obtain rfl|⟨row,h1,h2,h3⟩:=s'
  ·simp at hl;simp[hl] at hc
  ·rw[bq,fl hT,Rv h1,←h2,gR];rw[aq aa,kh]
variable {e:TypeId}
def EW (hu:P.underlying t=some (.array n e)) (hs:bK P e=some sz) (hn:0<n) (h:IH) (b o:Nat):dE P h t (ptr b o) none none none=some (.slice (some ⟨b,o,none⟩) n (2*n+1)):=by have h1:(2*n+1) / 2=n:=aa;have h2:(2*n+1 == 0)=false:=ab;have h3:(0 == n)=false:=aT;have h4:((2*n+1) % 2 == 1)=true:=ab;simp only[dE,hu,hs,asAddr,ptr,fN,jD,RN,Jf,h1,h2,h3,h4,cg,fU,Bool.true_or];simp
variable {k o:Nat}
def Ve {b:Nat} {row:List QQ} (hr:h.row b=some row) (hz:0<sz) (hl:cs.length=n*sz) (h1:(row.drop o).take (n*sz)=cs) (h2:o+n*sz≤row.length):mH h sz (.slice (some ⟨b,o,none⟩) n k) n cs :=
 ⟨hz,hl,.inr ⟨b,o,k,rfl,.inr ⟨row,hr,h1,h2⟩⟩⟩
def I4 (hu:P.underlying t=some (.slice e)) (ox oy:Operand) (b o:Nat) (n k:Nat):binop P .eql t ox oy (.slice (some ⟨b,o,none⟩) n k) (.slice none 0 0)=some (.bool false):=by have h1:plain (.slice (some ⟨b,o,none⟩) n k)=false:=rfl;simp only[binop,h1,Cm,fU,yK,hu,xK,jx]
variable {m:Nat}
def vf {bytes:Nat} (hT:oR P t=some (sz,bytes)) (h:IH) {x:QQ} {new:List QQ} (sx:mH h sz x m new) (hm:0<m) (hc:new.all bB=true) (hsz:m*(bytes+1)≤1099511627776) (b o:Nat) :
  append P h t (.slice (some ⟨b,o,none⟩) 0 1) x=some (.slice (some ⟨2*h.n,0,none⟩) m (2*m),h.new (.cells new sz none)):=by
 unfold oR at hT;split at hT
 case h_2=>cases hT
 rename_i e hu;split at hT
 case h_2=>cases hT
 rename_i zs h1 h2 h3;simp only[aX] at hT;split at hT
 case isTrue=>cases hT
 rename_i LU;cases hT;have rW:(sz == 0 || (!(Nat.ble bytes 65536) || !(zs.length == sz)))=false:=by simpa using LU
 obtain⟨hz,hl,⟨rfl,rfl⟩|⟨b2,o2,k2,rfl,rfl|⟨row,a1,a2,a3⟩⟩⟩:=sx;·omega
 ·omega
 have hms : ¬m*sz=0:=by have:0<m*sz:=nF hm hz;omega
 have Dv:(m == 0)=false:=aT
 have oc:fe h sz m (.slice (some ⟨b2,o2,none⟩) m k2)=some new:=by
  simp only[fe,aX,ch,aA,cq,bT,ah hms]
  rw[AP a1,aq a3,a2]
 have Ag:Nat.ble (m*(bytes+1)) bZ=true:=by rw[ch];exact hsz
 have tG:Nat.ble m (1 / 2)=false:=by
  rw[sU];intro hh;rw[ch] at hh;omega
 have uc:(1 % 2 == 1)=true:=rfl;have UE:fe h sz 0 (.slice (some ⟨b,o,none⟩) 0 1)=some []:=by simp[fe];rfl
 simp only[Id.append,hu,h1,h2,h3,lenOf,Dv,rW,oc,hc,Ag,tG,uc,UE,cg,fU,oW,kG,fy]
def copy_eq (hu:P.underlying t=some (.slice e)) (hS:bK P e=some sz) {dn:Nat} {e2:Nat} (hg:h.ext.get k=some (.cells cs e2 none)) {s:QQ} {sn:Nat} {ss:List QQ} (hs:mH h sz s sn ss) (hc:ss.all bB=true)(v9:0<min sn dn) (hl:o+min sn dn*sz≤cs.length) (ts:Array TypeId) (ht:ts[0]?=some t) :builtin P h .copy ts [.slice (some ⟨2*k,o,none⟩) dn c,s]=some (.int .i64 ((min sn dn:Nat):Int),h.put k (.cells (IH.bf cs o (ss.take (min sn dn*sz))) e2 none)):=by
 obtain⟨hz,hln,⟨rfl,rfl⟩|⟨b2,o2,k2,rfl,rfl|⟨row,a1,a2,a3⟩⟩⟩:=hs;·simp at v9
 ·simp at v9
 have hm:Nat.min sn dn=min sn dn:=rfl;generalize hmm:min sn dn=m at *;have hmn:m≤sn:=aa;have hms : ¬m*sz=0:=by have:0<m*sz:=nF v9 hz;omega
 have hmle:m*sz≤sn*sz:=dU _ hmn
 have hrd:h.rd b2 o2 (m*sz)=some (ss.take (m*sz)):=by
  have hle:o2+m*sz≤row.length:=aa
  rw[AP a1,←a2,zB,nI hmle]
  exact aq hle
 have oc:fe h sz m (.slice (some ⟨b2,o2,none⟩) sn k2)=some (ss.take (m*sz)):=by
  have hb:Nat.ble m sn=true:=by rw[ch];exact hmn
  simp only[fe,hb,aX,bT,ah hms,hrd,cq]
 have hlen:(ss.take (m*sz)).length=m*sz:=by rw[gG];omega
 have hne:(ss.take (m*sz)).isEmpty=false:=by
  cases hx:ss.take (m*sz) with
  | nil=>rw[hx] at hlen;simp at hlen;omega
  | cons a b=>rfl
 have hc2:(ss.take (m*sz)).all bB=true:=by rw[ji] at hc ⊢;intro x hx;exact hc x (Cf hx)
 have h1:(2*k % 2 == 1)=false:=ab;have h2:2*k / 2=k:=aa
 have h3:Nat.ble (o+(ss.take (m*sz)).length) cs.length=true:=by rw[ch,hlen];exact hl
 simp only[builtin,ht,xV,hu,lenOf,hS,hm,oc,hne,hc2,IH.wr,h1,h2,hg,h3,cg,fU,oW,jx]
 rfl
def Od (hz:0<sz) (hl:cs.length=m*sz) (hm:0<m):Acc (h.new (.cells cs sz none)) h.n sz (.slice (some ⟨2*h.n,0,none⟩) m (2*m)) m cs :=
 ⟨hz,hl,.inr ⟨h.n,none,rfl,hm,aA _,ab,ar _ _ rfl,trivial⟩⟩
end
section
abbrev D6:=List (QQ×QQ)
noncomputable def asc:List (QQ×QQ)→QQ→Option QQ
 | [],_=>none
 | e :: l,k=>@ite _ (e.1=k) (Classical.propDecidable _) (some e.2) (asc l k)
noncomputable def place:List (QQ×QQ)→QQ→Option Nat
 | [],_=>none
 | e :: l,k=>@ite _ (e.1=k) (Classical.propDecidable _) (some 0) ((place l k).map (· + 1))
noncomputable def upd (l:D6) (k v:QQ):D6:=match place l k with
 | none=>l ++ [(k,v)]
 | some i=>l.set i (k,v)
def C5 : ∀{l:D6} {k:QQ},place l k=none→asc l k=none
 | [],_,_=>rfl
 | e :: l,k,h=>by
  unfold place at h;unfold asc;split at h;·cases h
  ·rename_i hne
   rw[ah hne];exact C5 (by simpa using h)
def xG : ∀{l:D6} {k:QQ} {i:Nat},place l k=some i → ∃v,l[i]?=some (k,v)∧asc l k=some v
 | [],_,_,h=>by cases h
 | e :: l,k,i,h=>by
  unfold place at h;unfold asc;split at h;·rename_i he;cases h;exact⟨e.2,by rw[←he];rfl,aq he⟩
  ·rename_i hne
   rw[ah hne];simp only[bI] at h;obtain⟨j,hj,rfl⟩:=h;obtain⟨v,h1,h2⟩:=xG hj;exact⟨v,by simpa using h1,h2⟩
section
variable {P:QX}
def Vg (P:QX) (kt:QZ) (ok:QQ→Prop):Prop :=
 (∀k,ok k→plain k=true∧Instr.sameBits 10000 k k=true ∧ ∀b,aI P (Instr.checkKey b 10000 kt k)=some ()) ∧
  ∀(k:QQ) (l:D6),ok k→(∀e∈l,ok e.1)→(aI P (Instr.findKey kt k (gj l))).map (fun r=>r.map (·.1))=some (place l k)
variable {kt:QZ}{ok:QQ→Prop}{l:D6}{k:QQ}
def Jy (hK:Vg P kt ok) (hk:ok k) (hl : ∀e∈l,ok e.1):yY P kt k l=some (place l k):=by
 have h1:=hK.2 k l hk hl;unfold yY;rw[(hK.1 k hk).1,cg,(hK.1 k hk).2.2 l.isEmpty];cases hp:aI P (Instr.findKey kt k (gj l)) with
 | none=>rw[hp] at h1;cases h1
 | some r=>rw[hp] at h1;simpa using h1
def Yd (P:QX) (mt kt:QZ) (z:QQ):Prop:=∃et,P.underlying mt=some (.map kt et)∧tS P et=some z∧plain z=true
variable {z:QQ}{mt:QZ}{h:IH}{m:Nat}
theorem Ly (hM:Yd P mt kt z) (hK:Vg P kt ok) (hg:h.ext.get m=some (.map l)) (hk:ok k) (hl : ∀e∈l,ok e.1) :lookup P h mt (.map (some (2*m))) k false=some ((asc l k).getD z):=by
 obtain⟨et,hu,hz,hp⟩:=hM;have hm:entriesOf h (.map (some (2*m)))=some l:=by have h1:(2*m % 2 == 1)=false:=ab;have h2:2*m / 2=m:=aa;simp[entriesOf,mapOf,h2,hg]
 simp only[lookup,hu,hm,Jy hK hk hl];cases hp2:place l k with
 | none=>simp only[C5 hp2,hz,hp,cg,fU,Option.getD]
 | some i =>
  obtain⟨v,h1,h2⟩:=xG hp2;simp only[h1,h2,jx,fU,Option.getD]
theorem tC (hM:Yd P mt kt z) (hK:Vg P kt ok) (hg:h.ext.get m=some (.map l)) (hk:ok k) (hl : ∀e∈l,ok e.1) (v:QQ) :mapUpdate P h mt (.map (some (2*m))) k v=some (h.put m (.map (upd l k v))):=by
 obtain⟨et,hu,hz,hp⟩:=hM;have h1:(2*m % 2 == 1)=false:=ab;have h2:2*m / 2=m:=aa;have hm:mapOf h (2*m)=some l:=by simp[mapOf,h2,hg]
 simp only[mapUpdate,hu,hm,Jy hK hk hl,(hK.1 k hk).2.2 false,Ln,cg,h2];cases hp2:place l k with
 | none=>simp only[upd,hp2];rfl
 | some i =>
  obtain⟨w,h1,h2⟩:=xG hp2;simp only[h1,(hK.1 k hk).2.1,cg,upd,hp2];rfl
variable {kd:IntKind}
theorem AZ {kt:QZ} (a:Int) : ∀(l:D6) (i:Nat),(∀e∈l,∃b,e.1=.int kd b)→(Instr.findNow (.int kd) (.int kd a) (gj l) i).map (fun r=>r.map (·.1))=some ((place l (.int kd a)).map (· + i))
 | [],_,_=>rfl
 | e :: l,i,h=>by
  obtain⟨b,hb⟩:=h e ab;have e1:gj (e :: l) = { key:=e.1,val:=.nilIface,born:=0 } :: gj l:=rfl;rw[e1];unfold Instr.findNow;simp only[Instr.sameNow,hb,cq];unfold place;by_cases h1:a=b
  ·have h2:(a == b)=true:=by simpa using h1
   rw[h2];simp[h1,hb]
  ·have h2:(a == b)=false:=by simpa using h1
   rw[h2];have h3 : ¬e.1=.int kd a:=by rw[hb];intro hh;cases hh;exact h1 rfl
   rw[ah h3];simp only;rw[AZ (kt:=kt) a l (i+1) fun e he=>h e (by simp[he])];cases place l (.int kd a) with
   | none=>rfl
   | some j=>simp;omega
def Bu (hu:P.underlying kt=some (.int kd)) (b:Bool) (a:Int) (n:Nat):aI P (Instr.checkKey b (n+1) kt (.int kd a))=some ():=by unfold Instr.checkKey;rw[cU (fH hu)];rfl
def Jl (hu:P.underlying kt=some (.int kd)):Vg P kt fun k => ∃a,k=.int kd a:=by
 refine⟨?_,?_⟩;·rintro k ⟨a,rfl⟩;exact⟨rfl,by simp[Instr.sameBits],fun b=>Bu hu b a 9999⟩
 ·rintro k l ⟨a,rfl⟩ hl;have h1:=AZ (kt:=kt) (kd:=kd) a l 0 hl;unfold Instr.findKey;rw[cU (fH hu)];cases hf:Instr.findNow (.int kd) (.int kd a) (gj l) 0 with
  | none=>rw[hf] at h1;cases h1
  | some r =>
   rw[hf] at h1;simp only;rw[vB];simpa using h1
end
def oP (r:jq):jq:={ r with state:=.busy }
def dK {h:IH} {k:Nat} {r:jq} (hg:h.ext.get k=some (.loop r)):mj h k=some r:=by simp[mj,hg]
structure Mem (m:Nat) (h h':IH):Prop where
 n:h.n≤h'.n
 base:h'.base=h.base
 get : ∀k,k<h.n→k≠m→h'.ext.get k=h.ext.get k
 eP : ∀f,f<h.n→h'.eP.get f=h.eP.get f
end

section
variable {v:QQ}{K:QQ→IH→Prop}{P:Program}{h:IH}
def HS {f:FuncId} {fn:Func} {args:List QQ} (hf:P.funcs[f]?=some fn) (hb:fn.body=none) (hc:og fn.name args=some v) (k:K v h):WV P (.func (.func f) #[] #[]) args h K:=by refine⟨(v,h),⟨1,fun n hn=>?_⟩,k⟩;obtain⟨n,rfl⟩ : ∃m,n=m+1:=⟨n - 1,aa⟩;simp only[fP,xX,show(E0 P).Jp f=none from rfl,show(E0 P).P=P from rfl,hf,hb,Gx,kG,hc,jx]
variable {c:Nat}{n:String}
def PD (hn:n = "math/bits.Add64") (x y:Nat) (hc:c≤1):og n [.int .u64 (x:Int),.int .u64 (y:Int),.int .u64 (c:Int)]=some (.tuple #[.int .u64 ((x+y+c) % 18446744073709551616:Nat),.int .u64 ((x+y+c) / 18446744073709551616:Nat)]):=by
 have h1:Nat.ble c 1=true:=by rw[ch];exact hc
 subst hn;show(bif Nat.ble c 1 then _ else none)=_;rw[h1];rfl
def PB (hn:n = "math/bits.Sub64") (x y:Nat) (hc:c≤1):og n [.int .u64 (x:Int),.int .u64 (y:Int),.int .u64 (c:Int)]=some (.tuple #[.int .u64 ((x+18446744073709551616 - y - c) % 18446744073709551616:Nat),.int .u64 ((bif Nat.blt x (y+c) then 1 else 0:Nat))]):=by
 have h1:Nat.ble c 1=true:=by rw[ch];exact hc
 subst hn;show(bif Nat.ble c 1 then _ else none)=_;rw[h1];rfl
def WV.and {fv:QQ} {vs:List QQ} {L:QQ→IH→Prop} (a:WV P fv vs h K) (b:WV P fv vs h L):WV P fv vs h fun v h'=>K v h'∧L v h':=by obtain⟨x,⟨N,hN⟩,kx⟩:=a;obtain⟨y,⟨M,hM⟩,ky⟩:=b;have h1:=hN (max N M) (Cb _ _);have h2:=hM (max N M) (Ca _ _);rw[h1] at h2;cases h2;exact⟨x,⟨N,hN⟩,kx,ky⟩
def gW:QQ→Option Nat
 | .slice (some a) _ _=>some a.block
 | _=>none
variable {x:QQ}{mx hi lo:Option QQ}{r:QQ}
def CV {size:Nat} {b:Bool} (h:fN size b x lo hi mx=some r):gW r=gW x:=by
 unfold fN at h;split at h
 ·simp only[aX] at h;split at h
  ·split at h
   ·cases h;rfl
   ·cases h
  ·cases h
 ·split at h
  ·cases h
  ·rename_i b o n c _ _ _ _;simp only[aX] at h;repeat' split at h
   all_goals first|(cases h;rfl)|cases h
 ·cases h
variable {t:TypeId}
def AK {e:TypeId} (hu:P.underlying t=some (.slice e)) (hs:dE P h t x lo hi mx=some r):gW r=gW x:=by
 simp only[dE,hu] at hs;split at hs;·exact CV hs
 ·cases hs
def df.putAt {sz:Nat} {n:Nat} {cs:List QQ} (s:df h sz v n cs) {k:Nat} (hk:gW v≠some (2*k)) (o:cX):df (h.put k o) sz v n cs:=by
 obtain⟨hz,hl,s|⟨b,o2,c,rfl,s⟩⟩:=s;·exact⟨hz,hl,.inl s⟩
 ·refine⟨hz,hl,.inr ⟨b,o2,c,rfl,?_⟩⟩;rcases s with s|⟨h1,h2,row,h3,h4,h5,h6⟩
  ·exact .inl s
  ·have hb:b≠2*k:=fun e=>hk (by rw[e];rfl);refine .inr ⟨h1,h2,row,?_,?_,h5,h6⟩
   ·rcases h3 with h3|⟨a1,a2,f,a3⟩
    ·exact .inl h3
    ·exact .inr ⟨a1,a2,f,by rw[au _ _ aa];exact a3⟩
   ·rw[uF _ _ _ hb];exact h4
def yT {fn:FuncId} {nt:Nat} {rd:Option Nat} {id:Nat} {b:Code} {fr:Fr} {K:Fr→IH→Prop} {Q:dL→Fr→IH→Prop} (R:Fr→IH→Prop)(w:Do (Bl P fn nt rd b fr h) (qB id (rL (fun fr h=>Pst (R fr h) nx) Q)) nx) (k : ∀fr h,R fr h→K fr h):Do (Bl P fn nt rd b fr h) (qB id (rL K Q)) nx :=
 cut (a:=.block id (.loop b)) R w k
def Vz {ox oy:Operand} {j:IntKind} (a:Nat) {b:Int} (hb:0≤b∧b≤64):binop P .shl t ox oy (.int .u64 (a:Int)) (.int j b)=some (.int .u64 ((a*2 ^ b.toNat % 18446744073709551616:Nat):Int)):=by
 rw[vU P t ox oy hb.1];have e:min b.toNat IntKind.u64.bits=b.toNat:=by simp only[IntKind.bits];omega
 rw[e];have e2:IntKind.u64.wrap ((a:Int)*2 ^ b.toNat)=((a*2 ^ b.toNat % 18446744073709551616:Nat):Int):=by simp[IntKind.wrap,IntKind.bits,IntKind.signed]
 rw[e2]
end
section
def QB (k:Nat) (q:Rat):Prop:=q.num.natAbs≤2 ^ k∧q.den≤2 ^ k
variable {x:Rat}{a b:Nat}
def QB.mono (h:QB a x) (k:a≤b):QB b x :=
 ⟨bV h.1 (fA aa k),bV h.2 (fA aa k)⟩
variable {d n:Int}
def vH (hd:0<d):n / (Int.gcd n d:Int)=(Rat.divInt n d).num∧d / (Int.gcd n d:Int)=(Rat.divInt n d).den:=by
 constructor;·rw[Rat.num_divInt,Int.sign_eq_one_of_pos hd,Int.one_mul,Int.gcd_comm d n]
 ·rw[Rat.den_divInt,ah aa,Int.gcd_comm d n]
  have:(d.natAbs:Int)=d:=aa;rw[oV,this]
def BO (hd:d<0) : -(n / (Int.gcd n d:Int))=(Rat.divInt n d).num ∧ -(d / (Int.gcd n d:Int))=(Rat.divInt n d).den:=by
 constructor;·rw[Rat.num_divInt,Int.sign_eq_neg_one_of_neg hd,Int.gcd_comm d n,Int.neg_one_mul,Int.neg_ediv_of_dvd (Int.gcd_dvd_left ..)]
 ·rw[Rat.den_divInt,ah aa,Int.gcd_comm d n]
  have:(d.natAbs:Int) = -d:=aa;rw[oV,this,Int.neg_ediv_of_dvd (Int.gcd_dvd_right ..)]
def Dz (hd:d≠0):(Int.gcd n d:Int)≠0:=by intro h;have:Int.gcd n d=0:=aa;rw[Int.gcd_eq_zero_iff] at this;exact hd this.2
def Ro (hd:d≠0):d / (Int.gcd n d:Int)<0↔d<0:=by
 rcases Int.lt_or_gt_of_ne hd with h|h;·have:=(BO (n:=n) h).2;have:=(Rat.divInt n d).den_pos;omega
 ·have:=(vH (n:=n) h).2
  have:=(Rat.divInt n d).den_pos;omega
def JE (n:Int) (g:Nat):(n / (g:Int)).natAbs≤n.natAbs:=by
 rcases Int.le_total 0 n with h|h;·have h1:n / (g:Int)≤n:=Int.ediv_le_self _ h;have h2:0≤n / (g:Int):=Int.ediv_nonneg h aa;omega
 ·rcases im g with rfl|hg
  ·simp
  ·have h2:n / (g:Int)≤0:=by have:=Int.ediv_le_ediv (c:=(g:Int)) aa h;simpa using this
   have h3:n≤n / (g:Int):=by rw[Int.le_ediv_iff_mul_le aa];have:n*(g:Int)≤n*1:=Int.mul_le_mul_of_nonpos_left h aa;omega
   omega
variable {k:Nat}
def QB.divInt (hd:d≠0) (h1:n.natAbs≤2 ^ k) (h2:d.natAbs≤2 ^ k):QB k (Rat.divInt n d):=by
 have e1:=JE n (Int.gcd n d);have e2:=JE d (Int.gcd n d);rcases Int.lt_or_gt_of_ne hd with h|h;·obtain⟨a,b⟩:=BO (n:=n) h;exact⟨aa,aa⟩
 ·obtain⟨a,b⟩:=vH (n:=n) h
  exact⟨aa,aa⟩
theorem G4 (x y:Rat):x+y=Rat.divInt (x.num*y.den+y.num*x.den) ((x.den:Int)*y.den):=by rw[Rat.add_def',←Rat.divInt_ofNat];simp
theorem GZ (x y:Rat):x*y=Rat.divInt (x.num*y.num) ((x.den:Int)*y.den):=by rw[Rat.mul_def',←Rat.divInt_ofNat];simp
theorem G0 (x y:Rat):x / y=Rat.divInt (x.num*y.den) ((x.den:Int)*y.num):=by rw[Rat.div_def,Rat.inv_def,←Rat.divInt_mul_divInt,Rat.num_divInt_den]
def DK (x:Rat):(x.den:Int)≠0:=by have:=x.den_pos;omega
def Lo (h:x≠0):x.num≠0:=fun e=>h (Rat.num_eq_zero.1 e)
def FK (x y:Rat):(x.den:Int)*y.den≠0:=Int.mul_ne_zero (DK x) (DK y)
def dC {x y:Int} (hx:x.natAbs≤2 ^ a) (hy:y.natAbs≤2 ^ b):(x*y).natAbs≤2 ^ (a+b):=by rw[Int.natAbs_mul,dT];exact jg hx hy
def To {x y:Int} (hx:x.natAbs≤2 ^ a) (hy:y.natAbs≤2 ^ a):(x+y).natAbs≤2 ^ (a+1):=by have:(x+y).natAbs≤x.natAbs+y.natAbs:=Int.natAbs_add_le _ _;rw[eH];omega
def TH {x:Int} (hx:x.natAbs≤2 ^ a) (h:a≤b):x.natAbs≤2 ^ b:=bV hx (fA aa h)
def QB.ij (h:QB a x):(x.den:Int).natAbs≤2 ^ a:=by rw[jz];exact h.2
variable {y:Rat}
def QB.XZ (hx:QB a x) (hy:QB b y):(x.num*y.den+y.num*x.den).natAbs≤2 ^ (a+b+1) :=
 To (dC hx.1 hy.ij) (by rw[xf];exact dC hy.1 hx.ij)
def QB.add (hx:QB a x) (hy:QB b y):QB (a+b+1) (x+y):=by rw[G4];exact QB.divInt (FK x y) (hx.XZ hy) (TH (dC hx.ij hy.ij) aa)
def QB.mul (hx:QB a x) (hy:QB b y):QB (a+b) (x*y):=by rw[GZ];exact QB.divInt (FK x y) (dC hx.1 hy.1) (dC hx.ij hy.ij)
def QB.div (hx:QB a x) (hy:QB b y) (y0:y≠0):QB (a+b) (x / y):=by rw[G0];exact QB.divInt (Int.mul_ne_zero (DK x) (Lo y0)) (dC hx.1 hy.ij) (dC hx.ij hy.1)
theorem QB.neg (hx:QB a x):QB a (-x):=⟨by rw[Rat.neg_num,Int.natAbs_neg];exact hx.1,hx.2⟩
def QB.sub (hx:QB a x) (hy:QB b y):QB (a+b+1) (x - y):=by rw[Rat.sub_eq_add_neg];exact hx.add hy.neg
def QB.int (h:n.natAbs≤2 ^ k):QB k (n:Rat):=⟨h,gM aa⟩
variable {t:TypeId}{o:Nat}{hi:IH}{P:Program}{H0:IH}
def Dj (hb:b % 2=1∨b / 2<H0.n) (e:Ext H0 hi):load P hi t (ptr b o)=load P H0 t (ptr b o):=by
 have hr:hi.row b=H0.row b:=e.row aa;have hr' : ∀n,hi.rd b o n=H0.rd b o n:=fun n=>by simp only[IH.rd,hr]
 simp only[load,asAddr,ptr];cases cu P t with
 | none=>rfl
 | some c=>cases c<;>cases bK P t<;>simp only[hr']
def aP {fr:Fr} {a:Operand} {hj:IH} {v:QQ} (ha:opd fr a=some (ptr b o)) (hb:b % 2=1∨b / 2<H0.n) (ei:Ext H0 hi) (ej:Ext H0 hj) (hv:load P H0 t (ptr b o)=some v):jS P fr (.load t a) hi hj=true :=
 aO ha ((Dj hb ei).trans hv) ((Dj hb ej).trans hv)
variable {ops:List Oper}{tr:List (Fr×IH)}
def aU {e e':Nat×List Nat} {l:List (Nat×List Nat)} (h1:fM P ops tr [e]) (h2:fM P ops tr (e' :: l)):fM P ops tr (e :: e' :: l):=oj h1 h2
def bg {i p p':Nat} {l:List Nat} (h1:fM P ops tr [(i,[p])]) (h2:fM P ops tr [(i,p' :: l)]):fM P ops tr [(i,p :: p' :: l)]:=ye h1 h2
def jC (h:IH) (a b c:List QQ) : ∃H0,H0=((h.new (.cells a 0 none)).new (.cells b 0 none)).new (.cells c 0 none)∧H0.n=h.n+3∧Ext h H0∧H0.ext.get h.n=some (.cells a 0 none)∧H0.ext.get (h.n+1)=some (.cells b 0 none)∧H0.ext.get (h.n+1+1)=some (.cells c 0 none) :=
 ⟨_,rfl,rfl,(((Ext.refl h).new _).new _).new _,(aE _ _ bd).trans ((aE _ _ bd).trans (ar _ _ rfl)),(aE _ _ bd).trans (ar _ _ rfl),ar _ _ rfl⟩
def ko (h:IH) (a b:List QQ) : ∃H0,H0=(h.new (.cells a 0 none)).new (.cells b 0 none)∧H0.n=h.n+2∧Ext h H0∧H0.ext.get h.n=some (.cells a 0 none)∧H0.ext.get (h.n+1)=some (.cells b 0 none) :=
 ⟨_,rfl,rfl,((Ext.refl h).new _).new _,(aE _ _ bd).trans (ar _ _ rfl),ar _ _ rfl⟩
theorem ay {h:IH} {cs:List QQ} {e:Nat} {f:Option Nat} (hg:h.ext.get b=some (.cells cs e f)):h.row (2*b)=some cs:=by rw[mW];simp only[IH.cells,hg]
def Ext.kept {a b:IH} (e:Ext a b) {o:cX} (hk:k<a.n) (g:a.ext.get k=some o):b.ext.get k=some o:=(e.get k hk).trans g
def tkA (a s b t:QQ):List.take 2 (List.drop 0 [a,s,b,t]) = [a,s]:=rfl
def tkB (a s b t:QQ):List.take 2 (List.drop 2 [a,s,b,t]) = [b,t]:=rfl
def Ed (a s:QQ):List.take 2 (List.drop 0 [a,s]) = [a,s]:=rfl
def kA (a s b t:QQ):List.take 4 (List.drop 0 [a,s,b,t]) = [a,s,b,t]:=rfl
end
section
def pd (R:IH→QQ→Rat→Prop) (h:IH):List Rat→List QQ→Prop
 | [],cs=>cs = []
 | q :: l,cs => ∃a s b t cs',cs=a :: s :: b :: t :: cs'∧R h (.agg #[a,s,b,t]) q∧pd R h l cs'
def Kept (R:IH→QQ→Rat→Prop):Prop:=∀h h' v q,R h v q→bj h h'→R h' v q
variable {h:IH}{R:IH→QQ→Rat→Prop}{h':IH}
def pd.ai (k:Kept R) (e:bj h h') : ∀{l:List Rat} {cs:List QQ},pd R h l cs→pd R h' l cs
 | [],_,H=>H
 | _ :: _,_,⟨a,s,b,t,cs',h1,h2,h3⟩=>⟨a,s,b,t,cs',h1,k _ _ _ _ h2 e,pd.ai k e h3⟩
theorem pd.len : ∀{l:List Rat} {cs:List QQ},pd R h l cs→cs.length=l.length*4
 | [],_,H=>by cases H;rfl
 | _ :: l,_,⟨a,s,b,t,cs',h1,h2,h3⟩=>by have:=pd.len h3;subst h1;simp only[nL,this];omega
theorem pd.at : ∀{l:List Rat} {cs:List QQ} {i:Nat} {q:Rat},pd R h l cs→l[i]?=some q → ∃a s b t,(cs.drop (i*4)).take 4 = [a,s,b,t]∧R h (.agg #[a,s,b,t]) q
 | [],_,_,_,_,H=>by simp at H
 | x :: l,_,0,q,⟨a,s,b,t,cs',h1,h2,h3⟩,H=>by subst h1;simp at H;subst H;exact⟨a,s,b,t,rfl,h2⟩
 | x :: l,_,i+1,q,⟨a,s,b,t,cs',h1,h2,h3⟩,H=>by subst h1;simp at H;obtain⟨a',s',b',t',e,r⟩:=pd.at h3 H;refine⟨a',s',b',t',?_,r⟩;rw[show(i+1)*4=i*4+4 by omega];simpa using e
variable {q:Rat}
def pd.snoc {a s b t:QQ} (r:R h (.agg #[a,s,b,t]) q) : ∀{l:List Rat} {cs:List QQ},pd R h l cs→pd R h (l ++ [q]) (cs ++ [a,s,b,t])
 | [],_,H=>by cases H;exact⟨a,s,b,t,[],rfl,r,rfl⟩
 | _ :: l,_,⟨a',s',b',t',cs',h1,h2,h3⟩=>by subst h1;exact⟨a',s',b',t',cs' ++ [a,s,b,t],rfl,h2,pd.snoc r h3⟩
def AD (R:IH→QQ→Rat→Prop) (h:IH) (v:QQ) (l:List Rat):Prop:=∃cs,df h 4 v l.length cs∧pd R h l cs∧l.length≤100000
variable {l:List Rat}{v:QQ}
def AD.ai (k:Kept R) (s:AD R h v l) (e:bj h h'):AD R h' v l:=let ⟨cs,a,b,c⟩:=s;⟨cs,a.ai e,b.ai k e,c⟩
variable {i:Nat}
def AD.ld (k:Kept R) (s:AD R h v l) (e:bj h h') (hi:l[i]?=some q) {P:Program} {t:TypeId} (hT:cu P t=some true) (hS:bK P t=some 4) :∃a s b u,load P h' t (bq v (i*4))=some (.agg #[a,s,b,u])∧R h' (.agg #[a,s,b,u]) q:=by obtain⟨cs,hs,hc,hl⟩:=s;have hil:=(bU.1 hi).1;have hcl:=hc.len;obtain⟨a,s,b,u,e1,r⟩:=hc.at hi;exact⟨a,s,b,u,by rw[hs.Dn e aa aa hT hS,e1],k _ _ _ _ r e⟩
def jV (l:List Rat):Rat:=l.foldl (· + ·) 0
theorem pR (l:List Rat) (q:Rat):jV (l ++ [q])=jV l+q:=by simp[jV]
theorem jA {α:Type} {l:List α} {q:α} (h:l[i]?=some q):l.take (i+1)=l.take i ++ [q]:=by rw[List.take_add_one,h];rfl
def QB.zero:QB 0 (0:Rat):=⟨ab,ab⟩
theorem QB.jV {k:Nat} (h : ∀q∈l,QB k q) : ∀i,i≤l.length→QB (i*(k+1)) (jV (l.take i))
 | 0,_=>by rw[kf];exact QB.zero
 | i+1,hi=>by obtain⟨q,hq⟩ : ∃q,l[i]?=some q:=⟨_,aK aa⟩;rw[jA hq,pR];exact((QB.jV h i aa).add (h q (bh hq))).mono (by rw[dA];omega)
end
end Go.Id
