/-
  Weakest preconditions over the ideal machine, seventh part: one step after the other
-/
import Derived.Test.YtnnmjocmapilaaaGreatOutlierOddsAh
import Derived.OpenShut
import Derived.ChangeStays
import Derived.ChangeSame
import Derived.Deep.Slices
import Derived.Test.YtnnmjocmapilaaaGreatRows
import Derived.ProofKit
set_option linter.unusedVariables false
set_option linter.unusedSimpArgs false
set_option linter.defProp false
set_option linter.deprecated false
namespace Go.Id
open Go
open Go renaming Operand→QY,Program→QX,TypeId→QZ,Value→QQ
open Nat renaming reduceAdd→zA,reduceEqDiff→zE,reduceLeDiff→zL
open Nat (reduceMul)
set_option maxHeartbeats 16000000
def Nx {α:Type} (_:α):Type:=Unit
def nx {α:Type} {a:α}:Nx a:=()
def Do {κ:Type} (m:κ→Prop) (K:κ) (_:Nx K):Prop:=m K
def Bq (b:Bool) (pq:Prop×Prop) (_:Nx pq):Prop:=Br b pq.1 pq.2
def ZbY {α:Type} (v:α) (K:α→Prop) (u:Nx K):Do (Ex (some v)) K u=K v:=KL v K
def HM {α β:Type} (o:Option α) (f:α→β) (K:β→Prop) (u:Nx K):Do (Ex (o.map f)) K u=Do (Ex o) (fun v=>K (f v)) nx:=Zes o f K
def Fa {α β:Type} (o:Option α) (f:α→Option β) (K:β→Prop) (u:Nx K):Do (Ex (o.bind f)) K u=Do (Ex o) (fun v=>Do (Ex (f v)) K nx) nx:=Za4 o f K
def Nb {α:Type} (c:Prop) [Decidable c] (v:Option α) (hc:c) (K:α→Prop) (u:Nx K):Do (Ex (if c then v else none)) K u=Do (Ex v) K nx:=by rw[ah hc];rfl
def KA (p q:Prop) (u:Nx (p,q)):Bq true (p,q) u=p:=Za7 p q
def Fz (p q:Prop) (u:Nx (p,q)):Bq false (p,q) u=q:=YK p q
def az {b:Bool} {p q:Prop} (h1:b=true→p) (h2:b=false→q):Bq b (p,q) nx:=Br.intro h1 h2
def Mz:QQ→Option QQ
 | .pointer (some a)=>some (.pointer (some a))
 | .func (.func f) xs ys=>some (.func (.func f) xs ys)
 | .func (.yield f) xs ys=>some (.func (.yield f) xs ys)
 | .map r=>some (.map r)
 | _=>none
def Mx (b o:Nat):Mz (ptr b o)=some (ptr b o):=rfl
def Ha (f:FuncId) (xs ys:Array QQ):Mz (.func (.func f) xs ys)=some (.func (.func f) xs ys):=rfl
def My (r:Option Nat):Mz (.map r)=some (.map r):=rfl
section
variable (P:QX) (fr:Fr) (h:IH) (K:QQ→IH→Prop) (u:Nx K)
def XL (x:QY):Do (wpOp P (.move x) fr h) K u=Do (Ex (opd fr x)) (fun v=>K v h) nx:=rfl
def Ni (x:QY):Do (wpOp P (.assign x) fr h) K u=Do (Ex (opd fr x)) (fun v=>K v h) nx:=rfl
def R7 (t:QZ):Do (wpOp P (.alloc t) fr h) K u=Do (Ex (aT P t)) (fun z=>K (ptr (2*h.n) 0) (h.new (.cells z 0 none))) nx:=rfl
def Zb2 (t:QZ) (x:QY):Do (wpOp P (.box t x) fr h) K u=Do (Ex (opd fr x)) (fun v=>K (ptr (2*h.n) 0) (h.new (.cells v.cells.toList 0 none))) nx:=rfl
def XN (t:QZ) (a:QY):Do (wpOp P (.load t a) fr h) K u=Do (Ex (opd fr a)) (fun a=>Do (Ex (load P h t a)) (fun v=>K v h) nx) nx:=rfl
def RU (t:QZ) (a x:QY):Do (wpOp P (.store t a x) fr h) K u=Do (Ex (opd fr a)) (fun a=>Do (Ex (opd fr x)) (fun x=>Do (Ex (store P h t a x)) (fun h=>K undef h) nx) nx) nx:=rfl
def R6 (op:BinOp) (t:QZ) (x y:QY) (s:QZ):Do (wpOp P (.binOp op t x y s) fr h) K u=Do (Ex (opd fr x)) (fun a=>Do (Ex (opd fr y)) (fun b=>Do (Ex (binop P op t x y a b)) (fun v=>K v h) nx) nx) nx:=rfl
def XK (c a b:Operand):Do (wpOp P (.pick c a b) fr h) K u=Do (Ex (opd fr c)) (fun c=>Do (Ex (opd fr a)) (fun a=>Do (Ex (opd fr b)) (fun b=>match c with
  | .bool c=>Bq c (K a h,K b h) nx
  | _=>False) nx) nx) nx:=by
 show wpOp P (.pick c a b) fr h K=_;rw[Sy];show _=Ex (opd fr c) _;congr 1;funext c;show _=Ex (opd fr a) _;congr 1;funext a;show _=Ex (opd fr b) _;congr 1;funext b;cases c<;>simp;rename_i c;cases c<;>simp[KA,Fz]
def HS (x:QY) (i:Nat):Do (wpOp P (.extract x i) fr h) K u=Do (Ex (opd fr x)) (fun x=>match x with
  | .tuple vs=>Do (Ex vs[i]?) (fun v=>K v h) nx
  | _=>False) nx:=rfl
def Fk (f:FuncId) (a b:Array QY):Do (wpOp P (.makeFunc (.func f) a b) fr h) K u=Do (Ex (jV fr a.toList)) (fun x=>Do (Ex (jV fr b.toList)) (fun y=>K (.func (.func f) x.toArray y.toArray) h) nx) nx:=rfl
def XT (f:QY) (args:Array QY) (ts:Array QZ):Do (wpOp P (.call ⟨.value f,args,ts⟩) fr h) K u=Do (Ex (opd fr f)) (fun fv=>Do (Ex (jV fr args.toList)) (fun vs=>Do (WV P fv vs h) K nx) nx) nx:=rfl
def HU (b:Builtin) (args:Array QY) (ts:Array QZ):Do (wpOp P (.call ⟨.builtin b,args,ts⟩) fr h) K u=Do (Ex (jV fr args.toList)) (fun vs=>Do (Ex (builtin P h b ts vs)) (fun r=>K r.1 r.2) nx) nx:=rfl
def B4 (t:TypeId) (x:Operand) (f:Nat):Do (wpOp P (.fieldAddr t x f) fr h) K u=Do (Ex (opd fr x)) (fun x=>Do (Ex (fieldAt P t f)) (fun off=>Do (Ex (asAddr x)) (fun a=>K (ptr a.1 (a.2+off)) h) nx) nx) nx:=by show wpOp P (.fieldAddr t x f) fr h K=_;rw[Dr];show _=Ex (opd fr x) _;congr 1;funext x;show _=Ex (fieldAt P t f) _;cases fieldAt P t f<;>cases asAddr x<;>simp[Do]
def B0 (t:QZ) (x i:QY):Do (wpOp P (.indexAddr t x i) fr h) K u=Do (Ex (opd fr x)) (fun x=>Do (Ex (opd fr i)) (fun i=>Do (Ex (indexAddr P t x i)) (fun v=>K v h) nx) nx) nx:=rfl
def XH (op:UnOp) (t:QZ) (x:QY):Do (wpOp P (.unOp op t x) fr h) K u=Do (Ex (opd fr x)) (fun v=>Do (Ex (bif plain v then dO P (Op.unary op v) else none)) (fun v=>K v h) nx) nx:=Sx P fr h K op t x
def HT (s d:QZ) (x:QY):Do (wpOp P (.convert s d x) fr h) K u=Do (Ex (opd fr x)) (fun v=>Do (Ex (qK P s d v)) (fun v=>K v h) nx) nx:=IP P fr h K s d x
def BZ (t:QZ) (l c:QY):Do (wpOp P (.makeSlice t l c) fr h) K u=Do (Ex (opd fr l)) (fun l=>Do (Ex (opd fr c)) (fun c=>Do (Ex (makeSlice P h t l c)) (fun r=>K r.1 r.2) nx) nx) nx:=Dq P fr h K t l c
def Ae (t:QZ) (n:Nat) (ps:Array (Nat×QY)):Do (wpOp P (.buildSlice t n ps) fr h) K u=Do (Ex (partsOf fr ps.toList)) (fun ps=>Do (Ex (buildSlice P h t n ps)) (fun r=>K r.1 r.2) nx) nx:=Ce P fr h K t n ps
def RV (t:QZ) (x:QY) (lo hi mx:Option QY):Do (wpOp P (.slice t x lo hi mx) fr h) K u=Do (Ex (opd fr x)) (fun x=>Do (Ex (fG fr lo)) (fun lo=>Do (Ex (fG fr hi)) (fun hi=>Do (Ex (fG fr mx)) (fun mx=>Do (Ex (dY P h t x lo hi mx)) (fun v=>K v h) nx) nx) nx) nx) nx:=N1 P fr h K t x lo hi mx
def R4 (t:QZ) (ps:Array (Nat×QY)):Do (wpOp P (.build t ps) fr h) K u=Do (Ex (partsOf fr ps.toList)) (fun ps=>Do (Ex (kJ P t ps)) (fun v=>K v h) nx) nx:=N4 P fr h K t ps
def R0 (t:QZ) (x:QY) (f:Nat):Do (wpOp P (.field t x f) fr h) K u=Do (Ex (opd fr x)) (fun x=>Do (Ex (yE P t f x)) (fun v=>K v h) nx) nx:=N3 P fr h K t x f
def Fj (x:Operand):Do (wpOp P (.nilCheck x) fr h) K u=Do (Ex (opd fr x)) (fun x=>Do (Ex (Mz x)) (fun v=>K v h) nx) nx:=by
 show wpOp P (.nilCheck x) fr h K=_;rw[FU];show _=Ex (opd fr x) _;congr 1;funext x;show _=Ex (Mz x) _;cases x with
 | pointer a=>cases a<;>simp[Mz]
 | func f xs ys=>cases f<;>simp[Mz]
 | _=>simp[Mz]
def Ng (t:QZ) (m k:QY) (ok:Bool):Do (wpOp P (.lookup t m k ok) fr h) K u=Do (Ex (opd fr m)) (fun m=>Do (Ex (opd fr k)) (fun k=>Do (Ex (lookup P h t m k ok)) (fun v=>K v h) nx) nx) nx:=KT P fr h K t m k ok
def BY (t:QZ) (m k v:QY):Do (wpOp P (.mapUpdate t m k v) fr h) K u=Do (Ex (opd fr m)) (fun m=>Do (Ex (opd fr k)) (fun k=>Do (Ex (opd fr v)) (fun v=>Do (Ex (mapUpdate P h t m k v)) (fun h=>K undef h) nx) nx) nx) nx:=ve P fr h K t m k v
def Nh (t:QZ) (m k v:QY):Do (wpOp P (.insert t m k v) fr h) K u=Do (Ex (opd fr m)) (fun m=>Do (Ex (opd fr k)) (fun k=>Do (Ex (opd fr v)) (fun v=>Do (Ex (mapUpdate P h t m k v)) (fun h=>K undef h) nx) nx) nx) nx:=KU P fr h K t m k v
def HR (t:QZ):Do (wpOp P (.makeMap t none) fr h) K u=K (.map (some (2*h.n))) (h.new (.map [])):=IN P fr h K t
def RY (t:QZ) (x i:QY):Do (wpOp P (.index t x i) fr h) K u=Do (Ex (opd fr x)) (fun x=>Do (Ex (opd fr i)) (fun i=>Do (Ex (vW P t x i)) (fun v=>K v h) nx) nx) nx:=N2 P fr h K t x i
end
section
variable (P:QX) (nt:Nat) (all:List Oper) (d:Option Tmp) (o:Op) (ty:QZ) (pos:String) (af:Array Edge) (l:List Oper) (fr:Fr) (h:IH)
def Zb0 (d:Nat) (v:QQ) (K:Fr→Prop) (u:Nx K) (hd:d<nt):Do (iI nt fr (some d) v) K u=K ((d,v) :: fr):=NY nt fr d v K hd
def Fi (v:QQ) (K:Fr→Prop) (u:Nx K):Do (iI nt fr none v) K u=K fr:=rfl
def Zb1 (K:Fr→IH→Prop) (u:Nx K):Do (wpOps P nt all [] fr h) K u=K fr h:=rfl
def XQ (K:Fr→IH→Prop) (u:Nx K):Do (wpOps P nt all (⟨d,o,ty,pos,af,none⟩ :: l) fr h) K u=Do (wpOp P o fr h) (fun v h=>Do (iI nt fr d v) (fun fr=>Do (wpOps P nt all l fr h) K nx) nx) nx:=rfl
def RZ (j:Nat) (want:Bool) (K:Fr→IH→Prop) (u:Nx K):Do (wpOps P nt all (⟨d,o,ty,pos,af,some (j,want)⟩ :: l) fr h) K u = Do (Ex ((all[j]?).bind (·.dst))) (fun g=>Do (Ex (aj fr g)) (fun b=>match b with
   | .bool b=>Bq (b == want) (Do (wpOp P o fr h) (fun v h=>Do (iI nt fr d v) (fun fr=>Do (wpOps P nt all l fr h) K nx) nx) nx,Do (iI nt fr d undef) (fun fr=>Do (wpOps P nt all l fr h) K nx) nx) nx
   | .tuple _=>Do (iI nt fr d undef) (fun fr=>Do (wpOps P nt all l fr h) K nx) nx
   | _=>False) nx) nx:=rfl
def XI (tr:List (Fr×IH)) (K:List (Fr×IH)→Prop) (u:Nx K):Do (eX P nt all [] fr h tr) K u=K (tr ++ [(fr,h)]):=rfl
def RT (tr:List (Fr×IH)) (K:List (Fr×IH)→Prop) (u:Nx K):Do (eX P nt all (⟨d,o,ty,pos,af,none⟩ :: l) fr h tr) K u=Do (wpOp P o fr h) (fun v h1=>Do (iI nt fr d v) (fun fr1=>Do (eX P nt all l fr1 h1 (tr ++ [(fr,h)])) K nx) nx) nx:=rfl
def Nd (j:Nat) (want:Bool) (tr:List (Fr×IH)) (K:List (Fr×IH)→Prop) (u:Nx K):Do (eX P nt all (⟨d,o,ty,pos,af,some (j,want)⟩ :: l) fr h tr) K u = Do (Ex ((all[j]?).bind (·.dst))) (fun g=>Do (Ex (aj fr g)) (fun b=>match b with
   | .bool b=>Bq (b == want) (Do (wpOp P o fr h) (fun v h1=>Do (iI nt fr d v) (fun fr1=>Do (eX P nt all l fr1 h1 (tr ++ [(fr,h)])) K nx) nx) nx,Do (iI nt fr d undef) (fun fr1=>Do (eX P nt all l fr1 h (tr ++ [(fr,h)])) K nx) nx) nx
   | .tuple _=>Do (iI nt fr d undef) (fun fr1=>Do (eX P nt all l fr1 h (tr ++ [(fr,h)])) K nx) nx
   | _=>False) nx) nx:=rfl
end
section
variable (P:QX) (fn:FuncId) (nt:Nat) (rd:Option Nat) (fr:Fr) (h:IH) (Q:cL→Fr→IH→Prop) (u:Nx Q)
def vy (K:Fr→IH→Prop) (Q:cL→Fr→IH→Prop) (e:cL) (fr:Fr) (h:IH):Prop:=match e with
 | .normal=>K fr h
 | .exit i=>Q (.exit i) fr h
 | .ret=>Q .ret fr h
def qN (id:Nat) (Q:cL→Fr→IH→Prop) (e:cL) (fr:Fr) (h:IH):Prop:=match e with
 | .exit i=>Br (i == id) (Q .normal fr h) (Q (.exit i) fr h)
 | .normal=>Q .normal fr h
 | .ret=>Q .ret fr h
def BD (K:Fr→IH→Prop):vy K Q .normal fr h=K fr h:=rfl
def GM (K:Fr→IH→Prop) (i:Nat):vy K Q (.exit i) fr h=Q (.exit i) fr h:=rfl
def LR (K:Fr→IH→Prop):vy K Q .ret fr h=Q .ret fr h:=rfl
def xH (id:Nat):qN id Q .normal fr h=Q .normal fr h:=rfl
def FB (id:Nat):qN id Q .ret fr h=Q .ret fr h:=rfl
def B9 (id:Nat):qN id Q (.exit id) fr h=Q .normal fr h:=by simp[qN]
def Ca (id i:Nat) (hi:(i == id)=false):qN id Q (.exit i) fr h=Q (.exit i) fr h:=by simp[qN,hi]
def XJ:Do (wpC P fn nt rd .skip fr h) Q u=Q .normal fr h:=rfl
def Nf (id:Nat) (ops:Array Oper):Do (wpC P fn nt rd (.region id ops false) fr h) Q u=Do (wpOps P nt ops.toList ops.toList fr h) (Q .normal) nx:=rfl
def XS (id:Nat) (ops:Array Oper) (hc:jC ops.toList=true):Do (wpC P fn nt rd (.region id ops true) fr h) Q u=Do (wpOps P nt ops.toList ops.toList fr h) (Q .normal) nx:=by show((jC ops.toList=true→wpOps P nt ops.toList ops.toList fr h (Q .normal))∧(jC ops.toList=false→Qi P nt ops.toList fr h (Q .normal)))=_;simp only[hc,true_implies,reduceCtorEq,false_implies,and_true];rfl
theorem mY (a b:Code):Do (wpC P fn nt rd (.seq a b) fr h) Q u=Do (wpC P fn nt rd a fr h) (vy (fun fr h=>Do (wpC P fn nt rd b fr h) Q nx) Q) nx:=by show wpC P fn nt rd a fr h _=wpC P fn nt rd a fr h _;congr 1
def XR (c:QY) (a b:Code):Do (wpC P fn nt rd (.cond c a b) fr h) Q u=Do (Ex (opd fr c)) (fun c=>match c with
  | .bool c=>Bq c (Do (wpC P fn nt rd a fr h) Q nx,Do (wpC P fn nt rd b fr h) Q nx) nx
  | _=>False) nx:=rfl
def R5 (id:Nat) (b:Code):Do (wpC P fn nt rd (.block id b) fr h) Q u=Do (wpC P fn nt rd b fr h) (qN id Q) nx:=rfl
def XM (b:Code):Do (wpC P fn nt rd (.loop b) fr h) Q u=Do (Cc P fn nt rd b fr h) Q nx:=rfl
def RW (b:Code):Do (wpC P fn nt rd (.scope b) fr h) Q u=Do (wpC P fn nt rd b fr h) Q nx:=rfl
def BX (f:QY) (ps:Array Tmp) (a b:Code):Do (wpC P fn nt rd (.rangeFunc f ps a b) fr h) Q u=Do (yK P fn nt rd f ps a b fr h) Q nx:=rfl
def XP (i:Nat):Do (wpC P fn nt rd (.exit i) fr h) Q u=Q (.exit i) fr h:=rfl
def ZbZ:Do (wpC P fn nt rd .ret fr h) Q u=Q .ret fr h:=rfl
end
def Tc (P:QX) (rs:List ResultVar) (K:QQ→IH→Prop) (e:cL) (fr:Fr) (h:IH):Prop:=match e with
 | .exit _=>False
 | .normal=>Do (Ex (bY P fr h rs)) (fun l=>K (single l) h) nx
 | .ret=>Do (Ex (bY P fr h rs)) (fun l=>K (single l) h) nx
def BF (P:QX) (rs:List ResultVar) (K:QQ→IH→Prop) (fr:Fr) (h:IH):Tc P rs K .normal fr h=Do (Ex (bY P fr h rs)) (fun l=>K (single l) h) nx:=rfl
def LY (P:QX) (rs:List ResultVar) (K:QQ→IH→Prop) (fr:Fr) (h:IH):Tc P rs K .ret fr h=Do (Ex (bY P fr h rs)) (fun l=>K (single l) h) nx:=rfl
variable {nt:Nat}{h:IH}{K:QQ→IH→Prop}{P:QX}{vs:List QQ}
def enter {f:FuncId} {fn:Func} {c:Code} {rs:List ResultVar} {first cap:Array QQ}  (hf:P.funcs[f]?=some fn) (hb:fn.body=some c) (hn:fn.ntmps=nt) (hr:fn.results.toList=rs) (hl:(first.toList ++ (vs ++ cap.toList)).length≤nt)(w:Do (wpC P f nt none c (gh 0 (first.toList ++ (vs ++ cap.toList))) h) (Tc P rs K) nx):WV P (.func (.func f) first cap) vs h K :=
 UW hf hb hn hr hl w
theorem call {fv:QQ} {L:QQ→IH→Prop} (w:WV P fv vs h L) (k : ∀v h',L v h'→K v h'):Do (WV P fv vs h) K nx:=w.mono k
variable {fr:Fr}{fn:FuncId}{Q:cL→Fr→IH→Prop}{rd:Option Nat}
@[reducible] def Pst (p:Prop) (_:Nx p):Prop:=p
theorem cut {a:Code} {K:Fr→IH→Prop} (R:Fr→IH→Prop)(w:Do (wpC P fn nt rd a fr h) (vy (fun fr h=>Pst (R fr h) nx) Q) nx) (k : ∀fr h,R fr h→K fr h):Do (wpC P fn nt rd a fr h) (vy K Q) nx :=
 pT (fun e fr h w=>by cases e<;>first|exact k _ _ w|exact w) w
def WG (I:Nat→Fr→IH→Prop) (m:Nat) (Q:cL→Fr→IH→Prop) (e:cL) (fr:Fr) (h:IH):Prop:=match e with
 | .normal => ∃m',m'<m∧I m' fr h
 | .exit i=>Q (.exit i) fr h
 | .ret=>Q .ret fr h
def Ep (I:Nat→Fr→IH→Prop) (m:Nat) (Q:cL→Fr→IH→Prop) (i:Nat) (fr:Fr) (h:IH):WG I m Q (.exit i) fr h=Q (.exit i) fr h:=rfl
def Hk (I:Nat→Fr→IH→Prop) (m:Nat) (Q:cL→Fr→IH→Prop) (fr:Fr) (h:IH):WG I m Q .ret fr h=Q .ret fr h:=rfl
def loop {b:Code} (I:Nat→Fr→IH→Prop) (m:Nat) (start:I m fr h)(step : ∀m fr h,I m fr h→Do (wpC P fn nt rd b fr h) (WG I m Q) nx) (hm:v9 b=none:=by rfl):Do (Cc P fn nt rd b fr h) Q nx :=
 ZeA I (fun m fr h hi=>step m fr h hi) start hm
def XO (tr:List (Fr×IH)) (n:Nat) (K:Fr→IH→Prop) (u:Nx K):Do (N5 tr n) K u=Do (Ex tr[n]?) (fun p=>K p.1 p.2) nx:=rfl
variable {p:Nat}{ops:List Oper}{i:Nat}{tr:List (Fr×IH)}{o:Oper}
def ai {fr':Fr} {h':IH} (ho:ops[i]?=some o) (hi:tr[i]?=some (fr,h)) (hw:cC ops o fr=some true) (hp:tr[p]?=some (fr',h')) (hs:jH P fr o.op h h'=true):fc P ops tr [(i,[p])]:=by refine⟨?_,trivial⟩;simp only[ho,hi,hw];intro q hq;simp only[iD] at hq;subst hq;simp only[hp];exact hs
variable {l:List Nat}
def gI (ho:ops[i]?=some o) (hi:tr[i]?=some (fr,h)) (hw:cC ops o fr=some false):fc P ops tr [(i,l)]:=by refine⟨?_,trivial⟩;simp only[ho,hi,hw]
def nO {e:Nat×List Nat} {l:List (Nat×List Nat)} (h1:fc P ops tr [e]) (h2:fc P ops tr l):fc P ops tr (e :: l):=⟨h1.1,h2⟩
def yP (h1:fc P ops tr [(i,[p])]) (h2:fc P ops tr [(i,l)]):fc P ops tr [(i,p :: l)]:=by
 refine⟨?_,trivial⟩;have a:=h1.1;have b:=h2.1;simp only at a b ⊢;cases ho:ops[i]? with
 | none=>simp only[ho] at a
 | some o =>
  cases hi:tr[i]? with
  | none=>simp only[ho,hi] at a
  | some x =>
   obtain⟨fr,h⟩:=x
   simp only[ho,hi] at a b ⊢
   cases hw:cC ops o fr with
   | none=>trivial
   | some w =>
    cases w with
    | false=>trivial
    | true =>
     simp only[hw] at a b ⊢;intro q hq;rcases dD.1 hq with rfl|hq;·exact a q aa
     ·exact b q hq
def drawn {id:Nat} {ops:Array Oper} (pl:List (Nat×List Nat)) (ho:pA ops.toList=true) (hp:GX ops.toList=pl) (hne:pl.isEmpty=false)(w:Do (eX P nt ops.toList ops.toList fr h []) (fun tr=>Pst (fc P ops.toList tr pl∧Do (N5 tr ops.toList.length) (Q .normal) nx) nx) nx):Do (wpC P fn nt rd (.region id ops true) fr h) Q nx:=by subst hp;refine⟨fun hc=>?_,fun _=>⟨ho,w⟩⟩;simp[jC,List.isEmpty_iff] at hc hne;exact absurd hc.2 hne
def RX (P:QX) (fn:FuncId) (nt:Nat) (rd:Option Nat) (l:Nat) (fr:Fr) (h:IH) (Q:cL→Fr→IH→Prop) (u:Nx Q):Do (wpC P fn nt rd (.label l) fr h) Q u=Q .normal fr h:=rfl
def DM (v:QQ):single [v]=v:=rfl
def DN:single []=.tuple #[]:=rfl
def DL (a b:QQ):single [a,b]=.tuple #[a,b]:=rfl
def zg (a b c:QQ):single [a,b,c]=.tuple #[a,b,c]:=rfl
def WL (h:IH) (b o:Nat):ld h b o=(h.row b).bind (·[o]?):=rfl
def Mw {α:Type} (l:List α) : [] ++ l=l:=rfl
def Ny {α:Type} (l:List α):l ++ []=l:=x8 l
def HY {α:Type} (x:α) (l m:List α):(x :: l) ++ m=x :: (l ++ m):=rfl
def MX {α:Type} {d:Decidable True} (a b:α):ite True a b=a:=ah trivial
def Hr {α:Type} {d:Decidable False} (a b:α):ite False a b=b:=ad id
def FE {α β:Type} (a:α) (f:α→Option β):(some a).bind f=f a:=rfl
def He {α β:Type} (a:α) (f:α→β):(some a).map f=some (f a):=rfl
def Hv {α:Type} (x:α) (l:List α):(x :: l)[0]?=some x:=rfl
def Hw {α:Type} (x:α) (l:List α) (n:Nat):(x :: l)[n+1]?=l[n]?:=rfl
def M5 {α:Type} (l:List α) (n:Nat):l.toArray[n]?=l[n]?:=De
def Qy {α:Type} (l:List α):l.toArray.toList=l:=rfl
def Lh:undef=QQ.tuple #[]:=rfl
def wpS:=ao @XL (ao @Ni (ao @R7 (ao @Zb2 (ao @XN (ao @RU (ao @R6 (ao @XK (ao @HS (ao @Fk (ao @XT (ao @HU (ao @B4 (ao @B0 (ao @XH (ao @HT (ao @BZ (ao @Ae (ao @RV (ao @R4 (ao @R0 (ao (ao @Fj (ao @Mx (ao @Ha (ao @My @RX)))) (ao @Ng (ao (ao @BY @Nh) (ao @HR (ao @RY (ao @Zb0 (ao @Fi (ao @Zb1 (ao @XQ (ao @RZ (ao @XI (ao @RT (ao @Nd (ao @BD (ao @GM (ao @LR (ao @xH (ao @FB (ao @B9 (ao @Ca (ao @XJ (ao @Nf (ao @XS (ao @mY (ao @XR (ao @R5 (ao @XM (ao @RW (ao @BX (ao @XP (ao @ZbZ (ao @BF (ao @LY (ao @Ep (ao @Hk (ao @ZbY (ao @HM (ao @Fa (ao @Nb (ao @KA (ao @Fz (ao @Rf (ao @Mj (ao @Ec (ao @xz (ao @vK (ao @sN (ao @rk (ao @qo (ao @sP (ao @sU (ao @Mh (ao @G1 (ao @BL (ao @zH (ao @BN (ao @BM (ao @tp (ao @z7 (ao @BW (ao @Mw (ao @Ny (ao @HY (ao @MX (ao @Hr (ao @FE (ao @He (ao @and_true (ao @true_and (ao @Nat.zero_add (ao @Nat.add_zero (ao @Nat.zero_mul (ao @Nat.one_mul (ao @Nat.mul_one (ao @vC (ao @xu (ao @zo (ao @xw (ao @Bu (ao @Bi (ao @Bl (ao @Bs (ao @Bk (ao @Bm (ao @Bn (ao @Bo (ao @Bp (ao @Ys (ao @Zb7 (ao @Yi (ao @Yr (ao @Yt (ao @Zb8 (ao @Nv (ao @Zbp (ao @Zbq (ao @VA (ao @VB (ao @Zbx (ao @Zbw (ao @VR (ao @AI (ao @Gw (ao @wrap_i64 (ao @yO (ao @wrap_u8 (ao @KS (ao @wrap_u32 (ao @Int.toNat_natCast (ao @Int.toNat_one (ao @Int.toNat_zero (ao @builtin_len (ao @oX (ao @xC (ao @Ba (ao @EU (ao @WL (ao @Zbu (ao @FF (ao @Hv (ao @Hw (ao @M5 (ao @Qy (ao @Ib (ao @Fu (ao @B7 (ao @HZ (ao @Ic (ao @Ft (ao @xF (ao @Ia (ao @Ag (ao @bj (ao @Ej (ao @bd (ao @D4 (ao @mI (ao @BE (ao @zm (ao @vB (ao @aq (ao @aE (ao @ak (ao @ax (ao @DM (ao @DL (ao @DN (ao @zg (ao @XO (@Lh))))))))))))))))))))))))))))))))))))))))))))))))))))))))))))))))))))))))))))))))))))))))))))))))))))))))))))))))))))))))))))))))))))))))))))))))))))))))))))))))))))))))))
def wpR:=ao @XL (ao @Ni (ao @R7 (ao @Zb2 (ao @XN (ao @RU (ao @R6 (ao @XK (ao @HS (ao @Fk (ao @XT (ao @HU (ao @B4 (ao @B0 (ao @XH (ao @HT (ao @BZ (ao @Ae (ao @RV (ao @R4 (ao @R0 (ao (ao @Fj (ao @Mx (ao @Ha (ao @My @RX)))) (ao @Ng (ao (ao @BY @Nh) (ao @HR (ao @RY (ao @Zb0 (ao @Fi (ao @Zb1 (ao @XQ (ao @RZ (ao @XI (ao @RT (ao @Nd (ao @BD (ao @GM (ao @LR (ao @xH (ao @FB (ao @B9 (ao @Ca (ao @XJ (ao @Nf (ao @XS (ao @XR (ao @R5 (ao @XM (ao @RW (ao @BX (ao @XP (ao @ZbZ (ao @BF (ao @LY (ao @Ep (ao @Hk (ao @ZbY (ao @HM (ao @Fa (ao @Nb (ao @KA (ao @Fz (ao @Rf (ao @Mj (ao @Ec (ao @xz (ao @vK (ao @sN (ao @rk (ao @qo (ao @sP (ao @sU (ao @Mh (ao @G1 (ao @BL (ao @zH (ao @BN (ao @BM (ao @tp (ao @z7 (ao @BW (ao @Mw (ao @Ny (ao @HY (ao @MX (ao @Hr (ao @FE (ao @He (ao @and_true (ao @true_and (ao @Nat.zero_add (ao @Nat.add_zero (ao @Nat.zero_mul (ao @Nat.one_mul (ao @Nat.mul_one (ao @vC (ao @xu (ao @zo (ao @xw (ao @Bu (ao @Bi (ao @Bl (ao @Bs (ao @Bk (ao @Bm (ao @Bn (ao @Bo (ao @Bp (ao @Ys (ao @Zb7 (ao @Yi (ao @Yr (ao @Yt (ao @Zb8 (ao @Nv (ao @Zbp (ao @Zbq (ao @VA (ao @VB (ao @Zbx (ao @Zbw (ao @VR (ao @AI (ao @Gw (ao @wrap_i64 (ao @yO (ao @wrap_u8 (ao @KS (ao @wrap_u32 (ao @Int.toNat_natCast (ao @Int.toNat_one (ao @Int.toNat_zero (ao @builtin_len (ao @oX (ao @xC (ao @Ba (ao @EU (ao @WL (ao @Zbu (ao @FF (ao @Hv (ao @Hw (ao @M5 (ao @Qy (ao @Ib (ao @Fu (ao @B7 (ao @HZ (ao @Ic (ao @Ft (ao @xF (ao @Ia (ao @Ag (ao @bj (ao @Ej (ao @bd (ao @D4 (ao @mI (ao @BE (ao @zm (ao @vB (ao @aq (ao @aE (ao @ak (ao @ax (ao @DM (ao @DL (ao @DN (ao @zg (ao @XO (@Lh)))))))))))))))))))))))))))))))))))))))))))))))))))))))))))))))))))))))))))))))))))))))))))))))))))))))))))))))))))))))))))))))))))))))))))))))))))))))))))))))))))))))))
end Go.Id
namespace Go.Id
theorem dx {p : Prop} (h : p := by first | omega | (simp only [bj, bd]; omega) | decide +kernel | ((repeat first | rw [bj] | rw [bd]); all_goals fail) | fail) : p := h
theorem bm {α : Sort _} (a : α) : ∃ x, x = a := ⟨a, rfl⟩
theorem fJ {α : Type _} {l : List α} {i : Nat} (h : i < l.length) : ∃ a, l[i]? = some a := ⟨_, bK h⟩
open Go Go.RowKit Go.ChangeShapes Go.WideShapes Go.Deep
def PX {n:String} {a:List Value} {v:Value} (h:qL n a=some v):n = "math/bits.Add64" ∨ n = "math/bits.Sub64" := by
 unfold qL at h;split at h
 ·simp only[aK] at h;split at h
  ·split at h
   ·rename_i hn;exact .inl (by simpa using hn)
   ·split at h
    ·rename_i hn;exact .inr (by simpa using hn)
    ·cases h
  ·cases h
 ·cases h
def ZcO {P:Program} (h1:P.follows .mixedOrders=true) (h2:(P.funcs.toList.all fun fn => !(fn.body.isSome && fn.name == "runtime.NumGoroutine") && (fn.body.isSome || ((fn.name == fn.origin || fn.origin == "") || !(fn.name == "math/bits.Add64" || fn.name == "math/bits.Sub64"))))=true):Sound (E0 P) where
 mixed:=h1
 origin f fn hf hb {args v} hc:=by
  have hm:fn∈P.funcs.toList:=by rw[Array.mem_toList_iff];exact Array.mem_of_getElem? hf
  have h:=gG.1 h2 fn hm;rw[hb] at h;have hn:fn.name = "math/bits.Add64" ∨ fn.name = "math/bits.Sub64" := PX hc;have h':(fn.name == fn.origin || fn.origin == "")=true:=by rcases hn with hn|hn<;>rw[hn] at h ⊢ <;> exact(show _ from by simpa using h)
  rw[nh,bD,bD] at h';exact h'.imp Eq.symm id
 names f fn hf hb:=by
  have hm:fn∈P.funcs.toList:=by rw[Array.mem_toList_iff];exact Array.mem_of_getElem? hf
  have:=gG.1 h2 fn hm;rw[eV] at this;have:=this.1;rw[hb] at this;simpa using this
 MV f g h:=by cases h
 xh f g h:=by cases h
structure SlArg (W:World) (z:Nat) (v:Value) (n:Nat) (cs:List Value):Prop where
 z0:0<z
 len:cs.length=n*z
 sc : ∀x∈cs,ct x=true
 ex:(v=.slice none 0 0∧n=0) ∨ ∃a cap,v=.slice (some a) n cap∧n≤cap∧(0<n→a.spot=none ∧ ∀j,j<n*z→W.cell? ⟨a.block,a.off+j,none⟩=cs[j]?)
section
variable {H:Type} {enc:TypeId×Value→H} {P:Program} {W:World} {held:Bool}
variable {W':World}
def P5 {W:World} (hk:Below W.heap.size W W') {p:MemPlace} (hp:p.block<W.heap.size):W.sameAt W' p:=by
 cases p with
 | cell b off =>
  show W'.cell? _=W.cell? _;unfold World.cell?;rw[hk.block b hp]
 | map b=>exact hk.block b hp
def xn {T:TypeId→Prop} (K:Kids P T) (hsz : ∀{t e:TypeId},T t→P.underlying t=some (.slice e)→0<P.cellsOf e) (hk:Below W.heap.size W W') {sp:Nat→Bool} :∀{ts:List TypeId} {vs:List Value} {ds:List (DataW H)} {ps:List MemPlace},DataW.TrodAll enc P W 0 (fun _=>true) true ts vs ds ps→(∀t∈ts,T t)→(∀p∈ps,sp p.block=true)→DataW.TrodAll enc P W' 0 sp true ts vs ds ps
 | [],_,_,_,h,_,_=>by obtain⟨rfl,rfl,rfl⟩:=trodAll_nil h;rfl
 | t :: ts,_,_,_,h,hT,hs=>by obtain⟨v,vs,d,ds,p,q,rfl,rfl,rfl,⟨fuel,h1⟩,h2⟩:=trodAll_cons h;refine⟨p,q,⟨fuel,?_⟩,xn K hsz hk h2 (fun t ht=>hT t (by simp[ht])) (fun x hx=>hs x (by simp[hx])),rfl⟩;exact DataW.trod_stays K hsz (fun h=>by cases h) (hT t aa) h1 (fun x hx=>P5 hk (DataW.trod_lt _ _ _ _ h1 x hx)) (fun x hx=>hs x (by simp[hx]))
end
section
variable {H:Type} {enc:TypeId×Value→H} {P:Program} {W:World} {base:Nat} {sp:Nat→Bool} {held:Bool}
def pW {t:TypeId} {k:IntKind} {m:Nat} (hk:k.min=0) (hm:k.max=m) (ht:P.underlying t=some (.int k)) {fuel:Nat} {cs:List Value} {x:DataW H×List MemPlace} (h:DataW.trod enc P W base sp held fuel t cs=some x) : ∃i:Nat,cs = [.int k (i:Int)]∧i≤m:=by obtain⟨n,rfl,_,hw⟩:=DataW.trod_int ht h;simp only[Lit.wf,eV,aJ] at hw;exact⟨n.toNat,by rw[Int.toNat_of_nonneg byOmega],byOmega⟩
end
def yk (r s:Nat):Nat:=(r+s)*(r+s)+s
def Wb {a b c d:Nat} (h:yk a b=yk c d):a=c∧b=d:=by
 have key : ∀{x y u v:Nat},u≤x→v≤y→x<y→x*x+u≠y*y+v:=by
  intro x y u v hu hv hxy e
  have h1:(x+1)*(x+1)≤y*y:=fB hxy hxy;have h2:(x+1)*(x+1)=x*x+2*x+1:=by rw[cW,tF];omega
  omega
 unfold yk at h;rcases Nat.lt_trichotomy (a+b) (c+d) with hl|he|hg;·exact absurd h (key byOmega byOmega hl)
 ·rw[he] at h;omega
 ·exact absurd h.symm (key byOmega byOmega hg)
open Classical in
noncomputable def plA (i:Nat):Nat×Nat:=if h : ∃p:Nat×Nat,yk p.1 p.2=i then Classical.choose h else (0,0)
theorem Wc (r s:Nat):plA (yk r s)=(r,s):=by have h : ∃p:Nat×Nat,yk p.1 p.2=yk r s:=⟨(r,s),rfl⟩;unfold plA;rw[dif_pos h];obtain⟨h1,h2⟩:=Wb (NT h);exact Prod.ext h1 h2
def ef:Value→Bool
 | .slice (some a) n cap=>n == 0 || (Nat.ble n cap && a.spot.isNone)
 | v=>ct v
def trV:Value→Value
 | .slice (some a) n cap=>if n=0 then .slice (some ⟨1,0,none⟩) 0 0 else .slice (some ⟨2*(4294967296+yk a.block a.off)+1,0,none⟩) n (2*cap+1)
 | v=>v
variable {v:Value}
theorem Lk (h:ct v=true):trV v=v:=by
 unfold trV;split;·simp[ct] at h
 ·rfl
def tR (h:ef v=true):aW (Mp.pn plA) (trV v) v:=by
 unfold ef at h;split at h
 ·rename_i a n cap;simp only[trV];by_cases h0:n=0
  ·subst h0;simp only[bS];exact .lost
  ·simp only[ad h0];obtain⟨b,o,sp⟩:=a;simp only[nh,bD,h0,false_or,eV,bI,Option.isNone_iff_eq_none] at h;obtain⟨h1,rfl⟩:=h;have hm:=Mp.y7 plA (yk b o);rw[Wc] at hm;exact .slice (m:=Mp.pn plA) (r:=b) (s:=o) (o:=0) hm byOmega byOmega byOmega byOmega byOmega
 ·rename_i hne;rw[Lk h];exact .ct h
def pj (W:World) (r s:Nat):List Value:=match W.heap[r]? with
 | some (.cells c _ _)=>((c.toList.drop s).takeWhile ef).map trV
 | _ => []
noncomputable def By (G:Nat→Option (List Value)) (W:World) (b:Nat):Option (List Value):=if b<4294967296 then G b else
 (match W.heap[(plA (b - 4294967296)).1]? with
  | some (.cells c _ _)=>if (plA (b - 4294967296)).2≤c.size then some (pj W (plA (b - 4294967296)).1 (plA (b - 4294967296)).2) else none
  | _=>none)
variable {α:Type}
def xo (p:α→Bool) : ∀(l:List α) (i:Nat) (x:α),(l.takeWhile p)[i]?=some x→l[i]?=some x∧p x=true
 | [],i,x,h=>by simp at h
 | a :: l,i,x,h=>by
  rw[Iz] at h;by_cases hp:p a=true
  ·rw[ah hp] at h;cases i with
   | zero=>simp at h;subst h;exact⟨rfl,hp⟩
   | succ i=>simpa using xo p l i x (by simpa using h)
  ·rw[ad hp] at h;simp at h
def vm (p:α→Bool) : ∀(l:List α) (n:Nat),n≤l.length→(∀x∈l.take n,p x=true)→(l.takeWhile p).take n=l.take n∧n≤(l.takeWhile p).length
 | l,0,_,_=>aa
 | [],n+1,h,_=>by simp at h
 | a :: l,n+1,h,hp=>by have h1:p a=true:=hp a aa;obtain⟨h2,h3⟩:=vm p l n (by simpa using h) (fun x hx=>hp x (by simp[hx]));rw[Iz,ah h1];simp[h2,h3]
def Zc {W:World} {G:Nat→Option (List Value)} (hG : ∀b cs,G b=some cs → ∃c el fz,W.heap[b]?=some (.cells c el fz)∧cs.length≤c.size ∧ ∀(j:Nat) (x:Value),cs[j]?=some x→c[j]?=some x∧ct x=true):Qc plA (By G W) W:=by
 intro b cs hb;unfold By at hb;split at hb;·rename_i hlt;obtain⟨c,el,fz,h1,h2,h3⟩:=hG b cs hb;refine⟨b,0,Mp.BA _ hlt,c,el,fz,h1,byOmega,fun i v hv=>?_⟩;obtain⟨h4,h5⟩:=h3 i v hv;exact⟨v,by rw[eu];exact h4,.ct h5⟩
 ·rename_i hge;have hm:=Mp.y7 plA (b - 4294967296);rw[show 4294967296+(b - 4294967296)=b from by omega] at hm;obtain⟨r,s,hrs⟩ : ∃r s,plA (b - 4294967296)=(r,s):=⟨_,_,rfl⟩;rw[hrs] at hm hb;simp only at hb;split at hb
  ·rename_i c el fz hh;split at hb
   ·rename_i hs;cases hb;refine⟨r,s,hm,c,el,fz,hh,?_,fun i v hv=>?_⟩
    ·have:(pj W r s).length≤(c.toList.drop s).length:=by simp only[pj,hh,cd];exact(List.takeWhile_sublist _).length_le
     rw[oN] at this;have e:c.toList.length=c.size:=ku;have e2:(pj W r s).toArray.size=(pj W r s).length:=rfl;simp only[ku] at *;omega
    ·simp only[pj,hh,cm,bg] at hv;obtain⟨y,hy,rfl⟩:=hv;obtain⟨h1,h2⟩:=xo _ _ _ _ hy;rw[kj,oS] at h1;exact⟨y,h1,tR h2⟩
   ·cases hb
  ·cases hb
section
variable {H:Type} {enc:TypeId×Value→H} {P:Program} {W:World} {held:Bool}
def tV {t e:TypeId} (ht:P.underlying t=some (.slice e)) {z:Nat} (hz:P.cellsOf e=z) (z0:0<z) {R:List Value→Prop}(elem : ∀(n:Nat) (cs:List Value) (x:DataW H×List MemPlace),DataW.trod enc P W 0 (fun _=>true) held n e cs=some x→R cs ∧ ∀y∈cs,ef y=true) (G:Nat→Option (List Value)){fuel:Nat} {cs0:List Value} {x:DataW H×List MemPlace} (h:DataW.trod enc P W 0 (fun _=>true) held fuel t cs0=some x) :∃(v:Value) (n:Nat) (cs:List Value),cs0 = [v]∧ef v=true∧n≤maxLen∧cA (IH.start (By G W)) z (trV v) n (cs.map trV) ∧ ∀i,i<n→R ((cs.drop (i*z)).take z):=by
 rcases open_slice ht h with⟨h1,_⟩|⟨a,len,capp,m,k,D,Pl,h1,_,hl,qS,hm,_,hx⟩;·subst h1;exact⟨_,0,[],rfl,rfl,dT _,cA.nil _ z0,fun i hi=>byOmega⟩
 ·subst h1;simp only[bS] at hm;subst hm;rw[hz] at hx;rcases gW len with rfl|h0
  ·refine⟨_,0,[],rfl,by simp[ef],dT _,?_,fun i hi=>byOmega⟩;simp only[trV,bS];exact⟨z0,aa,.inr ⟨1,0,0,rfl,.inl ⟨rfl,rfl⟩⟩⟩
  ·have spot:a.spot=none:=by
    obtain⟨cs',h1,_⟩:=hx 0 byOmega;obtain⟨_,hlen,hc⟩:=World.cells?_some h1;have:=hc 0 z0;rw[bK byOmega,iC] at this;unfold World.cell? at this;simp only[Addr.add,bS] at this;split at this
    ·split at this
     ·cases this
     ·rename_i h3;simpa using h3
    ·cases this
   have Zav : ∀j,a.add j=⟨a.block,a.off+j,none⟩:=fun j=>by
    unfold Addr.add;split;·rename_i h0;subst h0;rw[←spot];rfl
    ·rfl
   have key : ∀i,i<len → ∃cs':List Value,cs'.length=z∧(∀j,j<z→W.cell? ⟨a.block,a.off+(i*z+j),none⟩=cs'[j]?)∧R cs' ∧ ∀y∈cs',ef y=true:=by intro i hi;obtain⟨cs',h1,h2⟩:=hx i byOmega;obtain⟨_,hlen,hc⟩:=World.cells?_some h1;obtain⟨h4,h5⟩:=elem k cs' _ h2;refine⟨cs',hlen,fun j hj=>?_,h4,h5⟩;have h3:=hc j hj;rw[add_add,Zav] at h3;exact h3
   obtain⟨c,el,fz,hh⟩ : ∃c el fz,W.heap[a.block]?=some (.cells c el fz):=by
    obtain⟨cs',hl0,h1,_⟩:=key 0 h0;have:=h1 0 z0;rw[bK byOmega] at this;unfold World.cell? at this;split at this;·rename_i c el fz hh;exact⟨c,el,fz,hh⟩
    ·cases this
   have cell : ∀j,W.cell? ⟨a.block,j,none⟩=c[j]?:=fun j=>by unfold World.cell?;rw[hh];simp
   have hsz:a.off+len*z≤c.size:=by
    obtain⟨cs',hl0,h1,_⟩:=key (len - 1) byOmega;have:=h1 (z - 1) byOmega;rw[cell,bK byOmega] at this;have:=(kZ.1 this).1;have e:(len - 1)*z+z=len*z:=by rw[←uU];congr 1;omega
    omega
   have hat : ∀j,j<len*z → ∃y,c[a.off+j]?=some y∧ef y=true:=by
    intro j hj;have hi:j / z<len:=(oL z0).2 hj;have hr:j % z<z:=gE _ z0;have hjz:j / z*z+j % z=j:=by rw[gu];exact nf j z
    obtain⟨cs',hl0,h1,_,h5⟩:=key (j / z) hi;have:=h1 (j % z) hr;rw[hjz,cell,bK byOmega] at this;exact⟨_,this,h5 _ (iE _)⟩
   have iv : ∀y∈(c.toList.drop a.off).take (len*z),ef y=true:=by
    intro y hy;obtain⟨j,hj⟩:=List.mem_iff_getElem?.1 hy;rw[iU] at hj;split at hj;·rename_i hjl;rw[kj,oS] at hj;obtain⟨y',h1,h2⟩:=hat j hjl;rw[hj] at h1;cases h1;exact h2
    ·cases hj
   have hdl:len*z≤(c.toList.drop a.off).length:=by rw[oN,ku];omega
   obtain⟨tw1,tw2⟩:=vm ef _ _ hdl iv;refine⟨_,len,(c.toList.drop a.off).take (len*z),rfl,?_,byOmega,?_,fun i hi=>?_⟩;·simp[ef,spot,hl]
   ·simp only[trV,ad (by omega : ¬len=0)];have zS:0<len*z:=kf h0 z0;refine⟨z0,by simp[iT];rw[oN,ku] at hdl;omega,.inr ⟨2*(4294967296+yk a.block a.off)+1,0,_,rfl,.inr ⟨byOmega,byOmega,pj W a.block a.off,.inl ⟨byOmega,byOmega⟩,?_,?_,?_⟩⟩⟩
    ·have e1:((2*(4294967296+yk a.block a.off)+1) % 2 == 1)=true:=aa;have e2:(2*(4294967296+yk a.block a.off)+1) / 2=4294967296+yk a.block a.off:=byOmega;simp only[IH.row,e1,bP,e2,IH.start,By];rw[ad byOmega,show 4294967296+yk a.block a.off - 4294967296=yk a.block a.off from by omega,Wc];simp only[hh];rw[ah byOmega]
    ·rw[cp];simp only[pj,hh];rw[←tJ,tw1]
    ·simp only[pj,hh,cd];omega
   ·have hlz:i*z+z≤len*z:=by rw[←uU];exact cT _ hi
    obtain⟨cs',hl0,h1,h4,_⟩:=key i hi
    have:(((c.toList.drop a.off).take (len*z)).drop (i*z)).take z=cs':=by
     apply jT;intro j;rw[iU];by_cases hj:j<z;·rw[ah hj,kj,iU,ah byOmega,kj,oS,←cell,h1 j hj]
     ·rw[ad hj,cI byOmega]
    rw[this];exact h4
end
end Go.Id
namespace Go.Proofs.YtnnmjocmapilaaaGreat
open Go.ChangeShapes Go.WideShapes Go.ChangeAt Go.RowKit Go.Id
def Tryz.own:ownKnob Tryz.prog.godebug=none:=ab
def Tryz.laidOut:laidOutB Tryz.prog=true:=ab
def Tryz.mapsOut:mapsRowed Tryz.prog=true:=ab
def Tryz.kids:Kids Tryz.prog (· < Tryz.prog.types.size):=kids_rows Tryz.laidOut Tryz.mapsOut
def Tryz.slices:((List.range Tryz.prog.types.size).all fun t=>match Tryz.prog.underlying t with
 | some (.slice e)=>decide (0<Tryz.prog.cellsOf e)
 | _=>true)=true:=ab
def Tryz.pos {t e:TypeId} (h:t<Tryz.prog.types.size) (hu:Tryz.prog.underlying t=some (.slice e)):0<Tryz.prog.cellsOf e:=by have:=gG.1 Tryz.slices t (by simpa using h);rw[hu] at this;simpa using this
def Tryz.sound:Sound (E0 Tryz.prog):=ZcO ab ab
end Go.Proofs.YtnnmjocmapilaaaGreat
namespace Go.Id
open Go
open Go renaming Operand→QY,Program→QX,TypeId→QZ,Value→QQ
open Nat renaming reduceAdd→zA,reduceEqDiff→zE,reduceLeDiff→zL
open Nat (reduceMul)
set_option maxHeartbeats 16000000
def On (cs:List QQ):IH.aI cs 0 []=cs:=by simp[IH.aI]
def LF (c v:QQ) (cs vs:List QQ):IH.aI (c :: cs) 0 (v :: vs)=v :: IH.aI cs 0 vs:=by simp[IH.aI]
theorem BB (c:QQ) (cs vs:List QQ) (n:Nat):IH.aI (c :: cs) (n+1) vs=c :: IH.aI cs n vs:=by simp[IH.aI,show n+1+vs.length=(n+vs.length)+1 from by omega]
variable {v:QQ}{n:Nat}{cs:List QQ}
theorem jz (h:n<cs.length):IH.aI cs n [v]=cs.set n v:=by simp only[IH.aI,tL,List.singleton_append];exact(List.set_eq_take_append_cons_drop.trans (ah h)).symm
def jA {vs:List QQ} (h:cs.length=vs.length):IH.aI cs 0 vs=vs:=by simp[IH.aI,h]
def ZaK (k:IntKind) (n:Int):aM (.int k n)=true:=rfl
def Nm (b:Bool):aM (.bool b)=true:=rfl
def Up (a:Option Addr) (n k:Nat):aM (.slice a n k)=true:=rfl
def ZaI (b o:Nat):aM (ptr b o)=true:=rfl
def Ya (f:Fn) (a b:Array QQ):aM (.func f a b)=true:=rfl
def ZaJ (r:Option Nat):aM (.map r)=true:=rfl
def Nl:aM .nilFunc=true:=rfl
def PU:aM (.pointer none)=true:=rfl
def Yz (p:QQ→Bool):([]:List QQ).all p=true:=rfl
def UK (p:QQ→Bool) (v:QQ) (l:List QQ):(v :: l).all p=(p v && l.all p):=rfl
def ZeK (b:Bool):(true && b)=b:=rfl
def Zgg (b:Bool):(false && b)=false:=rfl
def ZgP (b:Bool):(b && true)=b:=by cases b<;>rfl
def WJ {α:Type}:([]:List α).length=0:=rfl
def TN {α:Type} (v:α) (l:List α):(v :: l).length=l.length+1:=rfl
def stE (n:Nat) (h:IH) (k o:Nat) (vs:List QQ):Option cB→Option IH
 | some (.cells cs e none)=>if vs.length=n∧vs.all aM=true∧o+n≤cs.length then some (h.put k (.cells (IH.aI cs o vs) e none)) else none
 | some (.cells cs e (some f))=>if vs.length=n∧vs.all aM=true then h.wr (2*k) o vs else none
 | _=>none
variable {P:QX}{t:TypeId}
def fh (hT:ba P t=some n) (h:IH) (k o:Nat) (v:QQ):store P h t (ptr (2*k) o) v=stE n h k o v.cells.toList (h.ext.get k):=by
 have h1:(2*k % 2 == 1)=false:=aa;have h2:2*k / 2=k:=byOmega;simp only[store,asAddr,ptr,hT,aK,eV,bD];rw[show v.cells.size=v.cells.toList.length from by simp];generalize v.cells.toList=vs;cases hg:h.ext.get k with
 | none=>simp[stE,IH.wr,h2,hg]
 | some ob =>
  cases ob with
  | cells cs e f =>
   cases f with
   | none =>
    simp only[stE,IH.wr,h1,h2,hg,aK,bI,gv,cH];by_cases hc:vs.length=n∧vs.all aM=true
    ·rw[ah hc];obtain⟨rfl,hc2⟩:=hc;by_cases hl:o+vs.length≤cs.length
     ·rw[ah hl,ah ⟨rfl,hc2,hl⟩];rfl
     ·rw[ad hl,ad fun x=>hl x.2.2]
    ·rw[ad hc,ad fun x=>hc ⟨x.1,x.2.1⟩]
   | some f=>simp[stE]
  | _=>simp[stE,IH.wr,h2,hg]
def ZcD (n:Nat) (h:IH) (k o:Nat) (vs cs:List QQ) (e:Nat):stE n h k o vs (some (.cells cs e none))=if vs.length=n∧vs.all aM=true∧o+n≤cs.length then some (h.put k (.cells (IH.aI cs o vs) e none)) else none:=rfl
variable {m sz:Nat}
def qM (h:IH) (hz:0<sz) (hl:cs.length=m*sz) (hm:0<m):cA (h.new (.cells cs sz none)) sz (.slice (some ⟨2*h.n,0,none⟩) m (2*m+1)) m cs:=by
 refine⟨hz,hl,.inr ⟨2*h.n,0,2*m+1,rfl,.inr ⟨byOmega,byOmega,cs,.inr ⟨byOmega,aa,none,?_⟩,?_,?_,byOmega⟩⟩⟩;·rw[show 2*h.n / 2=h.n from by omega,pE,ah rfl]
 ·exact mI _ _ _ _ rfl
 ·rw[cp,dr byOmega]
variable {h:IH}
def eh {k c:Nat} {f:Option Nat} (hg:h.ext.get k=some (.cells cs sz f)) (hk:k<h.n) (hz:0<sz) (hl:cs.length=n*sz) (hc:0<c) (hn:n≤c / 2):cA h sz (.slice (some ⟨2*k,0,none⟩) n c) n cs:=by
 refine⟨hz,hl,.inr ⟨2*k,0,c,rfl,.inr ⟨hc,hn,cs,.inr ⟨byOmega,byOmega,f,?_⟩,?_,?_,byOmega⟩⟩⟩;·rw[show 2*k / 2=k from by omega,hg]
 ·rw[mJ];simp[IH.cells,hg]
 ·rw[cp,dr byOmega]
variable {h0':IH}{n0 bytes:Nat}
def Acc.uR (a:Acc h n0 sz v n cs) (hT:mR P t=some (sz,bytes)) {new:List QQ} (hm:0<m) (hl:new.length=m*sz)(hc:new.all aM=true) (hsz:(n+m)*(bytes+1)≤1099511627776) (h0:n0≤h.n) (e0:Ext h0' h) (hn0:h0'.n≤n0) :∃v' h',append P (h.new (.cells new sz none)) t v (.slice (some ⟨2*h.n,0,none⟩) m (2*m+1))=some (v',h')∧Acc h' n0 sz v' (n+m) (cs ++ new)∧Grow h h'∧Ext h0' h':=by have e1:Ext h (h.new (.cells new sz none)):=(Ext.refl h).new _;obtain⟨v',h',b1,b2,b3,b4,b5⟩:=(a.ext e1).app hT (qM h a.1 hl hm) hm hc hsz bq (e0.trans e1) hn0;exact⟨v',h',b1,b2,e1.grow.trans b3,b5⟩
variable {x:QQ}
def Acc.Gq (a:Acc h n0 1 v n cs) (hT:mR P t=some (1,bytes))  (hc:aM x=true) (hsz:(n+1)*(bytes+1)≤1099511627776) (h0:n0≤h.n) (e0:Ext h0' h) (hn0:h0'.n≤n0) :∃v' h',append P (h.new (.cells [x] 1 none)) t v (.slice (some ⟨2*h.n,0,none⟩) 1 3)=some (v',h')∧Acc h' n0 1 v' (n+1) (cs ++ [x])∧Grow h h'∧Ext h0' h' :=
 a.uR hT (m:=1) (new:=[x]) byOmega rfl (by simp[hc]) hsz h0 e0 hn0
def Acc.app2 (a:Acc h n0 1 v n cs) (hT:mR P t=some (1,bytes)) {y:QQ}(hc:aM x=true) (hc2:aM y=true) (hsz:(n+2)*(bytes+1)≤1099511627776) (h0:n0≤h.n) (e0:Ext h0' h) (hn0:h0'.n≤n0) :∃v' h',append P (h.new (.cells [x,y] 1 none)) t v (.slice (some ⟨2*h.n,0,none⟩) 2 5)=some (v',h')∧Acc h' n0 1 v' (n+2) (cs ++ [x,y])∧Grow h h'∧Ext h0' h' :=
 a.uR hT (m:=2) (new:=[x,y]) byOmega rfl (by simp[hc,hc2]) hsz h0 e0 hn0
variable {z:List QQ}{b:Nat}
def pD (hT:sW P t=some (n,b,z)) (h:IH) (k j:IntKind) {l c:Int} (h0:0≤l) (h1:l≤c) (h2:c*(b+1)≤1099511627776) :makeSlice P h t (.int k l) (.int j c)=some (.slice (some ⟨2*h.n,0,none⟩) l.toNat (2*c.toNat+1),h.new (.cells (cj c.toNat z) n none)):=by
 obtain⟨l,rfl⟩:=fD h0;obtain⟨c,rfl⟩:=fD (Int.le_trans h0 h1);unfold sW at hT;split at hT
 case h_2=>cases hT
 rename_i e hu;split at hT
 case h_2=>cases hT
 rename_i zz a1 a2 a3;simp only[aK,bD] at hT;split at hT
 case isFalse=>cases hT
 rename_i hz;cases hT;have hc2:c*(b+1)≤bh:=by
  have:((c*(b+1):Nat):Int)≤1099511627776:=by simpa using h2
  simp only[bh];omega
 have hcm:c≤bh:=bA (CX c byOmega) hc2;have e1:lE (.int k (l:Int)) bh=some l:=kQ byOmega;have e2:lE (.int j (c:Int)) bh=some c:=kQ hcm;have e3:(Nat.ble l c && Nat.ble (c*(b+1)) bh && z.length == n)=true:=by simp[bI,hz,hc2];omega
 simp only[makeSlice,hu,e1,e2,a1,a2,a3,e3,bP,oO]
def fP (hT:sW P t=some (n,b,z)) (h:IH) (len:Nat) (ps:List (Nat×QQ)) (hl:len*n≤16777216) :buildSlice P h t len ps=(dF (fun i=>some (i*n,n)) (cj len z) ps).map fun cells=>(.slice (some ⟨2*h.n,0,none⟩) len (2*len+1),h.new (.cells cells n none)):=by
 unfold sW at hT;split at hT
 case h_2=>cases hT
 rename_i e hu;split at hT
 case h_2=>cases hT
 rename_i zz a1 a2 a3;simp only[aK,bD] at hT;split at hT
 case isFalse=>cases hT
 rename_i hz;cases hT;have e3:(Nat.ble (len*n) mr && z.length == n)=true:=by simp[bI,hz,mr];exact hl
 simp only[buildSlice,hu,a1,a3,e3,bP];cases dF (fun i=>some (i*n,n)) (cj len z) ps<;>rfl
def Uh (place:Nat→Option (Nat×Nat)) (cs:List QQ):dF place cs []=some cs:=rfl
def PH (place:Nat→Option (Nat×Nat)) (cs:List QQ) (i:Nat) (v:QQ) (l:List (Nat×QQ)) :dF place cs ((i,v) :: l)=(place i).bind fun p=>if v.cells.toList.length=p.2∧p.1+p.2≤cs.length then dF place (IH.aI cs p.1 v.cells.toList) l else none:=by
 simp only[dF];cases place i with
 | none=>rfl
 | some p =>
  simp only[ke,aK,eV,bD,bI];simp
theorem GP (z:List QQ):cj 0 z = []:=rfl
theorem AP (n:Nat) (z:List QQ):cj (n+1) z=z ++ cj n z:=rfl
theorem DZ (n:Nat) (v:QQ):cj n [v]=List.replicate n v:=by
 induction n with
 | zero=>rfl
 | succ n ih=>rw[AP,ih,List.replicate_succ];rfl
def iH (hz:aT P t=some z) (ha:dK P t=true) (ps:List (Nat×QQ)):kJ P t ps=(dF (placeOf P t) z ps).map fun cs=>.agg cs.toArray:=by simp[kJ,hz,ha]
variable {fr:Fr}
def jm {fn:FuncId} {nt:Nat} {rd:Option Nat} {a c:Code} {K:Fr→IH→Prop} {Q:cL→Fr→IH→Prop} {b:Bool} (R:Fr→IH→Prop)(h1:b=true→Do (wpC P fn nt rd a fr h) (vy (fun fr h=>Pst (R fr h) nx) Q) nx) (h2:b=false→Do (wpC P fn nt rd c fr h) (vy (fun fr h=>Pst (R fr h) nx) Q) nx) (k : ∀fr h,R fr h→K fr h) :Bq b (Do (wpC P fn nt rd a fr h) (vy K Q) nx,Do (wpC P fn nt rd c fr h) (vy K Q) nx) nx :=
 az (fun hb=>cut R (h1 hb) k) fun hb=>cut R (h2 hb) k
variable {h':IH}
def Bz {o:Op} {x y:IH} (h1:iop P fr o h=some (v,x)) (h2:iop P fr o h'=some (v,y)):jH P fr o h h'=true:=by simp[jH,h1,h2,Na]
def au {a:QY} {av:QQ} (ha:opd fr a=some av) (h1:load P h t av=some v) (h2:load P h' t av=some v):jH P fr (.load t a) h h'=true :=
 Bz (by simp[iop,ha,h1];exact⟨rfl,rfl⟩) (by simp[iop,ha,h2];rfl)
theorem iM (P:QX) {α β:Type} (f:α→Sem β) : ∀s:Sem α,aD P (s.bind f)=(aD P s).bind fun a=>aD P (f a)
 | .pure a=>rfl
 | .program k=>iM P f (k P)
 | .load _ _ _=>rfl
 | .store _ _ _ _=>rfl
 | .new _ _=>rfl
 | .shape _ _=>rfl
 | .freeze _ _ _=>rfl
 | .frozen _ _=>rfl
 | .getObj _ _=>rfl
 | .setObj _ _ _=>rfl
 | .choose _ _=>rfl
 | .sys _ _=>rfl
 | .mark _ _=>rfl
 | .halt _=>rfl
theorem EY (hT:P.underlying t=some .bool) (a b:Bool):aD P (Op.equal t (.bool a) (.bool b))=some (a == b):=by show aD P (Sem.bind (underlying t) _)=_;rw[l6 hT];rfl
def FD (hT:P.underlying t=some .bool) (ox oy:QY) (a b:Bool):binop P .eql t ox oy (.bool a) (.bool b)=some (.bool (a == b)):=by refine fA P t ox oy rfl rfl rfl ?_;show aD P (Sem.bind (Op.equal t (.bool a) (.bool b)) fun r=>Sem.pure (QQ.bool r))=_;rw[iM,EY hT];rfl
def FC (hT:P.underlying t=some .bool) (ox oy:QY) (a b:Bool):binop P .neq t ox oy (.bool a) (.bool b)=some (.bool (!(a == b))):=by refine fA P t ox oy rfl rfl rfl ?_;show aD P (Sem.bind (Op.equal t (.bool a) (.bool b)) fun r=>Sem.pure (QQ.bool (!r)))=_;rw[iM,EY hT];rfl
theorem QH (P:QX) (t:TypeId) (ox oy:QY) {j:IntKind} {a:Nat} (h:a*2 ^ b<18446744073709551616) (hb:b≤64):binop P .shl t ox oy (.int .u64 (a:Int)) (.int j (b:Int))=some (.int .u64 ((a*2 ^ b:Nat):Int)):=by rw[tz P t ox oy byOmega];show some (QQ.int .u64 (IntKind.u64.wrap ((a:Int)*2 ^ min b 64)))=_;rw[lU hb,show(a:Int)*2 ^ b=((a*2 ^ b:Nat):Int) from by simp,gH h]
def Ac {a b:Int} (h:a<b):decide (a<b)=true:=by simpa using h
def Ad {a b:Int} (h : ¬a<b):decide (a<b)=false:=by simpa using h
def XF {a b:Int} (h:a≤b):decide (a≤b)=true:=by simpa using h
def XG {a b:Int} (h : ¬a≤b):decide (a≤b)=false:=by simpa using h
def UC {a b:Int} (h:a=b):(a == b)=true:=by simpa using h
def UD {a b:Int} (h : ¬a=b):(a == b)=false:=by simpa using h
def Ux {a b:Int} (h : ¬a=b):(a != b)=true:=by simpa using h
def Uy {a b:Int} (h:a=b):(a != b)=false:=by simpa using h
def UB (b:Bool):(b == true)=b:=by cases b<;>rfl
def P3 (b:Bool):(b == false) = !b:=by cases b<;>rfl
def TF:(!true)=false:=rfl
def Pb:(!false)=true:=rfl
def Wq (b:Bool):(!(!b))=b:=by cases b<;>rfl
def Xs {α:Type} (a:α):(a=a)=True:=aa
def wpT:=ao @Uh (ao @PH (ao @On (ao @LF (ao @BB (ao @GP (ao @AP (ao @ZcD (ao @ZeK (ao @Zgg (ao @ZgP (ao @ZaK (ao @Nm (ao @Up (ao @ZaI (ao @Ya (ao @ZaJ (ao @Nl (ao @PU (ao @Yz (ao @UK (ao @WJ (ao @TN (ao @Xs (ao @Ac (ao @Ad (ao @XF (ao @XG (ao @UC (ao @UD (ao @Ux (ao @Uy (ao @UB (ao @P3 (ao @TF (ao @Pb (ao @Wq (ao @true_and (@and_true))))))))))))))))))))))))))))))))))))))
section
variable {P:Program}
variable {α:Type}
theorem eo {β:Type} {s:Sem α} {f:α→Sem β} {a:α} (h:aD P s=some a):aD P (s >>= f)=aD P (f a):=by show aD P (s.bind f)=_;rw[iM,h];rfl
theorem zy (a:α):aD P (pure a:Sem α)=some a:=rfl
variable {t:TypeId}
theorem iZ {d:TypeDesc} (h:P.underlying t=some d):aD P (underlying t)=some d:=by have e:aD P (underlying t)=aD P ((match P.underlying t with|some d=>(pure d:Sem TypeDesc)|none=>stuck "no such type")):=rfl;rw[e,h];rfl
variable {e:TypeId}{n:Nat}
theorem GU (h:ba P e=some n):aD P (sizeOf e)=some n:=by simp only[ba,bg] at h;obtain⟨i,hi,rfl⟩:=h;have e2:aD P (sizeOf e)=aD P ((match P.info? e with|some i=>(pure i:Sem TypeInfo)|none=>stuck "no such type").bind fun i=>pure i.size):=rfl;rw[e2,hi];rfl
variable {k:IntKind}
theorem Q2 (he:P.underlying e=some (.int k)) {cs:Array QQ} {off:Nat} {v:QQ} (hv:cs[off]?=some v):aD P (part e cs off)=some v:=by
 unfold part;have h1:aD P (isAgg e)=some false:=by unfold isAgg;rw[eo (iZ he)];rfl
 rw[eo h1];simp only[gv,cH,hv];rfl
theorem Js {j:IntKind} (he:P.underlying e=some (.int j)) (d:Nat) (a b:Int):aD P (Op.equalIn (d+1) e (.int k a) (.int k b))=some (a == b):=by unfold Op.equalIn;rw[eo (iZ he)];simp only[bS];rfl
def M9 (xs ys:List Int) (is:List Nat):Bool:=is.all fun i=>xs[i]? == ys[i]?
theorem V5 {xs ys:List Int} (body:Nat→Option Bool×Unit→Sem (ForInStep (Option Bool×Unit))) (g:Option Bool×Unit→Sem Bool)(hb : ∀i,i<n → ∀r,aD P (body i r)=some (if (xs[i]? == ys[i]?)=true then .yield (none,()) else .done (some false,()))) : ∀is:List Nat,(∀i∈is,i<n) → aD P (forIn is ((none,()):Option Bool×Unit) body >>= g)=aD P (g (if M9 xs ys is=true then (none,()) else (some false,()))):=by
 have assoc : ∀(s:Sem (ForInStep (Option Bool×Unit))) (g1:ForInStep (Option Bool×Unit)→Sem (Option Bool×Unit)) (f2:Option Bool×Unit→Sem Bool),aD P ((s >>= g1) >>= f2)=aD P (s >>= fun x=>g1 x >>= f2):=fun s g1 f2=>by
  show aD P ((s.bind g1).bind f2)=aD P (s.bind fun x=>(g1 x).bind f2);rw[iM,iM,iM];cases aD P s with
  | none=>rfl
  | some a=>simp only[ke];rw[iM]
 intro is
 induction is with
 | nil=>intro _;rfl
 | cons i is ih =>
  intro hi;have h1:=hb i (hi i aa) (none,());rw[List.forIn_cons,assoc,eo h1];have hz:M9 xs ys (i :: is)=((xs[i]? == ys[i]?) && M9 xs ys is):=rfl;rw[hz];cases hc:(xs[i]? == ys[i]?) with
  | true =>
   rw[Bool.true_and,←ih fun j hj=>hi j (by simp[hj])];rfl
  | false =>
   rw[Bool.false_and];rfl
theorem uj (hT:P.underlying t=some (.array n e)) (he:P.underlying e=some (.int k)) (hs:ba P e=some 1) (d:Nat) (xs ys:List Int) (hx:xs.length=n) (hy:ys.length=n) :aD P (Op.equalIn (d+2) t (.agg (xs.map (.int k)).toArray) (.agg (ys.map (.int k)).toArray))=some (decide (xs=ys)):=by
 unfold Op.equalIn;rw[eo (iZ hT)];simp only;rw[eo (GU hs)]
 simp only[Std.Legacy.Range.forIn_eq_forIn_range',Std.Legacy.Range.size,Ay,Nat.add_one_sub_one,C0]
 rw[V5 (n:=n) (xs:=xs) (ys:=ys) _ _ (fun i hin r=>?_) (List.range' 0 n) (fun i hi=>?_)]
 ·have hz:M9 xs ys (List.range' 0 n)=decide (xs=ys):=by
   rw[oQ];simp only[M9,gG,List.mem_range'_1,bD,aJ];constructor
   ·intro h;apply jT;intro i;by_cases hi:i<n
    ·exact h i ⟨dT _,byOmega⟩
    ·rw[cI byOmega,cI byOmega]
   ·rintro rfl i _;rfl
  rw[hz];by_cases h:xs=ys;·simp[h];rfl
  ·simp[h];rfl
 ·have hxi:(xs.map (QQ.int k)).toArray[i*1]?=some (.int k (xs[i]' byOmega)):=by simp[hx,hin]
  have hyi:(ys.map (QQ.int k)).toArray[i*1]?=some (.int k (ys[i]' byOmega)):=by simp[hy,hin]
  rw[eo (Q2 he hxi),eo (Q2 he hyi),eo (Js he d _ _)];rw[bK (show i<xs.length by omega),bK (show i<ys.length by omega)];rw[show(some (xs[i]' byOmega) == some (ys[i]' byOmega))=(xs[i]' byOmega == ys[i]' byOmega) from rfl];cases(xs[i]' byOmega == ys[i]' byOmega)<;>rfl
 ·rw[List.mem_range'_1] at hi;omega
theorem Gm (hT:P.underlying t=some (.array n e)) (he:P.underlying e=some (.int k)) (hs:ba P e=some 1) (hg:P.eqGuardType P.depth t=false) (ox oy:Operand) (xs ys:List Int) (hx:xs.length=n) (hy:ys.length=n) :binop P .eql t ox oy (.agg (xs.map (.int k)).toArray) (.agg (ys.map (.int k)).toArray)=some (.bool (decide (xs=ys))):=by
 have hp : ∀l:List Int,plain (.agg (l.map (QQ.int k)).toArray)=true:=by intro l;simp[plain,ct]
 refine fA P t ox oy (hp _) (hp _) rfl ?_;have h1:aD P (eqGuard .eql t ox oy (.agg (xs.map (.int k)).toArray) (.agg (ys.map (.int k)).toArray))=some ():=by show aD P (if (!P.eqGuardType P.depth t)=true then _ else _)=_;rw[hg];rfl
 rw[eo h1];show aD P (Op.equal t _ _ >>= fun r=>pure (QQ.bool r))=_;have h2:aD P (Op.equal t (.agg (xs.map (.int k)).toArray) (.agg (ys.map (.int k)).toArray))=some (decide (xs=ys)):=uj hT he hs 9998 xs ys hx hy;rw[eo h2];rfl
theorem Gl (hT:P.underlying t=some (.array n e)) (he:P.underlying e=some (.int k)) (hs:ba P e=some 1) (hg:P.eqGuardType P.depth t=false) (ox oy:Operand) (xs ys:List Int) (hx:xs.length=n) (hy:ys.length=n) :binop P .neq t ox oy (.agg (xs.map (.int k)).toArray) (.agg (ys.map (.int k)).toArray)=some (.bool (!decide (xs=ys))):=by
 have hp : ∀l:List Int,plain (.agg (l.map (QQ.int k)).toArray)=true:=by intro l;simp[plain,ct]
 refine fA P t ox oy (hp _) (hp _) rfl ?_;have h1:aD P (eqGuard .neq t ox oy (.agg (xs.map (.int k)).toArray) (.agg (ys.map (.int k)).toArray))=some ():=by show aD P (if (!P.eqGuardType P.depth t)=true then _ else _)=_;rw[hg];rfl
 rw[eo h1];show aD P (Op.equal t _ _ >>= fun r=>pure (QQ.bool (!r)))=_;have h2:aD P (Op.equal t (.agg (xs.map (.int k)).toArray) (.agg (ys.map (.int k)).toArray))=some (decide (xs=ys)):=uj hT he hs 9998 xs ys hx hy;rw[eo h2];rfl
end
def rJ (h:IH) (sz:Nat) (v:QQ) (n:Nat) (cs:List QQ):Prop :=
 0<sz∧cs.length=n*sz∧((v=.slice none 0 0∧n=0) ∨ ∃b o k,v=.slice (some ⟨b,o,none⟩) n k∧(n=0 ∨ ∃row,h.row b=some row∧(row.drop o).take (n*sz)=cs∧o+n*sz≤row.length))
variable {h:IH}{n:Nat}{v:QQ}{sz:Nat}{cs:List QQ}
def cA.now (s:cA h sz v n cs):rJ h sz v n cs:=by
 obtain⟨hz,hl,s|⟨b,o,k,rfl,s⟩⟩:=s;·exact⟨hz,hl,.inl s⟩
 ·refine⟨hz,hl,.inr ⟨b,o,k,rfl,?_⟩⟩;rcases s with⟨h1,_⟩|⟨_,_,row,_,h1,h2,h3⟩
  ·exact .inl h1
  ·exact .inr ⟨row,h1,h2,h3⟩
def rJ.form (s:rJ h sz v n cs) : ∃a k,v=.slice a n k:=by
 obtain⟨hz,hl,⟨rfl,rfl⟩|⟨b,o,k,rfl,s⟩⟩:=s;·exact⟨_,_,rfl⟩
 ·exact⟨_,_,rfl⟩
variable {e:TypeId}{P:Program}{t:TypeId}
def GF (hu:P.underlying t=some (.array n e)) (hs:ba P e=some sz) (hn:0<n) (h:IH) (b o:Nat):dY P h t (ptr b o) none none none=some (.slice (some ⟨b,o,none⟩) n (2*n+1)):=by have h1:(2*n+1) / 2=n:=byOmega;have h2:(2*n+1 == 0)=false:=aa;have h3:(0 == n)=false:=bq;have h4:((2*n+1) % 2 == 1)=true:=aa;simp only[dY,hu,hs,asAddr,ptr,fT,jn,W6,MM,h1,h2,h3,h4,bP,dL,Bool.true_or];simp
variable {k o:Nat}
def ZaU {b:Nat} {row:List QQ} (hr:h.row b=some row) (hz:0<sz) (hl:cs.length=n*sz) (h1:(row.drop o).take (n*sz)=cs) (h2:o+n*sz≤row.length):rJ h sz (.slice (some ⟨b,o,none⟩) n k) n cs :=
 ⟨hz,hl,.inr ⟨b,o,k,rfl,.inr ⟨row,hr,h1,h2⟩⟩⟩
def BQ (hu:P.underlying t=some (.slice e)) (ox oy:Operand) (b o:Nat) (n k:Nat):binop P .eql t ox oy (.slice (some ⟨b,o,none⟩) n k) (.slice none 0 0)=some (.bool false):=by have h1:plain (.slice (some ⟨b,o,none⟩) n k)=false:=rfl;simp only[binop,h1,Bool.false_and,dL,zM,hu,yp,jt]
def Mv (hu:P.underlying t=some (.slice e)) (ox oy:Operand):binop P .eql t ox oy (.slice none 0 0) (.slice none 0 0)=some (.bool true):=by
 refine fA P t ox oy rfl rfl rfl ?_;show aD P (Op.equal t _ _ >>= fun r=>pure (QQ.bool r))=_;have h2:aD P (Op.equal t (.slice none 0 0) (.slice none 0 0))=some true:=by show aD P (Op.equalIn 10000 t _ _)=_;unfold Op.equalIn;rw[eo (iZ hu)];rfl
 rw[eo h2];rfl
variable {m:Nat}
def oF {bytes:Nat} (hT:mR P t=some (sz,bytes)) (h:IH) {x:QQ} {new:List QQ} (sx:rJ h sz x m new) (hm:0<m) (hc:new.all aM=true) (hsz:m*(bytes+1)≤1099511627776) (b o:Nat) :
  append P h t (.slice (some ⟨b,o,none⟩) 0 1) x=some (.slice (some ⟨2*h.n,0,none⟩) m (2*m),h.new (.cells new sz none)):=by
 unfold mR at hT;split at hT
 case h_2=>cases hT
 rename_i e hu;split at hT
 case h_2=>cases hT
 rename_i zs h1 h2 h3;simp only[aK] at hT;split at hT
 case isTrue=>cases hT
 rename_i J3;cases hT;have qE:(sz == 0 || (!(Nat.ble bytes 65536) || !(zs.length == sz)))=false:=by simpa using J3
 obtain⟨hz,hl,⟨rfl,rfl⟩|⟨b2,o2,k2,rfl,rfl|⟨row,a1,a2,a3⟩⟩⟩:=sx;·omega
 ·omega
 have hms : ¬m*sz=0:=by have:0<m*sz:=kf hm hz;omega
 have Bb:(m == 0)=false:=bq
 have nF:cN h sz m (.slice (some ⟨b2,o2,none⟩) m k2)=some new:=by
  simp only[cN,aK,bI,ar,bS,bD,ad hms]
  rw[zq a1,ah a3,a2]
 have yB:Nat.ble (m*(bytes+1)) bh=true:=by rw[bI];exact hsz
 have qS:Nat.ble m (1 / 2)=false:=by
  rw[oR];intro hh;rw[bI] at hh;omega
 have qR:(1 % 2 == 1)=true:=rfl;have Zar:cN h sz 0 (.slice (some ⟨b,o,none⟩) 0 1)=some []:=by simp[cN];rfl
 simp only[Id.append,hu,h1,h2,h3,lenOf,Bb,qE,nF,hc,yB,qS,qR,Zar,bP,dL,lW,mz,eu]
def copy_eq (hu:P.underlying t=some (.slice e)) (hS:ba P e=some sz) {dn c:Nat} {e2:Nat} (hg:h.ext.get k=some (.cells cs e2 none)) {s:QQ} {sn:Nat} {ss:List QQ} (hs:rJ h sz s sn ss) (hc:ss.all aM=true)(zS:0<min sn dn) (hl:o+min sn dn*sz≤cs.length) (ts:Array TypeId) (ht:ts[0]?=some t) :builtin P h .copy ts [.slice (some ⟨2*k,o,none⟩) dn c,s]=some (.int .i64 ((min sn dn:Nat):Int),h.put k (.cells (IH.aI cs o (ss.take (min sn dn*sz))) e2 none)):=by
 obtain⟨hz,hln,⟨rfl,rfl⟩|⟨b2,o2,k2,rfl,rfl|⟨row,a1,a2,a3⟩⟩⟩:=hs;·simp at zS
 ·simp at zS
 have hm:Nat.min sn dn=min sn dn:=rfl;generalize hmm:min sn dn=m at *;have hmn:m≤sn:=byOmega;have hms : ¬m*sz=0:=by have:0<m*sz:=kf zS hz;omega
 have hmle:m*sz≤sn*sz:=cT _ hmn
 have hrd:h.rd b2 o2 (m*sz)=some (ss.take (m*sz)):=by
  have hle:o2+m*sz≤row.length:=byOmega
  rw[zq a1,←a2,C9,lU hmle]
  exact ah hle
 have nF:cN h sz m (.slice (some ⟨b2,o2,none⟩) sn k2)=some (ss.take (m*sz)):=by
  have hb:Nat.ble m sn=true:=by rw[bI];exact hmn
  simp only[cN,hb,aK,bD,ad hms,hrd,bS]
 have hlen:(ss.take (m*sz)).length=m*sz:=by rw[iT];omega
 have hne:(ss.take (m*sz)).isEmpty=false:=by
  cases hx:ss.take (m*sz) with
  | nil=>rw[hx] at hlen;simp at hlen;omega
  | cons a b=>rfl
 have hc2:(ss.take (m*sz)).all aM=true:=by rw[gG] at hc ⊢;intro x hx;exact hc x (AB hx)
 have h1:(2*k % 2 == 1)=false:=aa;have h2:2*k / 2=k:=byOmega
 have h3:Nat.ble (o+(ss.take (m*sz)).length) cs.length=true:=by rw[bI,hlen];exact hl
 simp only[builtin,ht,yG,hu,lenOf,hS,hm,nF,hne,hc2,IH.wr,h1,h2,hg,h3,bP,dL,lW,jt]
 rfl
def Am (hz:0<sz) (hl:cs.length=m*sz) (hm:0<m):Acc (h.new (.cells cs sz none)) h.n sz (.slice (some ⟨2*h.n,0,none⟩) m (2*m)) m cs :=
 ⟨hz,hl,.inr ⟨h.n,none,rfl,hm,ar _,aa,aq _ _ rfl,trivial⟩⟩
theorem Acc.from {n0 n1:Nat} (a:Acc h n1 sz v n cs) (hn:n0≤n1):Acc h n0 sz v n cs:=by
 obtain⟨hz,hl,a|⟨k,fam,rfl,hn2,h1,h2,h3,h4⟩⟩:=a;·exact⟨hz,hl,.inl a⟩
 ·refine⟨hz,hl,.inr ⟨k,fam,rfl,hn2,byOmega,h2,h3,?_⟩⟩;cases fam with
  | none=>trivial
  | some f =>
   obtain⟨a1,a2,rest,a3,a4⟩:=h4;exact⟨byOmega,a2,rest,a3,fun j hj=>by have:=a4 j hj;omega⟩
noncomputable def asc:List (QQ×QQ)→QQ→Option QQ
 | [],_=>none
 | e :: l,k=>@ite _ (e.1=k) (Classical.propDecidable _) (some e.2) (asc l k)
section
variable {P:Program}
end
def Fx (r:kN):kN:={ r with state:=.busy }
variable {k:Nat}{h:IH}
def jL {r:kN} (hg:h.ext.get k=some (.loop r)):ja h k=some r:=by simp[ja,hg]
structure Mem (m:Nat) (h h':IH):Prop where
 n:h.n≤h'.n
 base:h'.base=h.base
 get : ∀k,k<h.n→k≠m→h'.ext.get k=h.ext.get k
 cZ : ∀f,f<h.n→h'.cZ.get f=h.cZ.get f
def Ext.mem {h':IH} (e:Ext h h') (m:Nat):Mem m h h':=⟨e.n,e.base,fun k hk _=>e.get k hk,e.cZ⟩
def Mem.put {m:Nat} {a b:IH} (x:Mem m a b) (hk:a.n≤k∨k=m) (o:cB):Mem m a (b.put k o) :=
 ⟨x.n,x.base,fun j hj hm=>by rw[lK,ad byOmega];exact x.get j hj hm,x.cZ⟩

end Go.Id
