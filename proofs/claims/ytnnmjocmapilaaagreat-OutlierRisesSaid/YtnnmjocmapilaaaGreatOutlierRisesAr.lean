/-
  The ideal machine once more, written for the kernel: by recursors, each alternative a cons
-/
import Derived.Test.YtnnmjocmapilaaaGreatOutlierRisesAq
set_option linter.unusedVariables false
set_option linter.unusedSimpArgs false
set_option linter.defProp false
set_option linter.deprecated false
namespace Go.Id
open Go
noncomputable section
def fN {α:Type} (x:Nat) (k:Nat→α):α:=Nat.rec (motive:=fun _=>α) (k 0) (fun m _=>k (Nat.succ m)) x
variable {α:Type}
theorem dX (x:Nat) (k:Nat→α):fN x k=k x:=by cases x<;>rfl
def bO {α β:Type} (o:Option α) (k:α→Option β):Option β:=Option.rec (motive:=fun _=>Option β) none k o
@[simp] theorem a8 {α β:Type} (a:α) (k:α→Option β):bO (some a) k=k a:=rfl
@[simp] theorem Zdh {α β:Type} (k:α→Option β):bO none k=none:=rfl
def iB {α:Type} (b:Bool) (x y:α):α:=Bool.rec (motive:=fun _=>α) y x b
theorem eG (b:Bool) (x y:α):iB b x y=cond b x y:=by cases b<;>rfl
variable {a b:Nat}
@[simp] theorem zh {α:Type} (x y:α):iB true x y=x:=rfl
@[simp] theorem rG {α:Type} (x y:α):iB false x y=y:=rfl
theorem rS :Nat.ble a b=true↔a≤b:=by rw[Nat.ble_eq]
theorem lz (a b:Nat):(a == b)=Nat.beq a b:=by
 rw[Bool.eq_iff_iff];simp[Nat.beq_eq]
def vX (fr:Fr) (t:Nat):Option Value:=List.rec (motive:=fun _=>Option Value) none (fun p _ ih=>Bool.rec (motive:=fun _=>Option Value) ih (some p.2) (Nat.beq p.1 t)) fr
theorem oW : ∀(fr:Fr) (t:Nat),vX fr t=ab fr t
 | [],_=>rfl
 | (s,v) :: r,t=>by
  show Bool.rec (motive:=fun _=>Option Value) (vX r t) (some v) (Nat.beq s t)=bif s == t then some v else ab r t
  rw[oW r t,lz]
  cases Nat.beq s t<;>rfl
def Rg (nt:Nat) (fr:Fr) (d:Option Nat) (v:Value):Option Fr:=Option.rec (motive:=fun _=>Option Fr) (some fr) (fun d=>Bool.rec (motive:=fun _=>Option Fr) none (some ((d,v) :: fr)) (Nat.ble (Nat.succ d) nt)) d
theorem Ez (nt:Nat) (fr:Fr) (d:Option Nat) (v:Value):Rg nt fr d v=nh nt fr d v:=by
 cases d with
 | none=>rfl
 | some d =>
  show Bool.rec (motive:=fun _=>Option Fr) none (some ((d,v) :: fr)) (Nat.ble (Nat.succ d) nt)=bif Nat.blt d nt then some ((d,v) :: fr) else none
  rw[show Nat.blt d nt=Nat.ble (Nat.succ d) nt from rfl]
  cases Nat.ble (Nat.succ d) nt<;>rfl
def Yg (t:Tmp) (fr:Fr):Option Value:=vX fr t
def Rs (v:Value) (_:Fr):Option Value:=Bool.rec (motive:=fun _=>Option Value) none (some v) (plain v)
def OB (g:Nat) (_:Fr):Option Value:=bif Nat.blt g 4294967296 then some (.pointer (some ⟨2*g+1,0,none⟩)) else none
def UT (f:FuncId) (_:Fr):Option Value:=some (.func (.func f) #[] #[])
def cV (x:Operand) (fr:Fr):Option Value:=Operand.rec (motive:=fun _=>Fr→Option Value) Yg Rs OB UT x fr
theorem cA (x:Operand) (fr:Fr):cV x fr=opd fr x:=by
 cases x with
 | tmp t=>exact oW fr t
 | const v =>
  show Bool.rec (motive:=fun _=>Option Value) none (some v) (plain v)=bif plain v then some v else none
  cases plain v<;>rfl
 | global g=>rfl
 | func f=>rfl
def Aw (l:List Operand) (fr:Fr):Option (List Value):=List.rec (motive:=fun _=>Option (List Value)) (some []) (fun x _ ih=>bO (cV x fr) fun v=>bO ih fun vs=>some (v :: vs)) l
theorem Av : ∀(l:List Operand) (fr:Fr),Aw l fr=gL fr l
 | [],_=>rfl
 | x :: l,fr=>by
  show bO (cV x fr) (fun v=>bO (Aw l fr) fun vs=>some (v :: vs))=_
  rw[cA,Av l fr,gL]
  cases opd fr x<;>cases gL fr l<;>rfl
def uR {α:Type} (t:Tr α) (n:Nat):Option α:=Tr.rec (motive:=fun _=>Nat→Option α) (fun _=>none) (fun _ v _ gl gr n=>Bool.rec (motive:=fun _=>Option α) (Bool.rec (motive:=fun _=>Option α) (gr (Nat.div (Nat.sub n 1) 2)) (gl (Nat.div n 2)) (Nat.beq (Nat.mod n 2) 1)) v (Nat.beq n 0)) t n
theorem mu : ∀(t:Tr α) (n:Nat),uR t n=t.get n
 | .leaf,_=>rfl
 | .node l v r,n=>by
  show Bool.rec (motive:=fun _=>Option α) (Bool.rec (motive:=fun _=>Option α) (uR r (Nat.div (Nat.sub n 1) 2)) (uR l (Nat.div n 2)) (Nat.beq (Nat.mod n 2) 1)) v (Nat.beq n 0)=bif n == 0 then v else bif n % 2 == 1 then l.get (n / 2) else r.get ((n - 1) / 2)
  rw[mu l,mu r,lz,lz]
  show Bool.rec (motive:=fun _=>Option α) (Bool.rec (motive:=fun _=>Option α) (r.get ((n - 1) / 2)) (l.get (n / 2)) (Nat.beq (n % 2) 1)) v (Nat.beq n 0)=_
  cases Nat.beq n 0<;>cases Nat.beq (n % 2) 1<;>rfl
def D6 {α β:Type} (x:α) (f n:Nat) (k:Tr α→β):β:=Nat.rec (motive:=fun _=>Nat→(Tr α→β)→β) (fun _ k=>k (.node .leaf (some x) .leaf)) (fun _ ih n k=>Bool.rec (motive:=fun _=>β) (Bool.rec (motive:=fun _=>β) (fN (Nat.div (Nat.sub n 1) 2) fun m=>ih m fun t=>k (.node .leaf none t)) (fN (Nat.div n 2) fun m=>ih m fun t=>k (.node t none .leaf)) (Nat.beq (Nat.mod n 2) 1)) (k (.node .leaf (some x) .leaf)) (Nat.beq n 0)) f n k
variable {β:Type}
theorem wN (x:α) : ∀(f n:Nat) (k:Tr α→β),D6 x f n k=k (Tr.one f n x)
 | 0,_,_=>rfl
 | f+1,n,k=>by
  show Bool.rec (motive:=fun _=>β) (Bool.rec (motive:=fun _=>β) (fN (Nat.div (Nat.sub n 1) 2) fun m=>D6 x f m fun t=>k (.node .leaf none t)) (fN (Nat.div n 2) fun m=>D6 x f m fun t=>k (.node t none .leaf)) (Nat.beq (Nat.mod n 2) 1)) (k (.node .leaf (some x) .leaf)) (Nat.beq n 0)=_
  rw[dX,dX,wN x f,wN x f,Tr.one,lz,lz]
  show Bool.rec (motive:=fun _=>β) (Bool.rec (motive:=fun _=>β) (k (.node .leaf none (Tr.one f ((n - 1) / 2) x))) (k (.node (Tr.one f (n / 2) x) none .leaf)) (Nat.beq (n % 2) 1)) (k (.node .leaf (some x) .leaf)) (Nat.beq n 0)=_
  cases Nat.beq n 0<;>cases Nat.beq (n % 2) 1<;>rfl
def mr {α β:Type} (x:α) (t:Tr α) (n:Nat) (k:Tr α→β):β:=Tr.rec (motive:=fun _=>Nat→(Tr α→β)→β) (fun n k=>D6 x n n k) (fun l v r sl sr n k=>Bool.rec (motive:=fun _=>β) (Bool.rec (motive:=fun _=>β) (fN (Nat.div (Nat.sub n 1) 2) fun m=>sr m fun r=>k (.node l v r)) (fN (Nat.div n 2) fun m=>sl m fun l=>k (.node l v r)) (Nat.beq (Nat.mod n 2) 1)) (k (.node l (some x) r)) (Nat.beq n 0)) t n k
theorem kT (x:α) : ∀(t:Tr α) (n:Nat) (k:Tr α→β),mr x t n k=k (t.set n x)
 | .leaf,n,k=>wN x n n k
 | .node l v r,n,k=>by
  show Bool.rec (motive:=fun _=>β) (Bool.rec (motive:=fun _=>β) (fN (Nat.div (Nat.sub n 1) 2) fun m=>mr x r m fun r=>k (.node l v r)) (fN (Nat.div n 2) fun m=>mr x l m fun l=>k (.node l v r)) (Nat.beq (Nat.mod n 2) 1)) (k (.node l (some x) r)) (Nat.beq n 0)=_
  rw[dX,dX,kT x r,kT x l,Tr.set,lz,lz]
  show Bool.rec (motive:=fun _=>β) (Bool.rec (motive:=fun _=>β) (k (.node l v (r.set ((n - 1) / 2) x))) (k (.node (l.set (n / 2) x) v r)) (Nat.beq (n % 2) 1)) (k (.node l (some x) r)) (Nat.beq n 0)=_
  cases Nat.beq n 0<;>cases Nat.beq (n % 2) 1<;>rfl
def xk {β:Type} (l:List Value) (k:List Value→β):β:=List.rec (motive:=fun _=>(List Value→β)→β) (fun k=>k []) (fun a _ ih k=>ih fun r=>k (a :: r)) l k
theorem oU : ∀(l:List Value) (k:List Value→β),xk l k=k l
 | [],_=>rfl
 | _ :: l,_=>oU l _
def Dq (n:Nat) (l:List Value):List Value:=Nat.rec (motive:=fun _=>List Value→List Value) (fun l=>l) (fun _ ih l=>List.rec (motive:=fun _=>List Value) [] (fun _ l _=>ih l) l) n l
theorem rP : ∀(n:Nat) (l:List Value),Dq n l=l.drop n
 | 0,_=>rfl
 | n+1,[]=>rfl
 | n+1,_ :: l=>rP n l
def LC (n:Nat) (l:List Value):Option (List Value):=Nat.rec (motive:=fun _=>List Value→Option (List Value)) (fun _=>some []) (fun _ ih l=>List.rec (motive:=fun _=>Option (List Value)) none (fun a l _=>bO (ih l) fun r=>some (a :: r)) l) n l
theorem GH : ∀(n:Nat) (l:List Value),LC n l=bif Nat.ble n l.length then some (l.take n) else none
 | 0,_=>rfl
 | n+1,[]=>rfl
 | n+1,a :: l=>by
  show bO (LC n l) (fun r=>some (a :: r))=_
  rw[GH n l]
  show _=bif Nat.ble n l.length then some (a :: l.take n) else none
  cases Nat.ble n l.length<;>rfl
def Wb (n:Nat) (l:List Value):List Value:=Nat.rec (motive:=fun _=>List Value→List Value) (fun _ => []) (fun _ ih l=>List.rec (motive:=fun _=>List Value) [] (fun a l _=>a :: ih l) l) n l
def GG : ∀(n:Nat) (l:List Value),Wb n l=l.take n
 | 0,_=>rfl
 | n+1,[]=>rfl
 | n+1,a :: l=>congrArg (a :: ·) (GG n l)
def RC (n:Nat) (l:List Value):Option Value:=List.rec (motive:=fun _=>Option Value) none (fun a _ _=>some a) (Dq n l)
def EO (n:Nat) (l:List Value):RC n l=l[n]?:=by
 unfold RC
 rw[rP,←List.head?_drop]
 cases l.drop n<;>rfl
def yO (l m:List Value):List Value:=List.rec (motive:=fun _=>List Value) m (fun a _ ih=>a :: ih) l
theorem zn : ∀(l m:List Value),yO l m=l ++ m
 | [],_=>rfl
 | a :: l,m=>congrArg (a :: ·) (zn l m)
def AL (l:List Value):Nat:=List.rec (motive:=fun _=>Nat) 0 (fun _ _ ih=>Nat.succ ih) l
theorem kK : ∀(l:List Value),AL l=l.length
 | []=>rfl
 | _ :: l=>congrArg Nat.succ (kK l)
def VS (p:Value→Bool) (l:List Value):Bool:=List.rec (motive:=fun _=>Bool) true (fun a _ ih=>Bool.rec (motive:=fun _=>Bool) false ih (p a)) l
theorem FX (p:Value→Bool) : ∀(l:List Value),VS p l=l.all p
 | []=>rfl
 | a :: l=>by
  show Bool.rec (motive:=fun _=>Bool) false (VS p l) (p a)=_
  rw[FX p l,List.all_cons]
  cases p a<;>rfl
def Mq (vs cs:List Value):Option (List Value):=List.rec (motive:=fun _=>List Value→Option (List Value)) (fun cs=>some cs) (fun v _ ih cs=>List.rec (motive:=fun _=>Option (List Value)) none (fun _ l _=>bO (ih l) fun r=>some (v :: r)) cs) vs cs
theorem Hn : ∀(vs cs:List Value),Mq vs cs=bif Nat.ble vs.length cs.length then some (vs ++ cs.drop vs.length) else none
 | [],_=>rfl
 | _ :: _,[]=>rfl
 | v :: vs,c :: cs=>by
  show bO (Mq vs cs) (fun r=>some (v :: r))=bif Nat.ble vs.length cs.length then some (v :: (vs ++ cs.drop vs.length)) else none
  rw[Hn vs cs]
  cases Nat.ble vs.length cs.length<;>rfl
def uZ (o:Nat) (vs cs:List Value):Option (List Value):=Nat.rec (motive:=fun _=>List Value→Option (List Value)) (fun cs=>Mq vs cs) (fun _ ih cs=>List.rec (motive:=fun _=>Option (List Value)) none (fun a l _=>bO (ih l) fun r=>some (a :: r)) cs) o cs
theorem pB (vs:List Value) : ∀(o:Nat) (cs:List Value),uZ o vs cs=bif Nat.ble (o+vs.length) cs.length then some (IH.aJ cs o vs) else none
 | 0,cs=>by
  show Mq vs cs=_
  rw[Hn,Nat.zero_add]
  show _=bif Nat.ble vs.length cs.length then some (cs.take 0 ++ (vs ++ cs.drop (0+vs.length))) else none
  rw[Nat.zero_add,List.take_zero];rfl
 | o+1,[]=>by
  rw[show o+1+vs.length=(o+vs.length)+1 from by omega];rfl
 | o+1,c :: cs=>by
  show bO (uZ o vs cs) (fun r=>some (c :: r))=_
  rw[pB vs o cs,show o+1+vs.length=(o+vs.length)+1 from by omega]
  show _=bif Nat.ble (o+vs.length) cs.length then some (IH.aJ (c :: cs) (o+1) vs) else none
  rw[show IH.aJ (c :: cs) (o+1) vs=c :: IH.aJ cs o vs from by simp[IH.aJ,show o+1+vs.length=(o+vs.length)+1 from by omega]]
  cases Nat.ble (o+vs.length) cs.length<;>rfl
def Ma (n:Nat) (z:List Value):List Value:=Nat.rec (motive:=fun _=>List Value) [] (fun _ ih=>yO z ih) n
theorem Al (z:List Value) : ∀n,Ma n z=bB n z
 | 0=>rfl
 | n+1=>by
  show yO z (Ma n z)=_
  rw[zn,Al z n];rfl
def pX (v:Value):List Value:=match v with
 | .agg cs=>cs.toList
 | v => [v]
def xq (v:Value):pX v=v.cells.toList:=by cases v<;>rfl
def Tn (v:Value):Bool:=match v with
 | .agg _=>false
 | .tuple _=>false
 | _=>true
def IA:Tn=aB:=by funext v;cases v<;>rfl
def cellsOf (o:bI):Option (List Value):=match o with
 | .cells cs _ _=>some cs
 | _=>none
def Uz (h:IH) (b:Nat):Option (List Value):=Bool.rec (motive:=fun _=>Option (List Value)) (bO (uR h.ext (Nat.div b 2)) cellsOf) (h.base (Nat.div b 2)) (Nat.beq (Nat.mod b 2) 1)
theorem LZ (h:IH) (b:Nat):Uz h b=h.row b:=by
 unfold Uz IH.row
 rw[lz,mu]
 show Bool.rec (motive:=fun _=>Option (List Value)) (bO (h.ext.get (b / 2)) cellsOf) (h.base (b / 2)) (Nat.beq (b % 2) 1)=_
 cases Nat.beq (b % 2) 1
 ·show bO (h.ext.get (b / 2)) cellsOf=match h.ext.get (b / 2) with|some (.cells cs _ _)=>some cs|_=>none
  cases h.ext.get (b / 2) with
  | none=>rfl
  | some o=>cases o<;>rfl
 ·rfl
variable {n:Nat}
def Ya {cs:List Value} {o:Nat}:(bif Nat.ble (o+n) cs.length then some ((cs.drop o).take n) else none:Option (List Value))=if n=0 then (bif Nat.ble o cs.length then some [] else none) else LC n (cs.drop o):=by
 rw[GH,List.length_drop]
 split
 ·subst n;rfl
 ·have e:Nat.ble (o+n) cs.length=Nat.ble n (cs.length - o):=by
   rw[Bool.eq_iff_iff];simp only[Nat.ble_eq];omega
  rw[e]
def rd1 (h:IH) (b o:Nat):Option Value:=bO (Uz h b) fun cs=>RC o cs
def Yb (h:IH) (b o:Nat):rd1 h b o=(h.rd b o 1).bind (·.head?):=by
 unfold rd1 IH.rd
 rw[LZ]
 cases h.row b with
 | none=>rfl
 | some cs =>
  simp only[a8,EO]
  by_cases hl:o<cs.length
  ·rw[show Nat.ble (o+1) cs.length=true from rS.2 hl]
   simp only[cond_true,Option.bind_some,List.head?_take,List.head?_drop]
   simp
  ·rw[show Nat.ble (o+1) cs.length=false from by rw[Bool.eq_false_iff];simp only[ne_eq,Nat.ble_eq];omega]
   simp[List.getElem?_eq_none (Nat.le_of_not_lt hl)]
def rdN (h:IH) (b o n:Nat):Option (List Value):=bO (Uz h b) fun cs=>LC n (Dq o cs)
theorem Q8 (h:IH) (b o n:Nat) (hn:n≠0):rdN h b o n=h.rd b o n:=by
 unfold rdN IH.rd
 rw[LZ]
 cases h.row b with
 | none=>rfl
 | some cs =>
  simp only[a8,rP]
  exact((Ya (cs:=cs) (o:=o) (n:=n)).trans (if_neg hn)).symm
def ME (P:Program) (h:IH) (t:TypeId) (v:Value):Option Value:=match v with
 | .pointer (some ⟨b,o,none⟩)=>bO (bh P t) fun g=>iB g (bO (aO P t) fun n=>bO (iB (Nat.beq n 0) (h.rd b o n) (rdN h b o n)) fun l=>some (Value.agg ⟨l⟩)) (rd1 h b o)
 | _=>none
def HS (P:Program) (h:IH) (t:TypeId) (v:Value):ME P h t v=load P h t v:=by
 unfold ME load
 split
 ·rename_i b o
  rw[show asAddr (.pointer (some ⟨b,o,none⟩))=some (b,o) from rfl]
  cases bh P t with
  | none=>cases aO P t<;>rfl
  | some g =>
   cases g with
   | false=>simp only[a8,rG,Yb]
   | true =>
    simp only[a8,zh]
    cases aO P t with
    | none=>rfl
    | some n =>
     simp only[a8]
     have e:iB (Nat.beq n 0) (h.rd b o n) (rdN h b o n)=h.rd b o n:=by
      by_cases hn:n=0
      ·subst hn;rfl
      ·rw[Q8 h b o n hn,eG];cases Nat.beq n 0<;>rfl
     rw[e]
     cases h.rd b o n<;>rfl
 ·rename_i hv
  have:asAddr v=none:=by
   unfold asAddr
   split
   ·exact absurd rfl (hv _ _)
   ·rfl
  rw[this]
def OR {β:Type} (h:IH) (o:bI) (k:Nat→IH→β):β:=IH.rec (motive:=fun _=>β) (fun base n ext bP=>fN n fun n=>mr o ext n fun e=>k n ⟨base,Nat.succ n,e,bP⟩) h
theorem y9 (h:IH) (o:bI) (k:Nat→IH→β):OR h o k=k h.n (h.new o):=by
 obtain⟨base,n,ext,bP⟩:=h
 show(fN n fun n=>mr o ext n fun e=>k n ⟨base,Nat.succ n,e,bP⟩)=_
 rw[dX,kT];rfl
def Jr {β:Type} (h:IH) (b:Nat) (o:bI) (k:IH→β):β:=IH.rec (motive:=fun _=>β) (fun base n ext bP=>fN b fun b=>mr o ext b fun e=>k ⟨base,n,e,bP⟩) h
def Et (h:IH) (b:Nat) (o:bI) (k:IH→β):Jr h b o k=k { h with ext:=h.ext.set b o }:=by
 obtain⟨base,n,ext,bP⟩:=h
 show(fN b fun b=>mr o ext b fun e=>k ⟨base,n,e,bP⟩)=_
 rw[dX,kT]
def wrF (h:IH) (b o:Nat) (vs:List Value):Option IH:=iB (Nat.beq (Nat.mod b 2) 1) none (bO (uR h.ext (Nat.div b 2)) fun ob=>match ob with
 | .cells cs t none=>bO (uZ o vs cs) fun cs=>Jr h (Nat.div b 2) (.cells cs t none) some
 | .cells _ _ (some _)=>h.wr b o vs
 | _=>none)
def Qa (h:IH) (b o:Nat) (vs:List Value):wrF h b o vs=h.wr b o vs:=by
 unfold wrF
 rw[mu]
 show iB (Nat.beq (b % 2) 1) none (bO (h.ext.get (b / 2)) _)=_
 cases hb:Nat.beq (b % 2) 1
 ·rw[rG]
  cases hg:h.ext.get (b / 2) with
  | none =>
   unfold IH.wr
   rw[lz,hb,hg];rfl
  | some ob =>
   rw[a8]
   split
   ·unfold IH.wr
    rw[lz,hb,hg]
    simp only[cond_false,pB]
    rename_i cs t
    cases Nat.ble (o+vs.length) cs.length
    ·rfl
    ·simp only[cond_true,a8,Et];rfl
   ·rfl
   ·unfold IH.wr
    rw[lz,hb,hg]
    simp only[cond_false]
    split
    ·rename_i h1 h2 _ _ _ _ h4
     cases h4
     rename_i fam
     cases fam
     ·exact absurd rfl (h1 _ _)
     ·exact absurd rfl (h2 _ _ _)
    ·rfl
 ·rw[zh]
  unfold IH.wr
  rw[lz,hb];rfl
def Jg (P:Program) (h:IH) (t:TypeId) (a v:Value):Option IH:=match a with
 | .pointer (some ⟨b,o,none⟩)=>bO (aO P t) fun n=>iB (Nat.beq (AL (pX v)) n) (iB (VS Tn (pX v)) (wrF h b o (pX v)) none) none
 | _=>none
def N5 (P:Program) (h:IH) (t:TypeId) (a v:Value):Jg P h t a v=store P h t a v:=by
 unfold Jg store
 split
 ·rename_i b o
  show _=match some (b,o),aO P t with|some (b,o),some n=>(bif v.cells.size == n && v.cells.toList.all aB then h.wr b o v.cells.toList else none)|_,_=>none
  cases aO P t with
  | none=>rfl
  | some n =>
   simp only[a8,xq,kK,FX,IA,Qa,eG,lz,Array.length_toList]
   cases Nat.beq v.cells.size n<;>cases v.cells.toList.all aB<;>rfl
 ·rename_i hv
  have:asAddr a=none:=by
   unfold asAddr
   split
   ·exact absurd rfl (hv _ _)
   ·rfl
  rw[this]
def yL (k:IntKind):Nat:=IntKind.rec (motive:=fun _=>Nat) 128 32768 2147483648 9223372036854775808 256 65536 4294967296 18446744073709551616 k
variable {k:IntKind}
theorem oA (h:n<yL k):k.wrap (n:Int)=n:=by
 cases k
 ·exact IntWalk.i8_in _ (by simp only[yL] at h;omega)
 ·exact IntWalk.i16_in _ (by simp only[yL] at h;omega)
 ·exact IntWalk.i32_in _ (by simp only[yL] at h;omega)
 ·exact IntWalk.i64_in _ (by simp only[yL] at h;omega)
 ·exact IntWalk.u8_in _ (by simp only[yL] at h;omega)
 ·exact IntWalk.u16_in _ (by simp only[yL] at h;omega)
 ·exact IntWalk.u32_in _ (by simp only[yL] at h;omega)
 ·exact IntWalk.u64_in _ (by simp only[yL] at h;omega)
def okI (k:IntKind) (n:Nat):Option Value:=fN n fun s=>iB (Nat.ble (Nat.succ s) (yL k)) (some (.int k (.ofNat s))) none
def addF (k:IntKind) (a b:Nat):Option Value:=okI k (Nat.add a b)
def subF (k:IntKind) (a b:Nat):Option Value:=iB (Nat.ble b a) (okI k (Nat.sub a b)) none
def mulF (k:IntKind) (a b:Nat):Option Value:=okI k (Nat.mul a b)
def quoF (k:IntKind) (a b:Nat):Option Value:=iB (Nat.beq b 0) none (okI k (Nat.div a b))
def remF (k:IntKind) (a b:Nat):Option Value:=iB (Nat.beq b 0) none (okI k (Nat.mod a b))
def noF (_:IntKind) (_ _:Nat):Option Value:=none
def eqlF (_:IntKind) (a b:Nat):Option Value:=some (.bool (Nat.beq a b))
def neqF (_:IntKind) (a b:Nat):Option Value:=some (.bool (not (Nat.beq a b)))
def lssF (_:IntKind) (a b:Nat):Option Value:=some (.bool (Nat.ble (Nat.succ a) b))
def leqF (_:IntKind) (a b:Nat):Option Value:=some (.bool (Nat.ble a b))
def gtrF (_:IntKind) (a b:Nat):Option Value:=some (.bool (Nat.ble (Nat.succ b) a))
def geqF (_:IntKind) (a b:Nat):Option Value:=some (.bool (Nat.ble b a))
def MR (k:IntKind):Bool:=IntKind.rec (motive:=fun _=>Bool) false false false true false false false true k
def MS (k:IntKind):Bool:=IntKind.rec (motive:=fun _=>Bool) false false false false false false false true k
def andF (k:IntKind) (a b:Nat):Option Value:=iB (MS k) (iB (Nat.ble (Nat.succ a) 18446744073709551616) (iB (Nat.ble (Nat.succ b) 18446744073709551616) (okI k (Nat.land a b)) none) none) none
def orF (k:IntKind) (a b:Nat):Option Value:=iB (MS k) (iB (Nat.ble (Nat.succ a) 18446744073709551616) (iB (Nat.ble (Nat.succ b) 18446744073709551616) (okI k (Nat.lor a b)) none) none) none
def binF (op:BinOp) (k:IntKind) (a b:Nat):Option Value:=BinOp.rec (motive:=fun _=>IntKind→Nat→Nat→Option Value) addF subF mulF quoF remF andF orF noF noF noF noF eqlF neqF lssF leqF gtrF geqF op k a b
variable {v:Value}
def iP (h:okI k n=some v):n<yL k∧v=.int k (n:Int):=by
 unfold okI at h
 rw[dX,eG] at h
 cases hb:Nat.ble (Nat.succ n) (yL k) with
 | false=>rw[hb] at h;cases h
 | true =>
  rw[hb] at h;cases h
  exact⟨rS.1 hb,rfl⟩
variable {x:Option α}
def cG {b:Bool} {v:α} (h:iB b x none=some v):b=true∧x=some v:=by
 cases b
 ·cases h
 ·exact⟨rfl,h⟩
def mN {b:Bool} {v:α} (h:iB b none x=some v):b=false∧x=some v:=by
 cases b
 ·exact⟨rfl,h⟩
 ·cases h
theorem Ny (a b:Nat):Nat.ble a b=decide ((a:Int)≤(b:Int)):=by
 rw[Bool.eq_iff_iff];simp only[Nat.ble_eq,decide_eq_true_eq];omega
theorem Nw (a b:Nat):Nat.ble (Nat.succ a) b=decide ((a:Int)<(b:Int)):=by
 rw[Bool.eq_iff_iff];simp only[Nat.ble_eq,decide_eq_true_eq];omega
theorem NA (a b:Nat):Nat.beq a b=((a:Int) == (b:Int)):=by
 rw[Bool.eq_iff_iff];simp only[Nat.beq_eq,beq_iff_eq];omega
variable {op:BinOp}{P:Program}{t:TypeId}{oy ox:Operand}
def PK (h:binF op k a b=some v):binop P op t ox oy (.int k (a:Int)) (.int k (b:Int))=some v:=by
 cases op
 case add =>
  obtain⟨h1,rfl⟩:=iP (n:=a+b) h
  rw[xJ]
  exact congrArg (fun x=>some (Value.int k x)) (by rw[show(a:Int)+b=((a+b:Nat):Int) from by omega];exact oA h1)
 case sub =>
  obtain⟨h0,h⟩:=cG (b:=Nat.ble b a) h
  obtain⟨h1,rfl⟩:=iP (n:=a - b) h
  have h2:=rS.1 h0
  rw[xu]
  exact congrArg (fun x=>some (Value.int k x)) (by rw[show(a:Int) - b=((a - b:Nat):Int) from by omega];exact oA h1)
 case mul =>
  obtain⟨h1,rfl⟩:=iP (n:=a*b) h
  rw[xC]
  exact congrArg (fun x=>some (Value.int k x)) (by rw[←Int.natCast_mul];exact oA h1)
 case quo =>
  obtain⟨h0,h⟩:=mN (b:=Nat.beq b 0) h
  obtain⟨h1,rfl⟩:=iP (n:=a / b) h
  have hb:b≠0:=fun e=>by subst e;cases h0
  rw[xy P t ox oy (by omega)]
  exact congrArg (fun x=>some (Value.int k x)) (by rw[←Int.ofNat_tdiv];exact oA h1)
 case rem =>
  obtain⟨h0,h⟩:=mN (b:=Nat.beq b 0) h
  obtain⟨h1,rfl⟩:=iP (n:=a % b) h
  have hb:b≠0:=fun e=>by subst e;cases h0
  rw[kh P t ox oy (by omega)]
  exact congrArg (fun x=>some (Value.int k x)) (Int.ofNat_tmod a b).symm
 case and =>
  obtain⟨h0,h⟩:=cG (b:=MS k) h
  obtain⟨h2,h⟩:=cG (b:=Nat.ble (Nat.succ a) 18446744073709551616) h
  obtain⟨h3,h⟩:=cG (b:=Nat.ble (Nat.succ b) 18446744073709551616) h
  obtain⟨h1,rfl⟩:=iP (n:=a &&& b) h
  cases k<;>first|(cases h0;done)|exact Cf P t ox oy a b (rS.1 h2) (rS.1 h3)
 case or =>
  obtain⟨h0,h⟩:=cG (b:=MS k) h
  obtain⟨h2,h⟩:=cG (b:=Nat.ble (Nat.succ a) 18446744073709551616) h
  obtain⟨h3,h⟩:=cG (b:=Nat.ble (Nat.succ b) 18446744073709551616) h
  obtain⟨h1,rfl⟩:=iP (n:=a ||| b) h
  cases k<;>first|(cases h0;done)|exact wE P t ox oy a b (rS.1 h2) (rS.1 h3)
 case eql=>rw[xH,←NA];exact h
 case neq=>rw[xz,bne,←NA];exact h
 case lss=>rw[xD,←Nw];exact h
 case leq=>rw[xE,←Ny];exact h
 case gtr=>rw[xF,←Nw];exact h
 case geq=>rw[xG,←Ny];exact h
 all_goals cases h
def MK (k:IntKind):Nat:=IntKind.rec (motive:=fun _=>Nat) 0 1 2 3 4 5 6 7 k
variable {j:IntKind}
def O8 (h:Nat.beq (MK j) (MK k)=true):j=k:=by
 cases j<;>cases k<;>first|rfl|cases h
def shF (op:BinOp) (k:IntKind) (a b:Nat):Option Value:=BinOp.rec (motive:=fun _=>Option Value) none none none none none none none none
 (iB (Nat.ble b 64) (iB (MR k) (okI k (Nat.mul a (Nat.pow 2 b))) none) none)
 (iB (Nat.ble b 64) (iB (MR k) (okI k (Nat.div a (Nat.pow 2 b))) none) none) none none none none none none none op
def QT (h:shF op k a b=some v):binop P op t ox oy (.int k (a:Int)) (.int j (b:Int))=some v:=by
 cases op
 case shl =>
  obtain⟨h0,h⟩:=cG (b:=Nat.ble b 64) h
  obtain⟨h2,h⟩:=cG (b:=MR k) h
  obtain⟨h1,rfl⟩:=iP (n:=a*2 ^ b) h
  rw[oZ P t ox oy (by omega)]
  have hb:min (b:Int).toNat k.bits=b:=by
   have:=rS.1 h0
   rw[Int.toNat_natCast]
   cases k<;>first|(cases h2;done)|exact Nat.min_eq_left this
  rw[hb]
  exact congrArg (fun x=>some (Value.int k x)) (by rw[show(a:Int)*2 ^ b=((a*2 ^ b:Nat):Int) from by rw[Int.natCast_mul,Int.natCast_pow];rfl];exact oA h1)
 case shr =>
  obtain⟨h0,h⟩:=cG (b:=Nat.ble b 64) h
  obtain⟨h2,h⟩:=cG (b:=MR k) h
  obtain⟨h1,rfl⟩:=iP (n:=a / 2 ^ b) h
  rw[xw P t ox oy (by omega)]
  have hb:min (b:Int).toNat k.bits=b:=by
   have:=rS.1 h0
   rw[Int.toNat_natCast]
   cases k<;>first|(cases h2;done)|exact Nat.min_eq_left this
  rw[hb]
  refine congrArg (fun x=>some (Value.int k x)) ?_
  rw[Int.fdiv_eq_ediv_of_nonneg _ (by exact Int.le_of_lt (Int.pow_pos (by omega))),Int.natCast_ediv,Int.natCast_pow];rfl
 all_goals cases h
def orElse (a b:Option Value):Option Value:=Option.rec (motive:=fun _=>Option Value) b (fun v=>some v) a
def KT (P:Program) (op:BinOp) (t:TypeId) (ox oy:Operand) (x y:Value):Option Value:=match x,y with
 | .int k (.ofNat a),.int j (.ofNat b)=>orElse (iB (Nat.beq (MK k) (MK j)) (binF op k a b) none) (orElse (shF op k a b) (binop P op t ox oy (.int k (.ofNat a)) (.int j (.ofNat b))))
 | x,y=>binop P op t ox oy x y
def wX {a b c:Option Value} (h : ∀v,a=some v→c=some v) (hb:b=c):orElse a b=c:=by
 cases a with
 | none=>exact hb
 | some v=>exact(h v rfl).symm
def PJ (P:Program) (op:BinOp) (t:TypeId) (ox oy:Operand) (x y:Value):KT P op t ox oy x y=binop P op t ox oy x y:=by
 unfold KT
 split
 ·refine wX (fun v h=>?_) (wX (fun v h=>QT h) rfl)
  obtain⟨h0,h1⟩:=cG h
  have:=O8 h0
  subst this
  exact PK h1
 ·rfl
end
noncomputable section
abbrev fQ:=Env→bU→Fr→IH→Option (Value×IH)
def okV (h:IH) (o:Option Value):Option (Value×IH):=bO o fun v=>some (v,h)
theorem jV (h:IH) (o:Option Value):okV h o=o.map (·,h):=by cases o<;>rfl
def okH (o:Option IH):Option (Value×IH):=bO o fun h=>some (undef,h)
def JQ (o:Option IH):okH o=o.map (undef,·):=by cases o<;>rfl
def Kq (v:Value):Value:=match v with
 | .slice (some ⟨b,o,none⟩) n c=>fN b fun b=>fN o fun o=>fN n fun n=>fN c fun c=>.slice (some ⟨b,o,none⟩) n c
 | v=>v
def Pk (v:Value):Kq v=v:=by
 unfold Kq
 split
 ·simp only[dX]
 ·rfl
def Ar (l:List (Nat×Operand)) (fr:Fr):Option (List (Nat×Value)):=List.rec (motive:=fun _=>Option (List (Nat×Value))) (some []) (fun p _ ih=>bO (cV p.2 fr) fun v=>bO ih fun vs=>some ((p.1,v) :: vs)) l
theorem wW : ∀(l:List (Nat×Operand)) (fr:Fr),Ar l fr=partsOf fr l
 | [],_=>rfl
 | (i,x) :: l,fr=>by
  show bO (cV x fr) (fun v=>bO (Ar l fr) fun vs=>some ((i,v) :: vs))=_
  rw[cA,wW l fr,partsOf]
  cases opd fr x<;>cases partsOf fr l<;>rfl
def M8 (place:Nat→Option (Nat×Nat)) (l:List (Nat×Value)) (cells:List Value):Option (List Value):=List.rec (motive:=fun _=>List Value→Option (List Value)) (fun c=>some c) (fun p _ ih cells=>bO (place p.1) fun q=>iB (Nat.beq (AL (pX p.2)) q.2) (bO (uZ q.1 (pX p.2) cells) ih) none) l cells
def Bc (place:Nat→Option (Nat×Nat)) : ∀(l:List (Nat×Value)) (cells:List Value),M8 place l cells=ck place cells l
 | [],_=>rfl
 | (i,v) :: l,cells=>by
  show bO (place i) (fun q=>iB (Nat.beq (AL (pX v)) q.2) (bO (uZ q.1 (pX v) cells) (M8 place l)) none)=_
  rw[ck]
  cases hp:place i with
  | none=>rfl
  | some q =>
   obtain⟨o,n⟩:=q
   simp only[a8,xq,kK,pB,lz,Array.length_toList]
   cases hn:Nat.beq v.cells.size n with
   | false=>rfl
   | true =>
    have hn:=Nat.beq_eq.mp hn
    subst hn
    simp only[zh,Bool.true_and]
    cases Nat.ble (o+v.cells.size) cells.length with
    | false=>rfl
    | true=>exact Bc place l _
def Mm (P:Program) (t:TypeId) (l:List Value) (off:Nat):Option Value:=bO (bh P t) fun g=>iB g (bO (aO P t) fun n=>xk (Wb n (Dq off l)) fun cs=>some (.agg ⟨cs⟩)) (RC off l)
theorem Hl (P:Program) (t:TypeId) (cs:Array Value) (off:Nat):Mm P t cs.toList off=partOf P t cs off:=by
 unfold Mm partOf
 cases bh P t with
 | none=>cases aO P t<;>rfl
 | some g =>
  cases g with
  | false =>
   simp only[a8,rG,EO]
   exact Array.getElem?_toList
  | true =>
   simp only[a8,zh]
   cases aO P t with
   | none=>rfl
   | some n =>
    simp only[a8,oU,GG,rP]
    refine congrArg (fun a=>some (Value.agg a)) ?_
    apply Array.ext'
    simp[Array.toList_extract]
def WD (x:Operand):fQ:=fun _ _ fr h=>okV h (cV x fr)
def ZaO (c a b:Operand):fQ:=fun _ _ fr h=>bO (cV c fr) fun v=>match v with
 | .bool t=>iB t (okV h (cV a fr)) (okV h (cV b fr))
 | _=>none
def Fp (h:IH) (o:bI):Option (Value×IH):=OR h o fun n h=>fN (Nat.mul 2 n) fun b=>some (.pointer (some ⟨b,0,none⟩),h)
def Df (h:IH) (o:bI):Fp h o=some (ptr (2*h.n) 0,h.new o):=by
 unfold Fp
 rw[y9,dX];rfl
def ZE (t:TypeId):fQ:=fun E _ _ h=>bO (aE E.P t) fun z=>Fp h (.cells z 0 none)
def boxF (_:TypeId) (x:Operand):fQ:=fun _ _ fr h=>bO (cV x fr) fun v=>xk (pX v) fun cs=>Fp h (.cells cs 0 none)
def Zw (t:TypeId) (parts:Array (Nat×Operand)):fQ:=fun E _ fr h=>bO (aE E.P t) fun z=>bO (Ar parts.toList fr) fun ps=>iB (cE E.P t) (bO (M8 (placeOf E.P t) ps z) fun cs=>some (.agg ⟨cs⟩,h)) none
def Dn (P:Program) (t:TypeId):Option TypeId:=match P.underlying t with
 | some (.slice e)=>some e
 | _=>none
def oG (h:IH) (cells:List Value) (n len c:Nat):Option (Value×IH):=xk cells fun cells=>OR h (.cells cells n none) fun k h=>fN (Nat.mul 2 k) fun b=>fN c fun c=>some (.slice (some ⟨b,0,none⟩) len c,h)
def ns (h:IH) (cells:List Value) (n len c:Nat):oG h cells n len c=some (.slice (some ⟨2*h.n,0,none⟩) len c,h.new (.cells cells n none)):=by
 unfold oG
 rw[oU,y9,dX,dX];rfl
def IG (t:TypeId) (len:Nat) (parts:Array (Nat×Operand)):fQ:=fun E _ fr h=>bO (Ar parts.toList fr) fun ps=>bO (Dn E.P t) fun e=>bO (aO E.P e) fun n=>bO (aE E.P e) fun z =>
 iB (Nat.ble (Nat.mul len n) jv) (iB (Nat.beq (AL z) n) (bO (M8 (fun i=>some (Nat.mul i n,n)) ps (Ma len z)) fun cells=>oG h cells n len (Nat.succ (Nat.mul 2 len))) none) none
def U9 (t:TypeId) (a:Operand):fQ:=fun E _ fr h=>bO (cV a fr) fun a=>okV h (ME E.P h t a)
def Qy (t:TypeId) (a x:Operand):fQ:=fun E _ fr h=>bO (cV a fr) fun a=>bO (cV x fr) fun v=>okH (Jg E.P h t a v)
def OQ (x:Operand):fQ:=fun _ _ fr h=>bO (cV x fr) fun v=>match v with
 | .pointer (some a)=>some (.pointer (some a),h)
 | .func (.func f) xs ys=>some (.func (.func f) xs ys,h)
 | .func (.yield f) xs ys=>some (.func (.yield f) xs ys,h)
 | .map r=>some (.map r,h)
 | _=>none
def Zz (op:BinOp) (t:TypeId) (x y:Operand) (_:TypeId):fQ:=fun E _ fr h=>bO (cV x fr) fun a=>bO (cV y fr) fun b=>okV h (KT E.P op t x y a b)
def unF (P:Program) (op:UnOp) (v:Value):Option Value:=match op,v with
 | .not,.bool b=>some (.bool (not b))
 | op,v=>bif plain v then cJ P (Op.unary op v) else none
def XD (P:Program) (op:UnOp) (v:Value):unF P op v=bif plain v then cJ P (Op.unary op v) else none:=by
 unfold unF
 split
 ·rename_i b;exact(wM P b).symm
 ·rfl
def Z5 (op:UnOp) (_:TypeId) (x:Operand):fQ:=fun E _ fr h=>bO (cV x fr) fun v=>okV h (unF E.P op v)
def intT (P:Program) (t:TypeId):Option IntKind:=match P.underlying t with
 | some (.int k)=>some k
 | _=>none
def Tg (P:Program) (s d:TypeId) (v:Value):Option Value:=match v with
 | .int k (.ofNat n)=>orElse (iB (P.underlying s).isSome (bO (intT P d) fun k'=>okI k' n) none) (nP P s d (.int k (.ofNat n)))
 | v=>nP P s d v
def Tf (P:Program) (s d:TypeId) (v:Value):Tg P s d v=nP P s d v:=by
 unfold Tg
 split
 ·rename_i k n
  refine wX (fun v h=>?_) rfl
  obtain⟨h0,h⟩:=cG h
  unfold intT at h
  split at h
  ·rename_i k' hd
   obtain⟨h1,rfl⟩:=iP h
   rw[show(Int.ofNat n)=(n:Int) from rfl,kf h0 hd,oA h1]
  ·cases h
 ·rfl
def Te (s d:TypeId) (x:Operand):fQ:=fun E _ fr h=>bO (cV x fr) fun v=>okV h (Tg E.P s d v)
def jJ (o:Op):fQ:=fun E _ fr h=>iop E.P fr o h
def OZ (fn:Fn) (first cap:Array Operand):fQ:=fun _ _ fr h=>bO (Aw first.toList fr) fun a=>bO (Aw cap.toList fr) fun b=>match fn with
 | .func f=>some (.func (.func f) ⟨a⟩ ⟨b⟩,h)
 | _=>none
def uq (P:Program) (h:IH) (t:TypeId) (l c:Value):Option (Value×IH):=bO (Dn P t) fun e=>bO (iQ l aN) fun l=>bO (iQ c aN) fun c=>bO (aO P e) fun n=>bO (ij P e) fun by_=>bO (aE P e) fun z =>
 iB (Nat.ble l c) (iB (Nat.ble (Nat.mul c (Nat.succ by_)) aN) (iB (Nat.beq (AL z) n) (oG h (Ma c z) n l (Nat.succ (Nat.mul 2 c))) none) none) none
def BZ (P:Program) (h:IH) (t:TypeId) (l c:Value):uq P h t l c=makeSlice P h t l c:=by
 unfold uq makeSlice Dn
 cases P.underlying t with
 | none=>rfl
 | some d =>
  cases d with
  | slice e =>
   simp only[a8]
   cases iQ l aN with
   | none=>rfl
   | some l =>
    cases iQ c aN with
    | none=>rfl
    | some c =>
     cases aO P e with
     | none=>rfl
     | some n =>
      cases ij P e with
      | none=>rfl
      | some b =>
       cases aE P e with
       | none=>rfl
       | some z =>
        simp only[a8,ns,Al,kK,eG,lz]
        show(bif Nat.ble l c then (bif Nat.ble (c*(b+1)) aN then (bif Nat.beq z.length n then _ else none) else none) else none)=_
        cases Nat.ble l c<;>cases Nat.ble (c*(b+1)) aN<;>cases Nat.beq z.length n<;>rfl
  | _=>rfl
def J7 (t:TypeId) (l c:Operand):fQ:=fun E _ fr h=>bO (cV l fr) fun l=>bO (cV c fr) fun c=>uq E.P h t l c
def US (fr:Fr) (o:Option Operand):Option (Option Value):=Option.rec (motive:=fun _=>Option (Option Value)) (some none) (fun x=>bO (cV x fr) fun v=>some (some v)) o
def UR (fr:Fr) (o:Option Operand):US fr o=dr fr o:=by
 cases o with
 | none=>rfl
 | some x =>
  show bO (cV x fr) (fun v=>some (some v))=(opd fr x).map some
  rw[cA]
  cases opd fr x<;>rfl
def XR (t:TypeId) (x:Operand) (lo hi mx:Option Operand):fQ:=fun E _ fr h=>bO (cV x fr) fun x=>bO (US fr lo) fun lo=>bO (US fr hi) fun hi=>bO (US fr mx) fun mx=>bO (cT E.P h t x lo hi mx) fun v=>some (Kq v,h)
def addrOf (v:Value) (k:Nat→Nat→Option (Value×IH)):Option (Value×IH):=match v with
 | .pointer (some ⟨b,o,none⟩)=>k b o
 | _=>none
def PY (v:Value) (k:Nat→Nat→Option (Value×IH)):addrOf v k=bO (asAddr v) fun a=>k a.1 a.2:=by
 unfold addrOf asAddr
 split
 ·rfl
 ·rename_i hv
  split
  ·exact absurd rfl (hv _ _)
  ·rfl
def Kw (t:TypeId) (x:Operand) (f:Nat):fQ:=fun E _ fr h=>bO (cV x fr) fun x=>bO (fG E.P t f) fun f=>bO (aO E.P f.type) fun n=>addrOf x fun b o=>iB (Nat.beq n 0) none (fN (Nat.add o f.offset) fun o=>some (.pointer (some ⟨b,o,none⟩),h))
def Y7 (t:TypeId) (x:Operand) (f:Nat):fQ:=fun E _ fr h=>bO (cV x fr) fun x=>bO (fG E.P t f) fun f=>match x with
 | .agg cs=>okV h (Mm E.P f.type cs.toList f.offset)
 | _=>none
def eaT (P:Program) (t:TypeId):Option (Option Nat×Nat):=match P.underlying t with
 | some (.array n e)=>(aO P e).map fun s=>(some n,s)
 | some (.slice e)=>(aO P e).map fun s=>(none,s)
 | _=>none
def uv (P:Program) (t:TypeId) (x i:Value):Option Value:=match x,i with
 | .slice (some ⟨b,o,none⟩) n c,.int k (.ofNat j)=>bO (eaT P t) fun e=>Option.rec (motive:=fun _=>Option Value) (iB (Nat.ble (Nat.succ j) n) (fN (Nat.add o (Nat.mul j e.2)) fun o=>some (.pointer (some ⟨b,o,none⟩))) none) (fun _=>indexAddr P t (.slice (some ⟨b,o,none⟩) n c) (.int k (.ofNat j))) e.1
 | .pointer (some ⟨b,o,none⟩),.int k (.ofNat j)=>bO (eaT P t) fun e=>Option.rec (motive:=fun _=>Option Value) (indexAddr P t (.pointer (some ⟨b,o,none⟩)) (.int k (.ofNat j))) (fun n=>iB (Nat.ble (Nat.succ j) n) (fN (Nat.add o (Nat.mul j e.2)) fun o=>some (.pointer (some ⟨b,o,none⟩))) none) e.1
 | x,i=>indexAddr P t x i
def B4 (P:Program) (t:TypeId) (x i:Value):uv P t x i=indexAddr P t x i:=by
 unfold uv
 split
 ·rename_i b o n c k j
  unfold eaT indexAddr
  cases hu:P.underlying t with
  | none=>rfl
  | some d =>
   cases d with
   | array n e =>
    simp only[]
    cases aO P e<;>rfl
   | slice e =>
    simp only[idxOf]
    cases aO P e with
    | none=>rfl
    | some s =>
     simp only[Option.map_some,a8,eG,dX];rfl
   | _=>rfl
 ·rename_i b o k j
  unfold eaT indexAddr
  cases hu:P.underlying t with
  | none=>rfl
  | some d =>
   cases d with
   | array n e =>
    simp only[idxOf]
    cases aO P e with
    | none=>rfl
    | some s =>
     simp only[Option.map_some,a8,eG,dX];rfl
   | slice e =>
    simp only[]
    cases aO P e<;>rfl
   | _=>rfl
 ·rfl
def Kb (t:TypeId) (x i:Operand):fQ:=fun E _ fr h=>bO (cV x fr) fun x=>bO (cV i fr) fun i=>okV h (uv E.P t x i)
def MU (P:Program) (h:IH) (t:TypeId) (x i:Value):Option (Value×IH):=match x with
 | .agg cs=>match P.underlying t,idxOf i with
   | some (.array n e),some (.ofNat j)=>bif Nat.blt j n then match aO P e with
     | some size=>okV h (Mm P e cs.toList (Nat.mul j size))
     | none=>none
    else none
   | _,_=>none
 | .string s=>bif plain i then (cJ P (Instr.index t (.string s) i)).map (·,h) else none
 | _=>none
def Yx (t:TypeId) (x i:Operand):fQ:=fun E _ fr h=>bO (cV x fr) fun x=>bO (cV i fr) fun i=>MU E.P h t x i
def U8 (t:TypeId) (m k:Operand) (ok:Bool):fQ:=fun E _ fr h=>bO (cV m fr) fun m=>bO (cV k fr) fun k=>okV h (lookup E.P h t m k ok)
def AG (t:TypeId) (m k v:Operand):fQ:=fun E _ fr h=>bO (cV m fr) fun m=>bO (cV k fr) fun k=>bO (cV v fr) fun v=>okH (mapUpdate E.P h t m k v)
def Sy (x:Operand) (i:Nat):fQ:=fun _ _ fr h=>bO (cV x fr) fun v=>match v with
 | .tuple vs=>okV h (RC i vs.toList)
 | _=>none
def Ft (h:IH) (size n:Nat) (x:Value):Option (List Value):=match x with
 | .slice none _ _=>some []
 | .slice (some ⟨b,o,none⟩) len _=>iB (Nat.ble n len) (fN (Nat.mul n size) fun m=>iB (Nat.beq m 0) (some []) (rdN h b o m)) none
 | _=>none
def Di (h:IH) (size n:Nat) (x:Value):Ft h size n x=bF h size n x:=by
 unfold Ft bF
 split
 ·rfl
 ·rename_i b o len c
  simp only[dX,eG,lz]
  show(bif Nat.ble n len then (bif Nat.beq (n*size) 0 then some [] else rdN h b o (n*size)) else none)=bif Nat.ble n len then (bif Nat.beq (n*size) 0 then some [] else h.rd b o (n*size)) else none
  cases hz:Nat.beq (n*size) 0 with
  | true=>rfl
  | false=>rw[Q8 h b o (n*size) (fun e=>by rw[e] at hz;cases hz)]
 ·rename_i h1 h2
  split
  ·exact absurd rfl (h1 _ _)
  ·exact absurd rfl (h2 _ _ _ _)
  ·rfl
def twF (b:Nat) (l:List Nat):List Nat:=List.rec (motive:=fun _=>List Nat) [] (fun a _ ih=>iB (Nat.beq a b) [] (a :: ih)) l
theorem Qu (b:Nat) : ∀l:List Nat,twF b l=l.takeWhile (· != b)
 | []=>rfl
 | a :: l=>by
  show iB (Nat.beq a b) [] (a :: twF b l)=_
  rw[Qu b l,List.takeWhile_cons,bne,lz]
  cases Nat.beq a b<;>rfl
def dwF (b:Nat) (l:List Nat):List Nat:=List.rec (motive:=fun _=>List Nat) [] (fun a l ih=>iB (Nat.beq a b) l ih) l
theorem SH (b:Nat) : ∀l:List Nat,dwF b l=(l.dropWhile (· != b)).drop 1
 | []=>rfl
 | a :: l=>by
  show iB (Nat.beq a b) l (dwF b l)=_
  rw[SH b l,List.dropWhile_cons,bne,lz]
  cases Nat.beq a b<;>rfl
def MM (l:List Nat) (e:Tr bI):Tr bI:=List.rec (motive:=fun _=>Tr bI→Tr bI) (fun e=>e) (fun k _ ih e=>mr .dead e k ih) l e
theorem HY : ∀(l:List Nat) (e:Tr bI),MM l e=IH.dJ e l
 | [],_=>rfl
 | k :: l,e=>by
  show mr .dead e k (MM l)=_
  rw[kT,HY l];rfl
def Kn (h:IH) (k f:Nat) (cs:List Value) (t:Nat) (ch below:List Nat) (cs':List Value) (t' len:Nat):Option (Value×IH):=IH.rec (motive:=fun _=>Option (Value×IH)) (fun base n ext bP =>
 xk cs' fun cs'=>fN n fun n=>mr (.cells cs t (some f)) (MM ch ext) k fun e=>mr (.cells cs' t' (some f)) e n fun e=>mr (n :: k :: below) bP f fun fa=>fN (Nat.mul 2 n) fun b=>fN (Nat.mul 2 len) fun c=>some (.slice (some ⟨b,0,none⟩) len c,⟨base,Nat.succ n,e,fa⟩)) h
def Ph (h:IH) (k f:Nat) (cs:List Value) (t:Nat) (ch below:List Nat) (cs':List Value) (t' len:Nat):Kn h k f cs t ch below cs' t' len=some (.slice (some ⟨2*h.n,0,none⟩) len (2*len),grown h k f cs t ch below cs' t'):=by
 obtain⟨base,n,ext,bP⟩:=h
 show(xk cs' fun cs'=>fN n fun n=>mr (.cells cs t (some f)) (MM ch ext) k fun e=>mr (.cells cs' t' (some f)) e n fun e=>mr (n :: k :: below) bP f fun fa=>fN (Nat.mul 2 n) fun b=>fN (Nat.mul 2 len) fun c=>some (Value.slice (some ⟨b,0,none⟩) len c,(⟨base,Nat.succ n,e,fa⟩:IH)))=_
 rw[oU,dX,kT,kT,kT,dX,dX,HY];rfl
def ZC (h:IH) (size bytes n:Nat) (new:List Value) (s:Value):Option (Value×IH):=match s with
 | .slice none a c=>iB (Nat.beq a 0) (iB (Nat.beq c 0) (iB (Nat.ble (Nat.mul n (Nat.succ bytes)) aN) (oG h new size n (Nat.mul 2 n)) none) none) none
 | .slice (some ⟨b,o,none⟩) len k =>
  iB (Nat.ble (Nat.mul (Nat.add len n) (Nat.succ bytes)) aN)
   (fN (Nat.add len n) fun m=>iB (Nat.ble m (Nat.div k 2)) (bO (wrF h b (Nat.add o (Nat.mul len size)) new) fun h=>some (.slice (some ⟨b,o,none⟩) m k,h))
    (iB (Nat.beq (Nat.mod k 2) 1) (bO (Ft h size len (.slice (some ⟨b,o,none⟩) len k)) fun old=>oG h (yO old new) size m (Nat.mul 2 m))
     (iB (Nat.beq len (Nat.div k 2)) (iB (Nat.ble 1 len) (iB (Nat.beq (Nat.mod b 2) 0) (fN (Nat.div b 2) fun b2=>bO (uR h.ext b2) fun ob=>match ob with
      | .cells cs t fam=>iB (Nat.beq (Nat.add o (Nat.mul len size)) (AL cs)) (iB (Nat.beq t size) (match fam with
        | none=>Kn h b2 h.n cs t [] [] (yO (Dq o cs) new) size m
        | some f=>bO (uR h.bP f) fun stk=>Kn h b2 f cs t (twF b2 stk) (dwF b2 stk) (yO (Dq o cs) new) size m) none) none
      | _=>none) none) none) none)))
   none
 | _=>none
def FT (P:Program) (h:IH) (st:TypeId) (s x:Value):Option (Value×IH) :=
 bO (Dn P st) fun e=>bO (aO P e) fun size=>bO (ij P e) fun bytes=>bO (aE P e) fun zs=>bO (lenOf x) fun n=>fN n fun n =>
  iB (Nat.beq n 0) (match s with|.slice none a c=>bif a == 0 && c == 0 then some (s,h) else none|.slice (some ⟨_,_,none⟩) _ _=>some (s,h)|_=>none)
   (iB (Nat.beq size 0) none (iB (Nat.ble bytes 65536) (iB (Nat.beq (AL zs) size) (bO (Ft h size n x) fun new=>iB (VS Tn new) (ZC h size bytes n new s) none) none) none))
def VR (h:IH) (size bytes n:Nat) (new:List Value) (s:Value):ZC h size bytes n new s=match s with
    | .slice none a c=>bif a == 0 && c == 0 && Nat.ble (n*(bytes+1)) aN then some (.slice (some ⟨2*h.n,0,none⟩) n (2*n),h.new (.cells new size none)) else none
    | .slice (some ⟨b,o,none⟩) len k =>
     bif !(Nat.ble ((len+n)*(bytes+1)) aN) then none else
     bif Nat.ble (len+n) (k / 2) then (h.wr b (o+len*size) new).map fun h=>(.slice (some ⟨b,o,none⟩) (len+n) k,h)
     else bif k % 2 == 1 then
      match bF h size len s with
      | none=>none
      | some old=>some (.slice (some ⟨2*h.n,0,none⟩) (len+n) (2*(len+n)),h.new (.cells (old ++ new) size none))
     else bif len == k / 2 && Nat.blt 0 len && b % 2 == 0 then
      match h.ext.get (b / 2) with
      | some (.cells cs t fam) =>
       bif o+len*size == cs.length && t == size then
        match fam with
        | none=>some (.slice (some ⟨2*h.n,0,none⟩) (len+n) (2*(len+n)),grown h (b / 2) h.n cs t [] [] (cs.drop o ++ new) size)
        | some f=>match h.bP.get f with
         | none=>none
         | some stk=>some (.slice (some ⟨2*h.n,0,none⟩) (len+n) (2*(len+n)),
           grown h (b / 2) f cs t (stk.takeWhile (· != b / 2)) ((stk.dropWhile (· != b / 2)).drop 1) (cs.drop o ++ new) size)
       else none
      | _=>none
     else none
    | _=>none:=by
 unfold ZC
 split
 ·rename_i a c
  simp only[eG,ns,lz]
  show(bif Nat.beq a 0 then (bif Nat.beq c 0 then (bif Nat.ble (n*(bytes+1)) aN then _ else none) else none) else none)=_
  cases Nat.beq a 0<;>cases Nat.beq c 0<;>cases Nat.ble (n*(bytes+1)) aN<;>rfl
 ·rename_i b o len k
  simp only[eG,dX,ns,lz,Qa,Di,zn,mu,kK,Ph,rP,Qu,SH]
  show(bif Nat.ble ((len+n)*(bytes+1)) aN then (bif Nat.ble (len+n) (k / 2) then (bO (h.wr b (o+len*size) new) fun h=>some (Value.slice (some ⟨b,o,none⟩) (len+n) k,h)) else (bif Nat.beq (k % 2) 1 then (bO (bF h size len (.slice (some ⟨b,o,none⟩) len k)) fun old=>some (Value.slice (some ⟨2*h.n,0,none⟩) (len+n) (2*(len+n)),h.new (.cells (old ++ new) size none))) else
   (bif Nat.beq len (k / 2) then (bif Nat.blt 0 len then (bif Nat.beq (b % 2) 0 then (bO (h.ext.get (b / 2)) fun ob=>match ob with
      | .cells cs t fam=>bif Nat.beq (o+len*size) cs.length then (bif Nat.beq t size then (match fam with
        | none=>some (Value.slice (some ⟨2*h.n,0,none⟩) (len+n) (2*(len+n)),grown h (b / 2) h.n cs t [] [] (cs.drop o ++ new) size)
        | some f=>bO (h.bP.get f) fun stk=>some (Value.slice (some ⟨2*h.n,0,none⟩) (len+n) (2*(len+n)),grown h (b / 2) f cs t (stk.takeWhile (· != b / 2)) ((stk.dropWhile (· != b / 2)).drop 1) (cs.drop o ++ new) size)) else none) else none
      | _=>none) else none) else none) else none))) else none)=_
  cases Nat.ble ((len+n)*(bytes+1)) aN with
  | false=>rfl
  | true =>
   simp only[cond_true,Bool.not_true,cond_false]
   cases Nat.ble (len+n) (k / 2) with
   | true =>
    simp only[cond_true]
    cases h.wr b (o+len*size) new<;>rfl
   | false =>
    simp only[cond_false]
    cases Nat.beq (k % 2) 1 with
    | true =>
     simp only[cond_true]
     cases bF h size len (.slice (some ⟨b,o,none⟩) len k)<;>rfl
    | false =>
     simp only[cond_false]
     cases Nat.beq len (k / 2) with
     | false=>rfl
     | true =>
      cases Nat.blt 0 len with
      | false=>rfl
      | true =>
       cases Nat.beq (b % 2) 0 with
       | false=>rfl
       | true =>
        simp only[cond_true,Bool.and_true]
        cases h.ext.get (b / 2) with
        | none=>rfl
        | some ob =>
         cases ob with
         | cells cs t fam =>
          simp only[a8]
          cases Nat.beq (o+len*size) cs.length with
          | false=>rfl
          | true =>
           cases Nat.beq t size with
           | false=>rfl
           | true =>
            cases fam with
            | none=>rfl
            | some f =>
             simp only[cond_true,Bool.and_true]
             cases h.bP.get f<;>rfl
         | _=>rfl
 ·rfl
def KW (P:Program) (h:IH) (st:TypeId) (s x:Value):FT P h st s x=append P h st s x:=by
 unfold FT append Dn
 cases hu:P.underlying st with
 | none=>rfl
 | some d =>
  cases d with
  | slice e =>
   simp only[a8]
   cases aO P e with
   | none=>rfl
   | some size =>
    cases ij P e with
    | none=>rfl
    | some bytes =>
     cases aE P e with
     | none=>rfl
     | some zs =>
      cases lenOf x with
      | none=>rfl
      | some n =>
       simp only[a8,dX,eG,lz,kK,Di,FX,IA,VR]
       cases Nat.beq n 0 with
       | true=>rfl
       | false =>
        cases Nat.beq size 0 with
        | true=>rfl
        | false =>
         cases Nat.ble bytes 65536 with
         | false=>rfl
         | true =>
          cases Nat.beq zs.length size with
          | false=>rfl
          | true =>
           simp only[cond_true,cond_false,Bool.not_true,Bool.or_false]
           cases bF h size n x with
           | none=>rfl
           | some new =>
            simp only[a8]
            cases new.all aB<;>rfl
  | _=>rfl
def BE (P:Program) (h:IH) (b:Builtin) (ts:Array TypeId) (args:List Value):Option (Value×IH):=match b,args with
 | .append,[s,x]=>iB (cj P ts[1]?) (bO ts[0]? fun st=>FT P h st s x) (builtin P h .append ts [s,x])
 | b,args=>builtin P h b ts args
def IF (P:Program) (h:IH) (b:Builtin) (ts:Array TypeId) (args:List Value):BE P h b ts args=builtin P h b ts args:=by
 unfold BE
 split
 ·rename_i s x
  rw[eG]
  have e:builtin P h .append ts [s,x]=bif cj P ts[1]? then (match ts[0]? with|some st=>append P h st s x|none=>none) else bif Fc P ts[1]? then (match ts[0]? with|some st=>nU P h st s x|none=>none) else none:=rfl
  cases hs:cj P ts[1]? with
  | false=>rfl
  | true =>
   rw[e,hs]
   cases ts[0]? with
   | none=>rfl
   | some st=>exact KW P h st s x
 ·rfl
def FH (c:Call):fQ:=fun E call fr h=>match c.callee with
 | .value f=>bO (cV f fr) fun fv=>bO (Aw c.args.toList fr) fun vs=>call fv vs h
 | .builtin b=>bO (Aw c.args.toList fr) fun vs=>BE E.P h b c.argTypes vs
 | .invoke _ _=>none
def XU (o:Op):fQ:=Op.rec (motive:=fun _=>fQ) WD WD ZaO ZE boxF Zw IG AG U9 Qy (fun a=>jJ (.ready a)) (fun a=>jJ (.waits a)) OQ Zz Z5 Te
 (fun a b=>jJ (.sliceToArrayPointer a b)) (fun a b=>jJ (.makeInterface a b)) OZ (fun a b=>jJ (.makeMap a b)) (fun a b=>jJ (.makeChan a b)) J7 XR Kw Y7 Kb Yx U8 AG
 (fun a b c=>jJ (.mapEntry a b c)) (fun a b c d=>jJ (.entryStore a b c d)) (fun a b=>jJ (.range a b)) (fun a b=>jJ (.next a b)) (fun a=>jJ (.entry a)) (fun a b c d=>jJ (.typeAssert a b c d)) Sy FH
 (fun a=>jJ (.go a)) (fun a=>jJ (.defer a)) (fun a=>jJ (.panic a)) (fun a b=>jJ (.send a b)) (fun a b c=>jJ (.recv a b c)) (fun a b=>jJ (.select a b)) o
theorem LR (o:Op) (E:Env) (call:bU) (fr:Fr) (h:IH):XU o E call fr h=dh E call fr o h:=by
 cases o
 case move x=>show okV h (cV x fr)=_;rw[jV,cA];rfl
 case assign x=>show okV h (cV x fr)=_;rw[jV,cA];rfl
 case pick c a b =>
  show bO (cV c fr) _=match opd fr c with|some (.bool true)=>(opd fr a).map (·,h)|some (.bool false)=>(opd fr b).map (·,h)|_=>none
  simp only[cA,jV]
  cases opd fr c with
  | none=>rfl
  | some v =>
   cases v with
   | bool t=>cases t<;>rfl
   | _=>rfl
 case alloc t =>
  show bO (aE E.P t) _=(aE E.P t).map _
  simp only[Df]
  cases aE E.P t<;>rfl
 case box t x =>
  show bO (cV x fr) _=(opd fr x).map _
  simp only[oU,Df,xq,cA]
  cases opd fr x<;>rfl
 case build t ps =>
  show bO (aE E.P t) _=match aE E.P t,partsOf fr ps.toList with|some z,some ps=>(bif cE E.P t then (ck (placeOf E.P t) z ps).map fun cs=>(Value.agg cs.toArray,h) else none)|_,_=>none
  simp only[wW,Bc,eG]
  cases aE E.P t with
  | none=>rfl
  | some z =>
   cases partsOf fr ps.toList with
   | none=>rfl
   | some l =>
    simp only[a8]
    cases cE E.P t with
    | false=>rfl
    | true =>
     simp only[cond_true]
     cases ck (placeOf E.P t) z l<;>rfl
 case buildSlice t len ps =>
  show bO (Ar ps.toList fr) _=match partsOf fr ps.toList with|some ps=>buildSlice E.P h t len ps|none=>none
  simp only[wW,Bc,ns,kK,eG,Al]
  cases partsOf fr ps.toList with
  | none=>rfl
  | some l =>
   simp only[a8]
   unfold buildSlice Dn
   cases E.P.underlying t with
   | none=>rfl
   | some d =>
    cases d with
    | slice e =>
     simp only[a8]
     cases aO E.P e with
     | none=>rfl
     | some n =>
      cases aE E.P e with
      | none=>rfl
      | some z =>
       simp only[a8,lz]
       show(bif Nat.ble (len*n) jv then (bif Nat.beq z.length n then (bO (ck (fun i=>some (i*n,n)) (bB len z) l) fun cells=>some (Value.slice (some ⟨2*h.n,0,none⟩) len (2*len+1),h.new (.cells cells n none))) else none) else none)=_
       cases Nat.ble (len*n) jv<;>cases Nat.beq z.length n<;>first|rfl|skip
       simp only[cond_true,Bool.and_true]
       cases ck (fun i=>some (i*n,n)) (bB len z) l<;>rfl
    | _=>rfl
 case load t a =>
  show bO (cV a fr) _=match opd fr a with|some a=>(load E.P h t a).map (·,h)|none=>none
  simp only[cA,jV,HS]
  cases opd fr a<;>rfl
 case store t a x =>
  show bO (cV a fr) _=match opd fr a,opd fr x with|some a,some v=>(store E.P h t a v).map (undef,·)|_,_=>none
  simp only[cA,JQ,N5]
  cases opd fr a<;>cases opd fr x<;>rfl
 case nilCheck x =>
  show bO (cV x fr) _=_
  rw[cA]
  simp only[dh,iop]
  cases opd fr x with
  | none=>rfl
  | some v =>
   cases v with
   | pointer a=>cases a<;>rfl
   | func f a b=>cases f<;>rfl
   | _=>rfl
 case binOp op t x y s =>
  show bO (cV x fr) _=match opd fr x,opd fr y with|some a,some b=>(binop E.P op t x y a b).map (·,h)|_,_=>none
  simp only[cA,jV,PJ]
  cases opd fr x<;>cases opd fr y<;>rfl
 case unOp op t x =>
  show bO (cV x fr) _=match opd fr x with|some v=>(bif plain v then (cJ E.P (Op.unary op v)).map (·,h) else none)|none=>none
  simp only[cA,jV,XD]
  cases opd fr x with
  | none=>rfl
  | some v =>
   simp only[a8]
   cases plain v<;>rfl
 case convert s d x =>
  show bO (cV x fr) _=match opd fr x with|some v=>(bif plain v then (cJ E.P (Go.convert s d v)).map (·,h) else none)|none=>none
  simp only[cA,jV,Tf,nP]
  cases opd fr x with
  | none=>rfl
  | some v =>
   simp only[a8]
   cases plain v<;>rfl
 case makeFunc fn a b =>
  show bO (Aw a.toList fr) _=match gL fr a.toList,gL fr b.toList with|some a,some b=>(match fn with|.func f=>some (Value.func (.func f) a.toArray b.toArray,h)|_=>none)|_,_=>none
  simp only[Av]
  cases gL fr a.toList<;>cases gL fr b.toList<;>first|rfl|(cases fn<;>rfl)
 case makeSlice t l c =>
  show bO (cV l fr) _=match opd fr l,opd fr c with|some l,some c=>makeSlice E.P h t l c|_,_=>none
  simp only[cA,BZ]
  cases opd fr l<;>cases opd fr c<;>rfl
 case slice t x lo hi mx =>
  show bO (cV x fr) _=match opd fr x,dr fr lo,dr fr hi,dr fr mx with|some x,some lo,some hi,some mx=>(cT E.P h t x lo hi mx).map (·,h)|_,_,_,_=>none
  simp only[cA,UR,Pk]
  cases opd fr x<;>cases dr fr lo<;>cases dr fr hi<;>cases dr fr mx<;>first|rfl|skip
  simp only[a8]
  rename_i x lo hi mx
  cases cT E.P h t x lo hi mx<;>rfl
 case fieldAddr t x f =>
  show bO (cV x fr) _=match opd fr x,fG E.P t f with|some x,some f=>(match asAddr x,aO E.P f.type with|some (b,o),some n=>(bif n == 0 then none else some (ptr b (o+f.offset),h))|_,_=>none)|_,_=>none
  simp only[cA,PY,eG,dX,lz]
  cases opd fr x with
  | none=>rfl
  | some v =>
   cases fG E.P t f with
   | none=>rfl
   | some fd =>
    simp only[a8]
    cases aO E.P fd.type with
    | none=>cases asAddr v<;>rfl
    | some n =>
     cases asAddr v with
     | none=>rfl
     | some a=>rfl
 case field t x f =>
  show bO (cV x fr) _=_
  simp only[cA,jV,Hl,dh,iop]
  cases opd fr x with
  | none=>rfl
  | some v =>
   cases fG E.P t f with
   | none=>cases v<;>rfl
   | some fd=>cases v<;>rfl
 case indexAddr t x i =>
  show bO (cV x fr) _=match opd fr x,opd fr i with|some x,some i=>(indexAddr E.P t x i).map (·,h)|_,_=>none
  simp only[cA,jV,B4]
  cases opd fr x<;>cases opd fr i<;>rfl
 case index t x i =>
  show bO (cV x fr) _=_
  simp only[cA,dh,iop,MU,jV]
  cases opd fr x with
  | none=>rfl
  | some v =>
   cases opd fr i with
   | none=>cases v<;>rfl
   | some j =>
    cases v with
    | agg cs =>
     simp only[a8]
     split
     ·rename_i hu hj
      rw[hu,hj]
      simp only
      split
      ·rename_i hs;rw[hs,Hl];rfl
      ·rename_i hs;rw[hs]
     ·rename_i hn
      split
      ·rename_i hu hj;exact absurd hj (hn _ _ _ hu)
      ·rfl
    | _=>rfl
 case lookup t m k ok =>
  show bO (cV m fr) _=match opd fr m,opd fr k with|some m,some k=>(lookup E.P h t m k ok).map (·,h)|_,_=>none
  simp only[cA,jV]
  cases opd fr m<;>cases opd fr k<;>rfl
 case mapUpdate t m k v =>
  show bO (cV m fr) _=match opd fr m,opd fr k,opd fr v with|some m,some k,some v=>(mapUpdate E.P h t m k v).map (undef,·)|_,_,_=>none
  simp only[cA,JQ]
  cases opd fr m<;>cases opd fr k<;>cases opd fr v<;>rfl
 case insert t m k v =>
  show bO (cV m fr) _=match opd fr m,opd fr k,opd fr v with|some m,some k,some v=>(mapUpdate E.P h t m k v).map (undef,·)|_,_,_=>none
  simp only[cA,JQ]
  cases opd fr m<;>cases opd fr k<;>cases opd fr v<;>rfl
 case extract x i =>
  show bO (cV x fr) _=_
  simp only[cA,jV,EO,dh,iop]
  cases opd fr x with
  | none=>rfl
  | some v =>
   cases v with
   | tuple vs=>simp only[a8,Array.getElem?_toList]
   | _=>rfl
 case call c =>
  show FH c E call fr h=_
  unfold FH
  simp only[cA,Av,IF,dh,iop]
  cases c.callee with
  | value f=>simp only;cases opd fr f<;>cases gL fr c.args.toList<;>rfl
  | builtin b=>simp only;cases gL fr c.args.toList<;>rfl
  | invoke _ _=>rfl
 all_goals rfl
end
end Go.Id
