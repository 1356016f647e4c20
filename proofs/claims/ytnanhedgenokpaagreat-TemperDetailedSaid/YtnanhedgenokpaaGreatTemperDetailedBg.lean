/-
  The ideal machine once more, written for the kernel: by recursors, each alternative a constant of its own, numbers forced. First part: frames, memory, numbers; each function is proved to be the machine's.
-/
import Derived.Test.YtnanhedgenokpaaGreatTemperDetailedBf
import Derived.Test.YtnanhedgenokpaaGreatTemperDetailedAr
set_option linter.unusedVariables false
set_option linter.unusedSimpArgs false
set_option linter.defProp false
set_option linter.deprecated false
namespace Go.Id
open Go
noncomputable section
def fN {α:Type} (x:Nat) (k:Nat→α):α:=Nat.rec (motive:=fun _=>α) (k 0) (fun m _=>k (Nat.succ m)) x
theorem fN_eq {α:Type} (x:Nat) (k:Nat→α):fN x k=k x:=by cases x<;>rfl
def bO {α β:Type} (o:Option α) (k:α→Option β):Option β:=Option.rec (motive:=fun _=>Option β) none k o
@[simp] theorem bO_some {α β:Type} (a:α) (k:α→Option β):bO (some a) k=k a:=rfl
@[simp] theorem bO_none {α β:Type} (k:α→Option β):bO none k=none:=rfl
def iB {α:Type} (b:Bool) (x y:α):α:=Bool.rec (motive:=fun _=>α) y x b
theorem iB_eq {α:Type} (b:Bool) (x y:α):iB b x y=cond b x y:=by cases b<;>rfl
@[simp] theorem iB_true {α:Type} (x y:α):iB true x y=x:=rfl
@[simp] theorem iB_false {α:Type} (x y:α):iB false x y=y:=rfl
theorem bleI {a b:Nat}:Nat.ble a b=true↔a≤b:=by rw[Nat.ble_eq]
theorem beqN (a b:Nat):(a == b)=Nat.beq a b:=by
 rw[Bool.eq_iff_iff];simp[Nat.beq_eq]
def fgetF (fr:Fr) (t:Nat):Option Value:=List.rec (motive:=fun _=>Option Value) none (fun p _ ih=>Bool.rec (motive:=fun _=>Option Value) ih (some p.2) (Nat.beq p.1 t)) fr
theorem fgetF_eq : ∀(fr:Fr) (t:Nat),fgetF fr t=fget fr t
 | [],_=>rfl
 | (s,v) :: r,t=>by
  show Bool.rec (motive:=fun _=>Option Value) (fgetF r t) (some v) (Nat.beq s t)=bif s == t then some v else fget r t
  rw[fgetF_eq r t,beqN]
  cases Nat.beq s t<;>rfl
def putF (nt:Nat) (fr:Fr) (d:Option Nat) (v:Value):Option Fr:=Option.rec (motive:=fun _=>Option Fr) (some fr) (fun d=>Bool.rec (motive:=fun _=>Option Fr) none (some ((d,v) :: fr)) (Nat.ble (Nat.succ d) nt)) d
theorem putF_eq (nt:Nat) (fr:Fr) (d:Option Nat) (v:Value):putF nt fr d v=fput nt fr d v:=by
 cases d with
 | none=>rfl
 | some d =>
  show Bool.rec (motive:=fun _=>Option Fr) none (some ((d,v) :: fr)) (Nat.ble (Nat.succ d) nt)=bif Nat.blt d nt then some ((d,v) :: fr) else none
  rw[show Nat.blt d nt=Nat.ble (Nat.succ d) nt from rfl]
  cases Nat.ble (Nat.succ d) nt<;>rfl
def opdTmp (t:Tmp) (fr:Fr):Option Value:=fgetF fr t
def opdConst (v:Value) (_:Fr):Option Value:=Bool.rec (motive:=fun _=>Option Value) none (some v) (plain v)
def opdGlobal (g:Nat) (_:Fr):Option Value:=bif Nat.blt g 4294967296 then some (.pointer (some ⟨2*g+1,0,none⟩)) else none
def opdFunc (f:FuncId) (_:Fr):Option Value:=some (.func (.func f) #[] #[])
def opdF (x:Operand) (fr:Fr):Option Value:=Operand.rec (motive:=fun _=>Fr→Option Value) opdTmp opdConst opdGlobal opdFunc x fr
theorem opdF_eq (x:Operand) (fr:Fr):opdF x fr=opd fr x:=by
 cases x with
 | tmp t=>exact fgetF_eq fr t
 | const v =>
  show Bool.rec (motive:=fun _=>Option Value) none (some v) (plain v)=bif plain v then some v else none
  cases plain v<;>rfl
 | global g=>rfl
 | func f=>rfl
def opdsF (l:List Operand) (fr:Fr):Option (List Value):=List.rec (motive:=fun _=>Option (List Value)) (some []) (fun x _ ih=>bO (opdF x fr) fun v=>bO ih fun vs=>some (v :: vs)) l
theorem opdsF_eq : ∀(l:List Operand) (fr:Fr),opdsF l fr=opds fr l
 | [],_=>rfl
 | x :: l,fr=>by
  show bO (opdF x fr) (fun v=>bO (opdsF l fr) fun vs=>some (v :: vs))=_
  rw[opdF_eq,opdsF_eq l fr,opds]
  cases opd fr x<;>cases opds fr l<;>rfl
def trGet {α:Type} (t:Tr α) (n:Nat):Option α:=Tr.rec (motive:=fun _=>Nat→Option α) (fun _=>none) (fun _ v _ gl gr n=>Bool.rec (motive:=fun _=>Option α) (Bool.rec (motive:=fun _=>Option α) (gr (Nat.div (Nat.sub n 1) 2)) (gl (Nat.div n 2)) (Nat.beq (Nat.mod n 2) 1)) v (Nat.beq n 0)) t n
theorem trGet_eq {α:Type} : ∀(t:Tr α) (n:Nat),trGet t n=t.get n
 | .leaf,_=>rfl
 | .node l v r,n=>by
  show Bool.rec (motive:=fun _=>Option α) (Bool.rec (motive:=fun _=>Option α) (trGet r (Nat.div (Nat.sub n 1) 2)) (trGet l (Nat.div n 2)) (Nat.beq (Nat.mod n 2) 1)) v (Nat.beq n 0)=bif n == 0 then v else bif n % 2 == 1 then l.get (n / 2) else r.get ((n - 1) / 2)
  rw[trGet_eq l,trGet_eq r,beqN,beqN]
  show Bool.rec (motive:=fun _=>Option α) (Bool.rec (motive:=fun _=>Option α) (r.get ((n - 1) / 2)) (l.get (n / 2)) (Nat.beq (n % 2) 1)) v (Nat.beq n 0)=_
  cases Nat.beq n 0<;>cases Nat.beq (n % 2) 1<;>rfl
def trOneK {α β:Type} (x:α) (f n:Nat) (k:Tr α→β):β:=Nat.rec (motive:=fun _=>Nat→(Tr α→β)→β) (fun _ k=>k (.node .leaf (some x) .leaf)) (fun _ ih n k=>Bool.rec (motive:=fun _=>β) (Bool.rec (motive:=fun _=>β) (fN (Nat.div (Nat.sub n 1) 2) fun m=>ih m fun t=>k (.node .leaf none t)) (fN (Nat.div n 2) fun m=>ih m fun t=>k (.node t none .leaf)) (Nat.beq (Nat.mod n 2) 1)) (k (.node .leaf (some x) .leaf)) (Nat.beq n 0)) f n k
theorem trOneK_eq {α β:Type} (x:α) : ∀(f n:Nat) (k:Tr α→β),trOneK x f n k=k (Tr.one f n x)
 | 0,_,_=>rfl
 | f+1,n,k=>by
  show Bool.rec (motive:=fun _=>β) (Bool.rec (motive:=fun _=>β) (fN (Nat.div (Nat.sub n 1) 2) fun m=>trOneK x f m fun t=>k (.node .leaf none t)) (fN (Nat.div n 2) fun m=>trOneK x f m fun t=>k (.node t none .leaf)) (Nat.beq (Nat.mod n 2) 1)) (k (.node .leaf (some x) .leaf)) (Nat.beq n 0)=_
  rw[fN_eq,fN_eq,trOneK_eq x f,trOneK_eq x f,Tr.one,beqN,beqN]
  show Bool.rec (motive:=fun _=>β) (Bool.rec (motive:=fun _=>β) (k (.node .leaf none (Tr.one f ((n - 1) / 2) x))) (k (.node (Tr.one f (n / 2) x) none .leaf)) (Nat.beq (n % 2) 1)) (k (.node .leaf (some x) .leaf)) (Nat.beq n 0)=_
  cases Nat.beq n 0<;>cases Nat.beq (n % 2) 1<;>rfl
def trPut {α β:Type} (x:α) (t:Tr α) (n:Nat) (k:Tr α→β):β:=Tr.rec (motive:=fun _=>Nat→(Tr α→β)→β) (fun n k=>trOneK x n n k) (fun l v r sl sr n k=>Bool.rec (motive:=fun _=>β) (Bool.rec (motive:=fun _=>β) (fN (Nat.div (Nat.sub n 1) 2) fun m=>sr m fun r=>k (.node l v r)) (fN (Nat.div n 2) fun m=>sl m fun l=>k (.node l v r)) (Nat.beq (Nat.mod n 2) 1)) (k (.node l (some x) r)) (Nat.beq n 0)) t n k
theorem trPut_eq {α β:Type} (x:α) : ∀(t:Tr α) (n:Nat) (k:Tr α→β),trPut x t n k=k (t.set n x)
 | .leaf,n,k=>trOneK_eq x n n k
 | .node l v r,n,k=>by
  show Bool.rec (motive:=fun _=>β) (Bool.rec (motive:=fun _=>β) (fN (Nat.div (Nat.sub n 1) 2) fun m=>trPut x r m fun r=>k (.node l v r)) (fN (Nat.div n 2) fun m=>trPut x l m fun l=>k (.node l v r)) (Nat.beq (Nat.mod n 2) 1)) (k (.node l (some x) r)) (Nat.beq n 0)=_
  rw[fN_eq,fN_eq,trPut_eq x r,trPut_eq x l,Tr.set,beqN,beqN]
  show Bool.rec (motive:=fun _=>β) (Bool.rec (motive:=fun _=>β) (k (.node l v (r.set ((n - 1) / 2) x))) (k (.node (l.set (n / 2) x) v r)) (Nat.beq (n % 2) 1)) (k (.node l (some x) r)) (Nat.beq n 0)=_
  cases Nat.beq n 0<;>cases Nat.beq (n % 2) 1<;>rfl
def forceL {β:Type} (l:List Value) (k:List Value→β):β:=List.rec (motive:=fun _=>(List Value→β)→β) (fun k=>k []) (fun a _ ih k=>ih fun r=>k (a :: r)) l k
theorem forceL_eq {β:Type} : ∀(l:List Value) (k:List Value→β),forceL l k=k l
 | [],_=>rfl
 | _ :: l,_=>forceL_eq l _
def dropF (n:Nat) (l:List Value):List Value:=Nat.rec (motive:=fun _=>List Value→List Value) (fun l=>l) (fun _ ih l=>List.rec (motive:=fun _=>List Value) [] (fun _ l _=>ih l) l) n l
theorem dropF_eq : ∀(n:Nat) (l:List Value),dropF n l=l.drop n
 | 0,_=>rfl
 | n+1,[]=>rfl
 | n+1,_ :: l=>dropF_eq n l
def takeF (n:Nat) (l:List Value):Option (List Value):=Nat.rec (motive:=fun _=>List Value→Option (List Value)) (fun _=>some []) (fun _ ih l=>List.rec (motive:=fun _=>Option (List Value)) none (fun a l _=>bO (ih l) fun r=>some (a :: r)) l) n l
theorem takeF_eq : ∀(n:Nat) (l:List Value),takeF n l=bif Nat.ble n l.length then some (l.take n) else none
 | 0,_=>rfl
 | n+1,[]=>rfl
 | n+1,a :: l=>by
  show bO (takeF n l) (fun r=>some (a :: r))=_
  rw[takeF_eq n l]
  show _=bif Nat.ble n l.length then some (a :: l.take n) else none
  cases Nat.ble n l.length<;>rfl
def takeL (n:Nat) (l:List Value):List Value:=Nat.rec (motive:=fun _=>List Value→List Value) (fun _ => []) (fun _ ih l=>List.rec (motive:=fun _=>List Value) [] (fun a l _=>a :: ih l) l) n l
theorem takeL_eq : ∀(n:Nat) (l:List Value),takeL n l=l.take n
 | 0,_=>rfl
 | n+1,[]=>rfl
 | n+1,a :: l=>congrArg (a :: ·) (takeL_eq n l)
def nthF (n:Nat) (l:List Value):Option Value:=List.rec (motive:=fun _=>Option Value) none (fun a _ _=>some a) (dropF n l)
theorem nthF_eq (n:Nat) (l:List Value):nthF n l=l[n]?:=by
 unfold nthF
 rw[dropF_eq,←List.head?_drop]
 cases l.drop n<;>rfl
def appF (l m:List Value):List Value:=List.rec (motive:=fun _=>List Value) m (fun a _ ih=>a :: ih) l
theorem appF_eq : ∀(l m:List Value),appF l m=l ++ m
 | [],_=>rfl
 | a :: l,m=>congrArg (a :: ·) (appF_eq l m)
def lenL (l:List Value):Nat:=List.rec (motive:=fun _=>Nat) 0 (fun _ _ ih=>Nat.succ ih) l
theorem lenL_eq : ∀(l:List Value),lenL l=l.length
 | []=>rfl
 | _ :: l=>congrArg Nat.succ (lenL_eq l)
def allF (p:Value→Bool) (l:List Value):Bool:=List.rec (motive:=fun _=>Bool) true (fun a _ ih=>Bool.rec (motive:=fun _=>Bool) false ih (p a)) l
theorem allF_eq (p:Value→Bool) : ∀(l:List Value),allF p l=l.all p
 | []=>rfl
 | a :: l=>by
  show Bool.rec (motive:=fun _=>Bool) false (allF p l) (p a)=_
  rw[allF_eq p l,List.all_cons]
  cases p a<;>rfl
def overF (vs cs:List Value):Option (List Value):=List.rec (motive:=fun _=>List Value→Option (List Value)) (fun cs=>some cs) (fun v _ ih cs=>List.rec (motive:=fun _=>Option (List Value)) none (fun _ l _=>bO (ih l) fun r=>some (v :: r)) cs) vs cs
theorem overF_eq : ∀(vs cs:List Value),overF vs cs=bif Nat.ble vs.length cs.length then some (vs ++ cs.drop vs.length) else none
 | [],_=>rfl
 | _ :: _,[]=>rfl
 | v :: vs,c :: cs=>by
  show bO (overF vs cs) (fun r=>some (v :: r))=bif Nat.ble vs.length cs.length then some (v :: (vs ++ cs.drop vs.length)) else none
  rw[overF_eq vs cs]
  cases Nat.ble vs.length cs.length<;>rfl
def spliceF (o:Nat) (vs cs:List Value):Option (List Value):=Nat.rec (motive:=fun _=>List Value→Option (List Value)) (fun cs=>overF vs cs) (fun _ ih cs=>List.rec (motive:=fun _=>Option (List Value)) none (fun a l _=>bO (ih l) fun r=>some (a :: r)) cs) o cs
theorem spliceF_some (vs:List Value) : ∀(o:Nat) (cs:List Value),spliceF o vs cs=bif Nat.ble (o+vs.length) cs.length then some (IH.splice cs o vs) else none
 | 0,cs=>by
  show overF vs cs=_
  rw[overF_eq,Nat.zero_add]
  show _=bif Nat.ble vs.length cs.length then some (cs.take 0 ++ (vs ++ cs.drop (0+vs.length))) else none
  rw[Nat.zero_add,List.take_zero];rfl
 | o+1,[]=>by
  rw[show o+1+vs.length=(o+vs.length)+1 from by omega];rfl
 | o+1,c :: cs=>by
  show bO (spliceF o vs cs) (fun r=>some (c :: r))=_
  rw[spliceF_some vs o cs,show o+1+vs.length=(o+vs.length)+1 from by omega]
  show _=bif Nat.ble (o+vs.length) cs.length then some (IH.splice (c :: cs) (o+1) vs) else none
  rw[show IH.splice (c :: cs) (o+1) vs=c :: IH.splice cs o vs from by simp[IH.splice,show o+1+vs.length=(o+vs.length)+1 from by omega]]
  cases Nat.ble (o+vs.length) cs.length<;>rfl
def replF (n:Nat) (z:List Value):List Value:=Nat.rec (motive:=fun _=>List Value) [] (fun _ ih=>appF z ih) n
theorem replF_eq (z:List Value) : ∀n,replF n z=repl n z
 | 0=>rfl
 | n+1=>by
  show appF z (replF n z)=_
  rw[appF_eq,replF_eq z n];rfl
def cellsL (v:Value):List Value:=match v with
 | .agg cs=>cs.toList
 | v => [v]
theorem cellsL_eq (v:Value):cellsL v=v.cells.toList:=by cases v<;>rfl
def cellF (v:Value):Bool:=match v with
 | .agg _=>false
 | .tuple _=>false
 | _=>true
theorem cellF_eq:cellF=cellOK:=by funext v;cases v<;>rfl
def cellsOf (o:IObj):Option (List Value):=match o with
 | .cells cs _ _=>some cs
 | _=>none
def rowF (h:IH) (b:Nat):Option (List Value):=Bool.rec (motive:=fun _=>Option (List Value)) (bO (trGet h.ext (Nat.div b 2)) cellsOf) (h.base (Nat.div b 2)) (Nat.beq (Nat.mod b 2) 1)
theorem rowF_eq (h:IH) (b:Nat):rowF h b=h.row b:=by
 unfold rowF IH.row
 rw[beqN,trGet_eq]
 show Bool.rec (motive:=fun _=>Option (List Value)) (bO (h.ext.get (b / 2)) cellsOf) (h.base (b / 2)) (Nat.beq (b % 2) 1)=_
 cases Nat.beq (b % 2) 1
 ·show bO (h.ext.get (b / 2)) cellsOf=match h.ext.get (b / 2) with|some (.cells cs _ _)=>some cs|_=>none
  cases h.ext.get (b / 2) with
  | none=>rfl
  | some o=>cases o<;>rfl
 ·rfl
theorem rdT_of {cs:List Value} {o n:Nat}:(bif Nat.ble (o+n) cs.length then some ((cs.drop o).take n) else none:Option (List Value))=if n=0 then (bif Nat.ble o cs.length then some [] else none) else takeF n (cs.drop o):=by
 rw[takeF_eq,List.length_drop]
 split
 ·subst n;rfl
 ·have e:Nat.ble (o+n) cs.length=Nat.ble n (cs.length - o):=by
   rw[Bool.eq_iff_iff];simp only[Nat.ble_eq];omega
  rw[e]
def rd1 (h:IH) (b o:Nat):Option Value:=bO (rowF h b) fun cs=>nthF o cs
theorem rd1_eq (h:IH) (b o:Nat):rd1 h b o=(h.rd b o 1).bind (·.head?):=by
 unfold rd1 IH.rd
 rw[rowF_eq]
 cases h.row b with
 | none=>rfl
 | some cs =>
  simp only[bO_some,nthF_eq]
  by_cases hl:o<cs.length
  ·rw[show Nat.ble (o+1) cs.length=true from bleI.2 hl]
   simp only[cond_true,Option.bind_some,List.head?_take,List.head?_drop]
   simp
  ·rw[show Nat.ble (o+1) cs.length=false from by rw[Bool.eq_false_iff];simp only[ne_eq,Nat.ble_eq];omega]
   simp[List.getElem?_eq_none (Nat.le_of_not_lt hl)]
def rdN (h:IH) (b o n:Nat):Option (List Value):=bO (rowF h b) fun cs=>takeF n (dropF o cs)
theorem rdN_eq (h:IH) (b o n:Nat) (hn:n≠0):rdN h b o n=h.rd b o n:=by
 unfold rdN IH.rd
 rw[rowF_eq]
 cases h.row b with
 | none=>rfl
 | some cs =>
  simp only[bO_some,dropF_eq]
  exact((rdT_of (cs:=cs) (o:=o) (n:=n)).trans (if_neg hn)).symm
def loadF (P:Program) (h:IH) (t:TypeId) (v:Value):Option Value:=match v with
 | .pointer (some ⟨b,o,none⟩)=>bO (isAggT P t) fun g=>iB g (bO (sizeT P t) fun n=>bO (iB (Nat.beq n 0) (h.rd b o n) (rdN h b o n)) fun l=>some (Value.agg ⟨l⟩)) (rd1 h b o)
 | _=>none
theorem loadF_eq (P:Program) (h:IH) (t:TypeId) (v:Value):loadF P h t v=load P h t v:=by
 unfold loadF load
 split
 ·rename_i b o
  rw[show asAddr (.pointer (some ⟨b,o,none⟩))=some (b,o) from rfl]
  cases isAggT P t with
  | none=>cases sizeT P t<;>rfl
  | some g =>
   cases g with
   | false=>simp only[bO_some,iB_false,rd1_eq]
   | true =>
    simp only[bO_some,iB_true]
    cases sizeT P t with
    | none=>rfl
    | some n =>
     simp only[bO_some]
     have e:iB (Nat.beq n 0) (h.rd b o n) (rdN h b o n)=h.rd b o n:=by
      by_cases hn:n=0
      ·subst hn;rfl
      ·rw[rdN_eq h b o n hn,iB_eq];cases Nat.beq n 0<;>rfl
     rw[e]
     cases h.rd b o n<;>rfl
 ·rename_i hv
  have:asAddr v=none:=by
   unfold asAddr
   split
   ·exact absurd rfl (hv _ _)
   ·rfl
  rw[this]
def newF {β:Type} (h:IH) (o:IObj) (k:Nat→IH→β):β:=IH.rec (motive:=fun _=>β) (fun base n ext fams=>fN n fun n=>trPut o ext n fun e=>k n ⟨base,Nat.succ n,e,fams⟩) h
theorem newF_eq {β:Type} (h:IH) (o:IObj) (k:Nat→IH→β):newF h o k=k h.n (h.new o):=by
 obtain⟨base,n,ext,fams⟩:=h
 show(fN n fun n=>trPut o ext n fun e=>k n ⟨base,Nat.succ n,e,fams⟩)=_
 rw[fN_eq,trPut_eq];rfl
def setF {β:Type} (h:IH) (b:Nat) (o:IObj) (k:IH→β):β:=IH.rec (motive:=fun _=>β) (fun base n ext fams=>fN b fun b=>trPut o ext b fun e=>k ⟨base,n,e,fams⟩) h
theorem setF_eq {β:Type} (h:IH) (b:Nat) (o:IObj) (k:IH→β):setF h b o k=k { h with ext:=h.ext.set b o }:=by
 obtain⟨base,n,ext,fams⟩:=h
 show(fN b fun b=>trPut o ext b fun e=>k ⟨base,n,e,fams⟩)=_
 rw[fN_eq,trPut_eq]
def wrF (h:IH) (b o:Nat) (vs:List Value):Option IH:=iB (Nat.beq (Nat.mod b 2) 1) none (bO (trGet h.ext (Nat.div b 2)) fun ob=>match ob with
 | .cells cs t none=>bO (spliceF o vs cs) fun cs=>setF h (Nat.div b 2) (.cells cs t none) some
 | .cells _ _ (some _)=>h.wr b o vs
 | _=>none)
theorem wrF_eq (h:IH) (b o:Nat) (vs:List Value):wrF h b o vs=h.wr b o vs:=by
 unfold wrF
 rw[trGet_eq]
 show iB (Nat.beq (b % 2) 1) none (bO (h.ext.get (b / 2)) _)=_
 cases hb:Nat.beq (b % 2) 1
 ·rw[iB_false]
  cases hg:h.ext.get (b / 2) with
  | none =>
   unfold IH.wr
   rw[beqN,hb,hg];rfl
  | some ob =>
   rw[bO_some]
   split
   ·unfold IH.wr
    rw[beqN,hb,hg]
    simp only[cond_false,spliceF_some]
    rename_i cs t
    cases Nat.ble (o+vs.length) cs.length
    ·rfl
    ·simp only[cond_true,bO_some,setF_eq];rfl
   ·rfl
   ·unfold IH.wr
    rw[beqN,hb,hg]
    simp only[cond_false]
    split
    ·rename_i h1 h2 _ _ _ _ h4
     cases h4
     rename_i fam
     cases fam
     ·exact absurd rfl (h1 _ _)
     ·exact absurd rfl (h2 _ _ _)
    ·rfl
 ·rw[iB_true]
  unfold IH.wr
  rw[beqN,hb];rfl
def storeF (P:Program) (h:IH) (t:TypeId) (a v:Value):Option IH:=match a with
 | .pointer (some ⟨b,o,none⟩)=>bO (sizeT P t) fun n=>iB (Nat.beq (lenL (cellsL v)) n) (iB (allF cellF (cellsL v)) (wrF h b o (cellsL v)) none) none
 | _=>none
theorem storeF_eq (P:Program) (h:IH) (t:TypeId) (a v:Value):storeF P h t a v=store P h t a v:=by
 unfold storeF store
 split
 ·rename_i b o
  show _=match some (b,o),sizeT P t with|some (b,o),some n=>(bif v.cells.size == n && v.cells.toList.all cellOK then h.wr b o v.cells.toList else none)|_,_=>none
  cases sizeT P t with
  | none=>rfl
  | some n =>
   simp only[bO_some,cellsL_eq,lenL_eq,allF_eq,cellF_eq,wrF_eq,iB_eq,beqN,Array.length_toList]
   cases Nat.beq v.cells.size n<;>cases v.cells.toList.all cellOK<;>rfl
 ·rename_i hv
  have:asAddr a=none:=by
   unfold asAddr
   split
   ·exact absurd rfl (hv _ _)
   ·rfl
  rw[this]
def limF (k:IntKind):Nat:=IntKind.rec (motive:=fun _=>Nat) 128 32768 2147483648 9223372036854775808 256 65536 4294967296 18446744073709551616 k
theorem wrap_lim {k:IntKind} {n:Nat} (h:n<limF k):k.wrap (n:Int)=n:=by
 cases k
 ·exact IntWalk.i8_in _ (by simp only[limF] at h;omega)
 ·exact IntWalk.i16_in _ (by simp only[limF] at h;omega)
 ·exact IntWalk.i32_in _ (by simp only[limF] at h;omega)
 ·exact IntWalk.i64_in _ (by simp only[limF] at h;omega)
 ·exact IntWalk.u8_in _ (by simp only[limF] at h;omega)
 ·exact IntWalk.u16_in _ (by simp only[limF] at h;omega)
 ·exact IntWalk.u32_in _ (by simp only[limF] at h;omega)
 ·exact IntWalk.u64_in _ (by simp only[limF] at h;omega)
def okI (k:IntKind) (n:Nat):Option Value:=fN n fun s=>iB (Nat.ble (Nat.succ s) (limF k)) (some (.int k (.ofNat s))) none
def addF (k:IntKind) (a b:Nat):Option Value:=okI k (Nat.add a b)
def subF (k:IntKind) (a b:Nat):Option Value:=iB (Nat.ble b a) (okI k (Nat.sub a b)) none
def mulF (k:IntKind) (a b:Nat):Option Value:=okI k (Nat.mul a b)
def quoF (k:IntKind) (a b:Nat):Option Value:=iB (Nat.beq b 0) none (okI k (Nat.div a b))
def remF (k:IntKind) (a b:Nat):Option Value:=iB (Nat.beq b 0) none (okI k (Nat.mod a b))
def noF (_:IntKind) (_ _:Nat):Option Value:=none
def eqlF (_:IntKind) (a b:Nat):Option Value:=some (.bool (Nat.beq a b))
def neqF (_:IntKind) (a b:Nat):Option Value:=some (.bool (not (Nat.beq a b)))
def lssF (_:IntKind) (a b:Nat):Option Value:=some (.bool (Nat.ble (Nat.succ a) b))
def leqF (_:IntKind) (a b:Nat):Option Value:=some (.bool (Nat.ble a b))
def gtrF (_:IntKind) (a b:Nat):Option Value:=some (.bool (Nat.ble (Nat.succ b) a))
def geqF (_:IntKind) (a b:Nat):Option Value:=some (.bool (Nat.ble b a))
def is64 (k:IntKind):Bool:=IntKind.rec (motive:=fun _=>Bool) false false false true false false false true k
def isU64 (k:IntKind):Bool:=IntKind.rec (motive:=fun _=>Bool) false false false false false false false true k
def andF (k:IntKind) (a b:Nat):Option Value:=iB (isU64 k) (iB (Nat.ble (Nat.succ a) 18446744073709551616) (iB (Nat.ble (Nat.succ b) 18446744073709551616) (okI k (Nat.land a b)) none) none) none
def orF (k:IntKind) (a b:Nat):Option Value:=iB (isU64 k) (iB (Nat.ble (Nat.succ a) 18446744073709551616) (iB (Nat.ble (Nat.succ b) 18446744073709551616) (okI k (Nat.lor a b)) none) none) none
def binF (op:BinOp) (k:IntKind) (a b:Nat):Option Value:=BinOp.rec (motive:=fun _=>IntKind→Nat→Nat→Option Value) addF subF mulF quoF remF andF orF noF noF noF noF eqlF neqF lssF leqF gtrF geqF op k a b
theorem okI_some {k:IntKind} {n:Nat} {v:Value} (h:okI k n=some v):n<limF k∧v=.int k (n:Int):=by
 unfold okI at h
 rw[fN_eq,iB_eq] at h
 cases hb:Nat.ble (Nat.succ n) (limF k) with
 | false=>rw[hb] at h;cases h
 | true =>
  rw[hb] at h;cases h
  exact⟨bleI.1 hb,rfl⟩
theorem iB_some {α:Type} {b:Bool} {x:Option α} {v:α} (h:iB b x none=some v):b=true∧x=some v:=by
 cases b
 ·cases h
 ·exact⟨rfl,h⟩
theorem iB_some' {α:Type} {b:Bool} {x:Option α} {v:α} (h:iB b none x=some v):b=false∧x=some v:=by
 cases b
 ·exact⟨rfl,h⟩
 ·cases h
theorem ble_dec (a b:Nat):Nat.ble a b=decide ((a:Int)≤(b:Int)):=by
 rw[Bool.eq_iff_iff];simp only[Nat.ble_eq,decide_eq_true_eq];omega
theorem blt_dec (a b:Nat):Nat.ble (Nat.succ a) b=decide ((a:Int)<(b:Int)):=by
 rw[Bool.eq_iff_iff];simp only[Nat.ble_eq,decide_eq_true_eq];omega
theorem beq_dec (a b:Nat):Nat.beq a b=((a:Int) == (b:Int)):=by
 rw[Bool.eq_iff_iff];simp only[Nat.beq_eq,beq_iff_eq];omega
theorem binF_some {P:Program} {op:BinOp} {t:TypeId} {ox oy:Operand} {k:IntKind} {a b:Nat} {v:Value} (h:binF op k a b=some v):binop P op t ox oy (.int k (a:Int)) (.int k (b:Int))=some v:=by
 cases op
 case add =>
  obtain⟨h1,rfl⟩:=okI_some (n:=a+b) h
  rw[binop_add]
  exact congrArg (fun x=>some (Value.int k x)) (by rw[show(a:Int)+b=((a+b:Nat):Int) from by omega];exact wrap_lim h1)
 case sub =>
  obtain⟨h0,h⟩:=iB_some (b:=Nat.ble b a) h
  obtain⟨h1,rfl⟩:=okI_some (n:=a - b) h
  have h2:=bleI.1 h0
  rw[binop_sub]
  exact congrArg (fun x=>some (Value.int k x)) (by rw[show(a:Int) - b=((a - b:Nat):Int) from by omega];exact wrap_lim h1)
 case mul =>
  obtain⟨h1,rfl⟩:=okI_some (n:=a*b) h
  rw[binop_mul]
  exact congrArg (fun x=>some (Value.int k x)) (by rw[←Int.natCast_mul];exact wrap_lim h1)
 case quo =>
  obtain⟨h0,h⟩:=iB_some' (b:=Nat.beq b 0) h
  obtain⟨h1,rfl⟩:=okI_some (n:=a / b) h
  have hb:b≠0:=fun e=>by subst e;cases h0
  rw[binop_quo P t ox oy (by omega)]
  exact congrArg (fun x=>some (Value.int k x)) (by rw[←Int.ofNat_tdiv];exact wrap_lim h1)
 case rem =>
  obtain⟨h0,h⟩:=iB_some' (b:=Nat.beq b 0) h
  obtain⟨h1,rfl⟩:=okI_some (n:=a % b) h
  have hb:b≠0:=fun e=>by subst e;cases h0
  rw[binop_rem P t ox oy (by omega)]
  exact congrArg (fun x=>some (Value.int k x)) (Int.ofNat_tmod a b).symm
 case and =>
  obtain⟨h0,h⟩:=iB_some (b:=isU64 k) h
  obtain⟨h2,h⟩:=iB_some (b:=Nat.ble (Nat.succ a) 18446744073709551616) h
  obtain⟨h3,h⟩:=iB_some (b:=Nat.ble (Nat.succ b) 18446744073709551616) h
  obtain⟨h1,rfl⟩:=okI_some (n:=a &&& b) h
  cases k<;>first|(cases h0;done)|exact binop_and_u64 P t ox oy a b (bleI.1 h2) (bleI.1 h3)
 case or =>
  obtain⟨h0,h⟩:=iB_some (b:=isU64 k) h
  obtain⟨h2,h⟩:=iB_some (b:=Nat.ble (Nat.succ a) 18446744073709551616) h
  obtain⟨h3,h⟩:=iB_some (b:=Nat.ble (Nat.succ b) 18446744073709551616) h
  obtain⟨h1,rfl⟩:=okI_some (n:=a ||| b) h
  cases k<;>first|(cases h0;done)|exact binop_or_u64 P t ox oy a b (bleI.1 h2) (bleI.1 h3)
 case eql=>rw[binop_eql,←beq_dec];exact h
 case neq=>rw[binop_neq,bne,←beq_dec];exact h
 case lss=>rw[binop_lss,←blt_dec];exact h
 case leq=>rw[binop_leq,←ble_dec];exact h
 case gtr=>rw[binop_gtr,←blt_dec];exact h
 case geq=>rw[binop_geq,←ble_dec];exact h
 all_goals cases h
def kindN (k:IntKind):Nat:=IntKind.rec (motive:=fun _=>Nat) 0 1 2 3 4 5 6 7 k
theorem kindN_inj {j k:IntKind} (h:Nat.beq (kindN j) (kindN k)=true):j=k:=by
 cases j<;>cases k<;>first|rfl|cases h
def shF (op:BinOp) (k:IntKind) (a b:Nat):Option Value:=BinOp.rec (motive:=fun _=>Option Value) none none none none none none none none
 (iB (Nat.ble b 64) (iB (is64 k) (okI k (Nat.mul a (Nat.pow 2 b))) none) none)
 (iB (Nat.ble b 64) (iB (is64 k) (okI k (Nat.div a (Nat.pow 2 b))) none) none) none none none none none none none op
theorem shF_some {P:Program} {op:BinOp} {t:TypeId} {ox oy:Operand} {k j:IntKind} {a b:Nat} {v:Value} (h:shF op k a b=some v):binop P op t ox oy (.int k (a:Int)) (.int j (b:Int))=some v:=by
 cases op
 case shl =>
  obtain⟨h0,h⟩:=iB_some (b:=Nat.ble b 64) h
  obtain⟨h2,h⟩:=iB_some (b:=is64 k) h
  obtain⟨h1,rfl⟩:=okI_some (n:=a*2 ^ b) h
  rw[binop_shl P t ox oy (by omega)]
  have hb:min (b:Int).toNat k.bits=b:=by
   have:=bleI.1 h0
   rw[Int.toNat_natCast]
   cases k<;>first|(cases h2;done)|exact Nat.min_eq_left this
  rw[hb]
  exact congrArg (fun x=>some (Value.int k x)) (by rw[show(a:Int)*2 ^ b=((a*2 ^ b:Nat):Int) from by rw[Int.natCast_mul,Int.natCast_pow];rfl];exact wrap_lim h1)
 case shr =>
  obtain⟨h0,h⟩:=iB_some (b:=Nat.ble b 64) h
  obtain⟨h2,h⟩:=iB_some (b:=is64 k) h
  obtain⟨h1,rfl⟩:=okI_some (n:=a / 2 ^ b) h
  rw[binop_shr P t ox oy (by omega)]
  have hb:min (b:Int).toNat k.bits=b:=by
   have:=bleI.1 h0
   rw[Int.toNat_natCast]
   cases k<;>first|(cases h2;done)|exact Nat.min_eq_left this
  rw[hb]
  refine congrArg (fun x=>some (Value.int k x)) ?_
  rw[Int.fdiv_eq_ediv_of_nonneg _ (by exact Int.le_of_lt (Int.pow_pos (by omega))),Int.natCast_ediv,Int.natCast_pow];rfl
 all_goals cases h
def orElse (a b:Option Value):Option Value:=Option.rec (motive:=fun _=>Option Value) b (fun v=>some v) a
def binopF (P:Program) (op:BinOp) (t:TypeId) (ox oy:Operand) (x y:Value):Option Value:=match x,y with
 | .int k (.ofNat a),.int j (.ofNat b)=>orElse (iB (Nat.beq (kindN k) (kindN j)) (binF op k a b) none) (orElse (shF op k a b) (binop P op t ox oy (.int k (.ofNat a)) (.int j (.ofNat b))))
 | x,y=>binop P op t ox oy x y
theorem orElse_eq {a b c:Option Value} (h : ∀v,a=some v→c=some v) (hb:b=c):orElse a b=c:=by
 cases a with
 | none=>exact hb
 | some v=>exact(h v rfl).symm
theorem binopF_eq (P:Program) (op:BinOp) (t:TypeId) (ox oy:Operand) (x y:Value):binopF P op t ox oy x y=binop P op t ox oy x y:=by
 unfold binopF
 split
 ·refine orElse_eq (fun v h=>?_) (orElse_eq (fun v h=>shF_some h) rfl)
  obtain⟨h0,h1⟩:=iB_some h
  have:=kindN_inj h0
  subst this
  exact binF_some h1
 ·rfl
end
end Go.Id
