/-
  The ideal machine once more, written for the kernel: by recursors, each alternative a constant of its own, numbers forced. First part: frames, memory, numbers; each function is proved to be the machine's.
-/
import Derived.Test.YtjhnilfelokpcaaGreatOutlierPathsBb
import Derived.Test.YtjhnilfelokpcaaGreatOutlierPathsAo
set_option linter.unusedVariables false
set_option linter.unusedSimpArgs false
set_option linter.defProp false
set_option linter.deprecated false
namespace Go.Id
open Go
noncomputable section
def fN {α:Type} (x:Nat) (k:Nat→α):α:=Nat.rec (motive:=fun _=>α) (k 0) (fun m _=>k (Nat.succ m)) x
theorem dN {α:Type} (x:Nat) (k:Nat→α):fN x k=k x:=by cases x<;>rfl
def bO {α β:Type} (o:Option α) (k:α→Option β):Option β:=Option.rec (motive:=fun _=>Option β) none k o
@[simp] theorem aW {α β:Type} (a:α) (k:α→Option β):bO (some a) k=k a:=rfl
@[simp] theorem YE {α β:Type} (k:α→Option β):bO none k=none:=rfl
def iB {α:Type} (b:Bool) (x y:α):α:=Bool.rec (motive:=fun _=>α) y x b
theorem dW {α:Type} (b:Bool) (x y:α):iB b x y=cond b x y:=by cases b<;>rfl
@[simp] theorem yc {α:Type} (x y:α):iB true x y=x:=rfl
@[simp] theorem qt {α:Type} (x y:α):iB false x y=y:=rfl
theorem qH {a b:Nat}:Nat.ble a b=true↔a≤b:=by rw[Nat.ble_eq]
theorem kJ (a b:Nat):(a == b)=Nat.beq a b:=by
 rw[Bool.eq_iff_iff];simp[Nat.beq_eq]
def uE (fr:Fr) (t:Nat):Option Value:=List.rec (motive:=fun _=>Option Value) none (fun p _ ih=>Bool.rec (motive:=fun _=>Option Value) ih (some p.2) (Nat.beq p.1 t)) fr
theorem oi : ∀(fr:Fr) (t:Nat),uE fr t=ai fr t
 | [],_=>rfl
 | (s,v) :: r,t=>by
  show Bool.rec (motive:=fun _=>Option Value) (uE r t) (some v) (Nat.beq s t)=bif s == t then some v else ai r t
  rw[oi r t,kJ]
  cases Nat.beq s t<;>rfl
def OV (nt:Nat) (fr:Fr) (d:Option Nat) (v:Value):Option Fr:=Option.rec (motive:=fun _=>Option Fr) (some fr) (fun d=>Bool.rec (motive:=fun _=>Option Fr) none (some ((d,v) :: fr)) (Nat.ble (Nat.succ d) nt)) d
theorem C0 (nt:Nat) (fr:Fr) (d:Option Nat) (v:Value):OV nt fr d v=mC nt fr d v:=by
 cases d with
 | none=>rfl
 | some d =>
  show Bool.rec (motive:=fun _=>Option Fr) none (some ((d,v) :: fr)) (Nat.ble (Nat.succ d) nt)=bif Nat.blt d nt then some ((d,v) :: fr) else none
  rw[show Nat.blt d nt=Nat.ble (Nat.succ d) nt from rfl]
  cases Nat.ble (Nat.succ d) nt<;>rfl
def U9 (t:Tmp) (fr:Fr):Option Value:=uE fr t
def O9 (v:Value) (_:Fr):Option Value:=Bool.rec (motive:=fun _=>Option Value) none (some v) (plain v)
def LZ (g:Nat) (_:Fr):Option Value:=bif Nat.blt g 4294967296 then some (.pointer (some ⟨2*g+1,0,none⟩)) else none
def Sd (f:FuncId) (_:Fr):Option Value:=some (.func (.func f) #[] #[])
def cL (x:Operand) (fr:Fr):Option Value:=Operand.rec (motive:=fun _=>Fr→Option Value) U9 O9 LZ Sd x fr
theorem cu (x:Operand) (fr:Fr):cL x fr=opd fr x:=by
 cases x with
 | tmp t=>exact oi fr t
 | const v =>
  show Bool.rec (motive:=fun _=>Option Value) none (some v) (plain v)=bif plain v then some v else none
  cases plain v<;>rfl
 | global g=>rfl
 | func f=>rfl
def zb (l:List Operand) (fr:Fr):Option (List Value):=List.rec (motive:=fun _=>Option (List Value)) (some []) (fun x _ ih=>bO (cL x fr) fun v=>bO ih fun vs=>some (v :: vs)) l
theorem za : ∀(l:List Operand) (fr:Fr),zb l fr=gh fr l
 | [],_=>rfl
 | x :: l,fr=>by
  show bO (cL x fr) (fun v=>bO (zb l fr) fun vs=>some (v :: vs))=_
  rw[cu,za l fr,gh]
  cases opd fr x<;>cases gh fr l<;>rfl
def tG {α:Type} (t:Tr α) (n:Nat):Option α:=Tr.rec (motive:=fun _=>Nat→Option α) (fun _=>none) (fun _ v _ gl gr n=>Bool.rec (motive:=fun _=>Option α) (Bool.rec (motive:=fun _=>Option α) (gr (Nat.div (Nat.sub n 1) 2)) (gl (Nat.div n 2)) (Nat.beq (Nat.mod n 2) 1)) v (Nat.beq n 0)) t n
theorem lO {α:Type} : ∀(t:Tr α) (n:Nat),tG t n=t.get n
 | .leaf,_=>rfl
 | .node l v r,n=>by
  show Bool.rec (motive:=fun _=>Option α) (Bool.rec (motive:=fun _=>Option α) (tG r (Nat.div (Nat.sub n 1) 2)) (tG l (Nat.div n 2)) (Nat.beq (Nat.mod n 2) 1)) v (Nat.beq n 0)=bif n == 0 then v else bif n % 2 == 1 then l.get (n / 2) else r.get ((n - 1) / 2)
  rw[lO l,lO r,kJ,kJ]
  show Bool.rec (motive:=fun _=>Option α) (Bool.rec (motive:=fun _=>Option α) (r.get ((n - 1) / 2)) (l.get (n / 2)) (Nat.beq (n % 2) 1)) v (Nat.beq n 0)=_
  cases Nat.beq n 0<;>cases Nat.beq (n % 2) 1<;>rfl
def CH {α β:Type} (x:α) (f n:Nat) (k:Tr α→β):β:=Nat.rec (motive:=fun _=>Nat→(Tr α→β)→β) (fun _ k=>k (.node .leaf (some x) .leaf)) (fun _ ih n k=>Bool.rec (motive:=fun _=>β) (Bool.rec (motive:=fun _=>β) (fN (Nat.div (Nat.sub n 1) 2) fun m=>ih m fun t=>k (.node .leaf none t)) (fN (Nat.div n 2) fun m=>ih m fun t=>k (.node t none .leaf)) (Nat.beq (Nat.mod n 2) 1)) (k (.node .leaf (some x) .leaf)) (Nat.beq n 0)) f n k
theorem vd {α β:Type} (x:α) : ∀(f n:Nat) (k:Tr α→β),CH x f n k=k (Tr.one f n x)
 | 0,_,_=>rfl
 | f+1,n,k=>by
  show Bool.rec (motive:=fun _=>β) (Bool.rec (motive:=fun _=>β) (fN (Nat.div (Nat.sub n 1) 2) fun m=>CH x f m fun t=>k (.node .leaf none t)) (fN (Nat.div n 2) fun m=>CH x f m fun t=>k (.node t none .leaf)) (Nat.beq (Nat.mod n 2) 1)) (k (.node .leaf (some x) .leaf)) (Nat.beq n 0)=_
  rw[dN,dN,vd x f,vd x f,Tr.one,kJ,kJ]
  show Bool.rec (motive:=fun _=>β) (Bool.rec (motive:=fun _=>β) (k (.node .leaf none (Tr.one f ((n - 1) / 2) x))) (k (.node (Tr.one f (n / 2) x) none .leaf)) (Nat.beq (n % 2) 1)) (k (.node .leaf (some x) .leaf)) (Nat.beq n 0)=_
  cases Nat.beq n 0<;>cases Nat.beq (n % 2) 1<;>rfl
def lM {α β:Type} (x:α) (t:Tr α) (n:Nat) (k:Tr α→β):β:=Tr.rec (motive:=fun _=>Nat→(Tr α→β)→β) (fun n k=>CH x n n k) (fun l v r sl sr n k=>Bool.rec (motive:=fun _=>β) (Bool.rec (motive:=fun _=>β) (fN (Nat.div (Nat.sub n 1) 2) fun m=>sr m fun r=>k (.node l v r)) (fN (Nat.div n 2) fun m=>sl m fun l=>k (.node l v r)) (Nat.beq (Nat.mod n 2) 1)) (k (.node l (some x) r)) (Nat.beq n 0)) t n k
theorem kf {α β:Type} (x:α) : ∀(t:Tr α) (n:Nat) (k:Tr α→β),lM x t n k=k (t.set n x)
 | .leaf,n,k=>vd x n n k
 | .node l v r,n,k=>by
  show Bool.rec (motive:=fun _=>β) (Bool.rec (motive:=fun _=>β) (fN (Nat.div (Nat.sub n 1) 2) fun m=>lM x r m fun r=>k (.node l v r)) (fN (Nat.div n 2) fun m=>lM x l m fun l=>k (.node l v r)) (Nat.beq (Nat.mod n 2) 1)) (k (.node l (some x) r)) (Nat.beq n 0)=_
  rw[dN,dN,kf x r,kf x l,Tr.set,kJ,kJ]
  show Bool.rec (motive:=fun _=>β) (Bool.rec (motive:=fun _=>β) (k (.node l v (r.set ((n - 1) / 2) x))) (k (.node (l.set (n / 2) x) v r)) (Nat.beq (n % 2) 1)) (k (.node l (some x) r)) (Nat.beq n 0)=_
  cases Nat.beq n 0<;>cases Nat.beq (n % 2) 1<;>rfl
def vK {β:Type} (l:List Value) (k:List Value→β):β:=List.rec (motive:=fun _=>(List Value→β)→β) (fun k=>k []) (fun a _ ih k=>ih fun r=>k (a :: r)) l k
theorem oe {β:Type} : ∀(l:List Value) (k:List Value→β),vK l k=k l
 | [],_=>rfl
 | _ :: l,_=>oe l _
def B7 (n:Nat) (l:List Value):List Value:=Nat.rec (motive:=fun _=>List Value→List Value) (fun l=>l) (fun _ ih l=>List.rec (motive:=fun _=>List Value) [] (fun _ l _=>ih l) l) n l
theorem qB : ∀(n:Nat) (l:List Value),B7 n l=l.drop n
 | 0,_=>rfl
 | n+1,[]=>rfl
 | n+1,_ :: l=>qB n l
def Jg (n:Nat) (l:List Value):Option (List Value):=Nat.rec (motive:=fun _=>List Value→Option (List Value)) (fun _=>some []) (fun _ ih l=>List.rec (motive:=fun _=>Option (List Value)) none (fun a l _=>bO (ih l) fun r=>some (a :: r)) l) n l
theorem Ev : ∀(n:Nat) (l:List Value),Jg n l=bif Nat.ble n l.length then some (l.take n) else none
 | 0,_=>rfl
 | n+1,[]=>rfl
 | n+1,a :: l=>by
  show bO (Jg n l) (fun r=>some (a :: r))=_
  rw[Ev n l]
  show _=bif Nat.ble n l.length then some (a :: l.take n) else none
  cases Nat.ble n l.length<;>rfl
def Ty (n:Nat) (l:List Value):List Value:=Nat.rec (motive:=fun _=>List Value→List Value) (fun _ => []) (fun _ ih l=>List.rec (motive:=fun _=>List Value) [] (fun a l _=>a :: ih l) l) n l
theorem Eu : ∀(n:Nat) (l:List Value),Ty n l=l.take n
 | 0,_=>rfl
 | n+1,[]=>rfl
 | n+1,a :: l=>congrArg (a :: ·) (Eu n l)
def Pg (n:Nat) (l:List Value):Option Value:=List.rec (motive:=fun _=>Option Value) none (fun a _ _=>some a) (B7 n l)
theorem Db (n:Nat) (l:List Value):Pg n l=l[n]?:=by
 unfold Pg
 rw[qB,←List.head?_drop]
 cases l.drop n<;>rfl
def xL (l m:List Value):List Value:=List.rec (motive:=fun _=>List Value) m (fun a _ ih=>a :: ih) l
theorem yj : ∀(l m:List Value),xL l m=l ++ m
 | [],_=>rfl
 | a :: l,m=>congrArg (a :: ·) (yj l m)
def zx (l:List Value):Nat:=List.rec (motive:=fun _=>Nat) 0 (fun _ _ ih=>Nat.succ ih) l
theorem jX : ∀(l:List Value),zx l=l.length
 | []=>rfl
 | _ :: l=>congrArg Nat.succ (jX l)
def Tj (p:Value→Bool) (l:List Value):Bool:=List.rec (motive:=fun _=>Bool) true (fun a _ ih=>Bool.rec (motive:=fun _=>Bool) false ih (p a)) l
theorem DY (p:Value→Bool) : ∀(l:List Value),Tj p l=l.all p
 | []=>rfl
 | a :: l=>by
  show Bool.rec (motive:=fun _=>Bool) false (Tj p l) (p a)=_
  rw[DY p l,List.all_cons]
  cases p a<;>rfl
def JM (vs cs:List Value):Option (List Value):=List.rec (motive:=fun _=>List Value→Option (List Value)) (fun cs=>some cs) (fun v _ ih cs=>List.rec (motive:=fun _=>Option (List Value)) none (fun _ l _=>bO (ih l) fun r=>some (v :: r)) cs) vs cs
theorem Fm : ∀(vs cs:List Value),JM vs cs=bif Nat.ble vs.length cs.length then some (vs ++ cs.drop vs.length) else none
 | [],_=>rfl
 | _ :: _,[]=>rfl
 | v :: vs,c :: cs=>by
  show bO (JM vs cs) (fun r=>some (v :: r))=bif Nat.ble vs.length cs.length then some (v :: (vs ++ cs.drop vs.length)) else none
  rw[Fm vs cs]
  cases Nat.ble vs.length cs.length<;>rfl
def tO (o:Nat) (vs cs:List Value):Option (List Value):=Nat.rec (motive:=fun _=>List Value→Option (List Value)) (fun cs=>JM vs cs) (fun _ ih cs=>List.rec (motive:=fun _=>Option (List Value)) none (fun a l _=>bO (ih l) fun r=>some (a :: r)) cs) o cs
theorem oE (vs:List Value) : ∀(o:Nat) (cs:List Value),tO o vs cs=bif Nat.ble (o+vs.length) cs.length then some (IH.aG cs o vs) else none
 | 0,cs=>by
  show JM vs cs=_
  rw[Fm,Nat.zero_add]
  show _=bif Nat.ble vs.length cs.length then some (cs.take 0 ++ (vs ++ cs.drop (0+vs.length))) else none
  rw[Nat.zero_add,List.take_zero];rfl
 | o+1,[]=>by
  rw[show o+1+vs.length=(o+vs.length)+1 from by omega];rfl
 | o+1,c :: cs=>by
  show bO (tO o vs cs) (fun r=>some (c :: r))=_
  rw[oE vs o cs,show o+1+vs.length=(o+vs.length)+1 from by omega]
  show _=bif Nat.ble (o+vs.length) cs.length then some (IH.aG (c :: cs) (o+1) vs) else none
  rw[show IH.aG (c :: cs) (o+1) vs=c :: IH.aG cs o vs from by simp[IH.aG,show o+1+vs.length=(o+vs.length)+1 from by omega]]
  cases Nat.ble (o+vs.length) cs.length<;>rfl
def Jv (n:Nat) (z:List Value):List Value:=Nat.rec (motive:=fun _=>List Value) [] (fun _ ih=>xL z ih) n
theorem yV (z:List Value) : ∀n,Jv n z=bS n z
 | 0=>rfl
 | n+1=>by
  show xL z (Jv n z)=_
  rw[yj,yV z n];rfl
def pe (v:Value):List Value:=match v with
 | .agg cs=>cs.toList
 | v => [v]
theorem vV (v:Value):pe v=v.cells.toList:=by cases v<;>rfl
def QR (v:Value):Bool:=match v with
 | .agg _=>false
 | .tuple _=>false
 | _=>true
theorem Gw:QR=aH:=by funext v;cases v<;>rfl
def cellsOf (o:bR):Option (List Value):=match o with
 | .cells cs _ _=>some cs
 | _=>none
def RV (h:IH) (b:Nat):Option (List Value):=Bool.rec (motive:=fun _=>Option (List Value)) (bO (tG h.ext (Nat.div b 2)) cellsOf) (h.base (Nat.div b 2)) (Nat.beq (Nat.mod b 2) 1)
theorem Js (h:IH) (b:Nat):RV h b=h.row b:=by
 unfold RV IH.row
 rw[kJ,lO]
 show Bool.rec (motive:=fun _=>Option (List Value)) (bO (h.ext.get (b / 2)) cellsOf) (h.base (b / 2)) (Nat.beq (b % 2) 1)=_
 cases Nat.beq (b % 2) 1
 ·show bO (h.ext.get (b / 2)) cellsOf=match h.ext.get (b / 2) with|some (.cells cs _ _)=>some cs|_=>none
  cases h.ext.get (b / 2) with
  | none=>rfl
  | some o=>cases o<;>rfl
 ·rfl
theorem UX {cs:List Value} {o n:Nat}:(bif Nat.ble (o+n) cs.length then some ((cs.drop o).take n) else none:Option (List Value))=if n=0 then (bif Nat.ble o cs.length then some [] else none) else Jg n (cs.drop o):=by
 rw[Ev,List.length_drop]
 split
 ·subst n;rfl
 ·have e:Nat.ble (o+n) cs.length=Nat.ble n (cs.length - o):=by
   rw[Bool.eq_iff_iff];simp only[Nat.ble_eq];omega
  rw[e]
def rd1 (h:IH) (b o:Nat):Option Value:=bO (RV h b) fun cs=>Pg o cs
theorem UY (h:IH) (b o:Nat):rd1 h b o=(h.rd b o 1).bind (·.head?):=by
 unfold rd1 IH.rd
 rw[Js]
 cases h.row b with
 | none=>rfl
 | some cs =>
  simp only[aW,Db]
  by_cases hl:o<cs.length
  ·rw[show Nat.ble (o+1) cs.length=true from qH.2 hl]
   simp only[cond_true,Option.bind_some,List.head?_take,List.head?_drop]
   simp
  ·rw[show Nat.ble (o+1) cs.length=false from by rw[Bool.eq_false_iff];simp only[ne_eq,Nat.ble_eq];omega]
   simp[List.getElem?_eq_none (Nat.le_of_not_lt hl)]
def rdN (h:IH) (b o n:Nat):Option (List Value):=bO (RV h b) fun cs=>Jg n (B7 o cs)
theorem ON (h:IH) (b o n:Nat) (hn:n≠0):rdN h b o n=h.rd b o n:=by
 unfold rdN IH.rd
 rw[Js]
 cases h.row b with
 | none=>rfl
 | some cs =>
  simp only[aW,qB]
  exact((UX (cs:=cs) (o:=o) (n:=n)).trans (if_neg hn)).symm
def JV (P:Program) (h:IH) (t:TypeId) (v:Value):Option Value:=match v with
 | .pointer (some ⟨b,o,none⟩)=>bO (bE P t) fun g=>iB g (bO (aJ P t) fun n=>bO (iB (Nat.beq n 0) (h.rd b o n) (rdN h b o n)) fun l=>some (Value.agg ⟨l⟩)) (rd1 h b o)
 | _=>none
theorem FN (P:Program) (h:IH) (t:TypeId) (v:Value):JV P h t v=load P h t v:=by
 unfold JV load
 split
 ·rename_i b o
  rw[show asAddr (.pointer (some ⟨b,o,none⟩))=some (b,o) from rfl]
  cases bE P t with
  | none=>cases aJ P t<;>rfl
  | some g =>
   cases g with
   | false=>simp only[aW,qt,UY]
   | true =>
    simp only[aW,yc]
    cases aJ P t with
    | none=>rfl
    | some n =>
     simp only[aW]
     have e:iB (Nat.beq n 0) (h.rd b o n) (rdN h b o n)=h.rd b o n:=by
      by_cases hn:n=0
      ·subst hn;rfl
      ·rw[ON h b o n hn,dW];cases Nat.beq n 0<;>rfl
     rw[e]
     cases h.rd b o n<;>rfl
 ·rename_i hv
  have:asAddr v=none:=by
   unfold asAddr
   split
   ·exact absurd rfl (hv _ _)
   ·rfl
  rw[this]
def Mo {β:Type} (h:IH) (o:bR) (k:Nat→IH→β):β:=IH.rec (motive:=fun _=>β) (fun base n ext bQ=>fN n fun n=>lM o ext n fun e=>k n ⟨base,Nat.succ n,e,bQ⟩) h
theorem xU {β:Type} (h:IH) (o:bR) (k:Nat→IH→β):Mo h o k=k h.n (h.new o):=by
 obtain⟨base,n,ext,bQ⟩:=h
 show(fN n fun n=>lM o ext n fun e=>k n ⟨base,Nat.succ n,e,bQ⟩)=_
 rw[dN,kf];rfl
def Hk {β:Type} (h:IH) (b:Nat) (o:bR) (k:IH→β):β:=IH.rec (motive:=fun _=>β) (fun base n ext bQ=>fN b fun b=>lM o ext b fun e=>k ⟨base,n,e,bQ⟩) h
theorem CT {β:Type} (h:IH) (b:Nat) (o:bR) (k:IH→β):Hk h b o k=k { h with ext:=h.ext.set b o }:=by
 obtain⟨base,n,ext,bQ⟩:=h
 show(fN b fun b=>lM o ext b fun e=>k ⟨base,n,e,bQ⟩)=_
 rw[dN,kf]
def wrF (h:IH) (b o:Nat) (vs:List Value):Option IH:=iB (Nat.beq (Nat.mod b 2) 1) none (bO (tG h.ext (Nat.div b 2)) fun ob=>match ob with
 | .cells cs t none=>bO (tO o vs cs) fun cs=>Hk h (Nat.div b 2) (.cells cs t none) some
 | .cells _ _ (some _)=>h.wr b o vs
 | _=>none)
theorem ND (h:IH) (b o:Nat) (vs:List Value):wrF h b o vs=h.wr b o vs:=by
 unfold wrF
 rw[lO]
 show iB (Nat.beq (b % 2) 1) none (bO (h.ext.get (b / 2)) _)=_
 cases hb:Nat.beq (b % 2) 1
 ·rw[qt]
  cases hg:h.ext.get (b / 2) with
  | none =>
   unfold IH.wr
   rw[kJ,hb,hg];rfl
  | some ob =>
   rw[aW]
   split
   ·unfold IH.wr
    rw[kJ,hb,hg]
    simp only[cond_false,oE]
    rename_i cs t
    cases Nat.ble (o+vs.length) cs.length
    ·rfl
    ·simp only[cond_true,aW,CT];rfl
   ·rfl
   ·unfold IH.wr
    rw[kJ,hb,hg]
    simp only[cond_false]
    split
    ·rename_i h1 h2 _ _ _ _ h4
     cases h4
     rename_i fam
     cases fam
     ·exact absurd rfl (h1 _ _)
     ·exact absurd rfl (h2 _ _ _)
    ·rfl
 ·rw[yc]
  unfold IH.wr
  rw[kJ,hb];rfl
def G7 (P:Program) (h:IH) (t:TypeId) (a v:Value):Option IH:=match a with
 | .pointer (some ⟨b,o,none⟩)=>bO (aJ P t) fun n=>iB (Nat.beq (zx (pe v)) n) (iB (Tj QR (pe v)) (wrF h b o (pe v)) none) none
 | _=>none
theorem Lk (P:Program) (h:IH) (t:TypeId) (a v:Value):G7 P h t a v=store P h t a v:=by
 unfold G7 store
 split
 ·rename_i b o
  show _=match some (b,o),aJ P t with|some (b,o),some n=>(bif v.cells.size == n && v.cells.toList.all aH then h.wr b o v.cells.toList else none)|_,_=>none
  cases aJ P t with
  | none=>rfl
  | some n =>
   simp only[aW,vV,jX,DY,Gw,ND,dW,kJ,Array.length_toList]
   cases Nat.beq v.cells.size n<;>cases v.cells.toList.all aH<;>rfl
 ·rename_i hv
  have:asAddr a=none:=by
   unfold asAddr
   split
   ·exact absurd rfl (hv _ _)
   ·rfl
  rw[this]
def xG (k:IntKind):Nat:=IntKind.rec (motive:=fun _=>Nat) 128 32768 2147483648 9223372036854775808 256 65536 4294967296 18446744073709551616 k
theorem nz {k:IntKind} {n:Nat} (h:n<xG k):k.wrap (n:Int)=n:=by
 cases k
 ·exact IntWalk.i8_in _ (by simp only[xG] at h;omega)
 ·exact IntWalk.i16_in _ (by simp only[xG] at h;omega)
 ·exact IntWalk.i32_in _ (by simp only[xG] at h;omega)
 ·exact IntWalk.i64_in _ (by simp only[xG] at h;omega)
 ·exact IntWalk.u8_in _ (by simp only[xG] at h;omega)
 ·exact IntWalk.u16_in _ (by simp only[xG] at h;omega)
 ·exact IntWalk.u32_in _ (by simp only[xG] at h;omega)
 ·exact IntWalk.u64_in _ (by simp only[xG] at h;omega)
def okI (k:IntKind) (n:Nat):Option Value:=fN n fun s=>iB (Nat.ble (Nat.succ s) (xG k)) (some (.int k (.ofNat s))) none
def addF (k:IntKind) (a b:Nat):Option Value:=okI k (Nat.add a b)
def YR (k:IntKind) (a b:Nat):Option Value:=iB (Nat.ble b a) (okI k (Nat.sub a b)) none
def Ze (k:IntKind) (a b:Nat):Option Value:=okI k (Nat.mul a b)
def Y8 (k:IntKind) (a b:Nat):Option Value:=iB (Nat.beq b 0) none (okI k (Nat.div a b))
def YY (k:IntKind) (a b:Nat):Option Value:=iB (Nat.beq b 0) none (okI k (Nat.mod a b))
def noF (_:IntKind) (_ _:Nat):Option Value:=none
def eqlF (_:IntKind) (a b:Nat):Option Value:=some (.bool (Nat.beq a b))
def Zd (_:IntKind) (a b:Nat):Option Value:=some (.bool (not (Nat.beq a b)))
def Zi (_:IntKind) (a b:Nat):Option Value:=some (.bool (Nat.ble (Nat.succ a) b))
def Zk (_:IntKind) (a b:Nat):Option Value:=some (.bool (Nat.ble a b))
def Z0 (_:IntKind) (a b:Nat):Option Value:=some (.bool (Nat.ble (Nat.succ b) a))
def Z2 (_:IntKind) (a b:Nat):Option Value:=some (.bool (Nat.ble b a))
def Sx (k:IntKind):Bool:=IntKind.rec (motive:=fun _=>Bool) false false false true false false false true k
def J5 (k:IntKind):Bool:=IntKind.rec (motive:=fun _=>Bool) false false false false false false false true k
def andF (k:IntKind) (a b:Nat):Option Value:=iB (J5 k) (iB (Nat.ble (Nat.succ a) 18446744073709551616) (iB (Nat.ble (Nat.succ b) 18446744073709551616) (okI k (Nat.land a b)) none) none) none
def orF (k:IntKind) (a b:Nat):Option Value:=iB (J5 k) (iB (Nat.ble (Nat.succ a) 18446744073709551616) (iB (Nat.ble (Nat.succ b) 18446744073709551616) (okI k (Nat.lor a b)) none) none) none
def XT (op:BinOp) (k:IntKind) (a b:Nat):Option Value:=BinOp.rec (motive:=fun _=>IntKind→Nat→Nat→Option Value) addF YR Ze Y8 YY andF orF noF noF noF noF eqlF Zd Zi Zk Z0 Z2 op k a b
theorem im {k:IntKind} {n:Nat} {v:Value} (h:okI k n=some v):n<xG k∧v=.int k (n:Int):=by
 unfold okI at h
 rw[dN,dW] at h
 cases hb:Nat.ble (Nat.succ n) (xG k) with
 | false=>rw[hb] at h;cases h
 | true =>
  rw[hb] at h;cases h
  exact⟨qH.1 hb,rfl⟩
theorem cA {α:Type} {b:Bool} {x:Option α} {v:α} (h:iB b x none=some v):b=true∧x=some v:=by
 cases b
 ·cases h
 ·exact⟨rfl,h⟩
theorem mf {α:Type} {b:Bool} {x:Option α} {v:α} (h:iB b none x=some v):b=false∧x=some v:=by
 cases b
 ·exact⟨rfl,h⟩
 ·cases h
theorem KG (a b:Nat):Nat.ble a b=decide ((a:Int)≤(b:Int)):=by
 rw[Bool.eq_iff_iff];simp only[Nat.ble_eq,decide_eq_true_eq];omega
theorem KF (a b:Nat):Nat.ble (Nat.succ a) b=decide ((a:Int)<(b:Int)):=by
 rw[Bool.eq_iff_iff];simp only[Nat.ble_eq,decide_eq_true_eq];omega
theorem KM (a b:Nat):Nat.beq a b=((a:Int) == (b:Int)):=by
 rw[Bool.eq_iff_iff];simp only[Nat.beq_eq,beq_iff_eq];omega
theorem Nh {P:Program} {op:BinOp} {t:TypeId} {ox oy:Operand} {k:IntKind} {a b:Nat} {v:Value} (h:XT op k a b=some v):binop P op t ox oy (.int k (a:Int)) (.int k (b:Int))=some v:=by
 cases op
 case add =>
  obtain⟨h1,rfl⟩:=im (n:=a+b) h
  rw[wh]
  exact congrArg (fun x=>some (Value.int k x)) (by rw[show(a:Int)+b=((a+b:Nat):Int) from by omega];exact nz h1)
 case sub =>
  obtain⟨h0,h⟩:=cA (b:=Nat.ble b a) h
  obtain⟨h1,rfl⟩:=im (n:=a - b) h
  have h2:=qH.1 h0
  rw[vX]
  exact congrArg (fun x=>some (Value.int k x)) (by rw[show(a:Int) - b=((a - b:Nat):Int) from by omega];exact nz h1)
 case mul =>
  obtain⟨h1,rfl⟩:=im (n:=a*b) h
  rw[v5]
  exact congrArg (fun x=>some (Value.int k x)) (by rw[←Int.natCast_mul];exact nz h1)
 case quo =>
  obtain⟨h0,h⟩:=mf (b:=Nat.beq b 0) h
  obtain⟨h1,rfl⟩:=im (n:=a / b) h
  have hb:b≠0:=fun e=>by subst e;cases h0
  rw[rp P t ox oy (by omega)]
  exact congrArg (fun x=>some (Value.int k x)) (by rw[←Int.ofNat_tdiv];exact nz h1)
 case rem =>
  obtain⟨h0,h⟩:=mf (b:=Nat.beq b 0) h
  obtain⟨h1,rfl⟩:=im (n:=a % b) h
  have hb:b≠0:=fun e=>by subst e;cases h0
  rw[rk P t ox oy (by omega)]
  exact congrArg (fun x=>some (Value.int k x)) (Int.ofNat_tmod a b).symm
 case and =>
  obtain⟨h0,h⟩:=cA (b:=J5 k) h
  obtain⟨h2,h⟩:=cA (b:=Nat.ble (Nat.succ a) 18446744073709551616) h
  obtain⟨h3,h⟩:=cA (b:=Nat.ble (Nat.succ b) 18446744073709551616) h
  obtain⟨h1,rfl⟩:=im (n:=a &&& b) h
  cases k<;>first|(cases h0;done)|exact rZ P t ox oy a b (qH.1 h2) (qH.1 h3)
 case or =>
  obtain⟨h0,h⟩:=cA (b:=J5 k) h
  obtain⟨h2,h⟩:=cA (b:=Nat.ble (Nat.succ a) 18446744073709551616) h
  obtain⟨h3,h⟩:=cA (b:=Nat.ble (Nat.succ b) 18446744073709551616) h
  obtain⟨h1,rfl⟩:=im (n:=a ||| b) h
  cases k<;>first|(cases h0;done)|exact uQ P t ox oy a b (qH.1 h2) (qH.1 h3)
 case eql=>rw[we,←KM];exact h
 case neq=>rw[vZ,bne,←KM];exact h
 case lss=>rw[v8,←KF];exact h
 case leq=>rw[v9,←KG];exact h
 case gtr=>rw[wa,←KF];exact h
 case geq=>rw[wc,←KG];exact h
 all_goals cases h
def J1 (k:IntKind):Nat:=IntKind.rec (motive:=fun _=>Nat) 0 1 2 3 4 5 6 7 k
theorem MB {j k:IntKind} (h:Nat.beq (J1 j) (J1 k)=true):j=k:=by
 cases j<;>cases k<;>first|rfl|cases h
def shF (op:BinOp) (k:IntKind) (a b:Nat):Option Value:=BinOp.rec (motive:=fun _=>Option Value) none none none none none none none none
 (iB (Nat.ble b 64) (iB (Sx k) (okI k (Nat.mul a (Nat.pow 2 b))) none) none)
 (iB (Nat.ble b 64) (iB (Sx k) (okI k (Nat.div a (Nat.pow 2 b))) none) none) none none none none none none none op
theorem OB {P:Program} {op:BinOp} {t:TypeId} {ox oy:Operand} {k j:IntKind} {a b:Nat} {v:Value} (h:shF op k a b=some v):binop P op t ox oy (.int k (a:Int)) (.int j (b:Int))=some v:=by
 cases op
 case shl =>
  obtain⟨h0,h⟩:=cA (b:=Nat.ble b 64) h
  obtain⟨h2,h⟩:=cA (b:=Sx k) h
  obtain⟨h1,rfl⟩:=im (n:=a*2 ^ b) h
  rw[ov P t ox oy (by omega)]
  have hb:min (b:Int).toNat k.bits=b:=by
   have:=qH.1 h0
   rw[Int.toNat_natCast]
   cases k<;>first|(cases h2;done)|exact Nat.min_eq_left this
  rw[hb]
  exact congrArg (fun x=>some (Value.int k x)) (by rw[show(a:Int)*2 ^ b=((a*2 ^ b:Nat):Int) from by rw[Int.natCast_mul,Int.natCast_pow];rfl];exact nz h1)
 case shr =>
  obtain⟨h0,h⟩:=cA (b:=Nat.ble b 64) h
  obtain⟨h2,h⟩:=cA (b:=Sx k) h
  obtain⟨h1,rfl⟩:=im (n:=a / 2 ^ b) h
  rw[vY P t ox oy (by omega)]
  have hb:min (b:Int).toNat k.bits=b:=by
   have:=qH.1 h0
   rw[Int.toNat_natCast]
   cases k<;>first|(cases h2;done)|exact Nat.min_eq_left this
  rw[hb]
  refine congrArg (fun x=>some (Value.int k x)) ?_
  rw[Int.fdiv_eq_ediv_of_nonneg _ (by exact Int.le_of_lt (Int.pow_pos (by omega))),Int.natCast_ediv,Int.natCast_pow];rfl
 all_goals cases h
def orElse (a b:Option Value):Option Value:=Option.rec (motive:=fun _=>Option Value) b (fun v=>some v) a
def IB (P:Program) (op:BinOp) (t:TypeId) (ox oy:Operand) (x y:Value):Option Value:=match x,y with
 | .int k (.ofNat a),.int j (.ofNat b)=>orElse (iB (Nat.beq (J1 k) (J1 j)) (XT op k a b) none) (orElse (shF op k a b) (binop P op t ox oy (.int k (.ofNat a)) (.int j (.ofNat b))))
 | x,y=>binop P op t ox oy x y
theorem vy {a b c:Option Value} (h : ∀v,a=some v→c=some v) (hb:b=c):orElse a b=c:=by
 cases a with
 | none=>exact hb
 | some v=>exact(h v rfl).symm
theorem Ng (P:Program) (op:BinOp) (t:TypeId) (ox oy:Operand) (x y:Value):IB P op t ox oy x y=binop P op t ox oy x y:=by
 unfold IB
 split
 ·refine vy (fun v h=>?_) (vy (fun v h=>OB h) rfl)
  obtain⟨h0,h1⟩:=cA h
  have:=MB h0
  subst this
  exact Nh h1
 ·rfl
end
end Go.Id
