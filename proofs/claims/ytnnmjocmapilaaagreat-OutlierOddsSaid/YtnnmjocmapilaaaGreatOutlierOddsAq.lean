/-
  The ideal machine once more, written for the kernel: by recursors, each alternative a cons
-/
import Derived.Test.YtnnmjocmapilaaaGreatOutlierOddsAp
set_option linter.unusedVariables false
set_option linter.unusedSimpArgs false
set_option linter.defProp false
set_option linter.deprecated false
namespace Go.Id
open Go
open Go renaming Operand→QY,Program→QX,TypeId→QZ,Value→QQ
open Nat renaming reduceAdd→zA,reduceEqDiff→zE,reduceLeDiff→zL
open Nat (reduceMul)
set_option maxHeartbeats 16000000
noncomputable section
def fN {α:Type} (x:Nat) (k:Nat→α):α:=Nat.rec (motive:=fun _=>α) (k 0) (fun m _=>k (Nat.succ m)) x
variable {α:Type}
theorem gR (x:Nat) (k:Nat→α):fN x k=k x:=by cases x<;>rfl
def bO {α β:Type} (o:Option α) (k:α→Option β):Option β:=Option.rec (motive:=fun _=>Option β) none k o
@[simp] theorem bL {α β:Type} (a:α) (k:α→Option β):bO (some a) k=k a:=rfl
@[simp] theorem Zhg {α β:Type} (k:α→Option β):bO none k=none:=rfl
def iB {α:Type} (b:Bool) (x y:α):α:=Bool.rec (motive:=fun _=>α) y x b
theorem iz (b:Bool) (x y:α):iB b x y=cond b x y:=by cases b<;>rfl
variable {a b:Nat}
@[simp] theorem CG {α:Type} (x y:α):iB true x y=x:=rfl
@[simp] theorem vY {α:Type} (x y:α):iB false x y=y:=rfl
theorem wA :Nat.ble a b=true↔a≤b:=by rw[bI]
theorem pc (a b:Nat):(a == b)=Nat.beq a b:=by rw[oQ];simp[my]
def zY (fr:Fr) (t:Nat):Option QQ:=List.rec (motive:=fun _=>Option QQ) none (fun p _ ih=>Bool.rec (motive:=fun _=>Option QQ) ih (some p.2) (Nat.beq p.1 t)) fr
theorem tq : ∀(fr:Fr) (t:Nat),zY fr t=aj fr t
 | [],_=>rfl
 | (s,v) :: r,t=>by show Bool.rec (motive:=fun _=>Option QQ) (zY r t) (some v) (Nat.beq s t)=bif s == t then some v else aj r t;rw[tq r t,pc];cases Nat.beq s t<;>rfl
def V3 (nt:Nat) (fr:Fr) (d:Option Nat) (v:QQ):Option Fr:=Option.rec (motive:=fun _=>Option Fr) (some fr) (fun d=>Bool.rec (motive:=fun _=>Option Fr) none (some ((d,v) :: fr)) (Nat.ble (Nat.succ d) nt)) d
theorem Jq (nt:Nat) (fr:Fr) (d:Option Nat) (v:QQ):V3 nt fr d v=qT nt fr d v:=by
 cases d with
 | none=>rfl
 | some d =>
  show Bool.rec (motive:=fun _=>Option Fr) none (some ((d,v) :: fr)) (Nat.ble (Nat.succ d) nt)=bif Nat.blt d nt then some ((d,v) :: fr) else none;rw[show Nat.blt d nt=Nat.ble (Nat.succ d) nt from rfl];cases Nat.ble (Nat.succ d) nt<;>rfl
def Zc7 (t:Tmp) (fr:Fr):Option QQ:=zY fr t
def Wh (v:QQ) (_:Fr):Option QQ:=Bool.rec (motive:=fun _=>Option QQ) none (some v) (plain v)
def To (g:Nat) (_:Fr):Option QQ:=bif Nat.blt g 4294967296 then some (.pointer (some ⟨2*g+1,0,none⟩)) else none
def ZS (f:FuncId) (_:Fr):Option QQ:=some (.func (.func f) #[] #[])
def fe (x:QY) (fr:Fr):Option QQ:=QY.rec (motive:=fun _=>Fr→Option QQ) Zc7 Wh To ZS x fr
theorem dP (x:QY) (fr:Fr):fe x fr=opd fr x:=by
 cases x with
 | tmp t=>exact tq fr t
 | const v =>
  show Bool.rec (motive:=fun _=>Option QQ) none (some v) (plain v)=bif plain v then some v else none;cases plain v<;>rfl
 | global g=>rfl
 | func f=>rfl
def Ea (l:List QY) (fr:Fr):Option (List QQ):=List.rec (motive:=fun _=>Option (List QQ)) (some []) (fun x _ ih=>bO (fe x fr) fun v=>bO ih fun vs=>some (v :: vs)) l
theorem D9 : ∀(l:List QY) (fr:Fr),Ea l fr=jV fr l
 | [],_=>rfl
 | x :: l,fr=>by show bO (fe x fr) (fun v=>bO (Ea l fr) fun vs=>some (v :: vs))=_;rw[dP,D9 l fr,jV];cases opd fr x<;>cases jV fr l<;>rfl
def yW {α:Type} (t:Tr α) (n:Nat):Option α:=Tr.rec (motive:=fun _=>Nat→Option α) (fun _=>none) (fun _ v _ gl gr n=>Bool.rec (motive:=fun _=>Option α) (Bool.rec (motive:=fun _=>Option α) (gr (Nat.div (Nat.sub n 1) 2)) (gl (Nat.div n 2)) (Nat.beq (Nat.mod n 2) 1)) v (Nat.beq n 0)) t n
theorem pY : ∀(t:Tr α) (n:Nat),yW t n=t.get n
 | .leaf,_=>rfl
 | .node l v r,n=>by show Bool.rec (motive:=fun _=>Option α) (Bool.rec (motive:=fun _=>Option α) (yW r (Nat.div (Nat.sub n 1) 2)) (yW l (Nat.div n 2)) (Nat.beq (Nat.mod n 2) 1)) v (Nat.beq n 0)=bif n == 0 then v else bif n % 2 == 1 then l.get (n / 2) else r.get ((n - 1) / 2);rw[pY l,pY r,pc,pc];show Bool.rec (motive:=fun _=>Option α) (Bool.rec (motive:=fun _=>Option α) (r.get ((n - 1) / 2)) (l.get (n / 2)) (Nat.beq (n % 2) 1)) v (Nat.beq n 0)=_;cases Nat.beq n 0<;>cases Nat.beq (n % 2) 1<;>rfl
def I3 {α β:Type} (x:α) (f n:Nat) (k:Tr α→β):β:=Nat.rec (motive:=fun _=>Nat→(Tr α→β)→β) (fun _ k=>k (.node .leaf (some x) .leaf)) (fun _ ih n k=>Bool.rec (motive:=fun _=>β) (Bool.rec (motive:=fun _=>β) (fN (Nat.div (Nat.sub n 1) 2) fun m=>ih m fun t=>k (.node .leaf none t)) (fN (Nat.div n 2) fun m=>ih m fun t=>k (.node t none .leaf)) (Nat.beq (Nat.mod n 2) 1)) (k (.node .leaf (some x) .leaf)) (Nat.beq n 0)) f n k
variable {β:Type}
theorem AJ (x:α) : ∀(f n:Nat) (k:Tr α→β),I3 x f n k=k (Tr.one f n x)
 | 0,_,_=>rfl
 | f+1,n,k=>by show Bool.rec (motive:=fun _=>β) (Bool.rec (motive:=fun _=>β) (fN (Nat.div (Nat.sub n 1) 2) fun m=>I3 x f m fun t=>k (.node .leaf none t)) (fN (Nat.div n 2) fun m=>I3 x f m fun t=>k (.node t none .leaf)) (Nat.beq (Nat.mod n 2) 1)) (k (.node .leaf (some x) .leaf)) (Nat.beq n 0)=_;rw[gR,gR,AJ x f,AJ x f,Tr.one,pc,pc];show Bool.rec (motive:=fun _=>β) (Bool.rec (motive:=fun _=>β) (k (.node .leaf none (Tr.one f ((n - 1) / 2) x))) (k (.node (Tr.one f (n / 2) x) none .leaf)) (Nat.beq (n % 2) 1)) (k (.node .leaf (some x) .leaf)) (Nat.beq n 0)=_;cases Nat.beq n 0<;>cases Nat.beq (n % 2) 1<;>rfl
def pX {α β:Type} (x:α) (t:Tr α) (n:Nat) (k:Tr α→β):β:=Tr.rec (motive:=fun _=>Nat→(Tr α→β)→β) (fun n k=>I3 x n n k) (fun l v r sl sr n k=>Bool.rec (motive:=fun _=>β) (Bool.rec (motive:=fun _=>β) (fN (Nat.div (Nat.sub n 1) 2) fun m=>sr m fun r=>k (.node l v r)) (fN (Nat.div n 2) fun m=>sl m fun l=>k (.node l v r)) (Nat.beq (Nat.mod n 2) 1)) (k (.node l (some x) r)) (Nat.beq n 0)) t n k
theorem oz (x:α) : ∀(t:Tr α) (n:Nat) (k:Tr α→β),pX x t n k=k (t.set n x)
 | .leaf,n,k=>AJ x n n k
 | .node l v r,n,k=>by show Bool.rec (motive:=fun _=>β) (Bool.rec (motive:=fun _=>β) (fN (Nat.div (Nat.sub n 1) 2) fun m=>pX x r m fun r=>k (.node l v r)) (fN (Nat.div n 2) fun m=>pX x l m fun l=>k (.node l v r)) (Nat.beq (Nat.mod n 2) 1)) (k (.node l (some x) r)) (Nat.beq n 0)=_;rw[gR,gR,oz x r,oz x l,Tr.set,pc,pc];show Bool.rec (motive:=fun _=>β) (Bool.rec (motive:=fun _=>β) (k (.node l v (r.set ((n - 1) / 2) x))) (k (.node (l.set (n / 2) x) v r)) (Nat.beq (n % 2) 1)) (k (.node l (some x) r)) (Nat.beq n 0)=_;cases Nat.beq n 0<;>cases Nat.beq (n % 2) 1<;>rfl
def Bc {β:Type} (l:List QQ) (k:List QQ→β):β:=List.rec (motive:=fun _=>(List QQ→β)→β) (fun k=>k []) (fun a _ ih k=>ih fun r=>k (a :: r)) l k
theorem tj : ∀(l:List QQ) (k:List QQ→β),Bc l k=k l
 | [],_=>rfl
 | _ :: l,_=>tj l _
def HJ (n:Nat) (l:List QQ):List QQ:=Nat.rec (motive:=fun _=>List QQ→List QQ) (fun l=>l) (fun _ ih l=>List.rec (motive:=fun _=>List QQ) [] (fun _ l _=>ih l) l) n l
theorem wo : ∀(n:Nat) (l:List QQ),HJ n l=l.drop n
 | 0,_=>rfl
 | n+1,[]=>rfl
 | n+1,_ :: l=>wo n l
def Qz (n:Nat) (l:List QQ):Option (List QQ):=Nat.rec (motive:=fun _=>List QQ→Option (List QQ)) (fun _=>some []) (fun _ ih l=>List.rec (motive:=fun _=>Option (List QQ)) none (fun a l _=>bO (ih l) fun r=>some (a :: r)) l) n l
theorem Ls : ∀(n:Nat) (l:List QQ),Qz n l=bif Nat.ble n l.length then some (l.take n) else none
 | 0,_=>rfl
 | n+1,[]=>rfl
 | n+1,a :: l=>by show bO (Qz n l) (fun r=>some (a :: r))=_;rw[Ls n l];show _=bif Nat.ble n l.length then some (a :: l.take n) else none;cases Nat.ble n l.length<;>rfl
def Zbe (n:Nat) (l:List QQ):List QQ:=Nat.rec (motive:=fun _=>List QQ→List QQ) (fun _ => []) (fun _ ih l=>List.rec (motive:=fun _=>List QQ) [] (fun a l _=>a :: ih l) l) n l
def Lr : ∀(n:Nat) (l:List QQ),Zbe n l=l.take n
 | 0,_=>rfl
 | n+1,[]=>rfl
 | n+1,a :: l=>gC (a :: ·) (Lr n l)
def Wp (n:Nat) (l:List QQ):Option QQ:=List.rec (motive:=fun _=>Option QQ) none (fun a _ _=>some a) (HJ n l)
def JI (n:Nat) (l:List QQ):Wp n l=l[n]?:=by unfold Wp;rw[wo,←List.head?_drop];cases l.drop n<;>rfl
def Cn (l m:List QQ):List QQ:=List.rec (motive:=fun _=>List QQ) m (fun a _ ih=>a :: ih) l
theorem CM : ∀(l m:List QQ),Cn l m=l ++ m
 | [],_=>rfl
 | a :: l,m=>gC (a :: ·) (CM l m)
def Et (l:List QQ):Nat:=List.rec (motive:=fun _=>Nat) 0 (fun _ _ ih=>Nat.succ ih) l
theorem oc : ∀(l:List QQ),Et l=l.length
 | []=>rfl
 | _ :: l=>gC Nat.succ (oc l)
def ZaW (p:QQ→Bool) (l:List QQ):Bool:=List.rec (motive:=fun _=>Bool) true (fun a _ ih=>Bool.rec (motive:=fun _=>Bool) false ih (p a)) l
theorem KG (p:QQ→Bool) : ∀(l:List QQ),ZaW p l=l.all p
 | []=>rfl
 | a :: l=>by show Bool.rec (motive:=fun _=>Bool) false (ZaW p l) (p a)=_;rw[KG p l,tM];cases p a<;>rfl
def Rc (vs cs:List QQ):Option (List QQ):=List.rec (motive:=fun _=>List QQ→Option (List QQ)) (fun cs=>some cs) (fun v _ ih cs=>List.rec (motive:=fun _=>Option (List QQ)) none (fun _ l _=>bO (ih l) fun r=>some (v :: r)) cs) vs cs
theorem Mg : ∀(vs cs:List QQ),Rc vs cs=bif Nat.ble vs.length cs.length then some (vs ++ cs.drop vs.length) else none
 | [],_=>rfl
 | _ :: _,[]=>rfl
 | v :: vs,c :: cs=>by show bO (Rc vs cs) (fun r=>some (v :: r))=bif Nat.ble vs.length cs.length then some (v :: (vs ++ cs.drop vs.length)) else none;rw[Mg vs cs];cases Nat.ble vs.length cs.length<;>rfl
def ze (o:Nat) (vs cs:List QQ):Option (List QQ):=Nat.rec (motive:=fun _=>List QQ→Option (List QQ)) (fun cs=>Rc vs cs) (fun _ ih cs=>List.rec (motive:=fun _=>Option (List QQ)) none (fun a l _=>bO (ih l) fun r=>some (a :: r)) cs) o cs
theorem tW (vs:List QQ) : ∀(o:Nat) (cs:List QQ),ze o vs cs=bif Nat.ble (o+vs.length) cs.length then some (IH.aI cs o vs) else none
 | 0,cs=>by show Rc vs cs=_;rw[Mg,eu];show _=bif Nat.ble vs.length cs.length then some (cs.take 0 ++ (vs ++ cs.drop (0+vs.length))) else none;rw[eu,C8];rfl
 | o+1,[]=>by rw[show o+1+vs.length=(o+vs.length)+1 from by omega];rfl
 | o+1,c :: cs=>by show bO (ze o vs cs) (fun r=>some (c :: r))=_;rw[tW vs o cs,show o+1+vs.length=(o+vs.length)+1 from by omega];show _=bif Nat.ble (o+vs.length) cs.length then some (IH.aI (c :: cs) (o+1) vs) else none;rw[show IH.aI (c :: cs) (o+1) vs=c :: IH.aI cs o vs from by simp[IH.aI,show o+1+vs.length=(o+vs.length)+1 from by omega]];cases Nat.ble (o+vs.length) cs.length<;>rfl
def QT (n:Nat) (z:List QQ):List QQ:=Nat.rec (motive:=fun _=>List QQ) [] (fun _ ih=>Cn z ih) n
theorem D2 (z:List QQ) : ∀n,QT n z=cj n z
 | 0=>rfl
 | n+1=>by show Cn z (QT n z)=_;rw[CM,D2 z n];rfl
def uy (v:QQ):List QQ:=match v with
 | .agg cs=>cs.toList
 | v => [v]
def Bg (v:QQ):uy v=v.cells.toList:=by cases v<;>rfl
def Yf (v:QQ):Bool:=match v with
 | .agg _=>false
 | .tuple _=>false
 | _=>true
def No:Yf=aM:=by funext v;cases v<;>rfl
def cellsOf (o:cB):Option (List QQ):=match o with
 | .cells cs _ _=>some cs
 | _=>none
def Zy (h:IH) (b:Nat):Option (List QQ):=Bool.rec (motive:=fun _=>Option (List QQ)) (bO (yW h.ext (Nat.div b 2)) cellsOf) (h.base (Nat.div b 2)) (Nat.beq (Nat.mod b 2) 1)
theorem QP (h:IH) (b:Nat):Zy h b=h.row b:=by
 unfold Zy IH.row;rw[pc,pY];show Bool.rec (motive:=fun _=>Option (List QQ)) (bO (h.ext.get (b / 2)) cellsOf) (h.base (b / 2)) (Nat.beq (b % 2) 1)=_;cases Nat.beq (b % 2) 1
 ·show bO (h.ext.get (b / 2)) cellsOf=match h.ext.get (b / 2) with|some (.cells cs _ _)=>some cs|_=>none
  cases h.ext.get (b / 2) with
  | none=>rfl
  | some o=>cases o<;>rfl
 ·rfl
variable {n:Nat}
def ZcY {cs:List QQ} {o:Nat}:(bif Nat.ble (o+n) cs.length then some ((cs.drop o).take n) else none:Option (List QQ))=if n=0 then (bif Nat.ble o cs.length then some [] else none) else Qz n (cs.drop o):=by
 rw[Ls,oN];split;·subst n;rfl
 ·have e:Nat.ble (o+n) cs.length=Nat.ble n (cs.length - o):=by rw[oQ];simp only[bI];omega
  rw[e]
def rd1 (h:IH) (b o:Nat):Option QQ:=bO (Zy h b) fun cs=>Wp o cs
def ZcZ (h:IH) (b o:Nat):rd1 h b o=(h.rd b o 1).bind (·.head?):=by
 unfold rd1 IH.rd
 rw[QP]
 cases h.row b with
 | none=>rfl
 | some cs =>
  simp only[bL,JI];by_cases hl:o<cs.length;·rw[show Nat.ble (o+1) cs.length=true from wA.2 hl];simp only[bP,ke,List.head?_take,List.head?_drop];simp
  ·rw[show Nat.ble (o+1) cs.length=false from by rw[oR];simp only[ne_eq,bI];omega]
   simp[cI (xT hl)]
def rdN (h:IH) (b o n:Nat):Option (List QQ):=bO (Zy h b) fun cs=>Qz n (HJ o cs)
theorem VV (h:IH) (b o n:Nat) (hn:n≠0):rdN h b o n=h.rd b o n:=by
 unfold rdN IH.rd;rw[QP];cases h.row b with
 | none=>rfl
 | some cs =>
  simp only[bL,wo];exact((ZcY (cs:=cs) (o:=o) (n:=n)).trans (ad hn)).symm
def Rr (P:QX) (h:IH) (t:QZ) (v:QQ):Option QQ:=match v with
 | .pointer (some ⟨b,o,none⟩)=>bO (bX P t) fun g=>iB g (bO (ba P t) fun n=>bO (iB (Nat.beq n 0) (h.rd b o n) (rdN h b o n)) fun l=>some (QQ.agg ⟨l⟩)) (rd1 h b o)
 | _=>none
def ML (P:QX) (h:IH) (t:QZ) (v:QQ):Rr P h t v=load P h t v:=by
 unfold Rr load;split
 ·rename_i b o;rw[show asAddr (.pointer (some ⟨b,o,none⟩))=some (b,o) from rfl];cases bX P t with
  | none=>cases ba P t<;>rfl
  | some g =>
   cases g with
   | false=>simp only[bL,vY,ZcZ]
   | true =>
    simp only[bL,CG];cases ba P t with
    | none=>rfl
    | some n =>
     simp only[bL]
     have e:iB (Nat.beq n 0) (h.rd b o n) (rdN h b o n)=h.rd b o n:=by
      by_cases hn:n=0;·subst hn;rfl
      ·rw[VV h b o n hn,iz];cases Nat.beq n 0<;>rfl
     rw[e];cases h.rd b o n<;>rfl
 ·rename_i hv
  have:asAddr v=none:=by
   unfold asAddr;split;·exact absurd rfl (hv _ _)
   ·rfl
  rw[this]
def TH {β:Type} (h:IH) (o:cB) (k:Nat→IH→β):β:=IH.rec (motive:=fun _=>β) (fun base n ext cZ=>fN n fun n=>pX o ext n fun e=>k n ⟨base,Nat.succ n,e,cZ⟩) h
theorem CA (h:IH) (o:cB) (k:Nat→IH→β):TH h o k=k h.n (h.new o):=by obtain⟨base,n,ext,cZ⟩:=h;show(fN n fun n=>pX o ext n fun e=>k n ⟨base,Nat.succ n,e,cZ⟩)=_;rw[gR,oz];rfl
def Oz {β:Type} (h:IH) (b:Nat) (o:cB) (k:IH→β):β:=IH.rec (motive:=fun _=>β) (fun base n ext cZ=>fN b fun b=>pX o ext b fun e=>k ⟨base,n,e,cZ⟩) h
def Ji (h:IH) (b:Nat) (o:cB) (k:IH→β):Oz h b o k=k { h with ext:=h.ext.set b o }:=by obtain⟨base,n,ext,cZ⟩:=h;show(fN b fun b=>pX o ext b fun e=>k ⟨base,n,e,cZ⟩)=_;rw[gR,oz]
def wrF (h:IH) (b o:Nat) (vs:List QQ):Option IH:=iB (Nat.beq (Nat.mod b 2) 1) none (bO (yW h.ext (Nat.div b 2)) fun ob=>match ob with
 | .cells cs t none=>bO (ze o vs cs) fun cs=>Oz h (Nat.div b 2) (.cells cs t none) some
 | .cells _ _ (some _)=>h.wr b o vs
 | _=>none)
def U2 (h:IH) (b o:Nat) (vs:List QQ):wrF h b o vs=h.wr b o vs:=by
 unfold wrF;rw[pY];show iB (Nat.beq (b % 2) 1) none (bO (h.ext.get (b / 2)) _)=_;cases hb:Nat.beq (b % 2) 1
 ·rw[vY];cases hg:h.ext.get (b / 2) with
  | none =>
   unfold IH.wr;rw[pc,hb,hg];rfl
  | some ob =>
   rw[bL];split
   ·unfold IH.wr;rw[pc,hb,hg];simp only[dL,tW];rename_i cs t;cases Nat.ble (o+vs.length) cs.length
    ·rfl
    ·simp only[bP,bL,Ji];rfl
   ·rfl
   ·unfold IH.wr;rw[pc,hb,hg];simp only[dL];split
    ·rename_i h1 h2 _ _ _ _ h4;cases h4;rename_i fam;cases fam
     ·exact absurd rfl (h1 _ _)
     ·exact absurd rfl (h2 _ _ _)
    ·rfl
 ·rw[CG];unfold IH.wr;rw[pc,hb];rfl
def Oj (P:QX) (h:IH) (t:QZ) (a v:QQ):Option IH:=match a with
 | .pointer (some ⟨b,o,none⟩)=>bO (ba P t) fun n=>iB (Nat.beq (Et (uy v)) n) (iB (ZaW Yf (uy v)) (wrF h b o (uy v)) none) none
 | _=>none
def SN (P:QX) (h:IH) (t:QZ) (a v:QQ):Oj P h t a v=store P h t a v:=by
 unfold Oj store;split
 ·rename_i b o;show _=match some (b,o),ba P t with|some (b,o),some n=>(bif v.cells.size == n && v.cells.toList.all aM then h.wr b o v.cells.toList else none)|_,_=>none
  cases ba P t with
  | none=>rfl
  | some n =>
   simp only[bL,Bg,oc,KG,No,U2,iz,pc,ku];cases Nat.beq v.cells.size n<;>cases v.cells.toList.all aM<;>rfl
 ·rename_i hv
  have:asAddr a=none:=by
   unfold asAddr;split;·exact absurd rfl (hv _ _)
   ·rfl
  rw[this]
def Ci (k:IntKind):Nat:=IntKind.rec (motive:=fun _=>Nat) 128 32768 2147483648 9223372036854775808 256 65536 4294967296 18446744073709551616 k
variable {k:IntKind}
theorem sA (h:n<Ci k):k.wrap (n:Int)=n:=by
 cases k;·exact IntWalk.i8_in _ (by simp only[Ci] at h;omega)
 ·exact IntWalk.i16_in _ (by simp only[Ci] at h;omega)
 ·exact IntWalk.i32_in _ (by simp only[Ci] at h;omega)
 ·exact IntWalk.i64_in _ (by simp only[Ci] at h;omega)
 ·exact IntWalk.u8_in _ (by simp only[Ci] at h;omega)
 ·exact IntWalk.u16_in _ (by simp only[Ci] at h;omega)
 ·exact IntWalk.u32_in _ (by simp only[Ci] at h;omega)
 ·exact IntWalk.u64_in _ (by simp only[Ci] at h;omega)
def okI (k:IntKind) (n:Nat):Option QQ:=fN n fun s=>iB (Nat.ble (Nat.succ s) (Ci k)) (some (.int k (.ofNat s))) none
def addF (k:IntKind) (a b:Nat):Option QQ:=okI k (Nat.add a b)
def subF (k:IntKind) (a b:Nat):Option QQ:=iB (Nat.ble b a) (okI k (Nat.sub a b)) none
def mulF (k:IntKind) (a b:Nat):Option QQ:=okI k (Nat.mul a b)
def quoF (k:IntKind) (a b:Nat):Option QQ:=iB (Nat.beq b 0) none (okI k (Nat.div a b))
def remF (k:IntKind) (a b:Nat):Option QQ:=iB (Nat.beq b 0) none (okI k (Nat.mod a b))
def noF (_:IntKind) (_ _:Nat):Option QQ:=none
def eqlF (_:IntKind) (a b:Nat):Option QQ:=some (.bool (Nat.beq a b))
def neqF (_:IntKind) (a b:Nat):Option QQ:=some (.bool (not (Nat.beq a b)))
def lssF (_:IntKind) (a b:Nat):Option QQ:=some (.bool (Nat.ble (Nat.succ a) b))
def leqF (_:IntKind) (a b:Nat):Option QQ:=some (.bool (Nat.ble a b))
def gtrF (_:IntKind) (a b:Nat):Option QQ:=some (.bool (Nat.ble (Nat.succ b) a))
def geqF (_:IntKind) (a b:Nat):Option QQ:=some (.bool (Nat.ble b a))
def RD (k:IntKind):Bool:=IntKind.rec (motive:=fun _=>Bool) false false false true false false false true k
def RE (k:IntKind):Bool:=IntKind.rec (motive:=fun _=>Bool) false false false false false false false true k
def andF (k:IntKind) (a b:Nat):Option QQ:=iB (RE k) (iB (Nat.ble (Nat.succ a) 18446744073709551616) (iB (Nat.ble (Nat.succ b) 18446744073709551616) (okI k (Nat.land a b)) none) none) none
def orF (k:IntKind) (a b:Nat):Option QQ:=iB (RE k) (iB (Nat.ble (Nat.succ a) 18446744073709551616) (iB (Nat.ble (Nat.succ b) 18446744073709551616) (okI k (Nat.lor a b)) none) none) none
def binF (op:BinOp) (k:IntKind) (a b:Nat):Option QQ:=BinOp.rec (motive:=fun _=>IntKind→Nat→Nat→Option QQ) addF subF mulF quoF remF andF orF noF noF noF noF eqlF neqF lssF leqF gtrF geqF op k a b
variable {v:QQ}
def lD (h:okI k n=some v):n<Ci k∧v=.int k (n:Int):=by
 unfold okI at h;rw[gR,iz] at h;cases hb:Nat.ble (Nat.succ n) (Ci k) with
 | false=>rw[hb] at h;cases h
 | true =>
  rw[hb] at h;cases h;exact⟨wA.1 hb,rfl⟩
variable {x:Option α}
def dZ {b:Bool} {v:α} (h:iB b x none=some v):b=true∧x=some v:=by
 cases b;·cases h
 ·exact⟨rfl,h⟩
def qC {b:Bool} {v:α} (h:iB b none x=some v):b=false∧x=some v:=by
 cases b;·exact⟨rfl,h⟩
 ·cases h
theorem Si (a b:Nat):Nat.ble a b=decide ((a:Int)≤(b:Int)):=by rw[oQ];simp only[bI,aJ];omega
theorem Sh (a b:Nat):Nat.ble (Nat.succ a) b=decide ((a:Int)<(b:Int)):=by rw[oQ];simp only[bI,aJ];omega
theorem Sk (a b:Nat):Nat.beq a b=((a:Int) == (b:Int)):=by rw[oQ];simp only[my,bD];omega
variable {ox:QY}{t:QZ}{oy:QY}{op:BinOp}{P:QX}
def UA (h:binF op k a b=some v):binop P op t ox oy (.int k (a:Int)) (.int k (b:Int))=some v:=by
 cases op
 case add =>
  obtain⟨h1,rfl⟩:=lD (n:=a+b) h;rw[Bu];exact gC (fun x=>some (QQ.int k x)) (by rw[show(a:Int)+b=((a+b:Nat):Int) from by omega];exact sA h1)
 case sub =>
  obtain⟨h0,h⟩:=dZ (b:=Nat.ble b a) h;obtain⟨h1,rfl⟩:=lD (n:=a - b) h;have h2:=wA.1 h0;rw[Bi];exact gC (fun x=>some (QQ.int k x)) (by rw[show(a:Int) - b=((a - b:Nat):Int) from by omega];exact sA h1)
 case mul =>
  obtain⟨h1,rfl⟩:=lD (n:=a*b) h;rw[Bl];exact gC (fun x=>some (QQ.int k x)) (by rw[←oP];exact sA h1)
 case quo =>
  obtain⟨h0,h⟩:=qC (b:=Nat.beq b 0) h;obtain⟨h1,rfl⟩:=lD (n:=a / b) h;have hb:b≠0:=fun e=>by subst e;cases h0
  rw[w6 P t ox oy byOmega];exact gC (fun x=>some (QQ.int k x)) (by rw[←Int.ofNat_tdiv];exact sA h1)
 case rem =>
  obtain⟨h0,h⟩:=qC (b:=Nat.beq b 0) h;obtain⟨h1,rfl⟩:=lD (n:=a % b) h;have hb:b≠0:=fun e=>by subst e;cases h0
  rw[tA P t ox oy byOmega];exact gC (fun x=>some (QQ.int k x)) (Int.ofNat_tmod a b).symm
 case and =>
  obtain⟨h0,h⟩:=dZ (b:=RE k) h;obtain⟨h2,h⟩:=dZ (b:=Nat.ble (Nat.succ a) 18446744073709551616) h;obtain⟨h3,h⟩:=dZ (b:=Nat.ble (Nat.succ b) 18446744073709551616) h;obtain⟨h1,rfl⟩:=lD (n:=a &&& b) h;cases k<;>first|(cases h0;done)|exact Gn P t ox oy a b (wA.1 h2) (wA.1 h3)
 case or =>
  obtain⟨h0,h⟩:=dZ (b:=RE k) h;obtain⟨h2,h⟩:=dZ (b:=Nat.ble (Nat.succ a) 18446744073709551616) h;obtain⟨h3,h⟩:=dZ (b:=Nat.ble (Nat.succ b) 18446744073709551616) h;obtain⟨h1,rfl⟩:=lD (n:=a ||| b) h;cases k<;>first|(cases h0;done)|exact Ak P t ox oy a b (wA.1 h2) (wA.1 h3)
 case eql=>rw[Bs,←Sk];exact h
 case neq=>rw[Bk,bne,←Sk];exact h
 case lss=>rw[Bm,←Sh];exact h
 case leq=>rw[Bn,←Si];exact h
 case gtr=>rw[Bo,←Sh];exact h
 case geq=>rw[Bp,←Si];exact h
 all_goals cases h
def Ry (k:IntKind):Nat:=IntKind.rec (motive:=fun _=>Nat) 0 1 2 3 4 5 6 7 k
variable {j:IntKind}
def TU (h:Nat.beq (Ry j) (Ry k)=true):j=k:=by cases j<;>cases k<;>first|rfl|cases h
def shF (op:BinOp) (k:IntKind) (a b:Nat):Option QQ:=BinOp.rec (motive:=fun _=>Option QQ) none none none none none none none none
 (iB (Nat.ble b 64) (iB (RD k) (okI k (Nat.mul a (Nat.pow 2 b))) none) none)
 (iB (Nat.ble b 64) (iB (RD k) (okI k (Nat.div a (Nat.pow 2 b))) none) none) none none none none none none none op
def VH (h:shF op k a b=some v):binop P op t ox oy (.int k (a:Int)) (.int j (b:Int))=some v:=by
 cases op
 case shl =>
  obtain⟨h0,h⟩:=dZ (b:=Nat.ble b 64) h;obtain⟨h2,h⟩:=dZ (b:=RD k) h;obtain⟨h1,rfl⟩:=lD (n:=a*2 ^ b) h;rw[tz P t ox oy byOmega];have hb:min (b:Int).toNat k.bits=b:=by have:=wA.1 h0;rw[oO];cases k<;>first|(cases h2;done)|exact lU this
  rw[hb];exact gC (fun x=>some (QQ.int k x)) (by rw[show(a:Int)*2 ^ b=((a*2 ^ b:Nat):Int) from by rw[oP,Int.natCast_pow];rfl];exact sA h1)
 case shr =>
  obtain⟨h0,h⟩:=dZ (b:=Nat.ble b 64) h;obtain⟨h2,h⟩:=dZ (b:=RD k) h;obtain⟨h1,rfl⟩:=lD (n:=a / 2 ^ b) h;rw[Bj P t ox oy byOmega];have hb:min (b:Int).toNat k.bits=b:=by have:=wA.1 h0;rw[oO];cases k<;>first|(cases h2;done)|exact lU this
  rw[hb];refine gC (fun x=>some (QQ.int k x)) ?_;rw[Int.fdiv_eq_ediv_of_nonneg _ (by exact Int.le_of_lt (Int.pow_pos byOmega)),Dg,Int.natCast_pow];rfl
 all_goals cases h
def orElse (a b:Option QQ):Option QQ:=Option.rec (motive:=fun _=>Option QQ) b (fun v=>some v) a
def P2 (P:QX) (op:BinOp) (t:QZ) (ox oy:QY) (x y:QQ):Option QQ:=match x,y with
 | .int k (.ofNat a),.int j (.ofNat b)=>orElse (iB (Nat.beq (Ry k) (Ry j)) (binF op k a b) none) (orElse (shF op k a b) (binop P op t ox oy (.int k (.ofNat a)) (.int j (.ofNat b))))
 | x,y=>binop P op t ox oy x y
def AU {a b c:Option QQ} (h : ∀v,a=some v→c=some v) (hb:b=c):orElse a b=c:=by
 cases a with
 | none=>exact hb
 | some v=>exact(h v rfl).symm
def Uz (P:QX) (op:BinOp) (t:QZ) (ox oy:QY) (x y:QQ):P2 P op t ox oy x y=binop P op t ox oy x y:=by
 unfold P2;split;·refine AU (fun v h=>?_) (AU (fun v h=>VH h) rfl);obtain⟨h0,h1⟩:=dZ h;have:=TU h0;subst this;exact UA h1
 ·rfl
end
noncomputable section
abbrev jr:=Env→cQ→Fr→IH→Option (QQ×IH)
def okV (h:IH) (o:Option QQ):Option (QQ×IH):=bO o fun v=>some (v,h)
theorem nA (h:IH) (o:Option QQ):okV h o=o.map (·,h):=by cases o<;>rfl
def okH (o:Option IH):Option (QQ×IH):=bO o fun h=>some (undef,h)
def O0 (o:Option IH):okH o=o.map (undef,·):=by cases o<;>rfl
def PA (v:QQ):QQ:=match v with
 | .slice (some ⟨b,o,none⟩) n c=>fN b fun b=>fN o fun o=>fN n fun n=>fN c fun c=>.slice (some ⟨b,o,none⟩) n c
 | v=>v
def Ud (v:QQ):PA v=v:=by
 unfold PA;split;·simp only[gR]
 ·rfl
def D6 (l:List (Nat×QY)) (fr:Fr):Option (List (Nat×QQ)):=List.rec (motive:=fun _=>Option (List (Nat×QQ))) (some []) (fun p _ ih=>bO (fe p.2 fr) fun v=>bO ih fun vs=>some ((p.1,v) :: vs)) l
theorem AS : ∀(l:List (Nat×QY)) (fr:Fr),D6 l fr=partsOf fr l
 | [],_=>rfl
 | (i,x) :: l,fr=>by show bO (fe x fr) (fun v=>bO (D6 l fr) fun vs=>some ((i,v) :: vs))=_;rw[dP,AS l fr,partsOf];cases opd fr x<;>cases partsOf fr l<;>rfl
def RQ (place:Nat→Option (Nat×Nat)) (l:List (Nat×QQ)) (cells:List QQ):Option (List QQ):=List.rec (motive:=fun _=>List QQ→Option (List QQ)) (fun c=>some c) (fun p _ ih cells=>bO (place p.1) fun q=>iB (Nat.beq (Et (uy p.2)) q.2) (bO (ze q.1 (uy p.2) cells) ih) none) l cells
def ET (place:Nat→Option (Nat×Nat)) : ∀(l:List (Nat×QQ)) (cells:List QQ),RQ place l cells=dF place cells l
 | [],_=>rfl
 | (i,v) :: l,cells=>by
  show bO (place i) (fun q=>iB (Nat.beq (Et (uy v)) q.2) (bO (ze q.1 (uy v) cells) (RQ place l)) none)=_;rw[dF];cases hp:place i with
  | none=>rfl
  | some q =>
   obtain⟨o,n⟩:=q;simp only[bL,Bg,oc,tW,pc,ku];cases hn:Nat.beq v.cells.size n with
   | false=>rfl
   | true =>
    have hn:=my.mp hn;subst hn;simp only[CG,Bool.true_and];cases Nat.ble (o+v.cells.size) cells.length with
    | false=>rfl
    | true=>exact ET place l _
def Ra (P:QX) (t:QZ) (l:List QQ) (off:Nat):Option QQ:=bO (bX P t) fun g=>iB g (bO (ba P t) fun n=>Bc (Zbe n (HJ off l)) fun cs=>some (.agg ⟨cs⟩)) (Wp off l)
theorem Me (P:QX) (t:QZ) (cs:Array QQ) (off:Nat):Ra P t cs.toList off=partOf P t cs off:=by
 unfold Ra partOf;cases bX P t with
 | none=>cases ba P t<;>rfl
 | some g =>
  cases g with
  | false =>
   simp only[bL,vY,JI];exact oS
  | true =>
   simp only[bL,CG];cases ba P t with
   | none=>rfl
   | some n =>
    simp only[bL,tj,Lr,wo];refine gC (fun a=>some (QQ.agg a)) ?_;apply Array.ext';simp[Array.toList_extract]
def ZbD (x:QY):jr:=fun _ _ fr h=>okV h (fe x fr)
def Ze2 (c a b:QY):jr:=fun _ _ fr h=>bO (fe c fr) fun v=>match v with
 | .bool t=>iB t (okV h (fe a fr)) (okV h (fe b fr))
 | _=>none
def J6 (h:IH) (o:cB):Option (QQ×IH):=TH h o fun n h=>fN (Nat.mul 2 n) fun b=>some (.pointer (some ⟨b,0,none⟩),h)
def Hx (h:IH) (o:cB):J6 h o=some (ptr (2*h.n) 0,h.new o):=by unfold J6;rw[CA,gR];rfl
def Zek (t:QZ):jr:=fun E _ _ h=>bO (aT E.P t) fun z=>J6 h (.cells z 0 none)
def boxF (_:QZ) (x:QY):jr:=fun _ _ fr h=>bO (fe x fr) fun v=>Bc (uy v) fun cs=>J6 h (.cells cs 0 none)
def Zed (t:QZ) (parts:Array (Nat×QY)):jr:=fun E _ fr h=>bO (aT E.P t) fun z=>bO (D6 parts.toList fr) fun ps=>iB (dK E.P t) (bO (RQ (placeOf E.P t) ps z) fun cs=>some (.agg ⟨cs⟩,h)) none
def HH (P:QX) (t:QZ):Option QZ:=match P.underlying t with
 | some (.slice e)=>some e
 | _=>none
def sH (h:IH) (cells:List QQ) (n len c:Nat):Option (QQ×IH):=Bc cells fun cells=>TH h (.cells cells n none) fun k h=>fN (Nat.mul 2 k) fun b=>fN c fun c=>some (.slice (some ⟨b,0,none⟩) len c,h)
def qY (h:IH) (cells:List QQ) (n len c:Nat):sH h cells n len c=some (.slice (some ⟨2*h.n,0,none⟩) len c,h.new (.cells cells n none)):=by unfold sH;rw[tj,CA,gR,gR];rfl
def Nt (t:QZ) (len:Nat) (parts:Array (Nat×QY)):jr:=fun E _ fr h=>bO (D6 parts.toList fr) fun ps=>bO (HH E.P t) fun e=>bO (ba E.P e) fun n=>bO (aT E.P e) fun z =>
 iB (Nat.ble (Nat.mul len n) mr) (iB (Nat.beq (Et z) n) (bO (RQ (fun i=>some (Nat.mul i n,n)) ps (QT len z)) fun cells=>sH h cells n len (Nat.succ (Nat.mul 2 len))) none) none
def Z6 (t:QZ) (a:QY):jr:=fun E _ fr h=>bO (fe a fr) fun a=>okV h (Rr E.P h t a)
def Vq (t:QZ) (a x:QY):jr:=fun E _ fr h=>bO (fe a fr) fun a=>bO (fe x fr) fun v=>okH (Oj E.P h t a v)
def TG (x:QY):jr:=fun _ _ fr h=>bO (fe x fr) fun v=>match v with
 | .pointer (some a)=>some (.pointer (some a),h)
 | .func (.func f) xs ys=>some (.func (.func f) xs ys,h)
 | .func (.yield f) xs ys=>some (.func (.yield f) xs ys,h)
 | .map r=>some (.map r,h)
 | _=>none
def Zeg (op:BinOp) (t:QZ) (x y:QY) (_:QZ):jr:=fun E _ fr h=>bO (fe x fr) fun a=>bO (fe y fr) fun b=>okV h (P2 E.P op t x y a b)
def unF (P:QX) (op:UnOp) (v:QQ):Option QQ:=match op,v with
 | .not,.bool b=>some (.bool (not b))
 | op,v=>bif plain v then dO P (Op.unary op v) else none
def Zcs (P:QX) (op:UnOp) (v:QQ):unF P op v=bif plain v then dO P (Op.unary op v) else none:=by
 unfold unF;split;·rename_i b;exact(AI P b).symm
 ·rfl
def ZeC (op:UnOp) (_:QZ) (x:QY):jr:=fun E _ fr h=>bO (fe x fr) fun v=>okV h (unF E.P op v)
def intT (P:QX) (t:QZ):Option IntKind:=match P.underlying t with
 | some (.int k)=>some k
 | _=>none
def XZ (P:QX) (s d:QZ) (v:QQ):Option QQ:=match v with
 | .int k (.ofNat n)=>orElse (iB (P.underlying s).isSome (bO (intT P d) fun k'=>okI k' n) none) (qK P s d (.int k (.ofNat n)))
 | v=>qK P s d v
def XY (P:QX) (s d:QZ) (v:QQ):XZ P s d v=qK P s d v:=by
 unfold XZ;split
 ·rename_i k n;refine AU (fun v h=>?_) rfl;obtain⟨h0,h⟩:=dZ h;unfold intT at h;split at h
  ·rename_i k' hd;obtain⟨h1,rfl⟩:=lD h;rw[show(Int.ofNat n)=(n:Int) from rfl,mq h0 hd,sA h1]
  ·cases h
 ·rfl
def XW (s d:QZ) (x:QY):jr:=fun E _ fr h=>bO (fe x fr) fun v=>okV h (XZ E.P s d v)
def mV (o:Op):jr:=fun E _ fr h=>iop E.P fr o h
def TM (fn:Fn) (first cap:Array QY):jr:=fun _ _ fr h=>bO (Ea first.toList fr) fun a=>bO (Ea cap.toList fr) fun b=>match fn with
 | .func f=>some (.func (.func f) ⟨a⟩ ⟨b⟩,h)
 | _=>none
def yr (P:QX) (h:IH) (t:QZ) (l c:QQ):Option (QQ×IH):=bO (HH P t) fun e=>bO (lE l bh) fun l=>bO (lE c bh) fun c=>bO (ba P e) fun n=>bO (kI P e) fun by_=>bO (aT P e) fun z =>
 iB (Nat.ble l c) (iB (Nat.ble (Nat.mul c (Nat.succ by_)) bh) (iB (Nat.beq (Et z) n) (sH h (QT c z) n l (Nat.succ (Nat.mul 2 c))) none) none) none
def Gb (P:QX) (h:IH) (t:QZ) (l c:QQ):yr P h t l c=makeSlice P h t l c:=by
 unfold yr makeSlice HH;cases P.underlying t with
 | none=>rfl
 | some d =>
  cases d with
  | slice e =>
   simp only[bL];cases lE l bh with
   | none=>rfl
   | some l =>
    cases lE c bh with
    | none=>rfl
    | some c =>
     cases ba P e with
     | none=>rfl
     | some n =>
      cases kI P e with
      | none=>rfl
      | some b =>
       cases aT P e with
       | none=>rfl
       | some z =>
        simp only[bL,qY,D2,oc,iz,pc];show(bif Nat.ble l c then (bif Nat.ble (c*(b+1)) bh then (bif Nat.beq z.length n then _ else none) else none) else none)=_;cases Nat.ble l c<;>cases Nat.ble (c*(b+1)) bh<;>cases Nat.beq z.length n<;>rfl
  | _=>rfl
def Ph (t:QZ) (l c:QY):jr:=fun E _ fr h=>bO (fe l fr) fun l=>bO (fe c fr) fun c=>yr E.P h t l c
def ZQ (fr:Fr) (o:Option QY):Option (Option QQ):=Option.rec (motive:=fun _=>Option (Option QQ)) (some none) (fun x=>bO (fe x fr) fun v=>some (some v)) o
def ZP (fr:Fr) (o:Option QY):ZQ fr o=fG fr o:=by
 cases o with
 | none=>rfl
 | some x =>
  show bO (fe x fr) (fun v=>some (some v))=(opd fr x).map some;rw[dP];cases opd fr x<;>rfl
def ZcQ (t:QZ) (x:QY) (lo hi mx:Option QY):jr:=fun E _ fr h=>bO (fe x fr) fun x=>bO (ZQ fr lo) fun lo=>bO (ZQ fr hi) fun hi=>bO (ZQ fr mx) fun mx=>bO (dY E.P h t x lo hi mx) fun v=>some (PA v,h)
def addrOf (v:QQ) (k:Nat→Nat→Option (QQ×IH)):Option (QQ×IH):=match v with
 | .pointer (some ⟨b,o,none⟩)=>k b o
 | _=>none
def UO (v:QQ) (k:Nat→Nat→Option (QQ×IH)):addrOf v k=bO (asAddr v) fun a=>k a.1 a.2:=by
 unfold addrOf asAddr;split;·rfl
 ·rename_i hv;split
  ·exact absurd rfl (hv _ _)
  ·rfl
def PI (t:QZ) (x:QY) (f:Nat):jr:=fun E _ fr h=>bO (fe x fr) fun x=>bO (jf E.P t f) fun f=>bO (ba E.P f.type) fun n=>addrOf x fun b o=>iB (Nat.beq n 0) none (fN (Nat.add o f.offset) fun o=>some (.pointer (some ⟨b,o,none⟩),h))
def ZdO (t:QZ) (x:QY) (f:Nat):jr:=fun E _ fr h=>bO (fe x fr) fun x=>bO (jf E.P t f) fun f=>match x with
 | .agg cs=>okV h (Ra E.P f.type cs.toList f.offset)
 | _=>none
def eaT (P:QX) (t:QZ):Option (Option Nat×Nat):=match P.underlying t with
 | some (.array n e)=>(ba P e).map fun s=>(some n,s)
 | some (.slice e)=>(ba P e).map fun s=>(none,s)
 | _=>none
def yx (P:QX) (t:QZ) (x i:QQ):Option QQ:=match x,i with
 | .slice (some ⟨b,o,none⟩) n c,.int k (.ofNat j)=>bO (eaT P t) fun e=>Option.rec (motive:=fun _=>Option QQ) (iB (Nat.ble (Nat.succ j) n) (fN (Nat.add o (Nat.mul j e.2)) fun o=>some (.pointer (some ⟨b,o,none⟩))) none) (fun _=>indexAddr P t (.slice (some ⟨b,o,none⟩) n c) (.int k (.ofNat j))) e.1
 | .pointer (some ⟨b,o,none⟩),.int k (.ofNat j)=>bO (eaT P t) fun e=>Option.rec (motive:=fun _=>Option QQ) (indexAddr P t (.pointer (some ⟨b,o,none⟩)) (.int k (.ofNat j))) (fun n=>iB (Nat.ble (Nat.succ j) n) (fN (Nat.add o (Nat.mul j e.2)) fun o=>some (.pointer (some ⟨b,o,none⟩))) none) e.1
 | x,i=>indexAddr P t x i
def Ge (P:QX) (t:QZ) (x i:QQ):yx P t x i=indexAddr P t x i:=by
 unfold yx;split
 ·rename_i b o n c k j;unfold eaT indexAddr;cases hu:P.underlying t with
  | none=>rfl
  | some d =>
   cases d with
   | array n e =>
    simp only[];cases ba P e<;>rfl
   | slice e =>
    simp only[idxOf];cases ba P e with
    | none=>rfl
    | some s =>
     simp only[jt,bL,iz,gR];rfl
   | _=>rfl
 ·rename_i b o k j;unfold eaT indexAddr;cases hu:P.underlying t with
  | none=>rfl
  | some d =>
   cases d with
   | array n e =>
    simp only[idxOf];cases ba P e with
    | none=>rfl
    | some s =>
     simp only[jt,bL,iz,gR];rfl
   | slice e =>
    simp only[];cases ba P e<;>rfl
   | _=>rfl
 ·rfl
def Pm (t:QZ) (x i:QY):jr:=fun E _ fr h=>bO (fe x fr) fun x=>bO (fe i fr) fun i=>okV h (yx E.P t x i)
def RH (P:QX) (h:IH) (t:QZ) (x i:QQ):Option (QQ×IH):=match x with
 | .agg cs=>match P.underlying t,idxOf i with
   | some (.array n e),some (.ofNat j)=>bif Nat.blt j n then match ba P e with
     | some size=>okV h (Ra P e cs.toList (Nat.mul j size))
     | none=>none
    else none
   | _,_=>none
 | .string s=>bif plain i then (dO P (Instr.index t (.string s) i)).map (·,h) else none
 | _=>none
def Zdj (t:QZ) (x i:QY):jr:=fun E _ fr h=>bO (fe x fr) fun x=>bO (fe i fr) fun i=>RH E.P h t x i
def Z5 (t:QZ) (m k:QY) (ok:Bool):jr:=fun E _ fr h=>bO (fe m fr) fun m=>bO (fe k fr) fun k=>okV h (lookup E.P h t m k ok)
def En (t:QZ) (m k v:QY):jr:=fun E _ fr h=>bO (fe m fr) fun m=>bO (fe k fr) fun k=>bO (fe v fr) fun v=>okH (mapUpdate E.P h t m k v)
def Xo (x:QY) (i:Nat):jr:=fun _ _ fr h=>bO (fe x fr) fun v=>match v with
 | .tuple vs=>okV h (Wp i vs.toList)
 | _=>none
def J9 (h:IH) (size n:Nat) (x:QQ):Option (List QQ):=match x with
 | .slice none _ _=>some []
 | .slice (some ⟨b,o,none⟩) len _=>iB (Nat.ble n len) (fN (Nat.mul n size) fun m=>iB (Nat.beq m 0) (some []) (rdN h b o m)) none
 | _=>none
def HC (h:IH) (size n:Nat) (x:QQ):J9 h size n x=cN h size n x:=by
 unfold J9 cN;split;·rfl
 ·rename_i b o len c;simp only[gR,iz,pc];show(bif Nat.ble n len then (bif Nat.beq (n*size) 0 then some [] else rdN h b o (n*size)) else none)=bif Nat.ble n len then (bif Nat.beq (n*size) 0 then some [] else h.rd b o (n*size)) else none;cases hz:Nat.beq (n*size) 0 with
  | true=>rfl
  | false=>rw[VV h b o (n*size) (fun e=>by rw[e] at hz;cases hz)]
 ·rename_i h1 h2;split
  ·exact absurd rfl (h1 _ _)
  ·exact absurd rfl (h2 _ _ _ _)
  ·rfl
def twF (b:Nat) (l:List Nat):List Nat:=List.rec (motive:=fun _=>List Nat) [] (fun a _ ih=>iB (Nat.beq a b) [] (a :: ih)) l
theorem Vn (b:Nat) : ∀l:List Nat,twF b l=l.takeWhile (· != b)
 | []=>rfl
 | a :: l=>by show iB (Nat.beq a b) [] (a :: twF b l)=_;rw[Vn b l,Iz,bne,pc];cases Nat.beq a b<;>rfl
def dwF (b:Nat) (l:List Nat):List Nat:=List.rec (motive:=fun _=>List Nat) [] (fun a l ih=>iB (Nat.beq a b) l ih) l
theorem Xx (b:Nat) : ∀l:List Nat,dwF b l=(l.dropWhile (· != b)).drop 1
 | []=>rfl
 | a :: l=>by show iB (Nat.beq a b) l (dwF b l)=_;rw[Xx b l,List.dropWhile_cons,bne,pc];cases Nat.beq a b<;>rfl
def RA (l:List Nat) (e:Tr cB):Tr cB:=List.rec (motive:=fun _=>Tr cB→Tr cB) (fun e=>e) (fun k _ ih e=>pX .dead e k ih) l e
theorem MS : ∀(l:List Nat) (e:Tr cB),RA l e=IH.fL e l
 | [],_=>rfl
 | k :: l,e=>by show pX .dead e k (RA l)=_;rw[oz,MS l];rfl
def Px (h:IH) (k f:Nat) (cs:List QQ) (t:Nat) (dB below:List Nat) (cs':List QQ) (t' len:Nat):Option (QQ×IH):=IH.rec (motive:=fun _=>Option (QQ×IH)) (fun base n ext cZ =>
 Bc cs' fun cs'=>fN n fun n=>pX (.cells cs t (some f)) (RA dB ext) k fun e=>pX (.cells cs' t' (some f)) e n fun e=>pX (n :: k :: below) cZ f fun fa=>fN (Nat.mul 2 n) fun b=>fN (Nat.mul 2 len) fun c=>some (.slice (some ⟨b,0,none⟩) len c,⟨base,Nat.succ n,e,fa⟩)) h
def Ub (h:IH) (k f:Nat) (cs:List QQ) (t:Nat) (dB below:List Nat) (cs':List QQ) (t' len:Nat):Px h k f cs t dB below cs' t' len=some (.slice (some ⟨2*h.n,0,none⟩) len (2*len),grown h k f cs t dB below cs' t'):=by obtain⟨base,n,ext,cZ⟩:=h;show(Bc cs' fun cs'=>fN n fun n=>pX (.cells cs t (some f)) (RA dB ext) k fun e=>pX (.cells cs' t' (some f)) e n fun e=>pX (n :: k :: below) cZ f fun fa=>fN (Nat.mul 2 n) fun b=>fN (Nat.mul 2 len) fun c=>some (QQ.slice (some ⟨b,0,none⟩) len c,(⟨base,Nat.succ n,e,fa⟩:IH)))=_;rw[tj,gR,oz,oz,oz,gR,gR,MS];rfl
def Zej (h:IH) (size bytes n:Nat) (new:List QQ) (s:QQ):Option (QQ×IH):=match s with
 | .slice none a c=>iB (Nat.beq a 0) (iB (Nat.beq c 0) (iB (Nat.ble (Nat.mul n (Nat.succ bytes)) bh) (sH h new size n (Nat.mul 2 n)) none) none) none
 | .slice (some ⟨b,o,none⟩) len k =>
  iB (Nat.ble (Nat.mul (Nat.add len n) (Nat.succ bytes)) bh)
   (fN (Nat.add len n) fun m=>iB (Nat.ble m (Nat.div k 2)) (bO (wrF h b (Nat.add o (Nat.mul len size)) new) fun h=>some (.slice (some ⟨b,o,none⟩) m k,h))
    (iB (Nat.beq (Nat.mod k 2) 1) (bO (J9 h size len (.slice (some ⟨b,o,none⟩) len k)) fun old=>sH h (Cn old new) size m (Nat.mul 2 m))
     (iB (Nat.beq len (Nat.div k 2)) (iB (Nat.ble 1 len) (iB (Nat.beq (Nat.mod b 2) 0) (fN (Nat.div b 2) fun b2=>bO (yW h.ext b2) fun ob=>match ob with
      | .cells cs t fam=>iB (Nat.beq (Nat.add o (Nat.mul len size)) (Et cs)) (iB (Nat.beq t size) (match fam with
        | none=>Px h b2 h.n cs t [] [] (Cn (HJ o cs) new) size m
        | some f=>bO (yW h.cZ f) fun stk=>Px h b2 f cs t (twF b2 stk) (dwF b2 stk) (Cn (HJ o cs) new) size m) none) none
      | _=>none) none) none) none)))
   none
 | _=>none
def KF (P:QX) (h:IH) (st:QZ) (s x:QQ):Option (QQ×IH) :=
 bO (HH P st) fun e=>bO (ba P e) fun size=>bO (kI P e) fun bytes=>bO (aT P e) fun zs=>bO (lenOf x) fun n=>fN n fun n =>
  iB (Nat.beq n 0) (match s with|.slice none a c=>bif a == 0 && c == 0 then some (s,h) else none|.slice (some ⟨_,_,none⟩) _ _=>some (s,h)|_=>none)
   (iB (Nat.beq size 0) none (iB (Nat.ble bytes 65536) (iB (Nat.beq (Et zs) size) (bO (J9 h size n x) fun new=>iB (ZaW Yf new) (Zej h size bytes n new s) none) none) none))
def ZaV (h:IH) (size bytes n:Nat) (new:List QQ) (s:QQ):Zej h size bytes n new s=match s with
    | .slice none a c=>bif a == 0 && c == 0 && Nat.ble (n*(bytes+1)) bh then some (.slice (some ⟨2*h.n,0,none⟩) n (2*n),h.new (.cells new size none)) else none
    | .slice (some ⟨b,o,none⟩) len k =>
     bif !(Nat.ble ((len+n)*(bytes+1)) bh) then none else
     bif Nat.ble (len+n) (k / 2) then (h.wr b (o+len*size) new).map fun h=>(.slice (some ⟨b,o,none⟩) (len+n) k,h)
     else bif k % 2 == 1 then
      match cN h size len s with
      | none=>none
      | some old=>some (.slice (some ⟨2*h.n,0,none⟩) (len+n) (2*(len+n)),h.new (.cells (old ++ new) size none))
     else bif len == k / 2 && Nat.blt 0 len && b % 2 == 0 then
      match h.ext.get (b / 2) with
      | some (.cells cs t fam) =>
       bif o+len*size == cs.length && t == size then
        match fam with
        | none=>some (.slice (some ⟨2*h.n,0,none⟩) (len+n) (2*(len+n)),grown h (b / 2) h.n cs t [] [] (cs.drop o ++ new) size)
        | some f=>match h.cZ.get f with
         | none=>none
         | some stk=>some (.slice (some ⟨2*h.n,0,none⟩) (len+n) (2*(len+n)),
           grown h (b / 2) f cs t (stk.takeWhile (· != b / 2)) ((stk.dropWhile (· != b / 2)).drop 1) (cs.drop o ++ new) size)
       else none
      | _=>none
     else none
    | _=>none:=by
 unfold Zej;split;·rename_i a c;simp only[iz,qY,pc];show(bif Nat.beq a 0 then (bif Nat.beq c 0 then (bif Nat.ble (n*(bytes+1)) bh then _ else none) else none) else none)=_;cases Nat.beq a 0<;>cases Nat.beq c 0<;>cases Nat.ble (n*(bytes+1)) bh<;>rfl
 ·rename_i b o len k;simp only[iz,gR,qY,pc,U2,HC,CM,pY,oc,Ub,wo,Vn,Xx];show(bif Nat.ble ((len+n)*(bytes+1)) bh then (bif Nat.ble (len+n) (k / 2) then (bO (h.wr b (o+len*size) new) fun h=>some (QQ.slice (some ⟨b,o,none⟩) (len+n) k,h)) else (bif Nat.beq (k % 2) 1 then (bO (cN h size len (.slice (some ⟨b,o,none⟩) len k)) fun old=>some (QQ.slice (some ⟨2*h.n,0,none⟩) (len+n) (2*(len+n)),h.new (.cells (old ++ new) size none))) else
   (bif Nat.beq len (k / 2) then (bif Nat.blt 0 len then (bif Nat.beq (b % 2) 0 then (bO (h.ext.get (b / 2)) fun ob=>match ob with
      | .cells cs t fam=>bif Nat.beq (o+len*size) cs.length then (bif Nat.beq t size then (match fam with
        | none=>some (QQ.slice (some ⟨2*h.n,0,none⟩) (len+n) (2*(len+n)),grown h (b / 2) h.n cs t [] [] (cs.drop o ++ new) size)
        | some f=>bO (h.cZ.get f) fun stk=>some (QQ.slice (some ⟨2*h.n,0,none⟩) (len+n) (2*(len+n)),grown h (b / 2) f cs t (stk.takeWhile (· != b / 2)) ((stk.dropWhile (· != b / 2)).drop 1) (cs.drop o ++ new) size)) else none) else none
      | _=>none) else none) else none) else none))) else none)=_
  cases Nat.ble ((len+n)*(bytes+1)) bh with
  | false=>rfl
  | true =>
   simp only[bP,lW,dL];cases Nat.ble (len+n) (k / 2) with
   | true =>
    simp only[bP];cases h.wr b (o+len*size) new<;>rfl
   | false =>
    simp only[dL];cases Nat.beq (k % 2) 1 with
    | true =>
     simp only[bP];cases cN h size len (.slice (some ⟨b,o,none⟩) len k)<;>rfl
    | false =>
     simp only[dL];cases Nat.beq len (k / 2) with
     | false=>rfl
     | true =>
      cases Nat.blt 0 len with
      | false=>rfl
      | true =>
       cases Nat.beq (b % 2) 0 with
       | false=>rfl
       | true =>
        simp only[bP,Bool.and_true];cases h.ext.get (b / 2) with
        | none=>rfl
        | some ob =>
         cases ob with
         | cells cs t fam =>
          simp only[bL];cases Nat.beq (o+len*size) cs.length with
          | false=>rfl
          | true =>
           cases Nat.beq t size with
           | false=>rfl
           | true =>
            cases fam with
            | none=>rfl
            | some f =>
             simp only[bP,Bool.and_true];cases h.cZ.get f<;>rfl
         | _=>rfl
 ·rfl
def P7 (P:QX) (h:IH) (st:QZ) (s x:QQ):KF P h st s x=append P h st s x:=by
 unfold KF append HH;cases hu:P.underlying st with
 | none=>rfl
 | some d =>
  cases d with
  | slice e =>
   simp only[bL];cases ba P e with
   | none=>rfl
   | some size =>
    cases kI P e with
    | none=>rfl
    | some bytes =>
     cases aT P e with
     | none=>rfl
     | some zs =>
      cases lenOf x with
      | none=>rfl
      | some n =>
       simp only[bL,gR,iz,pc,oc,HC,KG,No,ZaV];cases Nat.beq n 0 with
       | true=>rfl
       | false =>
        cases Nat.beq size 0 with
        | true=>rfl
        | false =>
         cases Nat.ble bytes 65536 with
         | false=>rfl
         | true =>
          cases Nat.beq zs.length size with
          | false=>rfl
          | true =>
           simp only[bP,dL,lW,Bool.or_false];cases cN h size n x with
           | none=>rfl
           | some new =>
            simp only[bL];cases new.all aM<;>rfl
  | _=>rfl
def Fy (P:QX) (h:IH) (b:Builtin) (ts:Array QZ) (args:List QQ):Option (QQ×IH):=match b,args with
 | .append,[s,x]=>iB (dE P ts[1]?) (bO ts[0]? fun st=>KF P h st s x) (builtin P h .append ts [s,x])
 | b,args=>builtin P h b ts args
def Ns (P:QX) (h:IH) (b:Builtin) (ts:Array QZ) (args:List QQ):Fy P h b ts args=builtin P h b ts args:=by
 unfold Fy;split
 ·rename_i s x;rw[iz];have e:builtin P h .append ts [s,x]=bif dE P ts[1]? then (match ts[0]? with|some st=>append P h st s x|none=>none) else bif JV P ts[1]? then (match ts[0]? with|some st=>rI P h st s x|none=>none) else none:=rfl;cases hs:dE P ts[1]? with
  | false=>rfl
  | true =>
   rw[e,hs];cases ts[0]? with
   | none=>rfl
   | some st=>exact P7 P h st s x
 ·rfl
def Kv (c:Call):jr:=fun E call fr h=>match c.callee with
 | .value f=>bO (fe f fr) fun fv=>bO (Ea c.args.toList fr) fun vs=>call fv vs h
 | .builtin b=>bO (Ea c.args.toList fr) fun vs=>Fy E.P h b c.argTypes vs
 | .invoke _ _=>none
def ZcU (o:Op):jr:=Op.rec (motive:=fun _=>jr) ZbD ZbD Ze2 Zek boxF Zed Nt En Z6 Vq (fun a=>mV (.ready a)) (fun a=>mV (.waits a)) TG Zeg ZeC XW
 (fun a b=>mV (.sliceToArrayPointer a b)) (fun a b=>mV (.makeInterface a b)) TM (fun a b=>mV (.makeMap a b)) (fun a b=>mV (.makeChan a b)) Ph ZcQ PI ZdO Pm Zdj Z5 En
 (fun a b c=>mV (.mapEntry a b c)) (fun a b c d=>mV (.entryStore a b c d)) (fun a b=>mV (.range a b)) (fun a b=>mV (.next a b)) (fun a=>mV (.entry a)) (fun a b c d=>mV (.typeAssert a b c d)) Xo Kv
 (fun a=>mV (.go a)) (fun a=>mV (.defer a)) (fun a=>mV (.panic a)) (fun a b=>mV (.send a b)) (fun a b c=>mV (.recv a b c)) (fun a b=>mV (.select a b)) o
theorem QL (o:Op) (E:Env) (call:cQ) (fr:Fr) (h:IH):ZcU o E call fr h=fw E call fr o h:=by
 cases o
 case move x=>show okV h (fe x fr)=_;rw[nA,dP];rfl
 case assign x=>show okV h (fe x fr)=_;rw[nA,dP];rfl
 case pick c a b =>
  show bO (fe c fr) _=match opd fr c with|some (.bool true)=>(opd fr a).map (·,h)|some (.bool false)=>(opd fr b).map (·,h)|_=>none
  simp only[dP,nA];cases opd fr c with
  | none=>rfl
  | some v =>
   cases v with
   | bool t=>cases t<;>rfl
   | _=>rfl
 case alloc t =>
  show bO (aT E.P t) _=(aT E.P t).map _;simp only[Hx];cases aT E.P t<;>rfl
 case box t x =>
  show bO (fe x fr) _=(opd fr x).map _;simp only[tj,Hx,Bg,dP];cases opd fr x<;>rfl
 case build t ps =>
  show bO (aT E.P t) _=match aT E.P t,partsOf fr ps.toList with|some z,some ps=>(bif dK E.P t then (dF (placeOf E.P t) z ps).map fun cs=>(QQ.agg cs.toArray,h) else none)|_,_=>none
  simp only[AS,ET,iz];cases aT E.P t with
  | none=>rfl
  | some z =>
   cases partsOf fr ps.toList with
   | none=>rfl
   | some l =>
    simp only[bL];cases dK E.P t with
    | false=>rfl
    | true =>
     simp only[bP];cases dF (placeOf E.P t) z l<;>rfl
 case buildSlice t len ps =>
  show bO (D6 ps.toList fr) _=match partsOf fr ps.toList with|some ps=>buildSlice E.P h t len ps|none=>none
  simp only[AS,ET,qY,oc,iz,D2];cases partsOf fr ps.toList with
  | none=>rfl
  | some l =>
   simp only[bL];unfold buildSlice HH;cases E.P.underlying t with
   | none=>rfl
   | some d =>
    cases d with
    | slice e =>
     simp only[bL];cases ba E.P e with
     | none=>rfl
     | some n =>
      cases aT E.P e with
      | none=>rfl
      | some z =>
       simp only[bL,pc];show(bif Nat.ble (len*n) mr then (bif Nat.beq z.length n then (bO (dF (fun i=>some (i*n,n)) (cj len z) l) fun cells=>some (QQ.slice (some ⟨2*h.n,0,none⟩) len (2*len+1),h.new (.cells cells n none))) else none) else none)=_;cases Nat.ble (len*n) mr<;>cases Nat.beq z.length n<;>first|rfl|skip
       simp only[bP,Bool.and_true];cases dF (fun i=>some (i*n,n)) (cj len z) l<;>rfl
    | _=>rfl
 case load t a =>
  show bO (fe a fr) _=match opd fr a with|some a=>(load E.P h t a).map (·,h)|none=>none
  simp only[dP,nA,ML];cases opd fr a<;>rfl
 case store t a x =>
  show bO (fe a fr) _=match opd fr a,opd fr x with|some a,some v=>(store E.P h t a v).map (undef,·)|_,_=>none
  simp only[dP,O0,SN];cases opd fr a<;>cases opd fr x<;>rfl
 case nilCheck x =>
  show bO (fe x fr) _=_;rw[dP];simp only[fw,iop];cases opd fr x with
  | none=>rfl
  | some v =>
   cases v with
   | pointer a=>cases a<;>rfl
   | func f a b=>cases f<;>rfl
   | _=>rfl
 case binOp op t x y s =>
  show bO (fe x fr) _=match opd fr x,opd fr y with|some a,some b=>(binop E.P op t x y a b).map (·,h)|_,_=>none
  simp only[dP,nA,Uz];cases opd fr x<;>cases opd fr y<;>rfl
 case unOp op t x =>
  show bO (fe x fr) _=match opd fr x with|some v=>(bif plain v then (dO E.P (Op.unary op v)).map (·,h) else none)|none=>none
  simp only[dP,nA,Zcs];cases opd fr x with
  | none=>rfl
  | some v =>
   simp only[bL];cases plain v<;>rfl
 case convert s d x =>
  show bO (fe x fr) _=match opd fr x with|some v=>(bif plain v then (dO E.P (Go.convert s d v)).map (·,h) else none)|none=>none
  simp only[dP,nA,XY,qK];cases opd fr x with
  | none=>rfl
  | some v =>
   simp only[bL];cases plain v<;>rfl
 case makeFunc fn a b =>
  show bO (Ea a.toList fr) _=match jV fr a.toList,jV fr b.toList with|some a,some b=>(match fn with|.func f=>some (QQ.func (.func f) a.toArray b.toArray,h)|_=>none)|_,_=>none
  simp only[D9];cases jV fr a.toList<;>cases jV fr b.toList<;>first|rfl|(cases fn<;>rfl)
 case makeSlice t l c =>
  show bO (fe l fr) _=match opd fr l,opd fr c with|some l,some c=>makeSlice E.P h t l c|_,_=>none
  simp only[dP,Gb];cases opd fr l<;>cases opd fr c<;>rfl
 case slice t x lo hi mx =>
  show bO (fe x fr) _=match opd fr x,fG fr lo,fG fr hi,fG fr mx with|some x,some lo,some hi,some mx=>(dY E.P h t x lo hi mx).map (·,h)|_,_,_,_=>none
  simp only[dP,ZP,Ud];cases opd fr x<;>cases fG fr lo<;>cases fG fr hi<;>cases fG fr mx<;>first|rfl|skip
  simp only[bL];rename_i x lo hi mx;cases dY E.P h t x lo hi mx<;>rfl
 case fieldAddr t x f =>
  show bO (fe x fr) _=match opd fr x,jf E.P t f with|some x,some f=>(match asAddr x,ba E.P f.type with|some (b,o),some n=>(bif n == 0 then none else some (ptr b (o+f.offset),h))|_,_=>none)|_,_=>none
  simp only[dP,UO,iz,gR,pc];cases opd fr x with
  | none=>rfl
  | some v =>
   cases jf E.P t f with
   | none=>rfl
   | some fd =>
    simp only[bL];cases ba E.P fd.type with
    | none=>cases asAddr v<;>rfl
    | some n =>
     cases asAddr v with
     | none=>rfl
     | some a=>rfl
 case field t x f =>
  show bO (fe x fr) _=_;simp only[dP,nA,Me,fw,iop];cases opd fr x with
  | none=>rfl
  | some v =>
   cases jf E.P t f with
   | none=>cases v<;>rfl
   | some fd=>cases v<;>rfl
 case indexAddr t x i =>
  show bO (fe x fr) _=match opd fr x,opd fr i with|some x,some i=>(indexAddr E.P t x i).map (·,h)|_,_=>none
  simp only[dP,nA,Ge];cases opd fr x<;>cases opd fr i<;>rfl
 case index t x i =>
  show bO (fe x fr) _=_;simp only[dP,fw,iop,RH,nA];cases opd fr x with
  | none=>rfl
  | some v =>
   cases opd fr i with
   | none=>cases v<;>rfl
   | some j =>
    cases v with
    | agg cs =>
     simp only[bL];split
     ·rename_i hu hj;rw[hu,hj];simp only;split
      ·rename_i hs;rw[hs,Me];rfl
      ·rename_i hs;rw[hs]
     ·rename_i hn;split
      ·rename_i hu hj;exact absurd hj (hn _ _ _ hu)
      ·rfl
    | _=>rfl
 case lookup t m k ok =>
  show bO (fe m fr) _=match opd fr m,opd fr k with|some m,some k=>(lookup E.P h t m k ok).map (·,h)|_,_=>none
  simp only[dP,nA];cases opd fr m<;>cases opd fr k<;>rfl
 case mapUpdate t m k v =>
  show bO (fe m fr) _=match opd fr m,opd fr k,opd fr v with|some m,some k,some v=>(mapUpdate E.P h t m k v).map (undef,·)|_,_,_=>none
  simp only[dP,O0];cases opd fr m<;>cases opd fr k<;>cases opd fr v<;>rfl
 case insert t m k v =>
  show bO (fe m fr) _=match opd fr m,opd fr k,opd fr v with|some m,some k,some v=>(mapUpdate E.P h t m k v).map (undef,·)|_,_,_=>none
  simp only[dP,O0];cases opd fr m<;>cases opd fr k<;>cases opd fr v<;>rfl
 case extract x i =>
  show bO (fe x fr) _=_;simp only[dP,nA,JI,fw,iop];cases opd fr x with
  | none=>rfl
  | some v =>
   cases v with
   | tuple vs=>simp only[bL,oS]
   | _=>rfl
 case call c =>
  show Kv c E call fr h=_;unfold Kv;simp only[dP,D9,Ns,fw,iop];cases c.callee with
  | value f=>simp only;cases opd fr f<;>cases jV fr c.args.toList<;>rfl
  | builtin b=>simp only;cases jV fr c.args.toList<;>rfl
  | invoke _ _=>rfl
 all_goals rfl
end
end Go.Id
