/-
  Weakest preconditions over the ideal machine, third part: memory, types, calls, loops.
-/
import Derived.Test.YtnnmjocmapilaaaGreatOutlierOddsAg
import Derived.IntWalk
set_option linter.unusedVariables false
set_option linter.unusedSimpArgs false
set_option linter.defProp false
set_option linter.deprecated false
namespace Go.Id
open Go
open Go renaming Operand→QY,Program→QX,TypeId→QZ,Value→QQ
open Nat renaming reduceAdd→zA,reduceEqDiff→zE,reduceLeDiff→zL
open Nat (reduceMul)
set_option maxHeartbeats 16000000
@[simp] theorem bj (h:IH) (o:cB):(h.new o).n=h.n+1:=rfl
@[simp] theorem Ej (h:IH) (o:cB):(h.new o).base=h.base:=rfl
@[simp] theorem Ze7 (h:IH) (o:cB):(h.new o).cZ=h.cZ:=rfl
theorem pE (h:IH) (o:cB) (k:Nat):(h.new o).ext.get k=if k=h.n then some o else h.ext.get k:=by simp[IH.new,Tr.cE]
def IH.put (h:IH) (k:Nat) (o:cB):IH:={ h with ext:=h.ext.set k o }
@[simp] theorem bd (h:IH) (k:Nat) (o:cB):(h.put k o).n=h.n:=rfl
@[simp] theorem D4 (h:IH) (k:Nat) (o:cB):(h.put k o).base=h.base:=rfl
@[simp] theorem ZeW (h:IH) (k:Nat) (o:cB):(h.put k o).cZ=h.cZ:=rfl
theorem lK (h:IH) (k:Nat) (o:cB) (j:Nat):(h.put k o).ext.get j=if j=k then some o else h.ext.get j:=by simp[IH.put,Tr.cE]
theorem aq (h:IH) (o:cB) {k:Nat} (hk:k=h.n):(h.new o).ext.get k=some o:=by rw[pE,ah hk]
def aE (h:IH) (o:cB) {k:Nat} (hk:k≠h.n):(h.new o).ext.get k=h.ext.get k:=by rw[pE,ad hk]
theorem ak (h:IH) (o:cB) {k j:Nat} (hk:j=k):(h.put k o).ext.get j=some o:=by rw[lK,ah hk]
theorem ax (h:IH) (o:cB) {k j:Nat} (hk:j≠k):(h.put k o).ext.get j=h.ext.get j:=by rw[lK,ad hk]
def IH.cells (h:IH) (k:Nat):Option (List QQ):=match h.ext.get k with
 | some (.cells cs _ _)=>some cs
 | _=>none
variable {k:Nat}{h:IH}{cs:List QQ}
def Fs {e:Nat} {f:Option Nat} (hk:h.ext.get k=some (.cells cs e f)):h.cells k=some cs:=by simp[IH.cells,hk]
theorem mJ (h:IH) (k:Nat):h.row (2*k)=h.cells k:=by have h1:(2*k) % 2=0:=byOmega;have h2:2*k / 2=k:=byOmega;simp only[IH.row,h1,h2,IH.cells];rfl
def mI (h:IH) (cs:List QQ) (e:Nat) (f:Option Nat) {b:Nat} (hb:b=2*h.n):(h.new (.cells cs e f)).row b=some cs:=by subst hb;rw[mJ];simp[IH.cells,pE]
def BE (h:IH) (o:cB) {b:Nat} (hb:b≠2*h.n):(h.new o).row b=h.row b:=by
 simp only[IH.row,Ej,pE,aK,bD];by_cases h1:b % 2=1;·simp[h1]
 ·rw[ad h1,ad h1,ad byOmega]
def zm (h:IH) (cs:List QQ) (e:Nat) (f:Option Nat) {b k:Nat} (hb:b=2*k):(h.put k (.cells cs e f)).row b=some cs:=by subst hb;rw[mJ];simp[IH.cells,lK]
theorem vB (h:IH) (k:Nat) (o:cB) {b:Nat} (hb:b≠2*k):(h.put k o).row b=h.row b:=by
 simp only[IH.row,D4,lK,aK,bD];by_cases h1:b % 2=1;·simp[h1]
 ·rw[ad h1,ad h1,ad byOmega]
structure Ext (h h':IH):Prop where
 n:h.n≤h'.n
 base:h'.base=h.base
 get : ∀k,k<h.n→h'.ext.get k=h.ext.get k
 cZ : ∀f,f<h.n→h'.cZ.get f=h.cZ.get f
variable {a b:IH}
@[simp] theorem Ext.refl (h:IH):Ext h h:=⟨ar _,rfl,fun _ _=>rfl,fun _ _=>rfl⟩
theorem Ext.trans {c:IH} (h:Ext a b) (k:Ext b c):Ext a c :=
 ⟨bA h.n k.n,k.base.trans h.base,fun x hx=>(k.get x (cV hx h.n)).trans (h.get x hx),fun x hx=>(k.cZ x (cV hx h.n)).trans (h.cZ x hx)⟩
def Ext.new (h:Ext a b) (o:cB):Ext a (b.new o) :=
 ⟨bA h.n (nc _),h.base,fun x hx=>by rw[pE,ad (by have:=h.n;omega)];exact h.get x hx,fun x hx=>h.cZ x hx⟩
def Ext.put (h:Ext a b) (hk:a.n≤k) (o:cB):Ext a (b.put k o) :=
 ⟨h.n,h.base,fun x hx=>by rw[lK,ad byOmega];exact h.get x hx,fun x hx=>h.cZ x hx⟩
def Ext.row (h:Ext a b) {x:Nat} (hx:x % 2=1∨x<2*a.n):b.row x=a.row x:=by
 simp only[IH.row,h.base,aK,bD];by_cases h1:x % 2=1;·rw[ah h1,ah h1]
 ·rw[ad h1,ad h1,h.get _ byOmega]
def ld (h:IH) (b o:Nat):Option QQ:=(h.row b).bind (·[o]?)
variable {o:Nat}
theorem ZbM {b:Nat} (hr:h.row b=some cs):ld h b o=cs[o]?:=by simp[ld,hr]
variable {P:QX}{t:TypeId}
theorem dR (hT:bX P t=some false) (h:IH) (b o:Nat):load P h t (ptr b o)=ld h b o:=by
 simp only[load,asAddr,ptr,hT,IH.rd,ld];cases ba P t <;>
 (cases hr:h.row b with
  | none=>rfl
  | some cs =>
   simp only[ke,aK,bI];by_cases hl:o+1≤cs.length;·rw[ah hl];simp only[ke];rw[List.head?_take,ad byOmega,List.head?_drop]
   ·rw[ad hl,cI byOmega];rfl)
variable {n:Nat}
theorem hZ (hT:bX P t=some true) (hn:ba P t=some n) (h:IH) (b o:Nat):load P h t (ptr b o)=(h.rd b o n).map fun cs=>.agg cs.toArray:=by simp only[load,asAddr,ptr,hT,hn]
@[simp] theorem FF (b o:Nat):asAddr (ptr b o)=some (b,o):=rfl
theorem zq {b:Nat} (hr:h.row b=some cs):h.rd b o n=if o+n≤cs.length then some ((cs.drop o).take n) else none:=by simp[IH.rd,hr,aK]
variable {nt:Nat}{K:QQ→IH→Prop}
@[simp] theorem Ib (k:IntKind) (n:Int):(QQ.int k n).cells = #[.int k n]:=rfl
@[simp] theorem Fu (b:Bool):(QQ.bool b).cells = #[.bool b]:=rfl
@[simp] theorem B7 (a:Option Addr) (n c:Nat):(QQ.slice a n c).cells = #[.slice a n c]:=rfl
@[simp] theorem HZ (b o:Nat):(ptr b o).cells = #[ptr b o]:=rfl
@[simp] theorem Ic (cs:Array QQ):(QQ.agg cs).cells=cs:=rfl
@[simp] theorem Ft (f:Fn) (a b:Array QQ):(QQ.func f a b).cells = #[.func f a b]:=rfl
@[simp] theorem xF:(QQ.nilFunc).cells = #[.nilFunc]:=rfl
@[simp] theorem Ia (r:Option Nat):(QQ.map r).cells = #[.map r]:=rfl
@[simp] theorem Ag:(QQ.pointer none).cells = #[.pointer none]:=rfl
theorem UW {f:FuncId} {fn:Func} {c:Code} {rs:List ResultVar} {first cap:Array QQ} {vs:List QQ}  (hf:P.funcs[f]?=some fn) (hb:fn.body=some c) (hn:fn.ntmps=nt) (hr:fn.results.toList=rs) (hl:(first.toList ++ (vs ++ cap.toList)).length≤nt)(w:wpC P f nt none c (gh 0 (first.toList ++ (vs ++ cap.toList))) h fun e fr h=>match e with
   | .exit _=>False
   | .normal=>Ex (bY P fr h rs) fun l=>K (single l) h
   | .ret=>Ex (bY P fr h rs) fun l=>K (single l) h):WV P (.func (.func f) first cap) vs h K:=by
 subst hn;subst hr;obtain⟨⟨e,fr,h1⟩,⟨N,hN⟩,k⟩:=jh w;have key : ∃l,bY P fr h1 fn.results.toList=some l∧K (single l) h1 ∧ ∀i,e≠.exit i:=by
  cases e with
  | exit i=>exact k.elim
  | normal=>obtain⟨l,a,b⟩:=k;exact⟨l,a,b,fun i hi=>by cases hi⟩
  | ret=>obtain⟨l,a,b⟩:=k;exact⟨l,a,b,fun i hi=>by cases hi⟩
 obtain⟨l,hl1,k,hne⟩:=key;refine⟨(single l,h1),⟨N+1,fun n hn=>?_⟩,k⟩;obtain⟨n,rfl⟩ : ∃m,n=m+1:=⟨n - 1,byOmega⟩;have h2:=hN n byOmega;simp only at h2;have yB:Nat.ble (first.toList ++ (vs ++ cap.toList)).length fn.ntmps=true:=by simpa [bI] using hl
 have hf':(E0 P).P.funcs[f]?=some fn:=hf;simp only[dj,sj,show(E0 P).xh f=none from rfl,hf',hb,yB,bP,h2];cases e with
 | exit i=>exact absurd rfl (hne i)
 | normal=>simp[E0,hl1]
 | ret=>simp[E0,hl1]
variable {fr:Fr}{fn:FuncId}{rd:Option Nat}
@[simp] theorem xu (P:QX) (fr:Fr) (h:IH):bY P fr h []=some []:=rfl
@[simp] theorem vC (P:QX) (fr:Fr) (h:IH) (r:ResultVar) (l:List ResultVar):bY P fr h (r :: l)=(kC P fr h r).bind fun v=>(bY P fr h l).map (v :: ·):=by simp only[bY];cases kC P fr h r<;>cases bY P fr h l<;>rfl
@[simp] theorem zo (P:QX) (fr:Fr) (h:IH) (t:Tmp):kC P fr h (.tmp t)=aj fr t:=rfl
@[simp] theorem xw (P:QX) (fr:Fr) (h:IH) (a:Tmp) (t:TypeId):kC P fr h (.cell a t)=(aj fr a).bind fun v=>load P h t v:=by simp only[kC];cases aj fr a<;>rfl
theorem ZeA {b:Code} {Q:cL→Fr→IH→Prop} (I:Nat→Fr→IH→Prop)(step : ∀m fr h,I m fr h→wpC P fn nt rd b fr h fun e fr' h'=>match e with
   | .normal => ∃m',m'<m∧I m' fr' h'
   | .exit i=>Q (.exit i) fr' h'
   | .ret=>Q .ret fr' h') {m:Nat} (start:I m fr h) (hm:v9 b=none):Cc P fn nt rd b fr h Q:=by
 have key : ∀m fr h,I m fr h → ∃r:cL×Fr×IH,(∃N,∀n,N≤n → ∀j,m+1≤j→qq (evC (E0 P) (dj (E0 P) n) fn nt rd n b) j fr h=some r)∧Q r.1 r.2.1 r.2.2:=by
  intro m
  induction m using Nat.strongRecOn with
  | _ m ih =>
   intro fr h hi;obtain⟨⟨e,fr1,h1⟩,⟨N,hN⟩,k⟩:=jh (step m fr h hi);cases e with
   | normal =>
    obtain⟨m',hm,hi'⟩:=k;obtain⟨r,⟨M,hM⟩,q⟩:=ih m' hm fr1 h1 hi';refine⟨r,⟨max N M,fun n hn j hj=>?_⟩,q⟩;obtain⟨j,rfl⟩ : ∃i,j=i+1:=⟨j - 1,byOmega⟩;have e1:=hN n (bA (CZ _ _) hn);simp only at e1;rw[qq,e1];exact hM n (bA (CY _ _) hn) j byOmega
   | exit i =>
    refine⟨(.exit i,fr1,h1),⟨N,fun n hn j hj=>?_⟩,k⟩;obtain⟨j,rfl⟩ : ∃i,j=i+1:=⟨j - 1,byOmega⟩;have e1:=hN n hn;simp only at e1;rw[qq,e1]
   | ret =>
    refine⟨(.ret,fr1,h1),⟨N,fun n hn j hj=>?_⟩,k⟩;obtain⟨j,rfl⟩ : ∃i,j=i+1:=⟨j - 1,byOmega⟩;have e1:=hN n hn;simp only at e1;rw[qq,e1]
 obtain⟨r,⟨N,hN⟩,q⟩:=key m fr h start;exact⟨r,⟨max N (m+1),fun n hn=>by
  have:=hN n (bA (CZ _ _) hn) n (bA (CY _ _) hn);show evC (E0 P) (dj (E0 P) n) fn nt rd n (.loop b) fr h=some r;rw[EW,hm];exact this⟩,q⟩
def wpOp_mono {o:Op} {L:QQ→IH→Prop} (k : ∀v h,K v h→L v h) (w:wpOp P o fr h K):wpOp P o fr h L:=by
 cases o
 case call c =>
  cases hc:c.callee<;>simp only[wpOp,hc] at w ⊢
  ·exact Ex.mono w fun _ w=>Ex.mono w fun _ w=>WV.mono w k
  ·exact Ex.mono w fun _ w=>Ex.mono w fun _ w=>k _ _ w
 case pick=>exact Ex.mono w fun _ w=>Ex.mono w fun _ w=>Ex.mono w fun _ w=>w.imp (fun x=>⟨x.1,k _ _ x.2⟩) fun x=>⟨x.1,k _ _ x.2⟩
 case extract =>
  refine Ex.mono w fun v w=>?_
  split at w
  ·exact Ex.mono w fun _ w=>k _ _ w
  ·exact w.elim
 case makeFunc f _ _ =>
  refine Ex.mono w fun v w=>Ex.mono w fun u w=>?_
  cases f
  ·exact k _ _ w
  all_goals exact w.elim
 case fieldAddr=>exact Ex.mono w fun _ w=>Ex.mono w fun _ w=>Ex.mono w fun _ w=>Ex.mono w fun _ w=>⟨w.1,k _ _ w.2⟩
 all_goals
  first
   | exact Ex.mono w fun _ w=>Ex.mono w fun _ w=>Ex.mono w fun _ w=>k _ _ w
   | exact Ex.mono w fun _ w=>Ex.mono w fun _ w=>k _ _ w
   | exact Ex.mono w fun _ w=>k _ _ w
def kA {d:Option Tmp} {v:QQ} {K L:Fr→Prop} (k : ∀fr,K fr→L fr) (w:iI nt fr d v K):iI nt fr d v L:=by
 unfold iI at w ⊢;split;·exact k _ w
 ·unfold Br at w ⊢;split<;>simp_all
def Br.mono {b:Bool} {p q p' q':Prop} (h1:p→p') (h2:q→q') (w:Br b p q):Br b p' q':=by cases b<;>simp_all
variable {all:List Oper}
def ni {K L:Fr→IH→Prop} (k : ∀fr h,K fr h→L fr h) : ∀{l:List Oper} {fr:Fr} {h:IH},wpOps P nt all l fr h K→wpOps P nt all l fr h L
 | [],_,_,w=>k _ _ w
 | o :: l,fr,h,w=>by
  unfold wpOps at w ⊢;split at w;·exact wpOp_mono (fun v h w=>kA (fun fr w=>ni k w) w) w
  ·refine Ex.mono w fun d w=>Ex.mono w fun b w=>?_;split at w
   ·exact Br.mono (fun w=>wpOp_mono (fun v h w=>kA (fun fr w=>ni k w) w) w) (fun w=>kA (fun fr w=>ni k w) w) w
   ·exact kA (fun fr w=>ni k w) w
   ·exact w
def mB {K L:List (Fr×IH)→Prop} (k : ∀t,K t→L t) : ∀{l:List Oper} {fr:Fr} {h:IH} {tr:List (Fr×IH)},eX P nt all l fr h tr K→eX P nt all l fr h tr L
 | [],_,_,_,w=>k _ w
 | o :: l,fr,h,tr,w=>by
  unfold eX at w ⊢;split at w;·exact wpOp_mono (fun v h w=>kA (fun fr w=>mB k w) w) w
  ·refine Ex.mono w fun d w=>Ex.mono w fun b w=>?_;split at w
   ·exact Br.mono (fun w=>wpOp_mono (fun v h w=>kA (fun fr w=>mB k w) w) w) (fun w=>kA (fun fr w=>mB k w) w) w
   ·exact kA (fun fr w=>mB k w) w
   ·exact w
def pT : ∀{c:Code} {Q R:cL→Fr→IH→Prop} {fr:Fr} {h:IH},(∀e fr h,Q e fr h→R e fr h)→wpC P fn nt rd c fr h Q→wpC P fn nt rd c fr h R
 | .skip,_,_,_,_,k,w=>k _ _ _ w
 | .label _,_,_,_,_,k,w=>k _ _ _ w
 | .region _ _ draw,_,_,_,_,k,w=>by
  cases draw with
  | false=>exact ni (k _) w
  | true=>exact⟨fun hc=>ni (k _) (w.1 hc),fun hc=>⟨(w.2 hc).1,mB (fun t w=>⟨w.1,Ex.mono w.2 fun _ w=>k _ _ _ w⟩) (w.2 hc).2⟩⟩
 | .seq a b,Q,R,fr,h,k,w=>by
  refine pT (c:=a) (fun e fr h w=>?_) w;cases e with
  | normal=>exact pT (c:=b) k w
  | exit i=>exact k _ _ _ w
  | ret=>exact k _ _ _ w
 | .cond c a b,Q,R,fr,h,k,w=>by
  refine Ex.mono w fun v w=>?_;split at w;·exact Br.mono (fun w=>pT (c:=a) k w) (fun w=>pT (c:=b) k w) w
  ·exact w
 | .block id b,Q,R,fr,h,k,w=>by
  refine pT (c:=b) (fun e fr h w=>?_) w;cases e with
  | normal=>exact k _ _ _ w
  | exit i=>exact Br.mono (k _ _ _) (k _ _ _) w
  | ret=>exact k _ _ _ w
 | .loop b,_,_,_,_,k,w=>Tm.mono w fun _ w=>k _ _ _ w
 | .scope b,_,_,_,_,k,w=>pT (c:=b) k w
 | .rangeFunc _ _ _ _,_,_,_,_,k,w=>Tm.mono w fun _ w=>k _ _ _ w
 | .exit _,_,_,_,_,k,w=>k _ _ _ w
 | .ret,_,_,_,_,k,w=>k _ _ _ w
 | .goto _,_,_,_,_,_,w=>w.elim
 | .refuse _,_,_,_,_,_,w=>w.elim
theorem wrap_i64 {x:Int} (h : -9223372036854775808≤x∧x≤9223372036854775807):IntKind.i64.wrap x=x:=IntWalk.i64_in x h
theorem yO {x:Int} (h:0≤x∧x≤18446744073709551615):IntKind.u64.wrap x=x:=IntWalk.u64_in x h
def wrap_u8 {x:Int} (h:0≤x∧x≤255):IntKind.u8.wrap x=x:=IntWalk.u8_in x h
def KS {x:Int} (h:0≤x∧x≤65535):IntKind.u16.wrap x=x:=IntWalk.u16_in x h
def wrap_u32 {x:Int} (h:0≤x∧x≤4294967295):IntKind.u32.wrap x=x:=IntWalk.u32_in x h
def il (P:QX) (t:QZ):Option Nat:=match P.underlying t with
 | some (.slice e)=>ba P e
 | _=>none
def Sn (P:QX) (t:QZ):Option (Nat×Nat):=match P.underlying t with
 | some (.array n e)=>(ba P e).map (n,·)
 | _=>none
def mR (P:QX) (t:QZ):Option (Nat×Nat):=match P.underlying t with
 | some (.slice e)=>match ba P e,kI P e,aT P e with
  | some size,some bytes,some zs=>bif size == 0 || (!(Nat.ble bytes 65536) || !(zs.length == size)) then none else some (size,bytes)
  | _,_,_=>none
 | _=>none
def sW (P:QX) (t:QZ):Option (Nat×Nat×List QQ):=match P.underlying t with
 | some (.slice e)=>match ba P e,kI P e,aT P e with
  | some n,some b,some z=>bif z.length == n then some (n,b,z) else none
  | _,_,_=>none
 | _=>none
def wZ (P:QX) (t:QZ) (f:Nat):Option (Bool×Nat×Nat) :=
 (jf P t f).bind fun d=>(bX P d.type).bind fun b=>(ba P d.type).map fun n=>(b,d.offset,n)
def EU (P:QX) (t:QZ) (f:Nat) (cs:Array QQ) :yE P t f (.agg cs)=(wZ P t f).bind fun p=>if p.1=true then some (.agg (cs.extract p.2.1 (p.2.1+p.2.2))) else cs[p.2.1]?:=by
 simp only[yE,wZ];cases jf P t f with
 | none=>rfl
 | some d =>
  simp only[ke,partOf];cases ha:bX P d.type with
  | none=>rfl
  | some b =>
   cases hs:ba P d.type with
   | none =>
    cases b with
    | true=>rfl
    | false => -- a size is there where the kind is
     exfalso;simp only[bX,QX.underlying,bg] at ha;simp only[ba,Option.map_eq_none_iff] at hs;obtain⟨x,h1,_⟩:=ha;simp[hs] at h1
   | some n=>cases b<;>simp
def uK (i:Int) (n:Nat):Option Nat:=match i with
 | .ofNat j=>if j<n then some j else none
 | .negSucc _=>none
@[simp] theorem Ba {j n:Nat} (h:j<n):uK (j:Int) n=some j:=by show(if j<n then some j else none)=some j;rw[ah h]
theorem oX (P:QX) (t:QZ) (b o n c:Nat) (k:IntKind) (i:Int) :indexAddr P t (.slice (some ⟨b,o,none⟩) n c) (.int k i)=(il P t).bind fun sz=>(uK i n).map fun j=>ptr b (o+j*sz):=by
 simp only[indexAddr,il,idxOf];cases hu:P.underlying t with
 | none=>rfl
 | some d =>
  cases d<;>(try rfl);rename_i e
  simp only
  cases hs:ba P e with
  | none=>rfl
  | some sz =>
   cases i with
   | ofNat j =>
    simp only[uK,ke,aK,Nat.blt,bI,Nat.succ_le_iff];by_cases hj:j<n;·rw[ah hj,ah hj];rfl
    ·rw[ad hj,ad hj];rfl
   | negSucc j=>rfl
def xC (P:QX) (t:QZ) (b o:Nat) (k:IntKind) (i:Int) :indexAddr P t (ptr b o) (.int k i)=(Sn P t).bind fun a=>(uK i a.1).map fun j=>ptr b (o+j*a.2):=by
 simp only[indexAddr,Sn,idxOf,ptr];cases hu:P.underlying t with
 | none=>rfl
 | some d =>
  cases d<;>(try rfl);rename_i n e
  simp only
  cases hs:ba P e with
  | none=>rfl
  | some sz =>
   cases i with
   | ofNat j =>
    simp only[uK,ke,jt,aK,Nat.blt,bI,Nat.succ_le_iff];by_cases hj:j<n;·rw[ah hj,ah hj];rfl
    ·rw[ad hj,ad hj];rfl
   | negSucc j=>rfl
variable {P:QX}{t:QZ}
def yw (hT:dE P (some t)=true) (h:IH) (a:Option Addr) (n c:Nat):qB P h t (.slice a n c)=some (.int .i64 n):=by
 unfold dE at hT;simp only at hT;unfold qB;split at hT;·rename_i hu;simp[hu]
 ·cases hT
@[simp] theorem builtin_len (P:QX) (h:IH) (ts:Array QZ) (x:QQ):builtin P h .len ts [x]=(ts[0]?).bind fun t=>(qB P h t x).map (·,h):=by simp only[builtin];cases ts[0]?<;>rfl
theorem builtin_append (P:QX) (h:IH) (s t:QZ) (x y:QQ) (hT:dE P (some t)=true):builtin P h .append #[s,t] [x,y]=append P h s x y:=by have e1:(#[s,t]:Array QZ)[1]?=some t:=rfl;have e0:(#[s,t]:Array QZ)[0]?=some s:=rfl;simp only[builtin,e1,e0,hT,bP]
def OL {s:Sem QQ} {v:QQ} (h:aD P s=some v) (hv:plain v=true):dO P s=some v:=by simp[dO,h,hv]
theorem l6 {d:TypeDesc} {α:Type} (hd:P.underlying t=some d) (f:TypeDesc→Sem α):aD P ((underlying t).bind f)=aD P (f d):=by have e:aD P ((underlying t).bind f)=aD P ((match P.underlying t with|some d=>(pure d:Sem TypeDesc)|none=>stuck "no such type").bind f):=rfl;rw[e,hd];rfl
variable {k:IntKind}
theorem mq {s d:QZ} {k':IntKind} {n:Int} (hs:(P.underlying s).isSome=true) (hd:P.underlying d=some (.int k')):qK P s d (.int k n)=some (.int k' (k'.wrap n)):=by obtain⟨ds,hs⟩:=It.1 hs;refine OL ?_ rfl;unfold Go.convert;show aD P (Sem.bind _ _)=_;rw[l6 hs];show aD P (Sem.bind _ _)=_;rw[l6 hd];cases ds<;>rfl
theorem Sw (a b:Nat) (ha:a<2 ^ k.bits) (hb:b<2 ^ k.bits):(BitVec.ofInt k.bits (a:Int) &&& BitVec.ofInt k.bits (b:Int)).toNat=a &&& b:=by simp[BitVec.toNat_and,eP ha,eP hb]
section
variable (P:QX) (t:QZ) (ox oy:Operand)
variable {k:IntKind}
def AQ {op:BinOp} {x y:Int} {v:QQ} (hv:plain v=true) (hr:aD P (do eqGuard op t ox oy (.int k x) (.int k y);Go.binOp op t (.int k x) (.int k y))=some v):binop P op t ox oy (.int k x) (.int k y)=some v :=
 fA P t ox oy rfl rfl hv hr
theorem oh (k:IntKind) (a b:Int):binop P .and t ox oy (.int k a) (.int k b)=some (.int k (k.wrap (BitVec.ofInt k.bits a &&& BitVec.ofInt k.bits b).toNat)) :=
 AQ P t ox oy rfl (by simp[eqGuard,Go.binOp,Op.intBits];rfl)
theorem uA (k:IntKind) (a b:Int):binop P .or t ox oy (.int k a) (.int k b)=some (.int k (k.wrap (BitVec.ofInt k.bits a ||| BitVec.ofInt k.bits b).toNat)) :=
 AQ P t ox oy rfl (by simp[eqGuard,Go.binOp,Op.intBits];rfl)
theorem xJ (k:IntKind) (a b:Int):binop P .xor t ox oy (.int k a) (.int k b)=some (.int k (k.wrap (BitVec.ofInt k.bits a ^^^ BitVec.ofInt k.bits b).toNat)) :=
 AQ P t ox oy rfl (by simp[eqGuard,Go.binOp,Op.intBits];rfl)
theorem Bt (k:IntKind) (a b:Int):binop P .andNot t ox oy (.int k a) (.int k b)=some (.int k (k.wrap (BitVec.ofInt k.bits a &&& ~~~BitVec.ofInt k.bits b).toNat)) :=
 AQ P t ox oy rfl (by simp[eqGuard,Go.binOp,Op.intBits];rfl)
variable {n:Nat}
theorem gH (h:n<2 ^ 64):IntKind.u64.wrap (n:Int)=n:=yO byOmega
theorem pf (h:n<2 ^ 63):IntKind.i64.wrap (n:Int)=n:=wrap_i64 byOmega
theorem P8 {a b c:Nat} (h:a<c):a &&& b<c:=kh Nat.and_le_left h
theorem Wg {a b:Nat} (ha:a<2 ^ n) (hb:b<2 ^ n):a ||| b<2 ^ n:=Nat.or_lt_two_pow ha hb
def Gn (a b:Nat) (ha:a<18446744073709551616) (hb:b<18446744073709551616):binop P .and t ox oy (.int .u64 a) (.int .u64 b)=some (.int .u64 ((a &&& b:Nat):Int)):=by rw[oh,Sw (k:=.u64) a b ha hb,gH (P8 ha)]
def Ak (a b:Nat) (ha:a<18446744073709551616) (hb:b<18446744073709551616):binop P .or t ox oy (.int .u64 a) (.int .u64 b)=some (.int .u64 ((a ||| b:Nat):Int)):=by
 have e:(BitVec.ofInt 64 (a:Int) ||| BitVec.ofInt 64 (b:Int)).toNat=a ||| b:=by simp[eP ha,eP hb]
 rw[uA,show(BitVec.ofInt IntKind.u64.bits (a:Int) ||| BitVec.ofInt IntKind.u64.bits (b:Int)).toNat=a ||| b from e,gH (Wg (n:=64) ha hb)]
def TK (a b:Nat):Nat:=a ^^^ (a &&& b)
theorem I6 (a b i:Nat):(TK a b).testBit i=(a.testBit i && !b.testBit i):=by simp only[TK,Nat.testBit_xor,Nat.testBit_and];cases a.testBit i<;>cases b.testBit i<;>rfl
theorem Z0 {a b:Nat} (h:a<2 ^ n):TK a b<2 ^ n:=Nat.xor_lt_two_pow h (kh Nat.and_le_left h)
variable {a:Int}{j:IntKind}{b:Int}
theorem Bj (hb:0≤b):binop P .shr t ox oy (.int k a) (.int j b)=some (.int k (a.fdiv (2 ^ (min b.toNat k.bits)))):=by refine fA P t ox oy rfl rfl rfl ?_;simp[eqGuard,Go.binOp,Op.shift,Int.not_lt.2 hb];rfl
theorem tz (hb:0≤b):binop P .shl t ox oy (.int k a) (.int j b)=some (.int k (k.wrap (a*2 ^ (min b.toNat k.bits)))):=by refine fA P t ox oy rfl rfl rfl ?_;simp[eqGuard,Go.binOp,Op.shift,Int.not_lt.2 hb];rfl
theorem w6 (hb:b≠0):binop P .quo t ox oy (.int k a) (.int k b)=some (.int k (k.wrap (a.tdiv b))):=by refine AQ P t ox oy rfl ?_;simp[eqGuard,Go.binOp,Op.intDiv,hb];rfl
theorem tA (hb:b≠0):binop P .rem t ox oy (.int k a) (.int k b)=some (.int k (a.tmod b)):=by refine AQ P t ox oy rfl ?_;simp[eqGuard,Go.binOp,Op.intDiv,hb];rfl
end
def AI (P:QX) (b:Bool):(bif plain (.bool b) then dO P (Op.unary .not (.bool b)) else none)=some (.bool (!b)):=rfl
def Gw (P:QX) (k:IntKind) (n:Int):(bif plain (.int k n) then dO P (Op.unary .neg (.int k n)) else none)=some (.int k (k.wrap (-n))):=by show some (QQ.int k (k.wrap (0 - n)))=_;rw[Int.zero_sub]
structure aX (h h':IH):Prop where
 n:h.n≤h'.n
 base:h'.base=h.base
 get : ∀k c e f,k<h.n→h.ext.get k=some (.cells c e f)→e≠0 → ∃f',h'.ext.get k=some (.cells c e f')
structure Grow (h h':IH):Prop where
 n:h.n≤h'.n
 base:h'.base=h.base
 get : ∀k,k<h.n→h'.ext.get k=h.ext.get k ∨ ∃c e f f',e≠0∧h.ext.get k=some (.cells c e f)∧h'.ext.get k=some (.cells c e f')
variable {h' h:IH}
def Ext.grow (e:Ext h h'):Grow h h':=⟨e.n,e.base,fun k hk=>.inl (e.get k hk)⟩
def Grow.ae (g:Grow h h'):aX h h':=⟨g.n,g.base,fun k c e f hk hg he=>by
 rcases g.get k hk with h1|⟨c1,e1,f1,f2,h0,h1,h2⟩;·exact⟨f,by rw[h1,hg]⟩
 ·rw[hg] at h1;cases h1;exact⟨f2,h2⟩⟩
def Ext.ae (e:Ext h h'):aX h h':=e.grow.ae
theorem aX.refl (h:IH):aX h h:=(Ext.refl h).ae
variable {a b:IH}
def aX.trans {c:IH} (x:aX a b) (y:aX b c):aX a c:=⟨bA x.n y.n,y.base.trans x.base,fun k cs e f hk hg he=>by
 obtain⟨f1,h1⟩:=x.get k cs e f hk hg he;exact y.get k cs e f1 (cV hk x.n) h1 he⟩
def Grow.refl (h:IH):Grow h h:=(Ext.refl h).grow
def Grow.trans {c:IH} (x:Grow a b) (y:Grow b c):Grow a c:=⟨bA x.n y.n,y.base.trans x.base,fun k hk=>by
 have hk2:=cV hk x.n;rcases x.get k hk with h1|⟨c1,e1,f1,f2,h0,h1,h2⟩
 ·rcases y.get k hk2 with h3|⟨c3,e3,f3,f4,h5,h6,h7⟩
  ·exact .inl (h3.trans h1)
  ·exact .inr ⟨c3,e3,f3,f4,h5,by rw[←h1];exact h6,h7⟩
 ·rcases y.get k hk2 with h3|⟨c3,e3,f3,f4,h5,h6,h7⟩
  ·exact .inr ⟨c1,e1,f1,f2,h0,h1,by rw[h3,h2]⟩
  ·rw[h2] at h6;cases h6;exact .inr ⟨c1,e1,f1,f4,h0,h1,h7⟩⟩
def Grow.new (g:Grow a b) (o:cB):Grow a (b.new o):=g.trans ((Ext.refl b).new o).grow
def aX.new (g:aX a b) (o:cB):aX a (b.new o):=g.trans ((Ext.refl b).new o).ae
variable {f:Option Nat}{cs:List QQ}
def aX.put (g:aX a b) {k:Nat} (hk:b.ext.get k=some (.cells cs 0 f)) (o:cB):aX a (b.put k o):=⟨g.n,g.base,fun j c e f1 hj hg he=>by
 obtain⟨f2,h2⟩:=g.get j c e f1 hj hg he;refine⟨f2,?_⟩;rw[lK,ad];·exact h2
 ·rintro rfl;rw[hk] at h2;cases h2;exact he rfl⟩
def Grow.box (g:Grow a b) {k:Nat} (hk:k<a.n) {o:cB} (ho:a.ext.get k=some o) (hne : ∀c e f,o=.cells c e f→e=0):b.ext.get k=some o:=by
 rcases g.get k hk with h1|⟨c1,e1,f1,f2,h0,h1,h2⟩;·rw[h1,ho]
 ·rw[ho] at h1;cases h1;exact absurd (hne _ _ _ rfl) h0
def Grow.var (g:Grow a b) {k:Nat} (hk:k<a.n) (ho:a.ext.get k=some (.cells cs 0 f)):b.ext.get k=some (.cells cs 0 f):=g.box hk ho fun c e f h=>by cases h;rfl
def aX.row (g:aX a b) {x:Nat} {row:List QQ} (hx:x % 2=1∨(x<2*a.n ∧ ∃e f,e≠0∧a.ext.get (x / 2)=some (.cells row e f))) (hr:a.row x=some row):b.row x=some row:=by
 rcases hx with hx|⟨hx,e,f,he,hg⟩;·rw[←hr];simp[IH.row,hx,g.base]
 ·obtain⟨f',h2⟩:=g.get (x / 2) row e f byOmega hg he;simp only[IH.row,aK,bD] at hr ⊢;split
  ·rename_i h1;rw[ah h1] at hr;rw[g.base];exact hr
  ·rw[h2]
def cA (h:IH) (sz:Nat) (v:QQ) (n:Nat) (cs:List QQ):Prop :=
 0<sz∧cs.length=n*sz∧((v=.slice none 0 0∧n=0) ∨ ∃b o k,v=.slice (some ⟨b,o,none⟩) n k∧((n=0∧k=0) ∨
  (0<k∧n≤k / 2 ∧ ∃row,((b % 2=1∧k % 2=1)∨(b % 2=0∧b<2*h.n ∧ ∃f,h.ext.get (b / 2)=some (.cells row sz f)))∧h.row b=some row∧(row.drop o).take (n*sz)=cs∧o+n*sz≤row.length)))
def a9 (v:QQ) (c:Nat):QQ:=match v with
 | .slice (some ⟨b,o,none⟩) _ _=>ptr b (o+c)
 | _=>undef
variable {n:Nat}{v:QQ}{sz:Nat}
def cA.ae (s:cA h sz v n cs) (e:aX h h'):cA h' sz v n cs:=by
 obtain⟨hz,hl,s|⟨b,o,k,rfl,s⟩⟩:=s;·exact⟨hz,hl,.inl s⟩
 ·refine⟨hz,hl,.inr ⟨b,o,k,rfl,s.imp id fun⟨a1,a2,row,a3,h1,h2,h3⟩=>?_⟩⟩;rcases a3 with a3|⟨a4,a5,f,a6⟩
  ·exact⟨a1,a2,row,.inl a3,e.row (.inl a3.1) h1,h2,h3⟩
  ·obtain⟨f',h4⟩:=e.get (b / 2) row sz f byOmega a6 byOmega;exact⟨a1,a2,row,.inr ⟨a4,by have:=e.n;omega,f',h4⟩,e.row (.inr ⟨a5,sz,f,byOmega,a6⟩) h1,h2,h3⟩
def cA.ext (s:cA h sz v n cs) (e:Ext h h'):cA h' sz v n cs:=s.ae e.ae
def cA.nil (h:IH) (hz:0<sz):cA h sz (.slice none 0 0) 0 []:=⟨hz,aa,.inl ⟨rfl,rfl⟩⟩
def cA.form (s:cA h sz v n cs) : ∃a k,v=.slice a n k:=by
 obtain⟨hz,hl,⟨rfl,rfl⟩|⟨b,o,k,rfl,s⟩⟩:=s;·exact⟨_,_,rfl⟩
 ·exact⟨_,_,rfl⟩
variable {t:TypeId}{P:Program}
theorem cA.len (s:cA h sz v n cs) (hT:dE P (some t)=true) (h':IH):qB P h' t v=some (.int .i64 n):=by obtain⟨a,k,rfl⟩:=s.form;exact yw hT _ _ _ _
def cA.cells (s:cA h sz v n cs):v.cells = #[v]:=by obtain⟨a,k,rfl⟩:=s.form;rfl
def cA.cok (s:cA h sz v n cs):aM v=true:=by obtain⟨a,k,rfl⟩:=s.form;rfl
variable {k:IntKind}
def cA.idx (s:cA h sz v n cs) (hT:il P t=some sz) {j:Nat} (hj:j<n):indexAddr P t v (.int k j)=some (a9 v (j*sz)):=by
 obtain⟨hz,hl,⟨rfl,rfl⟩|⟨b,o,k,rfl,s⟩⟩:=s;·omega
 ·rw[oX,hT];simp[a9,Ba hj]
def cA.idxI (s:cA h sz v n cs) (hT:il P t=some sz) {i:Int} (h0:0≤i) (hj:i<n):indexAddr P t v (.int k i)=some (a9 v (i.toNat*sz)):=by obtain⟨j,rfl⟩:=fD h0;exact s.idx hT byOmega
variable {c:Nat}
def cA.ld (s:cA h sz v n cs) (e:aX h h') (hc:c<cs.length) (hT:bX P t=some false):load P h' t (a9 v c)=cs[c]?:=by
 obtain⟨hz,hl,⟨rfl,rfl⟩|⟨b,o,k,rfl,s'⟩⟩:=s.ae e;·simp at hl;simp[hl] at hc
 ·obtain⟨rfl,_⟩|⟨a1,a2,row,a3,h1,h2,h3⟩:=s'
  ·simp at hl;simp[hl] at hc
  ·rw[a9,dR hT,ZbM h1,←h2,iU];rw[ah byOmega,kj]
variable {m:Nat}
def cA.Ev (s:cA h sz v n cs) (e:aX h h') (hc:c+m≤cs.length) (hm:0<m) (hT:bX P t=some true) (hS:ba P t=some m) :load P h' t (a9 v c)=some (.agg ((cs.drop c).take m).toArray):=by
 obtain⟨hz,hl,⟨rfl,rfl⟩|⟨b,o,k,rfl,s'⟩⟩:=s.ae e;·simp at hl;simp[hl] at hc;omega
 ·obtain⟨rfl,_⟩|⟨a1,a2,row,a3,h1,h2,h3⟩:=s'
  ·simp at hl;simp[hl] at hc;omega
  ·rw[a9,hZ hT hS,zq h1,ah byOmega,←h2];simp only[jt,List.drop_take,C9,Df];rw[lU byOmega]
variable {l:Nat}
def cA.slice (s:cA h sz v n cs) (kp:aX h h') {e:TypeId} (hu:P.underlying t=some (.slice e)) (hT:ba P e=some sz) (hl:l≤m) (hm:m≤n) {lo hi:Option QQ} (hlo:MM lo m=some l) (hhi : ∀c,n≤c→W6 hi n c=some m) :∃v',dY P h' t v lo hi none=some v'∧cA h sz v' (m - l) ((cs.drop (l*sz)).take ((m - l)*sz)):=by
 obtain⟨hz,hlen,⟨rfl,rfl⟩|⟨b,o,k,rfl,s⟩⟩:=s;·obtain rfl:m=0:=byOmega;obtain rfl:l=0:=byOmega;refine⟨.slice none 0 0,?_,hz,aa,.inl ⟨rfl,rfl⟩⟩;have:=hhi 0 (ar _);simp[dY,hu,hT,fT,jn,this,hlo]
 ·obtain⟨rfl,rfl⟩|⟨a1,a2,row,a3,h1,h2,h3⟩:=s
  ·obtain rfl:m=0:=byOmega;obtain rfl:l=0:=byOmega;have:=hhi 0 (ar _);refine⟨.slice (some ⟨b,o,none⟩) 0 0,?_,hz,aa,.inr ⟨b,o,0,rfl,.inl ⟨rfl,rfl⟩⟩⟩;simp[dY,hu,hT,fT,jn,this,hlo]
  ·have hh:=hhi (k / 2) a2;have hk0:(k == 0)=false:=bq
   have Hs:(k % 2 == 1 || roomy h' sz (.slice (some ⟨b,o,none⟩) n k))=true:=by
    rcases a3 with a3|⟨a4,a5,f,a6⟩;·simp[a3.2]
    ·obtain⟨f',h4⟩:=kp.get (b / 2) row sz f byOmega a6 byOmega
     simp[roomy,a4,h4]
   by_cases hlk:l=k / 2
   ·have hml:m=l:=byOmega;subst hml;have Zap:(m == k / 2)=true:=by simpa using hlk
    rcases Nat.mod_two_eq_zero_or_one k with hk|hk
    ·refine⟨.slice (some ⟨b,o,none⟩) 0 0,?_,hz,aa,.inr ⟨b,o,0,aa,.inl ⟨byOmega,rfl⟩⟩⟩
     have hk':(k % 2 == 1)=false:=by simp[hk]
     simp only[dY,hu,hT,fT,jn,hh,hlo,hk0,Zap,hk',bP,dL]
    ·refine⟨.slice (some ⟨b,o,none⟩) 0 1,?_,hz,aa,.inr ⟨b,o,1,aa,.inr ⟨byOmega,byOmega,row,a3.imp (fun x=>⟨x.1,rfl⟩) id,h1,aa,bq⟩⟩⟩
     have hk':(k % 2 == 1)=true:=by simp[hk]
     simp only[dY,hu,hT,fT,jn,hh,hlo,hk0,Zap,hk',bP,dL]
   ·have Zap:(l == k / 2)=false:=by simpa using hlk
    have hls:l*sz+(m - l)*sz=m*sz:=by rw[←cW];congr 1;omega
    have hmn:m*sz≤n*sz:=cT _ hm;refine⟨.slice (some ⟨b,o+l*sz,none⟩) (m - l) (k - 2*l),?_,hz,?_,.inr ⟨b,o+l*sz,k - 2*l,rfl,.inr ⟨byOmega,byOmega,row,?_,h1,?_,byOmega⟩⟩⟩
    ·simp only[dY,hu,hT,fT,jn,hh,hlo,hk0,Zap,Hs,bP,dL]
    ·rw[iT,oN];omega
    ·rcases a3 with a3|a3
     ·exact .inl ⟨a3.1,byOmega⟩
     ·exact .inr a3
    ·rw[←h2,List.drop_take,C9,Df,lU byOmega]
def kQ (h:l≤m):lE (.int k (l:Int)) m=some l:=by show(bif Nat.ble l m then some l else none)=_;rw[show Nat.ble l m=true from by rw[bI];exact h];rfl
@[simp] theorem Zca {h:IH} {sz:Nat} {v:QQ} {n:Nat} {cs:List QQ} (s:cA h sz v n cs) {c:Nat} (hc:c<cs.length) : ∃b o,a9 v c=ptr b (o+c) ∧ ∀d,a9 v d=ptr b (o+d):=by
 obtain⟨hz,hl,⟨rfl,rfl⟩|⟨b,o,k,rfl,s⟩⟩:=s;·simp at hl;simp[hl] at hc
 ·exact⟨b,o,rfl,fun _=>rfl⟩
def YG (h:IH) (n0 k:Nat):Option Nat→Prop
 | none=>True
 | some f=>n0≤f∧f<h.n ∧ ∃rest,h.cZ.get f=some (k :: rest) ∧ ∀j∈rest,n0≤j∧j<h.n
def Acc (h:IH) (n0 sz:Nat) (v:QQ) (n:Nat) (cs:List QQ):Prop :=
 0<sz∧cs.length=n*sz∧((v=.slice none 0 0∧n=0) ∨ ∃k fam,v=.slice (some ⟨2*k,0,none⟩) n (2*n)∧0<n∧n0≤k∧k<h.n∧h.ext.get k=some (.cells cs sz fam)∧YG h n0 k fam)
def Acc.nil (h:IH) (n0:Nat) (hz:0<sz):Acc h n0 sz (.slice none 0 0) 0 []:=⟨hz,aa,.inl ⟨rfl,rfl⟩⟩
variable {n0:Nat}
def Acc.sl (a:Acc h n0 sz v n cs):cA h sz v n cs:=by
 obtain⟨hz,hl,a|⟨k,fam,rfl,hn,h1,h2,h3,h4⟩⟩:=a;·exact⟨hz,hl,.inl a⟩
 ·refine⟨hz,hl,.inr ⟨2*k,0,2*n,rfl,.inr ⟨byOmega,byOmega,cs,.inr ⟨byOmega,byOmega,fam,?_⟩,?_,?_,byOmega⟩⟩⟩
  ·rw[show 2*k / 2=k from by omega,h3]
  ·rw[mJ];simp[IH.cells,h3]
  ·rw[cp,dr byOmega]
def Acc.ext (a:Acc h n0 sz v n cs) (e:Ext h h'):Acc h' n0 sz v n cs:=by
 obtain⟨hz,hl,a|⟨k,fam,rfl,hn,h1,h2,h3,h4⟩⟩:=a;·exact⟨hz,hl,.inl a⟩
 ·refine⟨hz,hl,.inr ⟨k,fam,rfl,hn,h1,by have:=e.n;omega,by rw[e.get k h2];exact h3,?_⟩⟩;cases fam with
  | none=>trivial
  | some f =>
   obtain⟨a1,a2,rest,a3,a4⟩:=h4;exact⟨a1,by have:=e.n;omega,rest,by rw[e.cZ f a2];exact a3,fun j hj=>⟨(a4 j hj).1,cV (a4 j hj).2 e.n⟩⟩
def Acc.put (a:Acc h n0 sz v n cs) {k:Nat} {c:List QQ} (hk:h.ext.get k=some (.cells c 0 f)) (o:cB):Acc (h.put k o) n0 sz v n cs:=by
 obtain⟨hz,hl,a|⟨j,fam,rfl,hn,h1,h2,h3,h4⟩⟩:=a;·exact⟨hz,hl,.inl a⟩
 ·refine⟨hz,hl,.inr ⟨j,fam,rfl,hn,h1,h2,?_,?_⟩⟩
  ·rw[lK,ad]
   ·exact h3
   ·rintro rfl;rw[hk] at h3;cases h3;omega
  ·cases fam with
   | none=>trivial
   | some f=>exact h4
def Acc.app (a:Acc h n0 sz v n cs) {bytes:Nat} (hT:mR P t=some (sz,bytes)) {x:QQ} {new:List QQ} (sx:cA h sz x m new) (hm:0<m)(hc:new.all aM=true) (hsz:(n+m)*(bytes+1)≤bh) (h0:n0≤h.n) {h0':IH} (e0:Ext h0' h) (hn0:h0'.n≤n0) :∃v' h',append P h t v x=some (v',h')∧Acc h' n0 sz v' (n+m) (cs ++ new)∧Grow h h'∧h'.n=h.n+1∧Ext h0' h':=by
 unfold mR at hT;split at hT
 case h_2=>cases hT
 rename_i e hu;split at hT
 case h_2=>cases hT
 rename_i zs h1 h2 h3;simp only[aK] at hT;split at hT
 case isTrue=>cases hT
 rename_i J3;cases hT;have qE:(sz == 0 || (!(Nat.ble bytes 65536) || !(zs.length == sz)))=false:=by simpa using J3
 have WY:0<sz:=by simp at qE;omega
 obtain⟨_,hln,hx⟩:=sx;have Bb:(m == 0)=false:=bq
 have hx' : ∃b o k row,x=.slice (some ⟨b,o,none⟩) m k∧h.row b=some row∧(row.drop o).take (m*sz)=new∧o+m*sz≤row.length:=by
  rcases hx with⟨rfl,rfl⟩|⟨b,o,k,rfl,⟨rfl,_⟩|⟨_,_,row,_,a1,a2,a3⟩⟩;·omega
  ·omega
  ·exact⟨b,o,k,row,rfl,a1,a2,a3⟩
 obtain⟨b,o,k,row,rfl,a1,a2,a3⟩:=hx';have hms : ¬m*sz=0:=by have:0<m*sz:=kf hm WY;omega
 have nF:cN h sz m (.slice (some ⟨b,o,none⟩) m k)=some new:=by simp only[cN,aK,bI,ar,bS,bD,ad hms];rw[zq a1,ah a3,a2]
 have yB:Nat.ble ((n+m)*(bytes+1)) bh=true:=by rw[bI];exact hsz
 obtain⟨hz,hl,⟨rfl,rfl⟩|⟨kk,fam,rfl,hn,g1,g2,g3,g4⟩⟩:=a
 ·-- from nothing
  have hcs:cs = []:=fC.1 byOmega;subst hcs;refine⟨.slice (some ⟨2*h.n,0,none⟩) m (2*m),h.new (.cells new sz none),?_,⟨hz,by simp;exact hln,.inr ⟨h.n,none,aa,byOmega,h0,aa,by simp[pE],trivial⟩⟩,(Grow.refl h).new _,rfl,e0.new _⟩;have Xb:Nat.ble (m*(bytes+1)) bh=true:=by simpa using yB
  simp only[Id.append,hu,h1,h2,h3,lenOf,Bb,qE,nF,hc,Xb,bP,dL,lW,BEq.rfl,uY]
 ·have qS:Nat.ble (n+m) (2*n / 2)=false:=by rw[oR];intro hh;rw[bI] at hh;omega
  have qR:(2*n % 2 == 1)=false:=aa;have hlen:(n == 2*n / 2 && Nat.blt 0 n && (2*kk) % 2 == 0)=true:=by have:2*n / 2=n:=byOmega;simp[this,Nat.blt,bI];omega
  have xi:(0+n*sz == cs.length && sz == sz)=true:=by simp[hl]
  have hk2:2*kk / 2=kk:=byOmega;have body : ∀f below,(∀j∈below,n0≤j∧j<h.n)→(n0≤f)→f<h.n+1 →
    Acc (grown h kk f cs sz [] below (cs.drop 0 ++ new) sz) n0 sz (.slice (some ⟨2*h.n,0,none⟩) (n+m) (2*(n+m))) (n+m) (cs ++ new) ∧
    Grow h (grown h kk f cs sz [] below (cs.drop 0 ++ new) sz)∧Ext h0' (grown h kk f cs sz [] below (cs.drop 0 ++ new) sz):=by
   intro f below hbl hf1 hf2;have dM : ∀j,(grown h kk f cs sz [] below (cs.drop 0 ++ new) sz).ext.get j=if j=h.n then some (.cells (cs ++ new) sz (some f)) else if j=kk then some (.cells cs sz (some f)) else h.ext.get j:=by intro j;simp[grown,IH.fL,Tr.cE]
   refine⟨⟨hz,by simp[hl,hln,cW],.inr ⟨h.n,some f,rfl,byOmega,h0,by simp[grown],by rw[dM,ah rfl],hf1,by simp[grown];omega,kk :: below,?_,fun j hj=>by rcases dD.1 hj with rfl|hj;exact⟨g1,by simp[grown];omega⟩;exact⟨(hbl j hj).1,by have:=(hbl j hj).2;simp[grown];omega⟩⟩⟩,⟨by simp[grown],rfl,fun j hj=>?_⟩,?_⟩;·simp[grown,Tr.cE]
   ·rw[dM,ad byOmega];by_cases hjk:j=kk
    ·subst hjk;exact .inr ⟨cs,sz,fam,some f,byOmega,g3,by rw[ah rfl]⟩
    ·rw[ad hjk];exact .inl rfl
   ·refine⟨by have:=e0.n;simp[grown];omega,e0.base,fun j hj=>?_,fun g hg=>?_⟩
    ·rw[dM,ad byOmega,ad byOmega];exact e0.get j hj
    ·simp only[grown,Tr.cE];rw[ad byOmega];exact e0.cZ g hg
  cases fam with
  | none =>
   obtain⟨b1,b2,b3⟩:=body h.n [] (fun _ h=>by cases h) h0 byOmega;refine⟨_,_,?_,b1,b2,rfl,b3⟩;simp only[Id.append,hu,h1,h2,h3,lenOf,Bb,qE,nF,hc,yB,qS,qR,hlen,hk2,g3,xi,bP,dL,lW]
  | some f =>
   obtain⟨f1,f2,rest,f3,f4⟩:=g4;obtain⟨b1,b2,b3⟩:=body f rest f4 f1 byOmega;refine⟨_,_,?_,b1,b2,rfl,b3⟩;have t1:(kk :: rest).takeWhile (· != kk) = []:=aa;have t2:((kk :: rest).dropWhile (· != kk)).drop 1=rest:=aa;simp only[Id.append,hu,h1,h2,h3,lenOf,Bb,qE,nF,hc,yB,qS,qR,hlen,hk2,g3,xi,f3,t1,t2,bP,dL,lW]
abbrev K64 (n:Nat):QQ:=.int .u64 (n:Int)
abbrev KI (n:Int):QQ:=.int .i64 n
variable {w a:Nat}
theorem jo (h:a<2 ^ w):(BitVec.ofInt w (a:Int)).toNat=a:=by simp[eP h]
variable {b:Nat}
theorem bv_and (ha:a<2 ^ w) (hb:b<2 ^ w):(BitVec.ofInt w (a:Int) &&& BitVec.ofInt w (b:Int)).toNat=a &&& b:=by rw[BitVec.toNat_and,jo ha,jo hb]
theorem Zb3 (ha:a<2 ^ w) (hb:b<2 ^ w):(BitVec.ofInt w (a:Int) ||| BitVec.ofInt w (b:Int)).toNat=a ||| b:=by rw[BitVec.toNat_or,jo ha,jo hb]
theorem Zeb (ha:a<2 ^ w) (hb:b<2 ^ w):(BitVec.ofInt w (a:Int) ^^^ BitVec.ofInt w (b:Int)).toNat=a ^^^ b:=by rw[BitVec.toNat_xor,jo ha,jo hb]
theorem Zec (ha:a<2 ^ w) (hb:b<2 ^ w):(BitVec.ofInt w (a:Int) &&& ~~~BitVec.ofInt w (b:Int)).toNat=TK a b:=by
 apply Nat.eq_of_testBit_eq;intro i;rw[I6,BitVec.toNat_and,Nat.testBit_and,jo ha,BitVec.testBit_toNat,BitVec.getLsbD_not,←BitVec.testBit_toNat,jo hb];by_cases hi:i<w;·simp[hi]
 ·rw[Nat.testBit_lt_two_pow (cV ha (fQ byOmega byOmega))];simp
section
variable (P:Program) (t:TypeId) (ox oy:Operand) {a b:Int}
def Ys (ha:0≤a∧a<18446744073709551616) (hb:0≤b∧b<18446744073709551616):binop P .and t ox oy (.int .u64 a) (.int .u64 b)=some (.int .u64 ((a.toNat &&& b.toNat:Nat):Int)):=by obtain⟨m,rfl⟩:=fD ha.1;obtain⟨n,rfl⟩:=fD hb.1;have h1:m<2 ^ 64:=byOmega;rw[oh,show(BitVec.ofInt IntKind.u64.bits (m:Int) &&& BitVec.ofInt IntKind.u64.bits (n:Int)).toNat=m &&& n from bv_and (w:=64) h1 byOmega,gH (P8 h1)];rfl
def Zb7 (ha:0≤a∧a<18446744073709551616) (hb:0≤b∧b<18446744073709551616):binop P .or t ox oy (.int .u64 a) (.int .u64 b)=some (.int .u64 ((a.toNat ||| b.toNat:Nat):Int)):=by obtain⟨m,rfl⟩:=fD ha.1;obtain⟨n,rfl⟩:=fD hb.1;have h1:m<2 ^ 64:=byOmega;rw[uA,show(BitVec.ofInt IntKind.u64.bits (m:Int) ||| BitVec.ofInt IntKind.u64.bits (n:Int)).toNat=m ||| n from Zb3 (w:=64) h1 byOmega,gH (Wg h1 byOmega)];rfl
def Yi (ha:0≤a∧a<18446744073709551616) (hb:0≤b∧b<18446744073709551616):binop P .xor t ox oy (.int .u64 a) (.int .u64 b)=some (.int .u64 ((a.toNat ^^^ b.toNat:Nat):Int)):=by obtain⟨m,rfl⟩:=fD ha.1;obtain⟨n,rfl⟩:=fD hb.1;have h1:m<2 ^ 64:=byOmega;rw[xJ,show(BitVec.ofInt IntKind.u64.bits (m:Int) ^^^ BitVec.ofInt IntKind.u64.bits (n:Int)).toNat=m ^^^ n from Zeb (w:=64) h1 byOmega,gH (Nat.xor_lt_two_pow h1 byOmega)];rfl
def Yr (ha:0≤a∧a<18446744073709551616) (hb:0≤b∧b<18446744073709551616):binop P .andNot t ox oy (.int .u64 a) (.int .u64 b)=some (.int .u64 ((TK a.toNat b.toNat:Nat):Int)):=by obtain⟨m,rfl⟩:=fD ha.1;obtain⟨n,rfl⟩:=fD hb.1;have h1:m<2 ^ 64:=byOmega;rw[Bt,show(BitVec.ofInt IntKind.u64.bits (m:Int) &&& ~~~BitVec.ofInt IntKind.u64.bits (n:Int)).toNat=TK m n from Zec (w:=64) h1 byOmega,gH (Z0 h1)];rfl
def Yt (ha:0≤a∧a<9223372036854775808) (hb:0≤b∧b<9223372036854775808):binop P .and t ox oy (.int .i64 a) (.int .i64 b)=some (.int .i64 ((a.toNat &&& b.toNat:Nat):Int)):=by obtain⟨m,rfl⟩:=fD ha.1;obtain⟨n,rfl⟩:=fD hb.1;have h1:m<2 ^ 63:=byOmega;rw[oh,show(BitVec.ofInt IntKind.i64.bits (m:Int) &&& BitVec.ofInt IntKind.i64.bits (n:Int)).toNat=m &&& n from bv_and (w:=64) byOmega byOmega,pf (P8 h1)];rfl
def Zb8 (ha:0≤a∧a<9223372036854775808) (hb:0≤b∧b<9223372036854775808):binop P .or t ox oy (.int .i64 a) (.int .i64 b)=some (.int .i64 ((a.toNat ||| b.toNat:Nat):Int)):=by obtain⟨m,rfl⟩:=fD ha.1;obtain⟨n,rfl⟩:=fD hb.1;have h1:m<2 ^ 63:=byOmega;rw[uA,show(BitVec.ofInt IntKind.i64.bits (m:Int) ||| BitVec.ofInt IntKind.i64.bits (n:Int)).toNat=m ||| n from Zb3 (w:=64) byOmega byOmega,pf (Wg h1 byOmega)];rfl
def Nv (ha:0<a∧a<9223372036854775808):binop P .and t ox oy (.int .i64 a) (.int .i64 (-a))=some (.int .i64 ((2 ^ 64 - a.toNat &&& a.toNat:Nat):Int)):=by
 obtain⟨m,rfl⟩:=fD (Int.le_of_lt ha.1);have h1:m<2 ^ 63:=byOmega;have h2:BitVec.ofInt 64 (-(m:Int))=BitVec.ofInt 64 ((2 ^ 64 - m:Nat):Int):=by apply BitVec.eq_of_toNat_eq;rw[BitVec.toNat_ofInt,BitVec.toNat_ofInt];congr 1;omega
 rw[oh,show(BitVec.ofInt IntKind.i64.bits (m:Int) &&& BitVec.ofInt IntKind.i64.bits (-(m:Int))).toNat=2 ^ 64 - m &&& m from by
  show(BitVec.ofInt 64 (m:Int) &&& BitVec.ofInt 64 (-(m:Int))).toNat=_;rw[h2,bv_and byOmega byOmega,Nat.and_comm],pf (kh Nat.and_le_right h1)];rfl
theorem M8 (m n:Nat) (k:Nat) (h:m<2 ^ k):Int.fdiv (m:Int) (2 ^ min n k)=((m >>> n:Nat):Int):=by
 have e:(2:Int) ^ min n k=((2 ^ min n k:Nat):Int):=aa;rw[e,Int.fdiv_eq_ediv_of_nonneg _ (AE _),←Dg,kV];by_cases hn:n≤k;·rw[lU hn]
 ·rw[Nat.min_eq_right byOmega,mw h,mw (cV h (fQ byOmega byOmega))]
def qQ (a n:Nat):Nat:=a >>> n
def ZY (a n:Nat):qQ a n≤a:=Nat.shiftRight_le a n
def Zbp {j:IntKind} (ha:0≤a∧a<18446744073709551616) (hb:0≤b):binop P .shr t ox oy (.int .u64 a) (.int j b)=some (.int .u64 ((qQ a.toNat b.toNat:Nat):Int)):=by obtain⟨m,rfl⟩:=fD ha.1;obtain⟨n,rfl⟩:=fD hb;rw[Bj P t ox oy byOmega];show some (QQ.int .u64 (Int.fdiv (m:Int) (2 ^ min n 64)))=_;rw[M8 m n 64 byOmega];rfl
def Zbq {j:IntKind} (ha:0≤a∧a<9223372036854775808) (hb:0≤b):binop P .shr t ox oy (.int .i64 a) (.int j b)=some (.int .i64 ((qQ a.toNat b.toNat:Nat):Int)):=by obtain⟨m,rfl⟩:=fD ha.1;obtain⟨n,rfl⟩:=fD hb;rw[Bj P t ox oy byOmega];show some (QQ.int .i64 (Int.fdiv (m:Int) (2 ^ min n 64)))=_;rw[M8 m n 64 byOmega];rfl
def VA {j:IntKind} (hb:0≤b∧b<64):binop P .shl t ox oy (.int .u64 1) (.int j b)=some (.int .u64 ((2 ^ b.toNat:Nat):Int)):=by obtain⟨n,rfl⟩:=fD hb.1;rw[tz P t ox oy byOmega];show some (QQ.int .u64 (IntKind.u64.wrap (1*2 ^ min n 64)))=_;rw[lU byOmega,Int.one_mul,show(2:Int) ^ n=((2 ^ n:Nat):Int) from by simp,gH (xR byOmega byOmega)];rfl
def VB {j:IntKind} (hb:0≤b∧b<63):binop P .shl t ox oy (.int .i64 1) (.int j b)=some (.int .i64 ((2 ^ b.toNat:Nat):Int)):=by obtain⟨n,rfl⟩:=fD hb.1;rw[tz P t ox oy byOmega];show some (QQ.int .i64 (IntKind.i64.wrap (1*2 ^ min n 64)))=_;rw[lU byOmega,Int.one_mul,show(2:Int) ^ n=((2 ^ n:Nat):Int) from by simp,pf (xR byOmega byOmega)];rfl
def Zbx (ha:0≤a∧a<9223372036854775808) (hb:0<b):binop P .quo t ox oy (.int .i64 a) (.int .i64 b)=some (.int .i64 (a / b)):=by rw[w6 P t ox oy byOmega,NS ha.1];have h1:0≤a / b:=Int.ediv_nonneg ha.1 byOmega;have h2:a / b≤a:=Int.ediv_le_self _ ha.1;rw[wrap_i64 byOmega]
def Zbw (ha:0≤a∧a<18446744073709551616) (hb:0<b):binop P .quo t ox oy (.int .u64 a) (.int .u64 b)=some (.int .u64 (a / b)):=by rw[w6 P t ox oy byOmega,NS ha.1];have h1:0≤a / b:=Int.ediv_nonneg ha.1 byOmega;have h2:a / b≤a:=Int.ediv_le_self _ ha.1;rw[yO byOmega]
def VR {k:IntKind} (ha:0≤a) (hb:0<b):binop P .rem t ox oy (.int k a) (.int k b)=some (.int k (a % b)):=by rw[tA P t ox oy byOmega,IE ha]
end
def Zbu (h:IH) (b o n:Nat):h.rd b o n=(h.row b).bind fun cs=>if o+n≤cs.length then some ((cs.drop o).take n) else none:=by
 cases hr:h.row b with
 | none=>simp[IH.rd,hr]
 | some cs=>rw[zq hr];rfl
end Go.Id
