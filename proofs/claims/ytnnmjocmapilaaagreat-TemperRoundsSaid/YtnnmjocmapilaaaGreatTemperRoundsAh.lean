/-
  Weakest preconditions over the ideal machine, third part: memory, types, calls, loops.
-/
import Derived.Test.YtnnmjocmapilaaaGreatTemperRoundsAg
import Derived.IntWalk
import Derived.OpenShut
import Derived.ChangeStays
import Derived.ChangeSame
import Derived.Deep.Slices
import Derived.Test.YtnnmjocmapilaaaGreatRows
import Derived.ProofKit
set_option linter.unusedVariables false
set_option linter.unusedSimpArgs false
set_option linter.defProp false
set_option linter.deprecated false
namespace Go.Id
open Go
open Go renaming Operand→QY,Program→QX,TypeId→QZ,Value→QQ
open Nat renaming reduceAdd→zA,reduceEqDiff→zE,reduceLeDiff→zL
open Nat (reduceMul)
set_option maxHeartbeats 16000000
section
@[simp] theorem aH (h:IH) (o:cX):(h.new o).n=h.n+1:=rfl
@[simp] theorem De (h:IH) (o:cX):(h.new o).base=h.base:=rfl
@[simp] theorem YF (h:IH) (o:cX):(h.new o).eP=h.eP:=rfl
theorem pJ (h:IH) (o:cX) (k:Nat):(h.new o).ext.get k=if k=h.n then some o else h.ext.get k:=by simp[IH.new,Tr.cD]
def IH.put (h:IH) (k:Nat) (o:cX):IH:={ h with ext:=h.ext.set k o }
@[simp] theorem aJ (h:IH) (k:Nat) (o:cX):(h.put k o).n=h.n:=rfl
@[simp] theorem C3 (h:IH) (k:Nat) (o:cX):(h.put k o).base=h.base:=rfl
@[simp] theorem YA (h:IH) (k:Nat) (o:cX):(h.put k o).eP=h.eP:=rfl
theorem lZ (h:IH) (k:Nat) (o:cX) (j:Nat):(h.put k o).ext.get j=if j=k then some o else h.ext.get j:=by simp[IH.put,Tr.cD]
theorem ar (h:IH) (o:cX) {k:Nat} (hk:k=h.n):(h.new o).ext.get k=some o:=by rw[pJ,aq hk]
theorem aE (h:IH) (o:cX) {k:Nat} (hk:k≠h.n):(h.new o).ext.get k=h.ext.get k:=by rw[pJ,ah hk]
theorem aj (h:IH) (o:cX) {k j:Nat} (hk:j=k):(h.put k o).ext.get j=some o:=by rw[lZ,aq hk]
theorem au (h:IH) (o:cX) {k j:Nat} (hk:j≠k):(h.put k o).ext.get j=h.ext.get j:=by rw[lZ,ah hk]
def IH.cells (h:IH) (k:Nat):Option (List QQ):=match h.ext.get k with
 | some (.cells cs _ _)=>some cs
 | _=>none
variable {h:IH}{cs:List QQ}{k:Nat}
def DP {e:Nat} {f:Option Nat} (hk:h.ext.get k=some (.cells cs e f)):h.cells k=some cs:=by simp[IH.cells,hk]
theorem mW (h:IH) (k:Nat):h.row (2*k)=h.cells k:=by have h1:(2*k) % 2=0:=aa;have h2:2*k / 2=k:=aa;simp only[IH.row,h1,h2,IH.cells];rfl
def pF (h:IH) (cs:List QQ) (e:Nat) (f:Option Nat) {b:Nat} (hb:b=2*h.n):(h.new (.cells cs e f)).row b=some cs:=by subst hb;rw[mW];simp[IH.cells,pJ]
def AM (h:IH) (o:cX) {b:Nat} (hb:b≠2*h.n):(h.new o).row b=h.row b:=by
 simp only[IH.row,De,pJ,aX,bT];by_cases h1:b % 2=1;·simp[h1]
 ·rw[ah h1,ah h1,ah aa]
def yy (h:IH) (cs:List QQ) (e:Nat) (f:Option Nat) {b k:Nat} (hb:b=2*k):(h.put k (.cells cs e f)).row b=some cs:=by subst hb;rw[mW];simp[IH.cells,lZ]
theorem uF (h:IH) (k:Nat) (o:cX) {b:Nat} (hb:b≠2*k):(h.put k o).row b=h.row b:=by
 simp only[IH.row,C3,lZ,aX,bT];by_cases h1:b % 2=1;·simp[h1]
 ·rw[ah h1,ah h1,ah aa]
structure Ext (h h':IH):Prop where
 n:h.n≤h'.n
 base:h'.base=h.base
 get : ∀k,k<h.n→h'.ext.get k=h.ext.get k
 eP : ∀f,f<h.n→h'.eP.get f=h.eP.get f
variable {a b:IH}
@[simp] theorem Ext.refl (h:IH):Ext h h:=⟨aA _,rfl,fun _ _=>rfl,fun _ _=>rfl⟩
theorem Ext.trans {c:IH} (h:Ext a b) (k:Ext b c):Ext a c :=
 ⟨bV h.n k.n,k.base.trans h.base,fun x hx=>(k.get x (cB hx h.n)).trans (h.get x hx),fun x hx=>(k.eP x (cB hx h.n)).trans (h.eP x hx)⟩
def Ext.new (h:Ext a b) (o:cX):Ext a (b.new o) :=
 ⟨bV h.n (jh _),h.base,fun x hx=>by rw[pJ,ah (by have:=h.n;omega)];exact h.get x hx,fun x hx=>h.eP x hx⟩
def Ext.put (h:Ext a b) (hk:a.n≤k) (o:cX):Ext a (b.put k o) :=
 ⟨h.n,h.base,fun x hx=>by rw[lZ,ah aa];exact h.get x hx,fun x hx=>h.eP x hx⟩
def Ext.row (h:Ext a b) {x:Nat} (hx:x % 2=1∨x<2*a.n):b.row x=a.row x:=by
 simp only[IH.row,h.base,aX,bT];by_cases h1:x % 2=1;·rw[aq h1,aq h1]
 ·rw[ah h1,ah h1,h.get _ aa]
def ld (h:IH) (b o:Nat):Option QQ:=(h.row b).bind (·[o]?)
variable {o:Nat}
theorem Rv {b:Nat} (hr:h.row b=some cs):ld h b o=cs[o]?:=by simp[ld,hr]
variable {P:QX}{t:TypeId}
theorem fl (hT:cu P t=some false) (h:IH) (b o:Nat):load P h t (ptr b o)=ld h b o:=by
 simp only[load,asAddr,ptr,hT,IH.rd,ld];cases bK P t <;>
 (cases hr:h.row b with
  | none=>rfl
  | some cs =>
   simp only[kD,aX,ch];by_cases hl:o+1≤cs.length;·rw[aq hl];simp only[kD];rw[List.head?_take,ah aa,List.head?_drop]
   ·rw[ah hl,cy aa];rfl)
variable {n:Nat}
theorem iG (hT:cu P t=some true) (hn:bK P t=some n) (h:IH) (b o:Nat):load P h t (ptr b o)=(h.rd b o n).map fun cs=>.agg cs.toArray:=by simp only[load,asAddr,ptr,hT,hn]
@[simp] theorem DZ (b o:Nat):asAddr (ptr b o)=some (b,o):=rfl
theorem AP {b:Nat} (hr:h.row b=some cs):h.rd b o n=if o+n≤cs.length then some ((cs.drop o).take n) else none:=by simp[IH.rd,hr,aX]
variable {K:QQ→IH→Prop}{nt:Nat}
@[simp] theorem FX (k:IntKind) (n:Int):(QQ.int k n).cells = #[.int k n]:=rfl
@[simp] theorem DR (b:Bool):(QQ.bool b).cells = #[.bool b]:=rfl
@[simp] theorem Bi (a:Option Addr) (n c:Nat):(QQ.slice a n c).cells = #[.slice a n c]:=rfl
@[simp] theorem FU (b o:Nat):(ptr b o).cells = #[ptr b o]:=rfl
@[simp] theorem FY (cs:Array QQ):(QQ.agg cs).cells=cs:=rfl
@[simp] theorem DQ (f:Fn) (a b:Array QQ):(QQ.func f a b).cells = #[.func f a b]:=rfl
@[simp] theorem wN:(QQ.nilFunc).cells = #[.nilFunc]:=rfl
@[simp] theorem FV (r:Option Nat):(QQ.map r).cells = #[.map r]:=rfl
@[simp] theorem zi:(QQ.pointer none).cells = #[.pointer none]:=rfl
theorem P1 {f:FuncId} {fn:Func} {c:Code} {rs:List ResultVar} {first cap:Array QQ} {vs:List QQ}  (hf:P.funcs[f]?=some fn) (hb:fn.body=some c) (hn:fn.ntmps=nt) (hr:fn.results.toList=rs) (hl:(first.toList ++ (vs ++ cap.toList)).length≤nt)(w:wpC P f nt none c (nj 0 (first.toList ++ (vs ++ cap.toList))) h fun e fr h=>match e with
   | .exit _=>False
   | .normal=>Ex (eG P fr h rs) fun l=>K (single l) h
   | .ret=>Ex (eG P fr h rs) fun l=>K (single l) h):WV P (.func (.func f) first cap) vs h K:=by
 subst hn;subst hr;obtain⟨⟨e,fr,h1⟩,⟨N,hN⟩,k⟩:=iR w;have key : ∃l,eG P fr h1 fn.results.toList=some l∧K (single l) h1 ∧ ∀i,e≠.exit i:=by
  cases e with
  | exit i=>exact k.elim
  | normal=>obtain⟨l,a,b⟩:=k;exact⟨l,a,b,fun i hi=>by cases hi⟩
  | ret=>obtain⟨l,a,b⟩:=k;exact⟨l,a,b,fun i hi=>by cases hi⟩
 obtain⟨l,hl1,k,hne⟩:=key;refine⟨(single l,h1),⟨N+1,fun n hn=>?_⟩,k⟩;obtain⟨n,rfl⟩ : ∃m,n=m+1:=⟨n - 1,aa⟩;have h2:=hN n aa;simp only at h2;have Ag:Nat.ble (first.toList ++ (vs ++ cap.toList)).length fn.ntmps=true:=by simpa [ch] using hl
 have hf':(E0 P).P.funcs[f]?=some fn:=hf;simp only[fP,xX,show(E0 P).Jp f=none from rfl,hf',hb,Ag,cg,h2];cases e with
 | exit i=>exact absurd rfl (hne i)
 | normal=>simp[E0,hl1]
 | ret=>simp[E0,hl1]
variable {fn:FuncId}{rd:Option Nat}{fr:Fr}
@[simp] theorem wG (P:QX) (fr:Fr) (h:IH):eG P fr h []=some []:=rfl
@[simp] theorem uH (P:QX) (fr:Fr) (h:IH) (r:ResultVar) (l:List ResultVar):eG P fr h (r :: l)=(oJ P fr h r).bind fun v=>(eG P fr h l).map (v :: ·):=by simp only[eG];cases oJ P fr h r<;>cases eG P fr h l<;>rfl
@[simp] theorem yz (P:QX) (fr:Fr) (h:IH) (t:Tmp):oJ P fr h (.tmp t)=ax fr t:=rfl
@[simp] theorem wH (P:QX) (fr:Fr) (h:IH) (a:Tmp) (t:TypeId):oJ P fr h (.cell a t)=(ax fr a).bind fun v=>load P h t v:=by simp only[oJ];cases ax fr a<;>rfl
theorem Ym {b:Code} {Q:dL→Fr→IH→Prop} (I:Nat→Fr→IH→Prop)(step : ∀m fr h,I m fr h→wpC P fn nt rd b fr h fun e fr' h'=>match e with
   | .normal => ∃m',m'<m∧I m' fr' h'
   | .exit i=>Q (.exit i) fr' h'
   | .ret=>Q .ret fr' h') {m:Nat} (start:I m fr h) (hm:uU b=none):Bl P fn nt rd b fr h Q:=by
 have key : ∀m fr h,I m fr h → ∃r:dL×Fr×IH,(∃N,∀n,N≤n → ∀j,m+1≤j→qQ (evC (E0 P) (fP (E0 P) n) fn nt rd n b) j fr h=some r)∧Q r.1 r.2.1 r.2.2:=by
  intro m
  induction m using Nat.strongRecOn with
  | _ m ih =>
   intro fr h hi;obtain⟨⟨e,fr1,h1⟩,⟨N,hN⟩,k⟩:=iR (step m fr h hi);cases e with
   | normal =>
    obtain⟨m',hm,hi'⟩:=k;obtain⟨r,⟨M,hM⟩,q⟩:=ih m' hm fr1 h1 hi';refine⟨r,⟨max N M,fun n hn j hj=>?_⟩,q⟩;obtain⟨j,rfl⟩ : ∃i,j=i+1:=⟨j - 1,aa⟩;have e1:=hN n (bV (Cb _ _) hn);simp only at e1;rw[qQ,e1];exact hM n (bV (Ca _ _) hn) j aa
   | exit i =>
    refine⟨(.exit i,fr1,h1),⟨N,fun n hn j hj=>?_⟩,k⟩;obtain⟨j,rfl⟩ : ∃i,j=i+1:=⟨j - 1,aa⟩;have e1:=hN n hn;simp only at e1;rw[qQ,e1]
   | ret =>
    refine⟨(.ret,fr1,h1),⟨N,fun n hn j hj=>?_⟩,k⟩;obtain⟨j,rfl⟩ : ∃i,j=i+1:=⟨j - 1,aa⟩;have e1:=hN n hn;simp only at e1;rw[qQ,e1]
 obtain⟨r,⟨N,hN⟩,q⟩:=key m fr h start;exact⟨r,⟨max N (m+1),fun n hn=>by
  have:=hN n (bV (Cb _ _) hn) n (bV (Ca _ _) hn);show evC (E0 P) (fP (E0 P) n) fn nt rd n (.loop b) fr h=some r;rw[DE,hm];exact this⟩,q⟩
def wpOp_mono {o:Op} {L:QQ→IH→Prop} (k : ∀v h,K v h→L v h) (w:wpOp P o fr h K):wpOp P o fr h L:=by
 cases o
 case call c =>
  cases hc:c.callee<;>simp only[wpOp,hc] at w ⊢
  ·exact Ex.mono w fun _ w=>Ex.mono w fun _ w=>WV.mono w k
  ·exact Ex.mono w fun _ w=>Ex.mono w fun _ w=>k _ _ w
 case pick=>exact Ex.mono w fun _ w=>Ex.mono w fun _ w=>Ex.mono w fun _ w=>w.imp (fun x=>⟨x.1,k _ _ x.2⟩) fun x=>⟨x.1,k _ _ x.2⟩
 case extract =>
  refine Ex.mono w fun v w=>?_
  split at w
  ·exact Ex.mono w fun _ w=>k _ _ w
  ·exact w.elim
 case makeFunc f _ _ =>
  refine Ex.mono w fun v w=>Ex.mono w fun u w=>?_
  cases f
  ·exact k _ _ w
  all_goals exact w.elim
 case fieldAddr=>exact Ex.mono w fun _ w=>Ex.mono w fun _ w=>Ex.mono w fun _ w=>Ex.mono w fun _ w=>⟨w.1,k _ _ w.2⟩
 all_goals
  first
   | exact Ex.mono w fun _ w=>Ex.mono w fun _ w=>Ex.mono w fun _ w=>k _ _ w
   | exact Ex.mono w fun _ w=>Ex.mono w fun _ w=>k _ _ w
   | exact Ex.mono w fun _ w=>k _ _ w
def kJ {d:Option Tmp} {v:QQ} {K L:Fr→Prop} (k : ∀fr,K fr→L fr) (w:gX nt fr d v K):gX nt fr d v L:=by
 unfold gX at w ⊢;split;·exact k _ w
 ·unfold Br at w ⊢;split<;>simp_all
def Br.mono {b:Bool} {p q p' q':Prop} (h1:p→p') (h2:q→q') (w:Br b p q):Br b p' q':=by cases b<;>simp_all
variable {all:List Oper}
def nN {K L:Fr→IH→Prop} (k : ∀fr h,K fr h→L fr h) : ∀{l:List Oper} {fr:Fr} {h:IH},wpOps P nt all l fr h K→wpOps P nt all l fr h L
 | [],_,_,w=>k _ _ w
 | o :: l,fr,h,w=>by
  unfold wpOps at w ⊢;split at w;·exact wpOp_mono (fun v h w=>kJ (fun fr w=>nN k w) w) w
  ·refine Ex.mono w fun d w=>Ex.mono w fun b w=>?_;split at w
   ·exact Br.mono (fun w=>wpOp_mono (fun v h w=>kJ (fun fr w=>nN k w) w) w) (fun w=>kJ (fun fr w=>nN k w) w) w
   ·exact kJ (fun fr w=>nN k w) w
   ·exact w
def mP {K L:List (Fr×IH)→Prop} (k : ∀t,K t→L t) : ∀{l:List Oper} {fr:Fr} {h:IH} {tr:List (Fr×IH)},fL P nt all l fr h tr K→fL P nt all l fr h tr L
 | [],_,_,_,w=>k _ w
 | o :: l,fr,h,tr,w=>by
  unfold fL at w ⊢;split at w;·exact wpOp_mono (fun v h w=>kJ (fun fr w=>mP k w) w) w
  ·refine Ex.mono w fun d w=>Ex.mono w fun b w=>?_;split at w
   ·exact Br.mono (fun w=>wpOp_mono (fun v h w=>kJ (fun fr w=>mP k w) w) w) (fun w=>kJ (fun fr w=>mP k w) w) w
   ·exact kJ (fun fr w=>mP k w) w
   ·exact w
def qa : ∀{c:Code} {Q R:dL→Fr→IH→Prop} {fr:Fr} {h:IH},(∀e fr h,Q e fr h→R e fr h)→wpC P fn nt rd c fr h Q→wpC P fn nt rd c fr h R
 | .skip,_,_,_,_,k,w=>k _ _ _ w
 | .label _,_,_,_,_,k,w=>k _ _ _ w
 | .region _ _ draw,_,_,_,_,k,w=>by
  cases draw with
  | false=>exact nN (k _) w
  | true=>exact⟨fun hc=>nN (k _) (w.1 hc),fun hc=>⟨(w.2 hc).1,mP (fun t w=>⟨w.1,Ex.mono w.2 fun _ w=>k _ _ _ w⟩) (w.2 hc).2⟩⟩
 | .seq a b,Q,R,fr,h,k,w=>by
  refine qa (c:=a) (fun e fr h w=>?_) w;cases e with
  | normal=>exact qa (c:=b) k w
  | exit i=>exact k _ _ _ w
  | ret=>exact k _ _ _ w
 | .cond c a b,Q,R,fr,h,k,w=>by
  refine Ex.mono w fun v w=>?_;split at w;·exact Br.mono (fun w=>qa (c:=a) k w) (fun w=>qa (c:=b) k w) w
  ·exact w
 | .block id b,Q,R,fr,h,k,w=>by
  refine qa (c:=b) (fun e fr h w=>?_) w;cases e with
  | normal=>exact k _ _ _ w
  | exit i=>exact Br.mono (k _ _ _) (k _ _ _) w
  | ret=>exact k _ _ _ w
 | .loop b,_,_,_,_,k,w=>Tm.mono w fun _ w=>k _ _ _ w
 | .scope b,_,_,_,_,k,w=>qa (c:=b) k w
 | .rangeFunc _ _ _ _,_,_,_,_,k,w=>Tm.mono w fun _ w=>k _ _ _ w
 | .exit _,_,_,_,_,k,w=>k _ _ _ w
 | .ret,_,_,_,_,k,w=>k _ _ _ w
 | .goto _,_,_,_,_,_,w=>w.elim
 | .refuse _,_,_,_,_,_,w=>w.elim
theorem wrap_i64 {x:Int} (h : -9223372036854775808≤x∧x≤9223372036854775807):IntKind.i64.wrap x=x:=IntWalk.i64_in x h
theorem yd {x:Int} (h:0≤x∧x≤18446744073709551615):IntKind.u64.wrap x=x:=IntWalk.u64_in x h
def wrap_u8 {x:Int} (h:0≤x∧x≤255):IntKind.u8.wrap x=x:=IntWalk.u8_in x h
def HU {x:Int} (h:0≤x∧x≤65535):IntKind.u16.wrap x=x:=IntWalk.u16_in x h
def wrap_u32 {x:Int} (h:0≤x∧x≤4294967295):IntKind.u32.wrap x=x:=IntWalk.u32_in x h
end
section
def iK (P:QX) (t:QZ):Option Nat:=match P.underlying t with
 | some (.slice e)=>bK P e
 | _=>none
def N8 (P:QX) (t:QZ):Option (Nat×Nat):=match P.underlying t with
 | some (.array n e)=>(bK P e).map (n,·)
 | _=>none
def oR (P:QX) (t:QZ):Option (Nat×Nat):=match P.underlying t with
 | some (.slice e)=>match bK P e,oh P e,bC P e with
  | some size,some bytes,some zs=>bif size == 0 || (!(Nat.ble bytes 65536) || !(zs.length == size)) then none else some (size,bytes)
  | _,_,_=>none
 | _=>none
def rQ (P:QX) (t:QZ):Option (Nat×Nat×List QQ):=match P.underlying t with
 | some (.slice e)=>match bK P e,oh P e,bC P e with
  | some n,some b,some z=>bif z.length == n then some (n,b,z) else none
  | _,_,_=>none
 | _=>none
def se (P:QX) (t:QZ) (f:Nat):Option (Bool×Nat×Nat) :=
 (mZ P t f).bind fun d=>(cu P d.type).bind fun b=>(bK P d.type).map fun n=>(b,d.offset,n)
def DD (P:QX) (t:QZ) (f:Nat) (cs:Array QQ) :xT P t f (.agg cs)=(se P t f).bind fun p=>if p.1=true then some (.agg (cs.extract p.2.1 (p.2.1+p.2.2))) else cs[p.2.1]?:=by
 simp only[xT,se];cases mZ P t f with
 | none=>rfl
 | some d =>
  simp only[kD,partOf];cases ha:cu P d.type with
  | none=>rfl
  | some b =>
   cases hs:bK P d.type with
   | none =>
    cases b with
    | true=>rfl
    | false => -- a size is there where the kind is
     exfalso;simp only[cu,QX.underlying,bI] at ha;simp only[bK,Option.map_eq_none_iff] at hs;obtain⟨x,h1,_⟩:=ha;simp[hs] at h1
   | some n=>cases b<;>simp
def ua (i:Int) (n:Nat):Option Nat:=match i with
 | .ofNat j=>if j<n then some j else none
 | .negSucc _=>none
@[simp] theorem vM {j n:Nat} (h:j<n):ua (j:Int) n=some j:=by show(if j<n then some j else none)=some j;rw[aq h]
theorem lY (P:QX) (t:QZ) (b o n c:Nat) (k:IntKind) (i:Int) :indexAddr P t (.slice (some ⟨b,o,none⟩) n c) (.int k i)=(iK P t).bind fun sz=>(ua i n).map fun j=>ptr b (o+j*sz):=by
 simp only[indexAddr,iK,idxOf];cases hu:P.underlying t with
 | none=>rfl
 | some d =>
  cases d<;>(try rfl);rename_i e
  simp only
  cases hs:bK P e with
  | none=>rfl
  | some sz =>
   cases i with
   | ofNat j =>
    simp only[ua,kD,aX,Nat.blt,ch,Nat.succ_le_iff];by_cases hj:j<n;·rw[aq hj,aq hj];rfl
    ·rw[ah hj,ah hj];rfl
   | negSucc j=>rfl
def wK (P:QX) (t:QZ) (b o:Nat) (k:IntKind) (i:Int) :indexAddr P t (ptr b o) (.int k i)=(N8 P t).bind fun a=>(ua i a.1).map fun j=>ptr b (o+j*a.2):=by
 simp only[indexAddr,N8,idxOf,ptr];cases hu:P.underlying t with
 | none=>rfl
 | some d =>
  cases d<;>(try rfl);rename_i n e
  simp only
  cases hs:bK P e with
  | none=>rfl
  | some sz =>
   cases i with
   | ofNat j =>
    simp only[ua,kD,jx,aX,Nat.blt,ch,Nat.succ_le_iff];by_cases hj:j<n;·rw[aq hj,aq hj];rfl
    ·rw[ah hj,ah hj];rfl
   | negSucc j=>rfl
variable {P:QX}{t:QZ}
def xM (hT:fm P (some t)=true) (h:IH) (a:Option Addr) (n c:Nat):tE P h t (.slice a n c)=some (.int .i64 n):=by
 unfold fm at hT;simp only at hT;unfold tE;split at hT;·rename_i hu;simp[hu]
 ·cases hT
@[simp] theorem builtin_len (P:QX) (h:IH) (ts:Array QZ) (x:QQ):builtin P h .len ts [x]=(ts[0]?).bind fun t=>(tE P h t x).map (·,h):=by simp only[builtin];cases ts[0]?<;>rfl
theorem builtin_append (P:QX) (h:IH) (s t:QZ) (x y:QQ) (hT:fm P (some t)=true):builtin P h .append #[s,t] [x,y]=append P h s x y:=by have e1:(#[s,t]:Array QZ)[1]?=some t:=rfl;have e0:(#[s,t]:Array QZ)[0]?=some s:=rfl;simp only[builtin,e1,e0,hT,cg]
def Lf {s:Sem QQ} {v:QQ} (h:aI P s=some v) (hv:plain v=true):fb P s=some v:=by simp[fb,h,hv]
theorem mg {d:TypeDesc} {α:Type} (hd:P.underlying t=some d) (f:TypeDesc→Sem α):aI P ((underlying t).bind f)=aI P (f d):=by have e:aI P ((underlying t).bind f)=aI P ((match P.underlying t with|some d=>(pure d:Sem TypeDesc)|none=>stuck "no such type").bind f):=rfl;rw[e,hd];rfl
variable {k:IntKind}
def sj {s d:QZ} {k':IntKind} {n:Int} (hs:(P.underlying s).isSome=true) (hd:P.underlying d=some (.int k')):zg P s d (.int k n)=some (.int k' (k'.wrap n)):=by obtain⟨ds,hs⟩:=Gk.1 hs;refine Lf ?_ rfl;unfold Go.convert;show aI P (Sem.bind _ _)=_;rw[mg hs];show aI P (Sem.bind _ _)=_;rw[mg hd];cases ds<;>rfl
theorem Oi (a b:Nat) (ha:a<2 ^ k.bits) (hb:b<2 ^ k.bits):(BitVec.ofInt k.bits (a:Int) &&& BitVec.ofInt k.bits (b:Int)).toNat=a &&& b:=by simp[BitVec.toNat_and,dR ha,dR hb]
section
variable (P:QX) (t:QZ) (ox oy:Operand)
variable {k:IntKind}
def zV {op:BinOp} {x y:Int} {v:QQ} (hv:plain v=true) (hr:aI P (do eqGuard op t ox oy (.int k x) (.int k y);Go.binOp op t (.int k x) (.int k y))=some v):binop P op t ox oy (.int k x) (.int k y)=some v :=
 gf P t ox oy rfl rfl hv hr
theorem oC (k:IntKind) (a b:Int):binop P .and t ox oy (.int k a) (.int k b)=some (.int k (k.wrap (BitVec.ofInt k.bits a &&& BitVec.ofInt k.bits b).toNat)) :=
 zV P t ox oy rfl (by simp[eqGuard,Go.binOp,Op.intBits];rfl)
theorem tM (k:IntKind) (a b:Int):binop P .or t ox oy (.int k a) (.int k b)=some (.int k (k.wrap (BitVec.ofInt k.bits a ||| BitVec.ofInt k.bits b).toNat)) :=
 zV P t ox oy rfl (by simp[eqGuard,Go.binOp,Op.intBits];rfl)
theorem wQ (k:IntKind) (a b:Int):binop P .xor t ox oy (.int k a) (.int k b)=some (.int k (k.wrap (BitVec.ofInt k.bits a ^^^ BitVec.ofInt k.bits b).toNat)) :=
 zV P t ox oy rfl (by simp[eqGuard,Go.binOp,Op.intBits];rfl)
theorem Av (k:IntKind) (a b:Int):binop P .andNot t ox oy (.int k a) (.int k b)=some (.int k (k.wrap (BitVec.ofInt k.bits a &&& ~~~BitVec.ofInt k.bits b).toNat)) :=
 zV P t ox oy rfl (by simp[eqGuard,Go.binOp,Op.intBits];rfl)
variable {n:Nat}
theorem gv (h:n<2 ^ 64):IntKind.u64.wrap (n:Int)=n:=yd aa
theorem po (h:n<2 ^ 63):IntKind.i64.wrap (n:Int)=n:=wrap_i64 aa
theorem Mt {a b c:Nat} (h:a<c):a &&& b<c:=il Nat.and_le_left h
theorem Rc {a b:Nat} (ha:a<2 ^ n) (hb:b<2 ^ n):a ||| b<2 ^ n:=Nat.or_lt_two_pow ha hb
theorem EB (a b:Nat) (ha:a<18446744073709551616) (hb:b<18446744073709551616):binop P .and t ox oy (.int .u64 a) (.int .u64 b)=some (.int .u64 ((a &&& b:Nat):Int)):=by rw[oC,Oi (k:=.u64) a b ha hb,gv (Mt ha)]
def HK (a b:Nat) (ha:a<18446744073709551616) (hb:b<18446744073709551616):binop P .or t ox oy (.int .u64 a) (.int .u64 b)=some (.int .u64 ((a ||| b:Nat):Int)):=by
 have e:(BitVec.ofInt 64 (a:Int) ||| BitVec.ofInt 64 (b:Int)).toNat=a ||| b:=by simp[dR ha,dR hb]
 rw[tM,show(BitVec.ofInt IntKind.u64.bits (a:Int) ||| BitVec.ofInt IntKind.u64.bits (b:Int)).toNat=a ||| b from e,gv (Rc (n:=64) ha hb)]
def O0 (a b:Nat):Nat:=a ^^^ (a &&& b)
theorem GM (a b i:Nat):(O0 a b).testBit i=(a.testBit i && !b.testBit i):=by simp only[O0,Nat.testBit_xor,Nat.testBit_and];cases a.testBit i<;>cases b.testBit i<;>rfl
theorem Uk {a b:Nat} (h:a<2 ^ n):O0 a b<2 ^ n:=Gl h (il Nat.and_le_left h)
variable {j:IntKind}{a b:Int}
theorem F2 (hb:0≤b):binop P .shr t ox oy (.int k a) (.int j b)=some (.int k (a.fdiv (2 ^ (min b.toNat k.bits)))):=by refine gf P t ox oy rfl rfl rfl ?_;simp[eqGuard,Go.binOp,Op.shift,Int.not_lt.2 hb];rfl
theorem vU (hb:0≤b):binop P .shl t ox oy (.int k a) (.int j b)=some (.int k (k.wrap (a*2 ^ (min b.toNat k.bits)))):=by refine gf P t ox oy rfl rfl rfl ?_;simp[eqGuard,Go.binOp,Op.shift,Int.not_lt.2 hb];rfl
theorem Au (hb:b≠0):binop P .quo t ox oy (.int k a) (.int k b)=some (.int k (k.wrap (a.tdiv b))):=by refine zV P t ox oy rfl ?_;simp[eqGuard,Go.binOp,Op.intDiv,hb];rfl
theorem As (hb:b≠0):binop P .rem t ox oy (.int k a) (.int k b)=some (.int k (a.tmod b)):=by refine zV P t ox oy rfl ?_;simp[eqGuard,Go.binOp,Op.intDiv,hb];rfl
end
def EN (P:QX) (b:Bool):(bif plain (.bool b) then fb P (Op.unary .not (.bool b)) else none)=some (.bool (!b)):=rfl
def EO (P:QX) (k:IntKind) (n:Int):(bif plain (.int k n) then fb P (Op.unary .neg (.int k n)) else none)=some (.int k (k.wrap (-n))):=by show some (QQ.int k (k.wrap (0 - n)))=_;rw[Int.zero_sub]
end
section
structure bj (h h':IH):Prop where
 n:h.n≤h'.n
 base:h'.base=h.base
 get : ∀k c e f,k<h.n→h.ext.get k=some (.cells c e f)→e≠0 → ∃f',h'.ext.get k=some (.cells c e f')
structure Grow (h h':IH):Prop where
 n:h.n≤h'.n
 base:h'.base=h.base
 get : ∀k,k<h.n→h'.ext.get k=h.ext.get k ∨ ∃c e f f',e≠0∧h.ext.get k=some (.cells c e f)∧h'.ext.get k=some (.cells c e f')
variable {h h':IH}
def Ext.grow (e:Ext h h'):Grow h h':=⟨e.n,e.base,fun k hk=>.inl (e.get k hk)⟩
def Grow.ai (g:Grow h h'):bj h h':=⟨g.n,g.base,fun k c e f hk hg he=>by
 rcases g.get k hk with h1|⟨c1,e1,f1,f2,h0,h1,h2⟩;·exact⟨f,by rw[h1,hg]⟩
 ·rw[hg] at h1;cases h1;exact⟨f2,h2⟩⟩
def Ext.ai (e:Ext h h'):bj h h':=e.grow.ai
theorem bj.refl (h:IH):bj h h:=(Ext.refl h).ai
variable {a b:IH}
def bj.trans {c:IH} (x:bj a b) (y:bj b c):bj a c:=⟨bV x.n y.n,y.base.trans x.base,fun k cs e f hk hg he=>by
 obtain⟨f1,h1⟩:=x.get k cs e f hk hg he;exact y.get k cs e f1 (cB hk x.n) h1 he⟩
def Grow.refl (h:IH):Grow h h:=(Ext.refl h).grow
def Grow.trans {c:IH} (x:Grow a b) (y:Grow b c):Grow a c:=⟨bV x.n y.n,y.base.trans x.base,fun k hk=>by
 have hk2:=cB hk x.n;rcases x.get k hk with h1|⟨c1,e1,f1,f2,h0,h1,h2⟩
 ·rcases y.get k hk2 with h3|⟨c3,e3,f3,f4,h5,h6,h7⟩
  ·exact .inl (h3.trans h1)
  ·exact .inr ⟨c3,e3,f3,f4,h5,by rw[←h1];exact h6,h7⟩
 ·rcases y.get k hk2 with h3|⟨c3,e3,f3,f4,h5,h6,h7⟩
  ·exact .inr ⟨c1,e1,f1,f2,h0,h1,by rw[h3,h2]⟩
  ·rw[h2] at h6;cases h6;exact .inr ⟨c1,e1,f1,f4,h0,h1,h7⟩⟩
def Grow.new (g:Grow a b) (o:cX):Grow a (b.new o):=g.trans ((Ext.refl b).new o).grow
def bj.new (g:bj a b) (o:cX):bj a (b.new o):=g.trans ((Ext.refl b).new o).ai
variable {cs:List QQ}{f:Option Nat}
def bj.put (g:bj a b) {k:Nat} (hk:b.ext.get k=some (.cells cs 0 f)) (o:cX):bj a (b.put k o):=⟨g.n,g.base,fun j c e f1 hj hg he=>by
 obtain⟨f2,h2⟩:=g.get j c e f1 hj hg he;refine⟨f2,?_⟩;rw[lZ,ah];·exact h2
 ·rintro rfl;rw[hk] at h2;cases h2;exact he rfl⟩
def Grow.box (g:Grow a b) {k:Nat} (hk:k<a.n) {o:cX} (ho:a.ext.get k=some o) (hne : ∀c e f,o=.cells c e f→e=0):b.ext.get k=some o:=by
 rcases g.get k hk with h1|⟨c1,e1,f1,f2,h0,h1,h2⟩;·rw[h1,ho]
 ·rw[ho] at h1;cases h1;exact absurd (hne _ _ _ rfl) h0
def Grow.var (g:Grow a b) {k:Nat} (hk:k<a.n) (ho:a.ext.get k=some (.cells cs 0 f)):b.ext.get k=some (.cells cs 0 f):=g.box hk ho fun c e f h=>by cases h;rfl
def bj.row (g:bj a b) {x:Nat} {row:List QQ} (hx:x % 2=1∨(x<2*a.n ∧ ∃e f,e≠0∧a.ext.get (x / 2)=some (.cells row e f))) (hr:a.row x=some row):b.row x=some row:=by
 rcases hx with hx|⟨hx,e,f,he,hg⟩;·rw[←hr];simp[IH.row,hx,g.base]
 ·obtain⟨f',h2⟩:=g.get (x / 2) row e f aa hg he;simp only[IH.row,aX,bT] at hr ⊢;split
  ·rename_i h1;rw[aq h1] at hr;rw[g.base];exact hr
  ·rw[h2]
def df (h:IH) (sz:Nat) (v:QQ) (n:Nat) (cs:List QQ):Prop :=
 0<sz∧cs.length=n*sz∧((v=.slice none 0 0∧n=0) ∨ ∃b o k,v=.slice (some ⟨b,o,none⟩) n k∧((n=0∧k=0) ∨
  (0<k∧n≤k / 2 ∧ ∃row,((b % 2=1∧k % 2=1)∨(b % 2=0∧b<2*h.n ∧ ∃f,h.ext.get (b / 2)=some (.cells row sz f)))∧h.row b=some row∧(row.drop o).take (n*sz)=cs∧o+n*sz≤row.length)))
def bq (v:QQ) (c:Nat):QQ:=match v with
 | .slice (some ⟨b,o,none⟩) _ _=>ptr b (o+c)
 | _=>undef
variable {n:Nat}{v:QQ}{sz:Nat}
def df.ai (s:df h sz v n cs) (e:bj h h'):df h' sz v n cs:=by
 obtain⟨hz,hl,s|⟨b,o,k,rfl,s⟩⟩:=s;·exact⟨hz,hl,.inl s⟩
 ·refine⟨hz,hl,.inr ⟨b,o,k,rfl,s.imp id fun⟨a1,a2,row,a3,h1,h2,h3⟩=>?_⟩⟩;rcases a3 with a3|⟨a4,a5,f,a6⟩
  ·exact⟨a1,a2,row,.inl a3,e.row (.inl a3.1) h1,h2,h3⟩
  ·obtain⟨f',h4⟩:=e.get (b / 2) row sz f aa a6 aa;exact⟨a1,a2,row,.inr ⟨a4,by have:=e.n;omega,f',h4⟩,e.row (.inr ⟨a5,sz,f,aa,a6⟩) h1,h2,h3⟩
def df.ext (s:df h sz v n cs) (e:Ext h h'):df h' sz v n cs:=s.ai e.ai
def df.nil (h:IH) (hz:0<sz):df h sz (.slice none 0 0) 0 []:=⟨hz,ab,.inl ⟨rfl,rfl⟩⟩
def df.form (s:df h sz v n cs) : ∃a k,v=.slice a n k:=by
 obtain⟨hz,hl,⟨rfl,rfl⟩|⟨b,o,k,rfl,s⟩⟩:=s;·exact⟨_,_,rfl⟩
 ·exact⟨_,_,rfl⟩
variable {P:Program}{t:TypeId}
theorem df.len (s:df h sz v n cs) (hT:fm P (some t)=true) (h':IH):tE P h' t v=some (.int .i64 n):=by obtain⟨a,k,rfl⟩:=s.form;exact xM hT _ _ _ _
def df.cells (s:df h sz v n cs):v.cells = #[v]:=by obtain⟨a,k,rfl⟩:=s.form;rfl
def df.cok (s:df h sz v n cs):bB v=true:=by obtain⟨a,k,rfl⟩:=s.form;rfl
variable {k:IntKind}
def df.idx (s:df h sz v n cs) (hT:iK P t=some sz) {j:Nat} (hj:j<n):indexAddr P t v (.int k j)=some (bq v (j*sz)):=by
 obtain⟨hz,hl,⟨rfl,rfl⟩|⟨b,o,k,rfl,s⟩⟩:=s;·omega
 ·rw[lY,hT];simp[bq,vM hj]
def df.Y6 (s:df h sz v n cs) (hT:iK P t=some sz) {i:Int} (h0:0≤i) (hj:i<n):indexAddr P t v (.int k i)=some (bq v (i.toNat*sz)):=by obtain⟨j,rfl⟩:=fV h0;exact s.idx hT aa
variable {c:Nat}
def df.ld (s:df h sz v n cs) (e:bj h h') (hc:c<cs.length) (hT:cu P t=some false):load P h' t (bq v c)=cs[c]?:=by
 obtain⟨hz,hl,⟨rfl,rfl⟩|⟨b,o,k,rfl,s'⟩⟩:=s.ai e;·simp at hl;simp[hl] at hc
 ·obtain⟨rfl,_⟩|⟨a1,a2,row,a3,h1,h2,h3⟩:=s'
  ·simp at hl;simp[hl] at hc
  ·rw[bq,fl hT,Rv h1,←h2,gR];rw[aq aa,kh]
variable {m:Nat}
def df.Dn (s:df h sz v n cs) (e:bj h h') (hc:c+m≤cs.length) (hm:0<m) (hT:cu P t=some true) (hS:bK P t=some m) :load P h' t (bq v c)=some (.agg ((cs.drop c).take m).toArray):=by
 obtain⟨hz,hl,⟨rfl,rfl⟩|⟨b,o,k,rfl,s'⟩⟩:=s.ai e;·simp at hl;simp[hl] at hc;omega
 ·obtain⟨rfl,_⟩|⟨a1,a2,row,a3,h1,h2,h3⟩:=s'
  ·simp at hl;simp[hl] at hc;omega
  ·rw[bq,iG hT hS,AP h1,aq aa,←h2];simp only[jx,List.drop_take,zB,Ci];rw[nI aa]
variable {l:Nat}
def df.slice (s:df h sz v n cs) (kp:bj h h') {e:TypeId} (hu:P.underlying t=some (.slice e)) (hT:bK P e=some sz) (hl:l≤m) (hm:m≤n) {lo hi:Option QQ} (hlo:Jf lo m=some l) (hhi : ∀c,n≤c→RN hi n c=some m) :∃v',dE P h' t v lo hi none=some v'∧df h sz v' (m - l) ((cs.drop (l*sz)).take ((m - l)*sz)):=by
 obtain⟨hz,hlen,⟨rfl,rfl⟩|⟨b,o,k,rfl,s⟩⟩:=s;·obtain rfl:m=0:=aa;obtain rfl:l=0:=aa;refine⟨.slice none 0 0,?_,hz,ab,.inl ⟨rfl,rfl⟩⟩;have:=hhi 0 (aA _);simp[dE,hu,hT,fN,jD,this,hlo]
 ·obtain⟨rfl,rfl⟩|⟨a1,a2,row,a3,h1,h2,h3⟩:=s
  ·obtain rfl:m=0:=aa;obtain rfl:l=0:=aa;have:=hhi 0 (aA _);refine⟨.slice (some ⟨b,o,none⟩) 0 0,?_,hz,ab,.inr ⟨b,o,0,rfl,.inl ⟨rfl,rfl⟩⟩⟩;simp[dE,hu,hT,fN,jD,this,hlo]
  ·have hh:=hhi (k / 2) a2;have hk0:(k == 0)=false:=aT
   have Fy:(k % 2 == 1 || roomy h' sz (.slice (some ⟨b,o,none⟩) n k))=true:=by
    rcases a3 with a3|⟨a4,a5,f,a6⟩;·simp[a3.2]
    ·obtain⟨f',h4⟩:=kp.get (b / 2) row sz f aa a6 aa
     simp[roomy,a4,h4]
   by_cases hlk:l=k / 2
   ·have hml:m=l:=aa;subst hml;have UD:(m == k / 2)=true:=by simpa using hlk
    rcases Nat.mod_two_eq_zero_or_one k with hk|hk
    ·refine⟨.slice (some ⟨b,o,none⟩) 0 0,?_,hz,ab,.inr ⟨b,o,0,ab,.inl ⟨aa,rfl⟩⟩⟩
     have hk':(k % 2 == 1)=false:=by simp[hk]
     simp only[dE,hu,hT,fN,jD,hh,hlo,hk0,UD,hk',cg,fU]
    ·refine⟨.slice (some ⟨b,o,none⟩) 0 1,?_,hz,ab,.inr ⟨b,o,1,ab,.inr ⟨aa,aa,row,a3.imp (fun x=>⟨x.1,rfl⟩) id,h1,ab,aT⟩⟩⟩
     have hk':(k % 2 == 1)=true:=by simp[hk]
     simp only[dE,hu,hT,fN,jD,hh,hlo,hk0,UD,hk',cg,fU]
   ·have UD:(l == k / 2)=false:=by simpa using hlk
    have hls:l*sz+(m - l)*sz=m*sz:=by rw[←dA];congr 1;omega
    have hmn:m*sz≤n*sz:=dU _ hm;refine⟨.slice (some ⟨b,o+l*sz,none⟩) (m - l) (k - 2*l),?_,hz,?_,.inr ⟨b,o+l*sz,k - 2*l,rfl,.inr ⟨aa,aa,row,?_,h1,?_,aa⟩⟩⟩
    ·simp only[dE,hu,hT,fN,jD,hh,hlo,hk0,UD,Fy,cg,fU]
    ·rw[gG,ra];omega
    ·rcases a3 with a3|a3
     ·exact .inl ⟨a3.1,aa⟩
     ·exact .inr a3
    ·rw[←h2,List.drop_take,zB,Ci,nI aa]
def mz (h:l≤m):oM (.int k (l:Int)) m=some l:=by show(bif Nat.ble l m then some l else none)=_;rw[show Nat.ble l m=true from by rw[ch];exact h];rfl
@[simp] theorem Wf {h:IH} {sz:Nat} {v:QQ} {n:Nat} {cs:List QQ} (s:df h sz v n cs) {c:Nat} (hc:c<cs.length) : ∃b o,bq v c=ptr b (o+c) ∧ ∀d,bq v d=ptr b (o+d):=by
 obtain⟨hz,hl,⟨rfl,rfl⟩|⟨b,o,k,rfl,s⟩⟩:=s;·simp at hl;simp[hl] at hc
 ·exact⟨b,o,rfl,fun _=>rfl⟩
def Tq (h:IH) (n0 k:Nat):Option Nat→Prop
 | none=>True
 | some f=>n0≤f∧f<h.n ∧ ∃rest,h.eP.get f=some (k :: rest) ∧ ∀j∈rest,n0≤j∧j<h.n
def Acc (h:IH) (n0 sz:Nat) (v:QQ) (n:Nat) (cs:List QQ):Prop :=
 0<sz∧cs.length=n*sz∧((v=.slice none 0 0∧n=0) ∨ ∃k fam,v=.slice (some ⟨2*k,0,none⟩) n (2*n)∧0<n∧n0≤k∧k<h.n∧h.ext.get k=some (.cells cs sz fam)∧Tq h n0 k fam)
def Acc.nil (h:IH) (n0:Nat) (hz:0<sz):Acc h n0 sz (.slice none 0 0) 0 []:=⟨hz,ab,.inl ⟨rfl,rfl⟩⟩
variable {n0:Nat}
def Acc.sl (a:Acc h n0 sz v n cs):df h sz v n cs:=by
 obtain⟨hz,hl,a|⟨k,fam,rfl,hn,h1,h2,h3,h4⟩⟩:=a;·exact⟨hz,hl,.inl a⟩
 ·refine⟨hz,hl,.inr ⟨2*k,0,2*n,rfl,.inr ⟨aa,aa,cs,.inr ⟨aa,aa,fam,?_⟩,?_,?_,aa⟩⟩⟩
  ·rw[show 2*k / 2=k from by omega,h3]
  ·rw[mW];simp[IH.cells,h3]
  ·rw[cC,fB aa]
def Acc.ext (a:Acc h n0 sz v n cs) (e:Ext h h'):Acc h' n0 sz v n cs:=by
 obtain⟨hz,hl,a|⟨k,fam,rfl,hn,h1,h2,h3,h4⟩⟩:=a;·exact⟨hz,hl,.inl a⟩
 ·refine⟨hz,hl,.inr ⟨k,fam,rfl,hn,h1,by have:=e.n;omega,by rw[e.get k h2];exact h3,?_⟩⟩;cases fam with
  | none=>trivial
  | some f =>
   obtain⟨a1,a2,rest,a3,a4⟩:=h4;exact⟨a1,by have:=e.n;omega,rest,by rw[e.eP f a2];exact a3,fun j hj=>⟨(a4 j hj).1,cB (a4 j hj).2 e.n⟩⟩
def Acc.put (a:Acc h n0 sz v n cs) {k:Nat} {c:List QQ} (hk:h.ext.get k=some (.cells c 0 f)) (o:cX):Acc (h.put k o) n0 sz v n cs:=by
 obtain⟨hz,hl,a|⟨j,fam,rfl,hn,h1,h2,h3,h4⟩⟩:=a;·exact⟨hz,hl,.inl a⟩
 ·refine⟨hz,hl,.inr ⟨j,fam,rfl,hn,h1,h2,?_,?_⟩⟩
  ·rw[lZ,ah]
   ·exact h3
   ·rintro rfl;rw[hk] at h3;cases h3;omega
  ·cases fam with
   | none=>trivial
   | some f=>exact h4
def Acc.app (a:Acc h n0 sz v n cs) {bytes:Nat} (hT:oR P t=some (sz,bytes)) {x:QQ} {new:List QQ} (sx:df h sz x m new) (hm:0<m)(hc:new.all bB=true) (hsz:(n+m)*(bytes+1)≤bZ) (h0:n0≤h.n) {h0':IH} (e0:Ext h0' h) (hn0:h0'.n≤n0) :∃v' h',append P h t v x=some (v',h')∧Acc h' n0 sz v' (n+m) (cs ++ new)∧Grow h h'∧h'.n=h.n+1∧Ext h0' h':=by
 unfold oR at hT;split at hT
 case h_2=>cases hT
 rename_i e hu;split at hT
 case h_2=>cases hT
 rename_i zs h1 h2 h3;simp only[aX] at hT;split at hT
 case isTrue=>cases hT
 rename_i LU;cases hT;have rW:(sz == 0 || (!(Nat.ble bytes 65536) || !(zs.length == sz)))=false:=by simpa using LU
 have RF:0<sz:=by simp at rW;omega
 obtain⟨_,hln,hx⟩:=sx;have Dv:(m == 0)=false:=aT
 have hx' : ∃b o k row,x=.slice (some ⟨b,o,none⟩) m k∧h.row b=some row∧(row.drop o).take (m*sz)=new∧o+m*sz≤row.length:=by
  rcases hx with⟨rfl,rfl⟩|⟨b,o,k,rfl,⟨rfl,_⟩|⟨_,_,row,_,a1,a2,a3⟩⟩;·omega
  ·omega
  ·exact⟨b,o,k,row,rfl,a1,a2,a3⟩
 obtain⟨b,o,k,row,rfl,a1,a2,a3⟩:=hx';have hms : ¬m*sz=0:=by have:0<m*sz:=nF hm RF;omega
 have oc:fe h sz m (.slice (some ⟨b,o,none⟩) m k)=some new:=by simp only[fe,aX,ch,aA,cq,bT,ah hms];rw[AP a1,aq a3,a2]
 have Ag:Nat.ble ((n+m)*(bytes+1)) bZ=true:=by rw[ch];exact hsz
 obtain⟨hz,hl,⟨rfl,rfl⟩|⟨kk,fam,rfl,hn,g1,g2,g3,g4⟩⟩:=a
 ·-- from nothing
  have hcs:cs = []:=jK.1 aa;subst hcs;refine⟨.slice (some ⟨2*h.n,0,none⟩) m (2*m),h.new (.cells new sz none),?_,⟨hz,by simp;exact hln,.inr ⟨h.n,none,ab,aa,h0,ab,by simp[pJ],trivial⟩⟩,(Grow.refl h).new _,rfl,e0.new _⟩;have RP:Nat.ble (m*(bytes+1)) bZ=true:=by simpa using Ag
  simp only[Id.append,hu,h1,h2,h3,lenOf,Dv,rW,oc,hc,RP,cg,fU,oW,BEq.rfl,sV]
 ·have tG:Nat.ble (n+m) (2*n / 2)=false:=by rw[sU];intro hh;rw[ch] at hh;omega
  have uc:(2*n % 2 == 1)=false:=ab;have hlen:(n == 2*n / 2 && Nat.blt 0 n && (2*kk) % 2 == 0)=true:=by have:2*n / 2=n:=aa;simp[this,Nat.blt,ch];omega
  have ud:(0+n*sz == cs.length && sz == sz)=true:=by simp[hl]
  have hk2:2*kk / 2=kk:=aa;have body : ∀f below,(∀j∈below,n0≤j∧j<h.n)→(n0≤f)→f<h.n+1 →
    Acc (grown h kk f cs sz [] below (cs.drop 0 ++ new) sz) n0 sz (.slice (some ⟨2*h.n,0,none⟩) (n+m) (2*(n+m))) (n+m) (cs ++ new) ∧
    Grow h (grown h kk f cs sz [] below (cs.drop 0 ++ new) sz)∧Ext h0' (grown h kk f cs sz [] below (cs.drop 0 ++ new) sz):=by
   intro f below hbl hf1 hf2;have eg : ∀j,(grown h kk f cs sz [] below (cs.drop 0 ++ new) sz).ext.get j=if j=h.n then some (.cells (cs ++ new) sz (some f)) else if j=kk then some (.cells cs sz (some f)) else h.ext.get j:=by intro j;simp[grown,IH.gC,Tr.cD]
   refine⟨⟨hz,by simp[hl,hln,dA],.inr ⟨h.n,some f,rfl,aa,h0,by simp[grown],by rw[eg,aq rfl],hf1,by simp[grown];omega,kk :: below,?_,fun j hj=>by rcases dV.1 hj with rfl|hj;exact⟨g1,by simp[grown];omega⟩;exact⟨(hbl j hj).1,by have:=(hbl j hj).2;simp[grown];omega⟩⟩⟩,⟨by simp[grown],rfl,fun j hj=>?_⟩,?_⟩;·simp[grown,Tr.cD]
   ·rw[eg,ah aa];by_cases hjk:j=kk
    ·subst hjk;exact .inr ⟨cs,sz,fam,some f,aa,g3,by rw[aq rfl]⟩
    ·rw[ah hjk];exact .inl rfl
   ·refine⟨by have:=e0.n;simp[grown];omega,e0.base,fun j hj=>?_,fun g hg=>?_⟩
    ·rw[eg,ah aa,ah aa];exact e0.get j hj
    ·simp only[grown,Tr.cD];rw[ah aa];exact e0.eP g hg
  cases fam with
  | none =>
   obtain⟨b1,b2,b3⟩:=body h.n [] (fun _ h=>by cases h) h0 aa;refine⟨_,_,?_,b1,b2,rfl,b3⟩;simp only[Id.append,hu,h1,h2,h3,lenOf,Dv,rW,oc,hc,Ag,tG,uc,hlen,hk2,g3,ud,cg,fU,oW]
  | some f =>
   obtain⟨f1,f2,rest,f3,f4⟩:=g4;obtain⟨b1,b2,b3⟩:=body f rest f4 f1 aa;refine⟨_,_,?_,b1,b2,rfl,b3⟩;have t1:(kk :: rest).takeWhile (· != kk) = []:=ab;have t2:((kk :: rest).dropWhile (· != kk)).drop 1=rest:=ab;simp only[Id.append,hu,h1,h2,h3,lenOf,Dv,rW,oc,hc,Ag,tG,uc,hlen,hk2,g3,ud,f3,t1,t2,cg,fU,oW]
end
end Go.Id
namespace Go.Id
open Go Go.RowKit Go.ChangeShapes Go.WideShapes Go.Deep
section
def Mk {n:String} {a:List Value} {v:Value} (h:og n a=some v):n = "math/bits.Add64" ∨ n = "math/bits.Sub64" := by
 unfold og at h;split at h
 ·simp only[aX] at h;split at h
  ·split at h
   ·rename_i hn;exact .inl (by simpa using hn)
   ·split at h
    ·rename_i hn;exact .inr (by simpa using hn)
    ·cases h
  ·cases h
 ·cases h
variable {P:Program}
def WD (h1:P.follows .mixedOrders=true) (h2:(P.funcs.toList.all fun fn => !(fn.body.isSome && fn.name == "runtime.NumGoroutine") && (fn.body.isSome || ((fn.name == fn.origin || fn.origin == "") || !(fn.name == "math/bits.Add64" || fn.name == "math/bits.Sub64"))))=true):Sound (E0 P) where
 mixed:=h1
 origin f fn hf hb {args v} hc:=by
  have hm:fn∈P.funcs.toList:=by rw[Array.mem_toList_iff];exact Array.mem_of_getElem? hf
  have h:=ji.1 h2 fn hm;rw[hb] at h;have hn:fn.name = "math/bits.Add64" ∨ fn.name = "math/bits.Sub64" := Mk hc;have h':(fn.name == fn.origin || fn.origin == "")=true:=by rcases hn with hn|hn<;>rw[hn] at h ⊢ <;> exact(show _ from by simpa using h)
  rw[nM,bT,bT] at h';exact h'.imp Eq.symm id
 names f fn hf hb:=by
  have hm:fn∈P.funcs.toList:=by rw[Array.mem_toList_iff];exact Array.mem_of_getElem? hf
  have:=ji.1 h2 fn hm;rw[fK] at this;have:=this.1;rw[hb] at this;simpa using this
 VQ f g h:=by cases h
 Jp f g h:=by cases h
def Tw (S:Sound (E0 P)) {f:FuncId} {args:List Value} {base:Nat→Option (List Value)} {A:Nat→Nat×Nat} (w:WV P (.func (.func f) #[] #[]) args (IH.start base) fun r _=>r=.bool true){W:World} {args':Array Value} (hb:HR A base W) (ku:dv (Mp.oo A) args args'.toList):Calls P f args' W fun e W'=>e=.returned (.bool true)∧Below W.heap.size W W':=by obtain⟨⟨v,h'⟩,⟨N,hN⟩,hv⟩:=w;have hv:v=.bool true:=hv;subst hv;exact LJ S (hN (N+1) (jh N)) hb ku
structure SlArg (W:World) (z:Nat) (v:Value) (n:Nat) (cs:List Value):Prop where
 z0:0<z
 len:cs.length=n*z
 sc : ∀x∈cs,dN x=true
 ex:(v=.slice none 0 0∧n=0) ∨ ∃a cap,v=.slice (some a) n cap∧n≤cap∧(0<n→a.spot=none ∧ ∀j,j<n*z→W.cell? ⟨a.block,a.off+j,none⟩=cs[j]?)
section
variable {H:Type} {enc:TypeId×Value→H} {P:Program} {W:World} {held:Bool}
variable {W':World}
def Mq {W:World} (hk:Below W.heap.size W W') {p:MemPlace} (hp:p.block<W.heap.size):W.sameAt W' p:=by
 cases p with
 | cell b off =>
  show W'.cell? _=W.cell? _;unfold World.cell?;rw[hk.block b hp]
 | map b=>exact hk.block b hp
def wD {T:TypeId→Prop} (K:Kids P T) (hsz : ∀{t e:TypeId},T t→P.underlying t=some (.slice e)→0<P.cellsOf e) (hk:Below W.heap.size W W') {sp:Nat→Bool} :∀{ts:List TypeId} {vs:List Value} {ds:List (DataW H)} {ps:List MemPlace},DataW.TrodAll enc P W 0 (fun _=>true) true ts vs ds ps→(∀t∈ts,T t)→(∀p∈ps,sp p.block=true)→DataW.TrodAll enc P W' 0 sp true ts vs ds ps
 | [],_,_,_,h,_,_=>by obtain⟨rfl,rfl,rfl⟩:=trodAll_nil h;rfl
 | t :: ts,_,_,_,h,hT,hs=>by obtain⟨v,vs,d,ds,p,q,rfl,rfl,rfl,⟨fuel,h1⟩,h2⟩:=trodAll_cons h;refine⟨p,q,⟨fuel,?_⟩,wD K hsz hk h2 (fun t ht=>hT t (by simp[ht])) (fun x hx=>hs x (by simp[hx])),rfl⟩;exact DataW.trod_stays K hsz (fun h=>by cases h) (hT t ab) h1 (fun x hx=>Mq hk (DataW.trod_lt _ _ _ _ h1 x hx)) (fun x hx=>hs x (by simp[hx]))
end
section
variable {H:Type} {enc:TypeId×Value→H} {P:Program} {W:World} {base:Nat} {sp:Nat→Bool} {held:Bool}
def rF {t:TypeId} {k:IntKind} {m:Nat} (hk:k.min=0) (hm:k.max=m) (ht:P.underlying t=some (.int k)) {fuel:Nat} {cs:List Value} {x:DataW H×List MemPlace} (h:DataW.trod enc P W base sp held fuel t cs=some x) : ∃i:Nat,cs = [.int k (i:Int)]∧i≤m:=by obtain⟨n,rfl,_,hw⟩:=DataW.trod_int ht h;simp only[Lit.wf,fK,aS] at hw;exact⟨n.toNat,by rw[Int.toNat_of_nonneg aa],aa⟩
end
end
section
def xH (r s:Nat):Nat:=(r+s)*(r+s)+s
def Q0 {a b c d:Nat} (h:xH a b=xH c d):a=c∧b=d:=by
 have key : ∀{x y u v:Nat},u≤x→v≤y→x<y→x*x+u≠y*y+v:=by
  intro x y u v hu hv hxy e
  have h1:(x+1)*(x+1)≤y*y:=jg hxy hxy;have h2:(x+1)*(x+1)=x*x+2*x+1:=by rw[dA,sH];omega
  omega
 unfold xH at h;rcases Nat.lt_trichotomy (a+b) (c+d) with hl|he|hg;·exact absurd h (key aa aa hl)
 ·rw[he] at h;omega
 ·exact absurd h.symm (key aa aa hg)
open Classical in
noncomputable def plA (i:Nat):Nat×Nat:=if h : ∃p:Nat×Nat,xH p.1 p.2=i then Classical.choose h else (0,0)
theorem Q1 (r s:Nat):plA (xH r s)=(r,s):=by have h : ∃p:Nat×Nat,xH p.1 p.2=xH r s:=⟨(r,s),rfl⟩;unfold plA;rw[dif_pos h];obtain⟨h1,h2⟩:=Q0 (Classical.choose_spec h);exact Prod.ext h1 h2
def fi:Value→Bool
 | .slice (some a) n cap=>n == 0 || (Nat.ble n cap && a.spot.isNone)
 | v=>dN v
def trV:Value→Value
 | .slice (some a) n cap=>if n=0 then .slice (some ⟨1,0,none⟩) 0 0 else .slice (some ⟨2*(4294967296+xH a.block a.off)+1,0,none⟩) n (2*cap+1)
 | v=>v
variable {v:Value}
theorem Qi (h:dN v=true):trV v=v:=by
 unfold trV;split;·simp[dN] at h
 ·rfl
def qI (h:fi v=true):bz (Mp.oo plA) (trV v) v:=by
 unfold fi at h;split at h
 ·rename_i a n cap;simp only[trV];by_cases h0:n=0
  ·subst h0;simp only[cq];exact .lost
  ·simp only[ah h0];obtain⟨b,o,sp⟩:=a;simp only[nM,bT,h0,false_or,fK,ch,Option.isNone_iff_eq_none] at h;obtain⟨h1,rfl⟩:=h;have hm:=Mp.yn plA (xH b o);rw[Q1] at hm;exact .slice (m:=Mp.oo plA) (r:=b) (s:=o) (o:=0) hm aa aa aa aa aa
 ·rename_i hne;rw[Qi h];exact .dN h
def pC (W:World) (r s:Nat):List Value:=match W.heap[r]? with
 | some (.cells c _ _)=>((c.toList.drop s).takeWhile fi).map trV
 | _ => []
noncomputable def rG (G:Nat→Option (List Value)) (W:World) (b:Nat):Option (List Value):=if b<4294967296 then G b else
 (match W.heap[(plA (b - 4294967296)).1]? with
  | some (.cells c _ _)=>if (plA (b - 4294967296)).2≤c.size then some (pC W (plA (b - 4294967296)).1 (plA (b - 4294967296)).2) else none
  | _=>none)
variable {α:Type}
def wE (p:α→Bool) : ∀(l:List α) (i:Nat) (x:α),(l.takeWhile p)[i]?=some x→l[i]?=some x∧p x=true
 | [],i,x,h=>by simp at h
 | a :: l,i,x,h=>by
  rw[Kf] at h;by_cases hp:p a=true
  ·rw[aq hp] at h;cases i with
   | zero=>simp at h;subst h;exact⟨rfl,hp⟩
   | succ i=>simpa using wE p l i x (by simpa using h)
  ·rw[ah hp] at h;simp at h
def uz (p:α→Bool) : ∀(l:List α) (n:Nat),n≤l.length→(∀x∈l.take n,p x=true)→(l.takeWhile p).take n=l.take n∧n≤(l.takeWhile p).length
 | l,0,_,_=>ab
 | [],n+1,h,_=>by simp at h
 | a :: l,n+1,h,hp=>by have h1:p a=true:=hp a ab;obtain⟨h2,h3⟩:=uz p l n (by simpa using h) (fun x hx=>hp x (by simp[hx]));rw[Kf,aq h1];simp[h2,h3]
def TM {W:World} {G:Nat→Option (List Value)} (hG : ∀b cs,G b=some cs → ∃c el fz,W.heap[b]?=some (.cells c el fz)∧cs.length≤c.size ∧ ∀(j:Nat) (x:Value),cs[j]?=some x→c[j]?=some x∧dN x=true):HR plA (rG G W) W:=by
 intro b cs hb;unfold rG at hb;split at hb;·rename_i hlt;obtain⟨c,el,fz,h1,h2,h3⟩:=hG b cs hb;refine⟨b,0,Mp.AH _ hlt,c,el,fz,h1,aa,fun i v hv=>?_⟩;obtain⟨h4,h5⟩:=h3 i v hv;exact⟨v,by rw[fy];exact h4,.dN h5⟩
 ·rename_i hge;have hm:=Mp.yn plA (b - 4294967296);rw[show 4294967296+(b - 4294967296)=b from by omega] at hm;obtain⟨r,s,hrs⟩ : ∃r s,plA (b - 4294967296)=(r,s):=⟨_,_,rfl⟩;rw[hrs] at hm hb;simp only at hb;split at hb
  ·rename_i c el fz hh;split at hb
   ·rename_i hs;cases hb;refine⟨r,s,hm,c,el,fz,hh,?_,fun i v hv=>?_⟩
    ·have:(pC W r s).length≤(c.toList.drop s).length:=by simp only[pC,hh,cz];exact(List.takeWhile_sublist _).length_le
     rw[ra] at this;have e:c.toList.length=c.size:=mc;have e2:(pC W r s).toArray.size=(pC W r s).length:=rfl;simp only[mc] at *;omega
    ·simp only[pC,hh,dM,bI] at hv;obtain⟨y,hy,rfl⟩:=hv;obtain⟨h1,h2⟩:=wE _ _ _ _ hy;rw[kh,rf] at h1;exact⟨y,h1,qI h2⟩
   ·cases hb
  ·cases hb
section
variable {H:Type} {enc:TypeId×Value→H} {P:Program} {W:World} {held:Bool}
def Cy {t e:TypeId} (ht:P.underlying t=some (.slice e)) {z:Nat} (hz:P.cellsOf e=z) (z0:0<z) {R:List Value→Prop}(elem : ∀(n:Nat) (cs:List Value) (x:DataW H×List MemPlace),DataW.trod enc P W 0 (fun _=>true) held n e cs=some x→R cs ∧ ∀y∈cs,fi y=true) (G:Nat→Option (List Value)){fuel:Nat} {cs0:List Value} {x:DataW H×List MemPlace} (h:DataW.trod enc P W 0 (fun _=>true) held fuel t cs0=some x) :∃(v:Value) (n:Nat) (cs:List Value),cs0 = [v]∧fi v=true∧n≤maxLen∧df (IH.start (rG G W)) z (trV v) n (cs.map trV) ∧ ∀i,i<n→R ((cs.drop (i*z)).take z):=by
 rcases open_slice ht h with⟨h1,_⟩|⟨a,len,capp,m,k,D,Pl,h1,_,hl,tG,hm,_,hx⟩;·subst h1;exact⟨_,0,[],rfl,rfl,dQ _,df.nil _ z0,fun i hi=>aa⟩
 ·subst h1;simp only[cq] at hm;subst hm;rw[hz] at hx;rcases im len with rfl|h0
  ·refine⟨_,0,[],rfl,by simp[fi],dQ _,?_,fun i hi=>aa⟩;simp only[trV,cq];exact⟨z0,ab,.inr ⟨1,0,0,rfl,.inl ⟨rfl,rfl⟩⟩⟩
  ·have spot:a.spot=none:=by
    obtain⟨cs',h1,_⟩:=hx 0 aa;obtain⟨_,hlen,hc⟩:=World.cells?_some h1;have:=hc 0 z0;rw[aK aa,kf] at this;unfold World.cell? at this;simp only[Addr.add,cq] at this;split at this
    ·split at this
     ·cases this
     ·rename_i h3;simpa using h3
    ·cases this
   have UI : ∀j,a.add j=⟨a.block,a.off+j,none⟩:=fun j=>by
    unfold Addr.add;split;·rename_i h0;subst h0;rw[←spot];rfl
    ·rfl
   have key : ∀i,i<len → ∃cs':List Value,cs'.length=z∧(∀j,j<z→W.cell? ⟨a.block,a.off+(i*z+j),none⟩=cs'[j]?)∧R cs' ∧ ∀y∈cs',fi y=true:=by intro i hi;obtain⟨cs',h1,h2⟩:=hx i aa;obtain⟨_,hlen,hc⟩:=World.cells?_some h1;obtain⟨h4,h5⟩:=elem k cs' _ h2;refine⟨cs',hlen,fun j hj=>?_,h4,h5⟩;have h3:=hc j hj;rw[add_add,UI] at h3;exact h3
   obtain⟨c,el,fz,hh⟩ : ∃c el fz,W.heap[a.block]?=some (.cells c el fz):=by
    obtain⟨cs',hl0,h1,_⟩:=key 0 h0;have:=h1 0 z0;rw[aK aa] at this;unfold World.cell? at this;split at this;·rename_i c el fz hh;exact⟨c,el,fz,hh⟩
    ·cases this
   have cell : ∀j,W.cell? ⟨a.block,j,none⟩=c[j]?:=fun j=>by unfold World.cell?;rw[hh];simp
   have hsz:a.off+len*z≤c.size:=by
    obtain⟨cs',hl0,h1,_⟩:=key (len - 1) aa;have:=h1 (z - 1) aa;rw[cell,aK aa] at this;have:=(md.1 this).1;have e:(len - 1)*z+z=len*z:=by rw[←wX];congr 1;omega
    omega
   have hat : ∀j,j<len*z → ∃y,c[a.off+j]?=some y∧fi y=true:=by
    intro j hj;have hi:j / z<len:=(oT z0).2 hj;have hr:j % z<z:=ec _ z0;have hjz:j / z*z+j % z=j:=by rw[gE];exact mN j z
    obtain⟨cs',hl0,h1,_,h5⟩:=key (j / z) hi;have:=h1 (j % z) hr;rw[hjz,cell,aK aa] at this;exact⟨_,this,h5 _ (mO _)⟩
   have ft : ∀y∈(c.toList.drop a.off).take (len*z),fi y=true:=by
    intro y hy;obtain⟨j,hj⟩:=List.mem_iff_getElem?.1 hy;rw[gR] at hj;split at hj;·rename_i hjl;rw[kh,rf] at hj;obtain⟨y',h1,h2⟩:=hat j hjl;rw[hj] at h1;cases h1;exact h2
    ·cases hj
   have hdl:len*z≤(c.toList.drop a.off).length:=by rw[ra,mc];omega
   obtain⟨tw1,tw2⟩:=uz fi _ _ hdl ft;refine⟨_,len,(c.toList.drop a.off).take (len*z),rfl,?_,aa,?_,fun i hi=>?_⟩;·simp[fi,spot,hl]
   ·simp only[trV,ah (by omega : ¬len=0)];have v9:0<len*z:=nF h0 z0;refine⟨z0,by simp[gG];rw[ra,mc] at hdl;omega,.inr ⟨2*(4294967296+xH a.block a.off)+1,0,_,rfl,.inr ⟨aa,aa,pC W a.block a.off,.inl ⟨aa,aa⟩,?_,?_,?_⟩⟩⟩
    ·have e1:((2*(4294967296+xH a.block a.off)+1) % 2 == 1)=true:=ab;have e2:(2*(4294967296+xH a.block a.off)+1) / 2=4294967296+xH a.block a.off:=aa;simp only[IH.row,e1,cg,e2,IH.start,rG];rw[ah aa,show 4294967296+xH a.block a.off - 4294967296=xH a.block a.off from by omega,Q1];simp only[hh];rw[aq aa]
    ·rw[cC];simp only[pC,hh];rw[←sN,tw1]
    ·simp only[pC,hh,cz];omega
   ·have hlz:i*z+z≤len*z:=by rw[←wX];exact dU _ hi
    obtain⟨cs',hl0,h1,h4,_⟩:=key i hi
    have:(((c.toList.drop a.off).take (len*z)).drop (i*z)).take z=cs':=by
     apply iO;intro j;rw[gR];by_cases hj:j<z;·rw[aq hj,kh,gR,aq aa,kh,rf,←cell,h1 j hj]
     ·rw[ah hj,cy aa]
    rw[this];exact h4
end
end
end Go.Id
namespace Go.Proofs.YtnnmjocmapilaaaGreat
open Go.ChangeShapes Go.WideShapes Go.ChangeAt Go.RowKit Go.Id
def Tryz.own:ownKnob Tryz.prog.godebug=none:=ae
def Tryz.laidOut:laidOutB Tryz.prog=true:=ae
def Tryz.mapsOut:mapsRowed Tryz.prog=true:=ae
def Tryz.kids:Kids Tryz.prog (· < Tryz.prog.types.size):=kids_rows Tryz.laidOut Tryz.mapsOut
def Tryz.slices:((List.range Tryz.prog.types.size).all fun t=>match Tryz.prog.underlying t with
 | some (.slice e)=>decide (0<Tryz.prog.cellsOf e)
 | _=>true)=true:=ae
def Tryz.pos {t e:TypeId} (h:t<Tryz.prog.types.size) (hu:Tryz.prog.underlying t=some (.slice e)):0<Tryz.prog.cellsOf e:=by have:=ji.1 Tryz.slices t (by simpa using h);rw[hu] at this;simpa using this
def Tryz.sound:Sound (E0 Tryz.prog):=WD ae ae
end Go.Proofs.YtnnmjocmapilaaaGreat
namespace Go.Id
open Go
open Go renaming Operand→QY,Program→QX,TypeId→QZ,Value→QQ
open Nat renaming reduceAdd→zA,reduceEqDiff→zE,reduceLeDiff→zL
open Nat (reduceMul)
set_option maxHeartbeats 16000000
section
abbrev K64 (n:Nat):QQ:=.int .u64 (n:Int)
abbrev KI (n:Int):QQ:=.int .i64 n
variable {a w:Nat}
theorem jG (h:a<2 ^ w):(BitVec.ofInt w (a:Int)).toNat=a:=by simp[dR h]
variable {b:Nat}
theorem bv_and (ha:a<2 ^ w) (hb:b<2 ^ w):(BitVec.ofInt w (a:Int) &&& BitVec.ofInt w (b:Int)).toNat=a &&& b:=by rw[BitVec.toNat_and,jG ha,jG hb]
theorem V9 (ha:a<2 ^ w) (hb:b<2 ^ w):(BitVec.ofInt w (a:Int) ||| BitVec.ofInt w (b:Int)).toNat=a ||| b:=by rw[BitVec.toNat_or,jG ha,jG hb]
theorem XQ (ha:a<2 ^ w) (hb:b<2 ^ w):(BitVec.ofInt w (a:Int) ^^^ BitVec.ofInt w (b:Int)).toNat=a ^^^ b:=by rw[BitVec.toNat_xor,jG ha,jG hb]
theorem XR (ha:a<2 ^ w) (hb:b<2 ^ w):(BitVec.ofInt w (a:Int) &&& ~~~BitVec.ofInt w (b:Int)).toNat=O0 a b:=by
 apply Nat.eq_of_testBit_eq;intro i;rw[GM,BitVec.toNat_and,Nat.testBit_and,jG ha,BitVec.testBit_toNat,BitVec.getLsbD_not,←BitVec.testBit_toNat,jG hb];by_cases hi:i<w;·simp[hi]
 ·rw[Nat.testBit_lt_two_pow (cB ha (fA aa aa))];simp
section
variable (P:Program) (t:TypeId) (ox oy:Operand) {a b:Int}
def Tc (ha:0≤a∧a<18446744073709551616) (hb:0≤b∧b<18446744073709551616):binop P .and t ox oy (.int .u64 a) (.int .u64 b)=some (.int .u64 ((a.toNat &&& b.toNat:Nat):Int)):=by obtain⟨m,rfl⟩:=fV ha.1;obtain⟨n,rfl⟩:=fV hb.1;have h1:m<2 ^ 64:=aa;rw[oC,show(BitVec.ofInt IntKind.u64.bits (m:Int) &&& BitVec.ofInt IntKind.u64.bits (n:Int)).toNat=m &&& n from bv_and (w:=64) h1 aa,gv (Mt h1)];rfl
def Wd (ha:0≤a∧a<18446744073709551616) (hb:0≤b∧b<18446744073709551616):binop P .or t ox oy (.int .u64 a) (.int .u64 b)=some (.int .u64 ((a.toNat ||| b.toNat:Nat):Int)):=by obtain⟨m,rfl⟩:=fV ha.1;obtain⟨n,rfl⟩:=fV hb.1;have h1:m<2 ^ 64:=aa;rw[tM,show(BitVec.ofInt IntKind.u64.bits (m:Int) ||| BitVec.ofInt IntKind.u64.bits (n:Int)).toNat=m ||| n from V9 (w:=64) h1 aa,gv (Rc h1 aa)];rfl
def SY (ha:0≤a∧a<18446744073709551616) (hb:0≤b∧b<18446744073709551616):binop P .xor t ox oy (.int .u64 a) (.int .u64 b)=some (.int .u64 ((a.toNat ^^^ b.toNat:Nat):Int)):=by obtain⟨m,rfl⟩:=fV ha.1;obtain⟨n,rfl⟩:=fV hb.1;have h1:m<2 ^ 64:=aa;rw[wQ,show(BitVec.ofInt IntKind.u64.bits (m:Int) ^^^ BitVec.ofInt IntKind.u64.bits (n:Int)).toNat=m ^^^ n from XQ (w:=64) h1 aa,gv (Gl h1 aa)];rfl
def Tb (ha:0≤a∧a<18446744073709551616) (hb:0≤b∧b<18446744073709551616):binop P .andNot t ox oy (.int .u64 a) (.int .u64 b)=some (.int .u64 ((O0 a.toNat b.toNat:Nat):Int)):=by obtain⟨m,rfl⟩:=fV ha.1;obtain⟨n,rfl⟩:=fV hb.1;have h1:m<2 ^ 64:=aa;rw[Av,show(BitVec.ofInt IntKind.u64.bits (m:Int) &&& ~~~BitVec.ofInt IntKind.u64.bits (n:Int)).toNat=O0 m n from XR (w:=64) h1 aa,gv (Uk h1)];rfl
def Td (ha:0≤a∧a<9223372036854775808) (hb:0≤b∧b<9223372036854775808):binop P .and t ox oy (.int .i64 a) (.int .i64 b)=some (.int .i64 ((a.toNat &&& b.toNat:Nat):Int)):=by obtain⟨m,rfl⟩:=fV ha.1;obtain⟨n,rfl⟩:=fV hb.1;have h1:m<2 ^ 63:=aa;rw[oC,show(BitVec.ofInt IntKind.i64.bits (m:Int) &&& BitVec.ofInt IntKind.i64.bits (n:Int)).toNat=m &&& n from bv_and (w:=64) aa aa,po (Mt h1)];rfl
def We (ha:0≤a∧a<9223372036854775808) (hb:0≤b∧b<9223372036854775808):binop P .or t ox oy (.int .i64 a) (.int .i64 b)=some (.int .i64 ((a.toNat ||| b.toNat:Nat):Int)):=by obtain⟨m,rfl⟩:=fV ha.1;obtain⟨n,rfl⟩:=fV hb.1;have h1:m<2 ^ 63:=aa;rw[tM,show(BitVec.ofInt IntKind.i64.bits (m:Int) ||| BitVec.ofInt IntKind.i64.bits (n:Int)).toNat=m ||| n from V9 (w:=64) aa aa,po (Rc h1 aa)];rfl
def J1 (ha:0<a∧a<9223372036854775808):binop P .and t ox oy (.int .i64 a) (.int .i64 (-a))=some (.int .i64 ((2 ^ 64 - a.toNat &&& a.toNat:Nat):Int)):=by
 obtain⟨m,rfl⟩:=fV (Int.le_of_lt ha.1);have h1:m<2 ^ 63:=aa;have h2:BitVec.ofInt 64 (-(m:Int))=BitVec.ofInt 64 ((2 ^ 64 - m:Nat):Int):=by apply BitVec.eq_of_toNat_eq;rw[BitVec.toNat_ofInt,BitVec.toNat_ofInt];congr 1;omega
 rw[oC,show(BitVec.ofInt IntKind.i64.bits (m:Int) &&& BitVec.ofInt IntKind.i64.bits (-(m:Int))).toNat=2 ^ 64 - m &&& m from by
  show(BitVec.ofInt 64 (m:Int) &&& BitVec.ofInt 64 (-(m:Int))).toNat=_;rw[h2,bv_and aa aa,Nat.and_comm],po (il Nat.and_le_right h1)];rfl
theorem Jz (m n:Nat) (k:Nat) (h:m<2 ^ k):Int.fdiv (m:Int) (2 ^ min n k)=((m >>> n:Nat):Int):=by
 have e:(2:Int) ^ min n k=((2 ^ min n k:Nat):Int):=ab;rw[e,Int.fdiv_eq_ediv_of_nonneg _ (jy _),←oV,kE];by_cases hn:n≤k;·rw[nI hn]
 ·rw[Nat.min_eq_right aa,mM h,mM (cB h (fA aa aa))]
def qj (a n:Nat):Nat:=a >>> n
def Ui (a n:Nat):qj a n≤a:=Nat.shiftRight_le a n
theorem Qu {j:IntKind} (ha:0≤a∧a<18446744073709551616) (hb:0≤b):binop P .shr t ox oy (.int .u64 a) (.int j b)=some (.int .u64 ((qj a.toNat b.toNat:Nat):Int)):=by obtain⟨m,rfl⟩:=fV ha.1;obtain⟨n,rfl⟩:=fV hb;rw[F2 P t ox oy aa];show some (QQ.int .u64 (Int.fdiv (m:Int) (2 ^ min n 64)))=_;rw[Jz m n 64 aa];rfl
def Vy {j:IntKind} (ha:0≤a∧a<9223372036854775808) (hb:0≤b):binop P .shr t ox oy (.int .i64 a) (.int j b)=some (.int .i64 ((qj a.toNat b.toNat:Nat):Int)):=by obtain⟨m,rfl⟩:=fV ha.1;obtain⟨n,rfl⟩:=fV hb;rw[F2 P t ox oy aa];show some (QQ.int .i64 (Int.fdiv (m:Int) (2 ^ min n 64)))=_;rw[Jz m n 64 aa];rfl
def Qv {j:IntKind} (hb:0≤b∧b<64):binop P .shl t ox oy (.int .u64 1) (.int j b)=some (.int .u64 ((2 ^ b.toNat:Nat):Int)):=by obtain⟨n,rfl⟩:=fV hb.1;rw[vU P t ox oy aa];show some (QQ.int .u64 (IntKind.u64.wrap (1*2 ^ min n 64)))=_;rw[nI aa,Int.one_mul,show(2:Int) ^ n=((2 ^ n:Nat):Int) from by simp,gv (sG aa aa)];rfl
def Qw {j:IntKind} (hb:0≤b∧b<63):binop P .shl t ox oy (.int .i64 1) (.int j b)=some (.int .i64 ((2 ^ b.toNat:Nat):Int)):=by obtain⟨n,rfl⟩:=fV hb.1;rw[vU P t ox oy aa];show some (QQ.int .i64 (IntKind.i64.wrap (1*2 ^ min n 64)))=_;rw[nI aa,Int.one_mul,show(2:Int) ^ n=((2 ^ n:Nat):Int) from by simp,po (sG aa aa)];rfl
def VE (ha:0≤a∧a<9223372036854775808) (hb:0<b):binop P .quo t ox oy (.int .i64 a) (.int .i64 b)=some (.int .i64 (a / b)):=by rw[Au P t ox oy aa,Kj ha.1];have h1:0≤a / b:=Int.ediv_nonneg ha.1 aa;have h2:a / b≤a:=Int.ediv_le_self _ ha.1;rw[wrap_i64 aa]
theorem QL (ha:0≤a∧a<18446744073709551616) (hb:0<b):binop P .quo t ox oy (.int .u64 a) (.int .u64 b)=some (.int .u64 (a / b)):=by rw[Au P t ox oy aa,Kj ha.1];have h1:0≤a / b:=Int.ediv_nonneg ha.1 aa;have h2:a / b≤a:=Int.ediv_le_self _ ha.1;rw[yd aa]
def QI {k:IntKind} (ha:0≤a) (hb:0<b):binop P .rem t ox oy (.int k a) (.int k b)=some (.int k (a % b)):=by rw[As P t ox oy aa,Ki ha]
end
def VD (h:IH) (b o n:Nat):h.rd b o n=(h.row b).bind fun cs=>if o+n≤cs.length then some ((cs.drop o).take n) else none:=by
 cases hr:h.row b with
 | none=>simp[IH.rd,hr]
 | some cs=>rw[AP hr];rfl
end
end Go.Id
