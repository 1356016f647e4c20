/-
  Weakest preconditions over the ideal machine, third part: memory, types, calls, loops. Weakest preconditions over the ideal machine, fourth part: types, numbers, slices.
-/
import Derived.Test.YtnanhedgenokpaaGreatTemperMovesAo
import Derived.IntWalk
set_option linter.unusedVariables false
set_option linter.unusedSimpArgs false
set_option linter.defProp false
set_option linter.deprecated false
namespace Go.Id
open Go
@[simp] theorem al (h:IH) (o:bB):(h.new o).n=h.n+1:=rfl
@[simp] theorem w6 (h:IH) (o:bB):(h.new o).base=h.base:=rfl
@[simp] theorem RE (h:IH) (o:bB):(h.new o).cM=h.cM:=rfl
theorem ns (h:IH) (o:bB) (k:Nat):(h.new o).ext.get k=if k=h.n then some o else h.ext.get k:=by simp[IH.new,Tr.bY]
def IH.put (h:IH) (k:Nat) (o:bB):IH:={ h with ext:=h.ext.set k o }
@[simp] theorem aq (h:IH) (k:Nat) (o:bB):(h.put k o).n=h.n:=rfl
@[simp] theorem wT (h:IH) (k:Nat) (o:bB):(h.put k o).base=h.base:=rfl
@[simp] theorem RA (h:IH) (k:Nat) (o:bB):(h.put k o).cM=h.cM:=rfl
theorem hH (h:IH) (k:Nat) (o:bB) (j:Nat):(h.put k o).ext.get j=if j=k then some o else h.ext.get j:=by simp[IH.put,Tr.bY]
theorem aa (h:IH) (o:bB) {k:Nat} (hk:k=h.n):(h.new o).ext.get k=some o:=by rw[ns,if_pos hk]
theorem ao (h:IH) (o:bB) {k:Nat} (hk:k≠h.n):(h.new o).ext.get k=h.ext.get k:=by rw[ns,if_neg hk]
theorem ad (h:IH) (o:bB) {k j:Nat} (hk:j=k):(h.put k o).ext.get j=some o:=by rw[hH,if_pos hk]
theorem ae (h:IH) (o:bB) {k j:Nat} (hk:j≠k):(h.put k o).ext.get j=h.ext.get j:=by rw[hH,if_neg hk]
def IH.cells (h:IH) (k:Nat):Option (List Value):=match h.ext.get k with
 | some (.cells cs _ _)=>some cs
 | _=>none
theorem yd {h:IH} {k:Nat} {cs:List Value} {e:Nat} {f:Option Nat} (hk:h.ext.get k=some (.cells cs e f)):h.cells k=some cs:=by simp[IH.cells,hk]
theorem iU (h:IH) (k:Nat):h.row (2*k)=h.cells k:=by
 have h1:(2*k) % 2=0:=by omega
 have h2:2*k / 2=k:=by omega
 simp only[IH.row,h1,h2,IH.cells];rfl
theorem kN (h:IH) (cs:List Value) (e:Nat) (f:Option Nat) {b:Nat} (hb:b=2*h.n):(h.new (.cells cs e f)).row b=some cs:=by
 subst hb;rw[iU];simp[IH.cells,ns]
theorem uo (h:IH) (o:bB) {b:Nat} (hb:b≠2*h.n):(h.new o).row b=h.row b:=by
 simp only[IH.row,w6,ns,cond_eq_ite,beq_iff_eq]
 by_cases h1:b % 2=1
 ·simp[h1]
 ·rw[if_neg h1,if_neg h1,if_neg (by omega)]
theorem rS (h:IH) (cs:List Value) (e:Nat) (f:Option Nat) {b k:Nat} (hb:b=2*k):(h.put k (.cells cs e f)).row b=some cs:=by
 subst hb;rw[iU];simp[IH.cells,hH]
theorem ov (h:IH) (k:Nat) (o:bB) {b:Nat} (hb:b≠2*k):(h.put k o).row b=h.row b:=by
 simp only[IH.row,wT,hH,cond_eq_ite,beq_iff_eq]
 by_cases h1:b % 2=1
 ·simp[h1]
 ·rw[if_neg h1,if_neg h1,if_neg (by omega)]
structure Ext (h h':IH):Prop where
 n:h.n≤h'.n
 base:h'.base=h.base
 get : ∀k,k<h.n→h'.ext.get k=h.ext.get k
 cM : ∀f,f<h.n→h'.cM.get f=h.cM.get f
@[simp] theorem Ext.refl (h:IH):Ext h h:=⟨Nat.le_refl _,rfl,fun _ _=>rfl,fun _ _=>rfl⟩
theorem Ext.trans {a b c:IH} (h:Ext a b) (k:Ext b c):Ext a c :=
 ⟨Nat.le_trans h.n k.n,k.base.trans h.base,fun x hx=>(k.get x (Nat.lt_of_lt_of_le hx h.n)).trans (h.get x hx),fun x hx=>(k.cM x (Nat.lt_of_lt_of_le hx h.n)).trans (h.cM x hx)⟩
theorem Ext.new {a b:IH} (h:Ext a b) (o:bB):Ext a (b.new o) :=
 ⟨Nat.le_trans h.n (Nat.le_succ _),h.base,fun x hx=>by rw[ns,if_neg (by have:=h.n;omega)];exact h.get x hx,fun x hx=>h.cM x hx⟩
theorem Ext.put {a b:IH} (h:Ext a b) {k:Nat} (hk:a.n≤k) (o:bB):Ext a (b.put k o) :=
 ⟨h.n,h.base,fun x hx=>by rw[hH,if_neg (by omega)];exact h.get x hx,fun x hx=>h.cM x hx⟩
theorem Ext.row {a b:IH} (h:Ext a b) {x:Nat} (hx:x % 2=1∨x<2*a.n):b.row x=a.row x:=by
 simp only[IH.row,h.base,cond_eq_ite,beq_iff_eq]
 by_cases h1:x % 2=1
 ·rw[if_pos h1,if_pos h1]
 ·rw[if_neg h1,if_neg h1,h.get _ (by omega)]
def ld (h:IH) (b o:Nat):Option Value:=(h.row b).bind (·[o]?)
theorem KP {h:IH} {b o:Nat} {cs:List Value} (hr:h.row b=some cs):ld h b o=cs[o]?:=by simp[ld,hr]
theorem cq {P:Program} {t:TypeId} (hT:aY P t=some false) (h:IH) (b o:Nat):load P h t (ptr b o)=ld h b o:=by
 simp only[load,asAddr,ptr,hT,IH.rd,ld]
 cases aP P t <;>
 (cases hr:h.row b with
  | none=>rfl
  | some cs =>
   simp only[Option.bind_some,cond_eq_ite,Nat.ble_eq]
   by_cases hl:o+1≤cs.length
   ·rw[if_pos hl]
    simp only[Option.bind_some]
    rw[List.head?_take,if_neg (by omega),List.head?_drop]
   ·rw[if_neg hl,List.getElem?_eq_none (by omega)];rfl)
theorem eG {P:Program} {t:TypeId} {n:Nat} (hT:aY P t=some true) (hn:aP P t=some n) (h:IH) (b o:Nat):load P h t (ptr b o)=(h.rd b o n).map fun cs=>.agg cs.toArray:=by
 simp only[load,asAddr,ptr,hT,hn]
@[simp] theorem yo (b o:Nat):asAddr (ptr b o)=some (b,o):=rfl
theorem zw {h:IH} {b o n:Nat} {cs:List Value} (hr:h.row b=some cs):h.rd b o n=if o+n≤cs.length then some ((cs.drop o).take n) else none:=by
 simp[IH.rd,hr,cond_eq_ite]
@[simp] theorem An (k:IntKind) (n:Int):(Value.int k n).cells = #[.int k n]:=rfl
@[simp] theorem yf (b:Bool):(Value.bool b).cells = #[.bool b]:=rfl
@[simp] theorem uN (a:Option Addr) (n c:Nat):(Value.slice a n c).cells = #[.slice a n c]:=rfl
@[simp] theorem Al (b o:Nat):(ptr b o).cells = #[ptr b o]:=rfl
@[simp] theorem Ao (cs:Array Value):(Value.agg cs).cells=cs:=rfl
@[simp] theorem ye (f:Fn) (a b:Array Value):(Value.func f a b).cells = #[.func f a b]:=rfl
@[simp] theorem qp:(Value.nilFunc).cells = #[.nilFunc]:=rfl
@[simp] theorem Am (r:Option Nat):(Value.map r).cells = #[.map r]:=rfl
@[simp] theorem tc:(Value.pointer none).cells = #[.pointer none]:=rfl
theorem Jv {P:Program} {f:FuncId} {fn:Func} {c:Code} {nt:Nat} {rs:List ResultVar} {first cap:Array Value} {vs:List Value} {h:IH} {K:Value→IH→Prop}
  (hf:P.funcs[f]?=some fn) (hb:fn.body=some c) (hn:fn.ntmps=nt) (hr:fn.results.toList=rs) (hl:(first.toList ++ (vs ++ cap.toList)).length≤nt)
  (w:wpC P f nt none c (jc 0 (first.toList ++ (vs ++ cap.toList))) h fun e fr h=>match e with
   | .exit _=>False
   | .normal=>Ex (bW P fr h rs) fun l=>K (single l) h
   | .ret=>Ex (bW P fr h rs) fun l=>K (single l) h):WV P (.func (.func f) first cap) vs h K:=by
 subst hn;subst hr
 obtain⟨⟨e,fr,h1⟩,⟨N,hN⟩,k⟩:=dY w
 have key : ∃l,bW P fr h1 fn.results.toList=some l∧K (single l) h1 ∧ ∀i,e≠.exit i:=by
  cases e with
  | exit i=>exact k.elim
  | normal=>obtain⟨l,a,b⟩:=k;exact⟨l,a,b,fun i hi=>by cases hi⟩
  | ret=>obtain⟨l,a,b⟩:=k;exact⟨l,a,b,fun i hi=>by cases hi⟩
 obtain⟨l,hl1,k,hne⟩:=key
 refine⟨(single l,h1),⟨N+1,fun n hn=>?_⟩,k⟩
 obtain⟨n,rfl⟩ : ∃m,n=m+1:=⟨n - 1,by omega⟩
 have h2:=hN n (by omega)
 simp only at h2
 have Ft:Nat.ble (first.toList ++ (vs ++ cap.toList)).length fn.ntmps=true:=by simpa [Nat.ble_eq] using hl
 have hf':(E0 P).P.funcs[f]?=some fn:=hf
 simp only[cI,qZ,show(E0 P).Dp f=none from rfl,hf',hb,Ft,cond_true,h2]
 cases e with
 | exit i=>exact absurd rfl (hne i)
 | normal=>simp[E0,hl1]
 | ret=>simp[E0,hl1]
@[simp] theorem qf (P:Program) (fr:Fr) (h:IH):bW P fr h []=some []:=rfl
@[simp] theorem oz (P:Program) (fr:Fr) (h:IH) (r:ResultVar) (l:List ResultVar):bW P fr h (r :: l)=(jT P fr h r).bind fun v=>(bW P fr h l).map (v :: ·):=by
 simp only[bW];cases jT P fr h r<;>cases bW P fr h l<;>rfl
@[simp] theorem rT (P:Program) (fr:Fr) (h:IH) (t:Tmp):jT P fr h (.tmp t)=ah fr t:=rfl
@[simp] theorem qg (P:Program) (fr:Fr) (h:IH) (a:Tmp) (t:TypeId):jT P fr h (.cell a t)=(ah fr a).bind fun v=>load P h t v:=by
 simp only[jT];cases ah fr a<;>rfl
theorem Rh {P:Program} {fn:FuncId} {nt:Nat} {rd:Option Nat} {b:Code} {Q:bd→Fr→IH→Prop} (I:Nat→Fr→IH→Prop)
  (step : ∀m fr h,I m fr h→wpC P fn nt rd b fr h fun e fr' h'=>match e with
   | .normal => ∃m',m'<m∧I m' fr' h'
   | .exit i=>Q (.exit i) fr' h'
   | .ret=>Q .ret fr' h') {fr:Fr} {h:IH} {m:Nat} (start:I m fr h) (hm:oR b=none):uQ P fn nt rd b fr h Q:=by
 have key : ∀m fr h,I m fr h → ∃r:bd×Fr×IH,(∃N,∀n,N≤n → ∀j,m+1≤j→lZ (evC (E0 P) (cI (E0 P) n) fn nt rd n b) j fr h=some r)∧Q r.1 r.2.1 r.2.2:=by
  intro m
  induction m using Nat.strongRecOn with
  | _ m ih =>
   intro fr h hi
   obtain⟨⟨e,fr1,h1⟩,⟨N,hN⟩,k⟩:=dY (step m fr h hi)
   cases e with
   | normal =>
    obtain⟨m',hm,hi'⟩:=k
    obtain⟨r,⟨M,hM⟩,q⟩:=ih m' hm fr1 h1 hi'
    refine⟨r,⟨max N M,fun n hn j hj=>?_⟩,q⟩
    obtain⟨j,rfl⟩ : ∃i,j=i+1:=⟨j - 1,by omega⟩
    have e1:=hN n (Nat.le_trans (Nat.le_max_left _ _) hn)
    simp only at e1
    rw[lZ,e1]
    exact hM n (Nat.le_trans (Nat.le_max_right _ _) hn) j (by omega)
   | exit i =>
    refine⟨(.exit i,fr1,h1),⟨N,fun n hn j hj=>?_⟩,k⟩
    obtain⟨j,rfl⟩ : ∃i,j=i+1:=⟨j - 1,by omega⟩
    have e1:=hN n hn
    simp only at e1
    rw[lZ,e1]
   | ret =>
    refine⟨(.ret,fr1,h1),⟨N,fun n hn j hj=>?_⟩,k⟩
    obtain⟨j,rfl⟩ : ∃i,j=i+1:=⟨j - 1,by omega⟩
    have e1:=hN n hn
    simp only at e1
    rw[lZ,e1]
 obtain⟨r,⟨N,hN⟩,q⟩:=key m fr h start
 exact⟨r,⟨max N (m+1),fun n hn=>by
  have:=hN n (Nat.le_trans (Nat.le_max_left _ _) hn) n (Nat.le_trans (Nat.le_max_right _ _) hn)
  show evC (E0 P) (cI (E0 P) n) fn nt rd n (.loop b) fr h=some r
  rw[xM,hm];exact this⟩,q⟩
theorem wpOp_mono {P:Program} {o:Op} {fr:Fr} {h:IH} {K L:Value→IH→Prop} (k : ∀v h,K v h→L v h) (w:wpOp P o fr h K):wpOp P o fr h L:=by
 cases o
 case call c =>
  cases hc:c.callee<;>simp only[wpOp,hc] at w ⊢
  ·exact Ex.mono w fun _ w=>Ex.mono w fun _ w=>WV.mono w k
  ·exact Ex.mono w fun _ w=>Ex.mono w fun _ w=>k _ _ w
 case pick=>exact Ex.mono w fun _ w=>Ex.mono w fun _ w=>Ex.mono w fun _ w=>w.imp (fun x=>⟨x.1,k _ _ x.2⟩) fun x=>⟨x.1,k _ _ x.2⟩
 case extract =>
  refine Ex.mono w fun v w=>?_
  split at w
  ·exact Ex.mono w fun _ w=>k _ _ w
  ·exact w.elim
 case makeFunc f _ _ =>
  refine Ex.mono w fun v w=>Ex.mono w fun u w=>?_
  cases f
  ·exact k _ _ w
  all_goals exact w.elim
 case fieldAddr=>exact Ex.mono w fun _ w=>Ex.mono w fun _ w=>Ex.mono w fun _ w=>Ex.mono w fun _ w=>⟨w.1,k _ _ w.2⟩
 all_goals
  first
   | exact Ex.mono w fun _ w=>Ex.mono w fun _ w=>Ex.mono w fun _ w=>k _ _ w
   | exact Ex.mono w fun _ w=>Ex.mono w fun _ w=>k _ _ w
   | exact Ex.mono w fun _ w=>k _ _ w
theorem fV {nt:Nat} {fr:Fr} {d:Option Tmp} {v:Value} {K L:Fr→Prop} (k : ∀fr,K fr→L fr) (w:dO nt fr d v K):dO nt fr d v L:=by
 unfold dO at w ⊢
 split
 ·exact k _ w
 ·unfold Br at w ⊢;split<;>simp_all
theorem Br.mono {b:Bool} {p q p' q':Prop} (h1:p→p') (h2:q→q') (w:Br b p q):Br b p' q':=by cases b<;>simp_all
theorem jk {P:Program} {nt:Nat} {all:List Oper} {K L:Fr→IH→Prop} (k : ∀fr h,K fr h→L fr h) : ∀{l:List Oper} {fr:Fr} {h:IH},wpOps P nt all l fr h K→wpOps P nt all l fr h L
 | [],_,_,w=>k _ _ w
 | o :: l,fr,h,w=>by
  unfold wpOps at w ⊢
  split at w
  ·exact wpOp_mono (fun v h w=>fV (fun fr w=>jk k w) w) w
  ·refine Ex.mono w fun d w=>Ex.mono w fun b w=>?_
   split at w
   ·exact Br.mono (fun w=>wpOp_mono (fun v h w=>fV (fun fr w=>jk k w) w) w) (fun w=>fV (fun fr w=>jk k w) w) w
   ·exact fV (fun fr w=>jk k w) w
   ·exact w
theorem iO {P:Program} {nt:Nat} {all:List Oper} {K L:List (Fr×IH)→Prop} (k : ∀t,K t→L t) : ∀{l:List Oper} {fr:Fr} {h:IH} {tr:List (Fr×IH)},cC P nt all l fr h tr K→cC P nt all l fr h tr L
 | [],_,_,_,w=>k _ w
 | o :: l,fr,h,tr,w=>by
  unfold cC at w ⊢
  split at w
  ·exact wpOp_mono (fun v h w=>fV (fun fr w=>iO k w) w) w
  ·refine Ex.mono w fun d w=>Ex.mono w fun b w=>?_
   split at w
   ·exact Br.mono (fun w=>wpOp_mono (fun v h w=>fV (fun fr w=>iO k w) w) w) (fun w=>fV (fun fr w=>iO k w) w) w
   ·exact fV (fun fr w=>iO k w) w
   ·exact w
theorem kZ {P:Program} {fn:FuncId} {nt:Nat} {rd:Option Nat} : ∀{c:Code} {Q R:bd→Fr→IH→Prop} {fr:Fr} {h:IH},(∀e fr h,Q e fr h→R e fr h)→wpC P fn nt rd c fr h Q→wpC P fn nt rd c fr h R
 | .skip,_,_,_,_,k,w=>k _ _ _ w
 | .label _,_,_,_,_,k,w=>k _ _ _ w
 | .region _ _ draw,_,_,_,_,k,w=>by
  cases draw with
  | false=>exact jk (k _) w
  | true=>exact⟨fun hc=>jk (k _) (w.1 hc),fun hc=>⟨(w.2 hc).1,iO (fun t w=>⟨w.1,Ex.mono w.2 fun _ w=>k _ _ _ w⟩) (w.2 hc).2⟩⟩
 | .seq a b,Q,R,fr,h,k,w=>by
  refine kZ (c:=a) (fun e fr h w=>?_) w
  cases e with
  | normal=>exact kZ (c:=b) k w
  | exit i=>exact k _ _ _ w
  | ret=>exact k _ _ _ w
 | .cond c a b,Q,R,fr,h,k,w=>by
  refine Ex.mono w fun v w=>?_
  split at w
  ·exact Br.mono (fun w=>kZ (c:=a) k w) (fun w=>kZ (c:=b) k w) w
  ·exact w
 | .block id b,Q,R,fr,h,k,w=>by
  refine kZ (c:=b) (fun e fr h w=>?_) w
  cases e with
  | normal=>exact k _ _ _ w
  | exit i=>exact Br.mono (k _ _ _) (k _ _ _) w
  | ret=>exact k _ _ _ w
 | .loop b,_,_,_,_,k,w=>Tm.mono w fun _ w=>k _ _ _ w
 | .scope b,_,_,_,_,k,w=>kZ (c:=b) k w
 | .rangeFunc _ _ _ _,_,_,_,_,k,w=>Tm.mono w fun _ w=>k _ _ _ w
 | .exit _,_,_,_,_,k,w=>k _ _ _ w
 | .ret,_,_,_,_,k,w=>k _ _ _ w
 | .goto _,_,_,_,_,_,w=>w.elim
 | .refuse _,_,_,_,_,_,w=>w.elim
theorem wrap_i64 {x:Int} (h : -9223372036854775808≤x∧x≤9223372036854775807):IntKind.i64.wrap x=x:=IntWalk.i64_in x h
theorem rk {x:Int} (h:0≤x∧x≤18446744073709551615):IntKind.u64.wrap x=x:=IntWalk.u64_in x h
theorem wrap_u8 {x:Int} (h:0≤x∧x≤255):IntKind.u8.wrap x=x:=IntWalk.u8_in x h
theorem B0 {x:Int} (h:0≤x∧x≤65535):IntKind.u16.wrap x=x:=IntWalk.u16_in x h
theorem wrap_u32 {x:Int} (h:0≤x∧x≤4294967295):IntKind.u32.wrap x=x:=IntWalk.u32_in x h
end Go.Id

namespace Go.Id
open Go
def fu (P:Program) (t:TypeId):Option Nat:=match P.underlying t with
 | some (.slice e)=>aP P e
 | _=>none
def Hv (P:Program) (t:TypeId):Option (Nat×Nat):=match P.underlying t with
 | some (.array n e)=>(aP P e).map (n,·)
 | _=>none
def pd (P:Program) (t:TypeId):Option (Nat×Nat):=match P.underlying t with
 | some (.slice e)=>match aP P e,jD P e,aE P e with
  | some size,some bytes,some zs=>bif size == 0 || (!(Nat.ble bytes 65536) || !(zs.length == size)) then none else some (size,bytes)
  | _,_,_=>none
 | _=>none
def oK (P:Program) (t:TypeId):Option (Nat×Nat×List Value):=match P.underlying t with
 | some (.slice e)=>match aP P e,jD P e,aE P e with
  | some n,some b,some z=>bif z.length == n then some (n,b,z) else none
  | _,_,_=>none
 | _=>none
def mJ (P:Program) (t:TypeId) (f:Nat):Option (Bool×Nat×Nat) :=
 (iW P t f).bind fun d=>(aY P d.type).bind fun b=>(aP P d.type).map fun n=>(b,d.offset,n)
theorem xL (P:Program) (t:TypeId) (f:Nat) (cs:Array Value) :
  qU P t f (.agg cs)=(mJ P t f).bind fun p=>if p.1=true then some (.agg (cs.extract p.2.1 (p.2.1+p.2.2))) else cs[p.2.1]?:=by
 simp only[qU,mJ]
 cases iW P t f with
 | none=>rfl
 | some d =>
  simp only[Option.bind_some,partOf]
  cases ha:aY P d.type with
  | none=>rfl
  | some b =>
   cases hs:aP P d.type with
   | none =>
    cases b with
    | true=>rfl
    | false => -- a size is there where the kind is
     exfalso
     simp only[aY,Program.underlying,Option.map_eq_some_iff] at ha
     simp only[aP,Option.map_eq_none_iff] at hs
     obtain⟨x,h1,_⟩:=ha
     simp[hs] at h1
   | some n=>cases b<;>simp
def nP (i:Int) (n:Nat):Option Nat:=match i with
 | .ofNat j=>if j<n then some j else none
 | .negSucc _=>none
@[simp] theorem pJ {j n:Nat} (h:j<n):nP (j:Int) n=some j:=by
 show(if j<n then some j else none)=some j
 rw[if_pos h]
theorem gZ (P:Program) (t:TypeId) (b o n c:Nat) (k:IntKind) (i:Int) :
  indexAddr P t (.slice (some ⟨b,o,none⟩) n c) (.int k i)=(fu P t).bind fun sz=>(nP i n).map fun j=>ptr b (o+j*sz):=by
 simp only[indexAddr,fu,idxOf]
 cases hu:P.underlying t with
 | none=>rfl
 | some d =>
  cases d<;>(try rfl)
  rename_i e
  simp only
  cases hs:aP P e with
  | none=>rfl
  | some sz =>
   cases i with
   | ofNat j =>
    simp only[nP,Option.bind_some,cond_eq_ite,Nat.blt,Nat.ble_eq,Nat.succ_le_iff]
    by_cases hj:j<n
    ·rw[if_pos hj,if_pos hj];rfl
    ·rw[if_neg hj,if_neg hj];rfl
   | negSucc j=>rfl
theorem qm (P:Program) (t:TypeId) (b o:Nat) (k:IntKind) (i:Int) :
  indexAddr P t (ptr b o) (.int k i)=(Hv P t).bind fun a=>(nP i a.1).map fun j=>ptr b (o+j*a.2):=by
 simp only[indexAddr,Hv,idxOf,ptr]
 cases hu:P.underlying t with
 | none=>rfl
 | some d =>
  cases d<;>(try rfl)
  rename_i n e
  simp only
  cases hs:aP P e with
  | none=>rfl
  | some sz =>
   cases i with
   | ofNat j =>
    simp only[nP,Option.bind_some,Option.map_some,cond_eq_ite,Nat.blt,Nat.ble_eq,Nat.succ_le_iff]
    by_cases hj:j<n
    ·rw[if_pos hj,if_pos hj];rfl
    ·rw[if_neg hj,if_neg hj];rfl
   | negSucc j=>rfl
theorem qO {P:Program} {t:TypeId} (hT:cX P (some t)=true) (h:IH) (a:Option Addr) (n c:Nat):nT P h t (.slice a n c)=some (.int .i64 n):=by
 unfold cX at hT
 simp only at hT
 unfold nT
 split at hT
 ·rename_i hu;simp[hu]
 ·cases hT
@[simp] theorem builtin_len (P:Program) (h:IH) (ts:Array TypeId) (x:Value):builtin P h .len ts [x]=(ts[0]?).bind fun t=>(nT P h t x).map (·,h):=by
 simp only[builtin];cases ts[0]?<;>rfl
theorem builtin_append (P:Program) (h:IH) (s t:TypeId) (x y:Value) (hT:cX P (some t)=true):builtin P h .append #[s,t] [x,y]=append P h s x y:=by
 have e1:(#[s,t]:Array TypeId)[1]?=some t:=rfl
 have e0:(#[s,t]:Array TypeId)[0]?=some s:=rfl
 simp only[builtin,e1,e0,hT,cond_true]
theorem EL {P:Program} {s:Sem Value} {v:Value} (h:ar P s=some v) (hv:plain v=true):cG P s=some v:=by simp[cG,h,hv]
theorem il {P:Program} {t:TypeId} {d:TypeDesc} {α:Type} (hd:P.underlying t=some d) (f:TypeDesc→Sem α):ar P ((underlying t).bind f)=ar P (f d):=by
 have e:ar P ((underlying t).bind f)=ar P ((match P.underlying t with|some d=>(pure d:Sem TypeDesc)|none=>stuck "no such type").bind f):=rfl
 rw[e,hd]
 rfl
theorem mL {P:Program} {s d:TypeId} {k k':IntKind} {n:Int} (hs:(P.underlying s).isSome=true) (hd:P.underlying d=some (.int k')):sX P s d (.int k n)=some (.int k' (k'.wrap n)):=by
 obtain⟨ds,hs⟩:=Option.isSome_iff_exists.1 hs
 refine EL ?_ rfl
 unfold Go.convert
 show ar P (Sem.bind _ _)=_
 rw[il hs]
 show ar P (Sem.bind _ _)=_
 rw[il hd]
 cases ds<;>rfl
theorem HI {k:IntKind} (a b:Nat) (ha:a<2 ^ k.bits) (hb:b<2 ^ k.bits):(BitVec.ofInt k.bits (a:Int) &&& BitVec.ofInt k.bits (b:Int)).toNat=a &&& b:=by
 simp[BitVec.toNat_and,Nat.mod_eq_of_lt ha,Nat.mod_eq_of_lt hb]
section
variable (P:Program) (t:TypeId) (ox oy:Operand)
theorem tF {op:BinOp} {k:IntKind} {x y:Int} {v:Value} (hv:plain v=true) (hr:ar P (do eqGuard op t ox oy (.int k x) (.int k y);Go.binOp op t (.int k x) (.int k y))=some v):binop P op t ox oy (.int k x) (.int k y)=some v :=
 cZ P t ox oy rfl rfl hv hr
theorem jO (k:IntKind) (a b:Int):binop P .and t ox oy (.int k a) (.int k b)=some (.int k (k.wrap (BitVec.ofInt k.bits a &&& BitVec.ofInt k.bits b).toNat)) :=
 tF P t ox oy rfl (by simp[eqGuard,Go.binOp,Op.intBits];rfl)
theorem nz (k:IntKind) (a b:Int):binop P .or t ox oy (.int k a) (.int k b)=some (.int k (k.wrap (BitVec.ofInt k.bits a ||| BitVec.ofInt k.bits b).toNat)) :=
 tF P t ox oy rfl (by simp[eqGuard,Go.binOp,Op.intBits];rfl)
theorem qu (k:IntKind) (a b:Int):binop P .xor t ox oy (.int k a) (.int k b)=some (.int k (k.wrap (BitVec.ofInt k.bits a ^^^ BitVec.ofInt k.bits b).toNat)) :=
 tF P t ox oy rfl (by simp[eqGuard,Go.binOp,Op.intBits];rfl)
theorem tZ (k:IntKind) (a b:Int):binop P .andNot t ox oy (.int k a) (.int k b)=some (.int k (k.wrap (BitVec.ofInt k.bits a &&& ~~~BitVec.ofInt k.bits b).toNat)) :=
 tF P t ox oy rfl (by simp[eqGuard,Go.binOp,Op.intBits];rfl)
theorem dh {n:Nat} (h:n<2 ^ 64):IntKind.u64.wrap (n:Int)=n:=rk (by omega)
theorem kI {n:Nat} (h:n<2 ^ 63):IntKind.i64.wrap (n:Int)=n:=wrap_i64 (by omega)
theorem FY {a b c:Nat} (h:a<c):a &&& b<c:=Nat.lt_of_le_of_lt Nat.and_le_left h
theorem Kv {a b n:Nat} (ha:a<2 ^ n) (hb:b<2 ^ n):a ||| b<2 ^ n:=Nat.or_lt_two_pow ha hb
theorem yX (a b:Nat) (ha:a<18446744073709551616) (hb:b<18446744073709551616):binop P .and t ox oy (.int .u64 a) (.int .u64 b)=some (.int .u64 ((a &&& b:Nat):Int)):=by
 rw[jO,HI (k:=.u64) a b ha hb,dh (FY ha)]
theorem BP (a b:Nat) (ha:a<18446744073709551616) (hb:b<18446744073709551616):binop P .or t ox oy (.int .u64 a) (.int .u64 b)=some (.int .u64 ((a ||| b:Nat):Int)):=by
 have e:(BitVec.ofInt 64 (a:Int) ||| BitVec.ofInt 64 (b:Int)).toNat=a ||| b:=by simp[Nat.mod_eq_of_lt ha,Nat.mod_eq_of_lt hb]
 rw[nz,show(BitVec.ofInt IntKind.u64.bits (a:Int) ||| BitVec.ofInt IntKind.u64.bits (b:Int)).toNat=a ||| b from e,dh (Kv (n:=64) ha hb)]
def Iy (a b:Nat):Nat:=a ^^^ (a &&& b)
theorem AU (a b i:Nat):(Iy a b).testBit i=(a.testBit i && !b.testBit i):=by
 simp only[Iy,Nat.testBit_xor,Nat.testBit_and]
 cases a.testBit i<;>cases b.testBit i<;>rfl
theorem NB {a b n:Nat} (h:a<2 ^ n):Iy a b<2 ^ n:=Nat.xor_lt_two_pow h (Nat.lt_of_le_of_lt Nat.and_le_left h)
theorem Ar {k j:IntKind} {a b:Int} (hb:0≤b):binop P .shr t ox oy (.int k a) (.int j b)=some (.int k (a.fdiv (2 ^ (min b.toNat k.bits)))):=by
 refine cZ P t ox oy rfl rfl rfl ?_
 simp[eqGuard,Go.binOp,Op.shift,Int.not_lt.2 hb];rfl
theorem pO {k j:IntKind} {a b:Int} (hb:0≤b):binop P .shl t ox oy (.int k a) (.int j b)=some (.int k (k.wrap (a*2 ^ (min b.toNat k.bits)))):=by
 refine cZ P t ox oy rfl rfl rfl ?_
 simp[eqGuard,Go.binOp,Op.shift,Int.not_lt.2 hb];rfl
theorem As {k:IntKind} {a b:Int} (hb:b≠0):binop P .quo t ox oy (.int k a) (.int k b)=some (.int k (k.wrap (a.tdiv b))):=by
 refine tF P t ox oy rfl ?_
 simp[eqGuard,Go.binOp,Op.intDiv,hb];rfl
theorem tY {k:IntKind} {a b:Int} (hb:b≠0):binop P .rem t ox oy (.int k a) (.int k b)=some (.int k (a.tmod b)):=by
 refine tF P t ox oy rfl ?_
 simp[eqGuard,Go.binOp,Op.intDiv,hb];rfl
end
theorem zd (P:Program) (b:Bool):(bif plain (.bool b) then cG P (Op.unary .not (.bool b)) else none)=some (.bool (!b)):=rfl
theorem ze (P:Program) (k:IntKind) (n:Int):(bif plain (.int k n) then cG P (Op.unary .neg (.int k n)) else none)=some (.int k (k.wrap (-n))):=by
 show some (Value.int k (k.wrap (0 - n)))=_
 rw[Int.zero_sub]
end Go.Id
