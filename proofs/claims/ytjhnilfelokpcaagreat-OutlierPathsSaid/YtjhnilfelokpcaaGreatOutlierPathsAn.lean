/-
  Weakest preconditions over the ideal machine, third part: memory, types, calls, loops. Weakest preconditions over the ideal machine, fourth part: types, numbers, slices.
-/
import Derived.Test.YtjhnilfelokpcaaGreatOutlierPathsAm
import Derived.IntWalk
set_option linter.unusedVariables false
set_option linter.unusedSimpArgs false
set_option linter.defProp false
set_option linter.deprecated false
namespace Go.Id
open Go
@[simp] theorem ax (h:IH) (o:bR):(h.new o).n=h.n+1:=rfl
@[simp] theorem zk (h:IH) (o:bR):(h.new o).base=h.base:=rfl
@[simp] theorem WK (h:IH) (o:bR):(h.new o).bQ=h.bQ:=rfl
theorem kV (h:IH) (o:bR) (k:Nat):(h.new o).ext.get k=if k=h.n then some o else h.ext.get k:=by simp[IH.new,Tr.bA]
def IH.put (h:IH) (k:Nat) (o:bR):IH:={ h with ext:=h.ext.set k o }
@[simp] theorem ay (h:IH) (k:Nat) (o:bR):(h.put k o).n=h.n:=rfl
@[simp] theorem yY (h:IH) (k:Nat) (o:bR):(h.put k o).base=h.base:=rfl
@[simp] theorem WA (h:IH) (k:Nat) (o:bR):(h.put k o).bQ=h.bQ:=rfl
theorem mS (h:IH) (k:Nat) (o:bR) (j:Nat):(h.put k o).ext.get j=if j=k then some o else h.ext.get j:=by simp[IH.put,Tr.bA]
theorem ab (h:IH) (o:bR) {k:Nat} (hk:k=h.n):(h.new o).ext.get k=some o:=by rw[kV,if_pos hk]
theorem ar (h:IH) (o:bR) {k:Nat} (hk:k≠h.n):(h.new o).ext.get k=h.ext.get k:=by rw[kV,if_neg hk]
theorem aa (h:IH) (o:bR) {k j:Nat} (hk:j=k):(h.put k o).ext.get j=some o:=by rw[mS,if_pos hk]
theorem ah (h:IH) (o:bR) {k j:Nat} (hk:j≠k):(h.put k o).ext.get j=h.ext.get j:=by rw[mS,if_neg hk]
def IH.cells (h:IH) (k:Nat):Option (List Value):=match h.ext.get k with
 | some (.cells cs _ _)=>some cs
 | _=>none
theorem Ae {h:IH} {k:Nat} {cs:List Value} {e:Nat} {f:Option Nat} (hk:h.ext.get k=some (.cells cs e f)):h.cells k=some cs:=by simp[IH.cells,hk]
theorem ji (h:IH) (k:Nat):h.row (2*k)=h.cells k:=by
 have h1:(2*k) % 2=0:=by omega
 have h2:2*k / 2=k:=by omega
 simp only[IH.row,h1,h2,IH.cells];rfl
theorem kS (h:IH) (cs:List Value) (e:Nat) (f:Option Nat) {b:Nat} (hb:b=2*h.n):(h.new (.cells cs e f)).row b=some cs:=by
 subst hb;rw[ji];simp[IH.cells,kV]
theorem wF (h:IH) (o:bR) {b:Nat} (hb:b≠2*h.n):(h.new o).row b=h.row b:=by
 simp only[IH.row,zk,kV,cond_eq_ite,beq_iff_eq]
 by_cases h1:b % 2=1
 ·simp[h1]
 ·rw[if_neg h1,if_neg h1,if_neg (by omega)]
theorem tV (h:IH) (cs:List Value) (e:Nat) (f:Option Nat) {b k:Nat} (hb:b=2*k):(h.put k (.cells cs e f)).row b=some cs:=by
 subst hb;rw[ji];simp[IH.cells,mS]
theorem qa (h:IH) (k:Nat) (o:bR) {b:Nat} (hb:b≠2*k):(h.put k o).row b=h.row b:=by
 simp only[IH.row,yY,mS,cond_eq_ite,beq_iff_eq]
 by_cases h1:b % 2=1
 ·simp[h1]
 ·rw[if_neg h1,if_neg h1,if_neg (by omega)]
structure Ext (h h':IH):Prop where
 n:h.n≤h'.n
 base:h'.base=h.base
 get : ∀k,k<h.n→h'.ext.get k=h.ext.get k
 bQ : ∀f,f<h.n→h'.bQ.get f=h.bQ.get f
@[simp] theorem Ext.refl (h:IH):Ext h h:=⟨Nat.le_refl _,rfl,fun _ _=>rfl,fun _ _=>rfl⟩
theorem Ext.trans {a b c:IH} (h:Ext a b) (k:Ext b c):Ext a c :=
 ⟨Nat.le_trans h.n k.n,k.base.trans h.base,fun x hx=>(k.get x (Nat.lt_of_lt_of_le hx h.n)).trans (h.get x hx),fun x hx=>(k.bQ x (Nat.lt_of_lt_of_le hx h.n)).trans (h.bQ x hx)⟩
theorem Ext.new {a b:IH} (h:Ext a b) (o:bR):Ext a (b.new o) :=
 ⟨Nat.le_trans h.n (Nat.le_succ _),h.base,fun x hx=>by rw[kV,if_neg (by have:=h.n;omega)];exact h.get x hx,fun x hx=>h.bQ x hx⟩
theorem Ext.put {a b:IH} (h:Ext a b) {k:Nat} (hk:a.n≤k) (o:bR):Ext a (b.put k o) :=
 ⟨h.n,h.base,fun x hx=>by rw[mS,if_neg (by omega)];exact h.get x hx,fun x hx=>h.bQ x hx⟩
theorem Ext.row {a b:IH} (h:Ext a b) {x:Nat} (hx:x % 2=1∨x<2*a.n):b.row x=a.row x:=by
 simp only[IH.row,h.base,cond_eq_ite,beq_iff_eq]
 by_cases h1:x % 2=1
 ·rw[if_pos h1,if_pos h1]
 ·rw[if_neg h1,if_neg h1,h.get _ (by omega)]
def ld (h:IH) (b o:Nat):Option Value:=(h.row b).bind (·[o]?)
theorem TX {h:IH} {b o:Nat} {cs:List Value} (hr:h.row b=some cs):ld h b o=cs[o]?:=by simp[ld,hr]
theorem dB {P:Program} {t:TypeId} (hT:bE P t=some false) (h:IH) (b o:Nat):load P h t (ptr b o)=ld h b o:=by
 simp only[load,asAddr,ptr,hT,IH.rd,ld]
 cases aJ P t <;>
 (cases hr:h.row b with
  | none=>rfl
  | some cs =>
   simp only[Option.bind_some,cond_eq_ite,Nat.ble_eq]
   by_cases hl:o+1≤cs.length
   ·rw[if_pos hl]
    simp only[Option.bind_some]
    rw[List.head?_take,if_neg (by omega),List.head?_drop]
   ·rw[if_neg hl,List.getElem?_eq_none (by omega)];rfl)
theorem fy {P:Program} {t:TypeId} {n:Nat} (hT:bE P t=some true) (hn:aJ P t=some n) (h:IH) (b o:Nat):load P h t (ptr b o)=(h.rd b o n).map fun cs=>.agg cs.toArray:=by
 simp only[load,asAddr,ptr,hT,hn]
@[simp] theorem Ao (b o:Nat):asAddr (ptr b o)=some (b,o):=rfl
theorem tY {h:IH} {b o n:Nat} {cs:List Value} (hr:h.row b=some cs):h.rd b o n=if o+n≤cs.length then some ((cs.drop o).take n) else none:=by
 simp[IH.rd,hr,cond_eq_ite]
@[simp] theorem Ck (k:IntKind) (n:Int):(Value.int k n).cells = #[.int k n]:=rfl
@[simp] theorem Ag (b:Bool):(Value.bool b).cells = #[.bool b]:=rfl
@[simp] theorem xg (a:Option Addr) (n c:Nat):(Value.slice a n c).cells = #[.slice a n c]:=rfl
@[simp] theorem Ci (b o:Nat):(ptr b o).cells = #[ptr b o]:=rfl
@[simp] theorem Cl (cs:Array Value):(Value.agg cs).cells=cs:=rfl
@[simp] theorem Af (f:Fn) (a b:Array Value):(Value.func f a b).cells = #[.func f a b]:=rfl
@[simp] theorem rU:(Value.nilFunc).cells = #[.nilFunc]:=rfl
@[simp] theorem Cj (r:Option Nat):(Value.map r).cells = #[.map r]:=rfl
@[simp] theorem uN:(Value.pointer none).cells = #[.pointer none]:=rfl
theorem Nu {P:Program} {f:FuncId} {fn:Func} {c:Code} {nt:Nat} {rs:List ResultVar} {first cap:Array Value} {vs:List Value} {h:IH} {K:Value→IH→Prop}
  (hf:P.funcs[f]?=some fn) (hb:fn.body=some c) (hn:fn.ntmps=nt) (hr:fn.results.toList=rs) (hl:(first.toList ++ (vs ++ cap.toList)).length≤nt)
  (w:wpC P f nt none c (dC 0 (first.toList ++ (vs ++ cap.toList))) h fun e fr h=>match e with
   | .exit _=>False
   | .normal=>Ex (bg P fr h rs) fun l=>K (single l) h
   | .ret=>Ex (bg P fr h rs) fun l=>K (single l) h):WV P (.func (.func f) first cap) vs h K:=by
 subst hn;subst hr
 obtain⟨⟨e,fr,h1⟩,⟨N,hN⟩,k⟩:=ft w
 have key : ∃l,bg P fr h1 fn.results.toList=some l∧K (single l) h1 ∧ ∀i,e≠.exit i:=by
  cases e with
  | exit i=>exact k.elim
  | normal=>obtain⟨l,a,b⟩:=k;exact⟨l,a,b,fun i hi=>by cases hi⟩
  | ret=>obtain⟨l,a,b⟩:=k;exact⟨l,a,b,fun i hi=>by cases hi⟩
 obtain⟨l,hl1,k,hne⟩:=key
 refine⟨(single l,h1),⟨N+1,fun n hn=>?_⟩,k⟩
 obtain⟨n,rfl⟩ : ∃m,n=m+1:=⟨n - 1,by omega⟩
 have h2:=hN n (by omega)
 simp only at h2
 have ti:Nat.ble (first.toList ++ (vs ++ cap.toList)).length fn.ntmps=true:=by simpa [Nat.ble_eq] using hl
 have hf':(E0 P).P.funcs[f]?=some fn:=hf
 simp only[cb,nk,show(E0 P).rE f=none from rfl,hf',hb,ti,cond_true,h2]
 cases e with
 | exit i=>exact absurd rfl (hne i)
 | normal=>simp[E0,hl1]
 | ret=>simp[E0,hl1]
@[simp] theorem rO (P:Program) (fr:Fr) (h:IH):bg P fr h []=some []:=rfl
@[simp] theorem qb (P:Program) (fr:Fr) (h:IH) (r:ResultVar) (l:List ResultVar):bg P fr h (r :: l)=(gE P fr h r).bind fun v=>(bg P fr h l).map (v :: ·):=by
 simp only[bg];cases gE P fr h r<;>cases bg P fr h l<;>rfl
@[simp] theorem tX (P:Program) (fr:Fr) (h:IH) (t:Tmp):gE P fr h (.tmp t)=ai fr t:=rfl
@[simp] theorem rP (P:Program) (fr:Fr) (h:IH) (a:Tmp) (t:TypeId):gE P fr h (.cell a t)=(ai fr a).bind fun v=>load P h t v:=by
 simp only[gE];cases ai fr a<;>rfl
theorem Ws {P:Program} {fn:FuncId} {nt:Nat} {rd:Option Nat} {b:Code} {Q:bh→Fr→IH→Prop} (I:Nat→Fr→IH→Prop)
  (step : ∀m fr h,I m fr h→wpC P fn nt rd b fr h fun e fr' h'=>match e with
   | .normal => ∃m',m'<m∧I m' fr' h'
   | .exit i=>Q (.exit i) fr' h'
   | .ret=>Q .ret fr' h') {fr:Fr} {h:IH} {m:Nat} (start:I m fr h) (hm:qv b=none):xm P fn nt rd b fr h Q:=by
 have key : ∀m fr h,I m fr h → ∃r:bh×Fr×IH,(∃N,∀n,N≤n → ∀j,m+1≤j→ma (evC (E0 P) (cb (E0 P) n) fn nt rd n b) j fr h=some r)∧Q r.1 r.2.1 r.2.2:=by
  intro m
  induction m using Nat.strongRecOn with
  | _ m ih =>
   intro fr h hi
   obtain⟨⟨e,fr1,h1⟩,⟨N,hN⟩,k⟩:=ft (step m fr h hi)
   cases e with
   | normal =>
    obtain⟨m',hm,hi'⟩:=k
    obtain⟨r,⟨M,hM⟩,q⟩:=ih m' hm fr1 h1 hi'
    refine⟨r,⟨max N M,fun n hn j hj=>?_⟩,q⟩
    obtain⟨j,rfl⟩ : ∃i,j=i+1:=⟨j - 1,by omega⟩
    have e1:=hN n (Nat.le_trans (Nat.le_max_left _ _) hn)
    simp only at e1
    rw[ma,e1]
    exact hM n (Nat.le_trans (Nat.le_max_right _ _) hn) j (by omega)
   | exit i =>
    refine⟨(.exit i,fr1,h1),⟨N,fun n hn j hj=>?_⟩,k⟩
    obtain⟨j,rfl⟩ : ∃i,j=i+1:=⟨j - 1,by omega⟩
    have e1:=hN n hn
    simp only at e1
    rw[ma,e1]
   | ret =>
    refine⟨(.ret,fr1,h1),⟨N,fun n hn j hj=>?_⟩,k⟩
    obtain⟨j,rfl⟩ : ∃i,j=i+1:=⟨j - 1,by omega⟩
    have e1:=hN n hn
    simp only at e1
    rw[ma,e1]
 obtain⟨r,⟨N,hN⟩,q⟩:=key m fr h start
 exact⟨r,⟨max N (m+1),fun n hn=>by
  have:=hN n (Nat.le_trans (Nat.le_max_left _ _) hn) n (Nat.le_trans (Nat.le_max_right _ _) hn)
  show evC (E0 P) (cb (E0 P) n) fn nt rd n (.loop b) fr h=some r
  rw[zX,hm];exact this⟩,q⟩
theorem wpOp_mono {P:Program} {o:Op} {fr:Fr} {h:IH} {K L:Value→IH→Prop} (k : ∀v h,K v h→L v h) (w:wpOp P o fr h K):wpOp P o fr h L:=by
 cases o
 case call c =>
  cases hc:c.callee<;>simp only[wpOp,hc] at w ⊢
  ·exact Ex.mono w fun _ w=>Ex.mono w fun _ w=>WV.mono w k
  ·exact Ex.mono w fun _ w=>Ex.mono w fun _ w=>k _ _ w
 case pick=>exact Ex.mono w fun _ w=>Ex.mono w fun _ w=>Ex.mono w fun _ w=>w.imp (fun x=>⟨x.1,k _ _ x.2⟩) fun x=>⟨x.1,k _ _ x.2⟩
 case extract =>
  refine Ex.mono w fun v w=>?_
  split at w
  ·exact Ex.mono w fun _ w=>k _ _ w
  ·exact w.elim
 case makeFunc f _ _ =>
  refine Ex.mono w fun v w=>Ex.mono w fun u w=>?_
  cases f
  ·exact k _ _ w
  all_goals exact w.elim
 case fieldAddr=>exact Ex.mono w fun _ w=>Ex.mono w fun _ w=>Ex.mono w fun _ w=>Ex.mono w fun _ w=>⟨w.1,k _ _ w.2⟩
 all_goals
  first
   | exact Ex.mono w fun _ w=>Ex.mono w fun _ w=>Ex.mono w fun _ w=>k _ _ w
   | exact Ex.mono w fun _ w=>Ex.mono w fun _ w=>k _ _ w
   | exact Ex.mono w fun _ w=>k _ _ w
theorem gu {nt:Nat} {fr:Fr} {d:Option Tmp} {v:Value} {K L:Fr→Prop} (k : ∀fr,K fr→L fr) (w:eE nt fr d v K):eE nt fr d v L:=by
 unfold eE at w ⊢
 split
 ·exact k _ w
 ·unfold Br at w ⊢;split<;>simp_all
theorem Br.mono {b:Bool} {p q p' q':Prop} (h1:p→p') (h2:q→q') (w:Br b p q):Br b p' q':=by cases b<;>simp_all
theorem jy {P:Program} {nt:Nat} {all:List Oper} {K L:Fr→IH→Prop} (k : ∀fr h,K fr h→L fr h) : ∀{l:List Oper} {fr:Fr} {h:IH},wpOps P nt all l fr h K→wpOps P nt all l fr h L
 | [],_,_,w=>k _ _ w
 | o :: l,fr,h,w=>by
  unfold wpOps at w ⊢
  split at w
  ·exact wpOp_mono (fun v h w=>gu (fun fr w=>jy k w) w) w
  ·refine Ex.mono w fun d w=>Ex.mono w fun b w=>?_
   split at w
   ·exact Br.mono (fun w=>wpOp_mono (fun v h w=>gu (fun fr w=>jy k w) w) w) (fun w=>gu (fun fr w=>jy k w) w) w
   ·exact gu (fun fr w=>jy k w) w
   ·exact w
theorem jd {P:Program} {nt:Nat} {all:List Oper} {K L:List (Fr×IH)→Prop} (k : ∀t,K t→L t) : ∀{l:List Oper} {fr:Fr} {h:IH} {tr:List (Fr×IH)},cJ P nt all l fr h tr K→cJ P nt all l fr h tr L
 | [],_,_,_,w=>k _ w
 | o :: l,fr,h,tr,w=>by
  unfold cJ at w ⊢
  split at w
  ·exact wpOp_mono (fun v h w=>gu (fun fr w=>jd k w) w) w
  ·refine Ex.mono w fun d w=>Ex.mono w fun b w=>?_
   split at w
   ·exact Br.mono (fun w=>wpOp_mono (fun v h w=>gu (fun fr w=>jd k w) w) w) (fun w=>gu (fun fr w=>jd k w) w) w
   ·exact gu (fun fr w=>jd k w) w
   ·exact w
theorem lE {P:Program} {fn:FuncId} {nt:Nat} {rd:Option Nat} : ∀{c:Code} {Q R:bh→Fr→IH→Prop} {fr:Fr} {h:IH},(∀e fr h,Q e fr h→R e fr h)→wpC P fn nt rd c fr h Q→wpC P fn nt rd c fr h R
 | .skip,_,_,_,_,k,w=>k _ _ _ w
 | .label _,_,_,_,_,k,w=>k _ _ _ w
 | .region _ _ draw,_,_,_,_,k,w=>by
  cases draw with
  | false=>exact jy (k _) w
  | true=>exact⟨fun hc=>jy (k _) (w.1 hc),fun hc=>⟨(w.2 hc).1,jd (fun t w=>⟨w.1,Ex.mono w.2 fun _ w=>k _ _ _ w⟩) (w.2 hc).2⟩⟩
 | .seq a b,Q,R,fr,h,k,w=>by
  refine lE (c:=a) (fun e fr h w=>?_) w
  cases e with
  | normal=>exact lE (c:=b) k w
  | exit i=>exact k _ _ _ w
  | ret=>exact k _ _ _ w
 | .cond c a b,Q,R,fr,h,k,w=>by
  refine Ex.mono w fun v w=>?_
  split at w
  ·exact Br.mono (fun w=>lE (c:=a) k w) (fun w=>lE (c:=b) k w) w
  ·exact w
 | .block id b,Q,R,fr,h,k,w=>by
  refine lE (c:=b) (fun e fr h w=>?_) w
  cases e with
  | normal=>exact k _ _ _ w
  | exit i=>exact Br.mono (k _ _ _) (k _ _ _) w
  | ret=>exact k _ _ _ w
 | .loop b,_,_,_,_,k,w=>Tm.mono w fun _ w=>k _ _ _ w
 | .scope b,_,_,_,_,k,w=>lE (c:=b) k w
 | .rangeFunc _ _ _ _,_,_,_,_,k,w=>Tm.mono w fun _ w=>k _ _ _ w
 | .exit _,_,_,_,_,k,w=>k _ _ _ w
 | .ret,_,_,_,_,k,w=>k _ _ _ w
 | .goto _,_,_,_,_,_,w=>w.elim
 | .refuse _,_,_,_,_,_,w=>w.elim
theorem wrap_i64 {x:Int} (h : -9223372036854775808≤x∧x≤9223372036854775807):IntKind.i64.wrap x=x:=IntWalk.i64_in x h
theorem tC {x:Int} (h:0≤x∧x≤18446744073709551615):IntKind.u64.wrap x=x:=IntWalk.u64_in x h
theorem wrap_u8 {x:Int} (h:0≤x∧x≤255):IntKind.u8.wrap x=x:=IntWalk.u8_in x h
theorem D7 {x:Int} (h:0≤x∧x≤65535):IntKind.u16.wrap x=x:=IntWalk.u16_in x h
theorem wrap_u32 {x:Int} (h:0≤x∧x≤4294967295):IntKind.u32.wrap x=x:=IntWalk.u32_in x h
end Go.Id

namespace Go.Id
open Go
def gK (P:Program) (t:TypeId):Option Nat:=match P.underlying t with
 | some (.slice e)=>aJ P e
 | _=>none
def GG (P:Program) (t:TypeId):Option (Nat×Nat):=match P.underlying t with
 | some (.array n e)=>(aJ P e).map (n,·)
 | _=>none
def kL (P:Program) (t:TypeId):Option (Nat×Nat):=match P.underlying t with
 | some (.slice e)=>match aJ P e,gM P e,aB P e with
  | some size,some bytes,some zs=>bif size == 0 || (!(Nat.ble bytes 65536) || !(zs.length == size)) then none else some (size,bytes)
  | _,_,_=>none
 | _=>none
def uo (P:Program) (t:TypeId):Option (Nat×Nat×List Value):=match P.underlying t with
 | some (.slice e)=>match aJ P e,gM P e,aB P e with
  | some n,some b,some z=>bif z.length == n then some (n,b,z) else none
  | _,_,_=>none
 | _=>none
def og (P:Program) (t:TypeId) (f:Nat):Option (Bool×Nat×Nat) :=
 (fl P t f).bind fun d=>(bE P d.type).bind fun b=>(aJ P d.type).map fun n=>(b,d.offset,n)
theorem zV (P:Program) (t:TypeId) (f:Nat) (cs:Array Value) :
  tk P t f (.agg cs)=(og P t f).bind fun p=>if p.1=true then some (.agg (cs.extract p.2.1 (p.2.1+p.2.2))) else cs[p.2.1]?:=by
 simp only[tk,og]
 cases fl P t f with
 | none=>rfl
 | some d =>
  simp only[Option.bind_some,partOf]
  cases ha:bE P d.type with
  | none=>rfl
  | some b =>
   cases hs:aJ P d.type with
   | none =>
    cases b with
    | true=>rfl
    | false => -- a size is there where the kind is
     exfalso
     simp only[bE,Program.underlying,Option.map_eq_some_iff] at ha
     simp only[aJ,Option.map_eq_none_iff] at hs
     obtain⟨x,h1,_⟩:=ha
     simp[hs] at h1
   | some n=>cases b<;>simp
def nW (i:Int) (n:Nat):Option Nat:=match i with
 | .ofNat j=>if j<n then some j else none
 | .negSucc _=>none
@[simp] theorem re {j n:Nat} (h:j<n):nW (j:Int) n=some j:=by
 show(if j<n then some j else none)=some j
 rw[if_pos h]
theorem iD (P:Program) (t:TypeId) (b o n c:Nat) (k:IntKind) (i:Int) :
  indexAddr P t (.slice (some ⟨b,o,none⟩) n c) (.int k i)=(gK P t).bind fun sz=>(nW i n).map fun j=>ptr b (o+j*sz):=by
 simp only[indexAddr,gK,idxOf]
 cases hu:P.underlying t with
 | none=>rfl
 | some d =>
  cases d<;>(try rfl)
  rename_i e
  simp only
  cases hs:aJ P e with
  | none=>rfl
  | some sz =>
   cases i with
   | ofNat j =>
    simp only[nW,Option.bind_some,cond_eq_ite,Nat.blt,Nat.ble_eq,Nat.succ_le_iff]
    by_cases hj:j<n
    ·rw[if_pos hj,if_pos hj];rfl
    ·rw[if_neg hj,if_neg hj];rfl
   | negSucc j=>rfl
theorem rS (P:Program) (t:TypeId) (b o:Nat) (k:IntKind) (i:Int) :
  indexAddr P t (ptr b o) (.int k i)=(GG P t).bind fun a=>(nW i a.1).map fun j=>ptr b (o+j*a.2):=by
 simp only[indexAddr,GG,idxOf,ptr]
 cases hu:P.underlying t with
 | none=>rfl
 | some d =>
  cases d<;>(try rfl)
  rename_i n e
  simp only
  cases hs:aJ P e with
  | none=>rfl
  | some sz =>
   cases i with
   | ofNat j =>
    simp only[nW,Option.bind_some,Option.map_some,cond_eq_ite,Nat.blt,Nat.ble_eq,Nat.succ_le_iff]
    by_cases hj:j<n
    ·rw[if_pos hj,if_pos hj];rfl
    ·rw[if_neg hj,if_neg hj];rfl
   | negSucc j=>rfl
theorem sZ {P:Program} {t:TypeId} (hT:cM P (some t)=true) (h:IH) (a:Option Addr) (n c:Nat):qo P h t (.slice a n c)=some (.int .i64 n):=by
 unfold cM at hT
 simp only at hT
 unfold qo
 split at hT
 ·rename_i hu;simp[hu]
 ·cases hT
@[simp] theorem builtin_len (P:Program) (h:IH) (ts:Array TypeId) (x:Value):builtin P h .len ts [x]=(ts[0]?).bind fun t=>(qo P h t x).map (·,h):=by
 simp only[builtin];cases ts[0]?<;>rfl
theorem builtin_append (P:Program) (h:IH) (s t:TypeId) (x y:Value) (hT:cM P (some t)=true):builtin P h .append #[s,t] [x,y]=append P h s x y:=by
 have e1:(#[s,t]:Array TypeId)[1]?=some t:=rfl
 have e0:(#[s,t]:Array TypeId)[0]?=some s:=rfl
 simp only[builtin,e1,e0,hT,cond_true]
theorem Hu {P:Program} {s:Sem Value} {v:Value} (h:az P s=some v) (hv:plain v=true):cE P s=some v:=by simp[cE,h,hv]
theorem iJ {P:Program} {t:TypeId} {d:TypeDesc} {α:Type} (hd:P.underlying t=some d) (f:TypeDesc→Sem α):az P ((underlying t).bind f)=az P (f d):=by
 have e:az P ((underlying t).bind f)=az P ((match P.underlying t with|some d=>(pure d:Sem TypeDesc)|none=>stuck "no such type").bind f):=rfl
 rw[e,hd]
 rfl
theorem jN {P:Program} {s d:TypeId} {k k':IntKind} {n:Int} (hs:(P.underlying s).isSome=true) (hd:P.underlying d=some (.int k')):mU P s d (.int k n)=some (.int k' (k'.wrap n)):=by
 obtain⟨ds,hs⟩:=Option.isSome_iff_exists.1 hs
 refine Hu ?_ rfl
 unfold Go.convert
 show az P (Sem.bind _ _)=_
 rw[iJ hs]
 show az P (Sem.bind _ _)=_
 rw[iJ hd]
 cases ds<;>rfl
theorem KW {k:IntKind} (a b:Nat) (ha:a<2 ^ k.bits) (hb:b<2 ^ k.bits):(BitVec.ofInt k.bits (a:Int) &&& BitVec.ofInt k.bits (b:Int)).toNat=a &&& b:=by
 simp[BitVec.toNat_and,Nat.mod_eq_of_lt ha,Nat.mod_eq_of_lt hb]
section
variable (P:Program) (t:TypeId) (ox oy:Operand)
theorem vm {op:BinOp} {k:IntKind} {x y:Int} {v:Value} (hv:plain v=true) (hr:az P (do eqGuard op t ox oy (.int k x) (.int k y);Go.binOp op t (.int k x) (.int k y))=some v):binop P op t ox oy (.int k x) (.int k y)=some v :=
 dE P t ox oy rfl rfl hv hr
theorem jZ (k:IntKind) (a b:Int):binop P .and t ox oy (.int k a) (.int k b)=some (.int k (k.wrap (BitVec.ofInt k.bits a &&& BitVec.ofInt k.bits b).toNat)) :=
 vm P t ox oy rfl (by simp[eqGuard,Go.binOp,Op.intBits];rfl)
theorem pj (k:IntKind) (a b:Int):binop P .or t ox oy (.int k a) (.int k b)=some (.int k (k.wrap (BitVec.ofInt k.bits a ||| BitVec.ofInt k.bits b).toNat)) :=
 vm P t ox oy rfl (by simp[eqGuard,Go.binOp,Op.intBits];rfl)
theorem rX (k:IntKind) (a b:Int):binop P .xor t ox oy (.int k a) (.int k b)=some (.int k (k.wrap (BitVec.ofInt k.bits a ^^^ BitVec.ofInt k.bits b).toNat)) :=
 vm P t ox oy rfl (by simp[eqGuard,Go.binOp,Op.intBits];rfl)
theorem wg (k:IntKind) (a b:Int):binop P .andNot t ox oy (.int k a) (.int k b)=some (.int k (k.wrap (BitVec.ofInt k.bits a &&& ~~~BitVec.ofInt k.bits b).toNat)) :=
 vm P t ox oy rfl (by simp[eqGuard,Go.binOp,Op.intBits];rfl)
theorem di {n:Nat} (h:n<2 ^ 64):IntKind.u64.wrap (n:Int)=n:=tC (by omega)
theorem kN {n:Nat} (h:n<2 ^ 63):IntKind.i64.wrap (n:Int)=n:=wrap_i64 (by omega)
theorem II {a b c:Nat} (h:a<c):a &&& b<c:=Nat.lt_of_le_of_lt Nat.and_le_left h
theorem O8 {a b n:Nat} (ha:a<2 ^ n) (hb:b<2 ^ n):a ||| b<2 ^ n:=Nat.or_lt_two_pow ha hb
theorem rZ (a b:Nat) (ha:a<18446744073709551616) (hb:b<18446744073709551616):binop P .and t ox oy (.int .u64 a) (.int .u64 b)=some (.int .u64 ((a &&& b:Nat):Int)):=by
 rw[jZ,KW (k:=.u64) a b ha hb,di (II ha)]
theorem uQ (a b:Nat) (ha:a<18446744073709551616) (hb:b<18446744073709551616):binop P .or t ox oy (.int .u64 a) (.int .u64 b)=some (.int .u64 ((a ||| b:Nat):Int)):=by
 have e:(BitVec.ofInt 64 (a:Int) ||| BitVec.ofInt 64 (b:Int)).toNat=a ||| b:=by simp[Nat.mod_eq_of_lt ha,Nat.mod_eq_of_lt hb]
 rw[pj,show(BitVec.ofInt IntKind.u64.bits (a:Int) ||| BitVec.ofInt IntKind.u64.bits (b:Int)).toNat=a ||| b from e,di (O8 (n:=64) ha hb)]
def Ms (a b:Nat):Nat:=a ^^^ (a &&& b)
theorem CK (a b i:Nat):(Ms a b).testBit i=(a.testBit i && !b.testBit i):=by
 simp only[Ms,Nat.testBit_xor,Nat.testBit_and]
 cases a.testBit i<;>cases b.testBit i<;>rfl
theorem Sh {a b n:Nat} (h:a<2 ^ n):Ms a b<2 ^ n:=Nat.xor_lt_two_pow h (Nat.lt_of_le_of_lt Nat.and_le_left h)
theorem vY {k j:IntKind} {a b:Int} (hb:0≤b):binop P .shr t ox oy (.int k a) (.int j b)=some (.int k (a.fdiv (2 ^ (min b.toNat k.bits)))):=by
 refine dE P t ox oy rfl rfl rfl ?_
 simp[eqGuard,Go.binOp,Op.shift,Int.not_lt.2 hb];rfl
theorem ov {k j:IntKind} {a b:Int} (hb:0≤b):binop P .shl t ox oy (.int k a) (.int j b)=some (.int k (k.wrap (a*2 ^ (min b.toNat k.bits)))):=by
 refine dE P t ox oy rfl rfl rfl ?_
 simp[eqGuard,Go.binOp,Op.shift,Int.not_lt.2 hb];rfl
theorem rp {k:IntKind} {a b:Int} (hb:b≠0):binop P .quo t ox oy (.int k a) (.int k b)=some (.int k (k.wrap (a.tdiv b))):=by
 refine vm P t ox oy rfl ?_
 simp[eqGuard,Go.binOp,Op.intDiv,hb];rfl
theorem rk {k:IntKind} {a b:Int} (hb:b≠0):binop P .rem t ox oy (.int k a) (.int k b)=some (.int k (a.tmod b)):=by
 refine vm P t ox oy rfl ?_
 simp[eqGuard,Go.binOp,Op.intDiv,hb];rfl
end
theorem vb (P:Program) (b:Bool):(bif plain (.bool b) then cE P (Op.unary .not (.bool b)) else none)=some (.bool (!b)):=rfl
theorem Ba (P:Program) (k:IntKind) (n:Int):(bif plain (.int k n) then cE P (Op.unary .neg (.int k n)) else none)=some (.int k (k.wrap (-n))):=by
 show some (Value.int k (k.wrap (0 - n)))=_
 rw[Int.zero_sub]
end Go.Id

namespace Go.Id
open Go
structure aN (h h':IH):Prop where
 n:h.n≤h'.n
 base:h'.base=h.base
 get : ∀k c e f,k<h.n→h.ext.get k=some (.cells c e f)→e≠0 → ∃f',h'.ext.get k=some (.cells c e f')
structure Grow (h h':IH):Prop where
 n:h.n≤h'.n
 base:h'.base=h.base
 get : ∀k,k<h.n→h'.ext.get k=h.ext.get k ∨ ∃c e f f',e≠0∧h.ext.get k=some (.cells c e f)∧h'.ext.get k=some (.cells c e f')
theorem Ext.grow {h h':IH} (e:Ext h h'):Grow h h':=⟨e.n,e.base,fun k hk=>.inl (e.get k hk)⟩
theorem Grow.ae {h h':IH} (g:Grow h h'):aN h h':=⟨g.n,g.base,fun k c e f hk hg he=>by
 rcases g.get k hk with h1|⟨c1,e1,f1,f2,h0,h1,h2⟩
 ·exact⟨f,by rw[h1,hg]⟩
 ·rw[hg] at h1;cases h1;exact⟨f2,h2⟩⟩
theorem Ext.ae {h h':IH} (e:Ext h h'):aN h h':=e.grow.ae
theorem aN.refl (h:IH):aN h h:=(Ext.refl h).ae
theorem aN.trans {a b c:IH} (x:aN a b) (y:aN b c):aN a c:=⟨Nat.le_trans x.n y.n,y.base.trans x.base,fun k cs e f hk hg he=>by
 obtain⟨f1,h1⟩:=x.get k cs e f hk hg he
 exact y.get k cs e f1 (Nat.lt_of_lt_of_le hk x.n) h1 he⟩
theorem Grow.refl (h:IH):Grow h h:=(Ext.refl h).grow
theorem Grow.trans {a b c:IH} (x:Grow a b) (y:Grow b c):Grow a c:=⟨Nat.le_trans x.n y.n,y.base.trans x.base,fun k hk=>by
 have hk2:=Nat.lt_of_lt_of_le hk x.n
 rcases x.get k hk with h1|⟨c1,e1,f1,f2,h0,h1,h2⟩
 ·rcases y.get k hk2 with h3|⟨c3,e3,f3,f4,h5,h6,h7⟩
  ·exact .inl (h3.trans h1)
  ·exact .inr ⟨c3,e3,f3,f4,h5,by rw[←h1];exact h6,h7⟩
 ·rcases y.get k hk2 with h3|⟨c3,e3,f3,f4,h5,h6,h7⟩
  ·exact .inr ⟨c1,e1,f1,f2,h0,h1,by rw[h3,h2]⟩
  ·rw[h2] at h6;cases h6;exact .inr ⟨c1,e1,f1,f4,h0,h1,h7⟩⟩
theorem Grow.new {a b:IH} (g:Grow a b) (o:bR):Grow a (b.new o):=g.trans ((Ext.refl b).new o).grow
theorem aN.new {a b:IH} (g:aN a b) (o:bR):aN a (b.new o):=g.trans ((Ext.refl b).new o).ae
theorem aN.put {a b:IH} (g:aN a b) {k:Nat} {cs:List Value} {f:Option Nat} (hk:b.ext.get k=some (.cells cs 0 f)) (o:bR):aN a (b.put k o):=⟨g.n,g.base,fun j c e f1 hj hg he=>by
 obtain⟨f2,h2⟩:=g.get j c e f1 hj hg he
 refine⟨f2,?_⟩
 rw[mS,if_neg]
 ·exact h2
 ·rintro rfl;rw[hk] at h2;cases h2;exact he rfl⟩
theorem Grow.box {a b:IH} (g:Grow a b) {k:Nat} (hk:k<a.n) {o:bR} (ho:a.ext.get k=some o) (hne : ∀c e f,o=.cells c e f→e=0):b.ext.get k=some o:=by
 rcases g.get k hk with h1|⟨c1,e1,f1,f2,h0,h1,h2⟩
 ·rw[h1,ho]
 ·rw[ho] at h1;cases h1;exact absurd (hne _ _ _ rfl) h0
theorem Grow.var {a b:IH} (g:Grow a b) {k:Nat} (hk:k<a.n) {cs:List Value} {f:Option Nat} (ho:a.ext.get k=some (.cells cs 0 f)):b.ext.get k=some (.cells cs 0 f):=g.box hk ho fun c e f h=>by cases h;rfl
theorem aN.row {a b:IH} (g:aN a b) {x:Nat} {row:List Value} (hx:x % 2=1∨(x<2*a.n ∧ ∃e f,e≠0∧a.ext.get (x / 2)=some (.cells row e f))) (hr:a.row x=some row):b.row x=some row:=by
 rcases hx with hx|⟨hx,e,f,he,hg⟩
 ·rw[←hr];simp[IH.row,hx,g.base]
 ·obtain⟨f',h2⟩:=g.get (x / 2) row e f (by omega) hg he
  simp only[IH.row,cond_eq_ite,beq_iff_eq] at hr ⊢
  split
  ·rename_i h1;rw[if_pos h1] at hr;rw[g.base];exact hr
  ·rw[h2]
def bI (h:IH) (sz:Nat) (v:Value) (n:Nat) (cs:List Value):Prop :=
 0<sz∧cs.length=n*sz∧((v=.slice none 0 0∧n=0) ∨ ∃b o k,v=.slice (some ⟨b,o,none⟩) n k∧((n=0∧k=0) ∨
  (0<k∧n≤k / 2 ∧ ∃row,((b % 2=1∧k % 2=1)∨(b % 2=0∧b<2*h.n ∧ ∃f,h.ext.get (b / 2)=some (.cells row sz f)))∧h.row b=some row∧(row.drop o).take (n*sz)=cs∧o+n*sz≤row.length)))
def aO (v:Value) (c:Nat):Value:=match v with
 | .slice (some ⟨b,o,none⟩) _ _=>ptr b (o+c)
 | _=>undef
theorem bI.ae {h h':IH} {sz:Nat} {v:Value} {n:Nat} {cs:List Value} (s:bI h sz v n cs) (e:aN h h'):bI h' sz v n cs:=by
 obtain⟨hz,hl,s|⟨b,o,k,rfl,s⟩⟩:=s
 ·exact⟨hz,hl,.inl s⟩
 ·refine⟨hz,hl,.inr ⟨b,o,k,rfl,s.imp id fun⟨a1,a2,row,a3,h1,h2,h3⟩=>?_⟩⟩
  rcases a3 with a3|⟨a4,a5,f,a6⟩
  ·exact⟨a1,a2,row,.inl a3,e.row (.inl a3.1) h1,h2,h3⟩
  ·obtain⟨f',h4⟩:=e.get (b / 2) row sz f (by omega) a6 (by omega)
   exact⟨a1,a2,row,.inr ⟨a4,by have:=e.n;omega,f',h4⟩,e.row (.inr ⟨a5,sz,f,by omega,a6⟩) h1,h2,h3⟩
theorem bI.ext {h h':IH} {sz:Nat} {v:Value} {n:Nat} {cs:List Value} (s:bI h sz v n cs) (e:Ext h h'):bI h' sz v n cs:=s.ae e.ae
theorem bI.nil (h:IH) {sz:Nat} (hz:0<sz):bI h sz (.slice none 0 0) 0 []:=⟨hz,by simp,.inl ⟨rfl,rfl⟩⟩
theorem bI.form {h:IH} {sz:Nat} {v:Value} {n:Nat} {cs:List Value} (s:bI h sz v n cs) : ∃a k,v=.slice a n k:=by
 obtain⟨hz,hl,⟨rfl,rfl⟩|⟨b,o,k,rfl,s⟩⟩:=s
 ·exact⟨_,_,rfl⟩
 ·exact⟨_,_,rfl⟩
theorem bI.len {h:IH} {sz:Nat} {v:Value} {n:Nat} {cs:List Value} (s:bI h sz v n cs) {P:Program} {t:TypeId} (hT:cM P (some t)=true) (h':IH):qo P h' t v=some (.int .i64 n):=by
 obtain⟨a,k,rfl⟩:=s.form
 exact sZ hT _ _ _ _
theorem bI.cells {h:IH} {sz:Nat} {v:Value} {n:Nat} {cs:List Value} (s:bI h sz v n cs):v.cells = #[v]:=by
 obtain⟨a,k,rfl⟩:=s.form;rfl
theorem bI.cok {h:IH} {sz:Nat} {v:Value} {n:Nat} {cs:List Value} (s:bI h sz v n cs):aH v=true:=by
 obtain⟨a,k,rfl⟩:=s.form;rfl
theorem bI.idx {h:IH} {sz:Nat} {v:Value} {n:Nat} {cs:List Value} (s:bI h sz v n cs) {P:Program} {t:TypeId} (hT:gK P t=some sz) {k:IntKind} {j:Nat} (hj:j<n):indexAddr P t v (.int k j)=some (aO v (j*sz)):=by
 obtain⟨hz,hl,⟨rfl,rfl⟩|⟨b,o,k,rfl,s⟩⟩:=s
 ·omega
 ·rw[iD,hT];simp[aO,re hj]
theorem bI.W0 {h:IH} {sz:Nat} {v:Value} {n:Nat} {cs:List Value} (s:bI h sz v n cs) {P:Program} {t:TypeId} (hT:gK P t=some sz) {k:IntKind} {i:Int} (h0:0≤i) (hj:i<n):indexAddr P t v (.int k i)=some (aO v (i.toNat*sz)):=by
 obtain⟨j,rfl⟩:=Int.eq_ofNat_of_zero_le h0
 exact s.idx hT (by omega)
theorem bI.ld {h h':IH} {sz:Nat} {v:Value} {n:Nat} {cs:List Value} (s:bI h sz v n cs) (e:aN h h') {c:Nat} (hc:c<cs.length) {P:Program} {t:TypeId} (hT:bE P t=some false):load P h' t (aO v c)=cs[c]?:=by
 obtain⟨hz,hl,⟨rfl,rfl⟩|⟨b,o,k,rfl,s'⟩⟩:=s.ae e
 ·simp at hl;simp[hl] at hc
 ·obtain⟨rfl,_⟩|⟨a1,a2,row,a3,h1,h2,h3⟩:=s'
  ·simp at hl;simp[hl] at hc
  ·rw[aO,dB hT,TX h1,←h2,List.getElem?_take]
   rw[if_pos (by omega),List.getElem?_drop]
theorem bI.JY {h h':IH} {sz:Nat} {v:Value} {n:Nat} {cs:List Value} (s:bI h sz v n cs) (e:aN h h') {c m:Nat} (hc:c+m≤cs.length) (hm:0<m) {P:Program} {t:TypeId} (hT:bE P t=some true) (hS:aJ P t=some m) :
  load P h' t (aO v c)=some (.agg ((cs.drop c).take m).toArray):=by
 obtain⟨hz,hl,⟨rfl,rfl⟩|⟨b,o,k,rfl,s'⟩⟩:=s.ae e
 ·simp at hl;simp[hl] at hc;omega
 ·obtain⟨rfl,_⟩|⟨a1,a2,row,a3,h1,h2,h3⟩:=s'
  ·simp at hl;simp[hl] at hc;omega
  ·rw[aO,fy hT hS,tY h1,if_pos (by omega),←h2]
   simp only[Option.map_some,List.drop_take,List.take_take,List.drop_drop]
   rw[Nat.min_eq_left (by omega)]
theorem bI.slice {h h':IH} {sz:Nat} {v:Value} {n:Nat} {cs:List Value} (s:bI h sz v n cs) (kp:aN h h') {P:Program} {t:TypeId} {e:TypeId} (hu:P.underlying t=some (.slice e)) (hT:aJ P e=some sz) {l m:Nat} (hl:l≤m) (hm:m≤n) {lo hi:Option Value} (hlo:FO lo m=some l) (hhi : ∀c,n≤c→PS hi n c=some m) :
  ∃v',cy P h' t v lo hi none=some v'∧bI h sz v' (m - l) ((cs.drop (l*sz)).take ((m - l)*sz)):=by
 obtain⟨hz,hlen,⟨rfl,rfl⟩|⟨b,o,k,rfl,s⟩⟩:=s
 ·obtain rfl:m=0:=by omega
  obtain rfl:l=0:=by omega
  refine⟨.slice none 0 0,?_,hz,by simp,.inl ⟨rfl,rfl⟩⟩
  have:=hhi 0 (Nat.le_refl _)
  simp[cy,hu,hT,du,fB,this,hlo]
 ·obtain⟨rfl,rfl⟩|⟨a1,a2,row,a3,h1,h2,h3⟩:=s
  ·obtain rfl:m=0:=by omega
   obtain rfl:l=0:=by omega
   have:=hhi 0 (Nat.le_refl _)
   refine⟨.slice (some ⟨b,o,none⟩) 0 0,?_,hz,by simp,.inr ⟨b,o,0,rfl,.inl ⟨rfl,rfl⟩⟩⟩
   simp[cy,hu,hT,du,fB,this,hlo]
  ·have hh:=hhi (k / 2) a2
   have hk0:(k == 0)=false:=by simp;omega
   have BU:(k % 2 == 1 || roomy h' sz (.slice (some ⟨b,o,none⟩) n k))=true:=by
    rcases a3 with a3|⟨a4,a5,f,a6⟩
    ·simp[a3.2]
    ·obtain⟨f',h4⟩:=kp.get (b / 2) row sz f (by omega) a6 (by omega)
     simp[roomy,a4,h4]
   by_cases hlk:l=k / 2
   ·have hml:m=l:=by omega
    subst hml
    have SG:(m == k / 2)=true:=by simpa using hlk
    rcases Nat.mod_two_eq_zero_or_one k with hk|hk
    ·refine⟨.slice (some ⟨b,o,none⟩) 0 0,?_,hz,by simp,.inr ⟨b,o,0,by simp,.inl ⟨by omega,rfl⟩⟩⟩
     have hk':(k % 2 == 1)=false:=by simp[hk]
     simp only[cy,hu,hT,du,fB,hh,hlo,hk0,SG,hk',cond_true,cond_false]
    ·refine⟨.slice (some ⟨b,o,none⟩) 0 1,?_,hz,by simp,.inr ⟨b,o,1,by simp,.inr ⟨by omega,by omega,row,a3.imp (fun x=>⟨x.1,rfl⟩) id,h1,by simp,by simp;omega⟩⟩⟩
     have hk':(k % 2 == 1)=true:=by simp[hk]
     simp only[cy,hu,hT,du,fB,hh,hlo,hk0,SG,hk',cond_true,cond_false]
   ·have SG:(l == k / 2)=false:=by simpa using hlk
    have hls:l*sz+(m - l)*sz=m*sz:=by rw[←Nat.add_mul];congr 1;omega
    have hmn:m*sz≤n*sz:=Nat.mul_le_mul_right _ hm
    refine⟨.slice (some ⟨b,o+l*sz,none⟩) (m - l) (k - 2*l),?_,hz,?_,.inr ⟨b,o+l*sz,k - 2*l,rfl,.inr ⟨by omega,by omega,row,?_,h1,?_,by omega⟩⟩⟩
    ·simp only[cy,hu,hT,du,fB,hh,hlo,hk0,SG,BU,cond_true,cond_false]
    ·rw[List.length_take,List.length_drop];omega
    ·rcases a3 with a3|a3
     ·exact .inl ⟨a3.1,by omega⟩
     ·exact .inr a3
    ·rw[←h2,List.drop_take,List.take_take,List.drop_drop,Nat.min_eq_left (by omega)]
theorem iY {k:IntKind} {l m:Nat} (h:l≤m):iq (.int k (l:Int)) m=some l:=by
 show(bif Nat.ble l m then some l else none)=_
 rw[show Nat.ble l m=true from by rw[Nat.ble_eq];exact h];rfl
@[simp] theorem Un {h:IH} {sz:Nat} {v:Value} {n:Nat} {cs:List Value} (s:bI h sz v n cs) {c:Nat} (hc:c<cs.length) : ∃b o,aO v c=ptr b (o+c) ∧ ∀d,aO v d=ptr b (o+d):=by
 obtain⟨hz,hl,⟨rfl,rfl⟩|⟨b,o,k,rfl,s⟩⟩:=s
 ·simp at hl;simp[hl] at hc
 ·exact⟨b,o,rfl,fun _=>rfl⟩
def Rn (h:IH) (n0 k:Nat):Option Nat→Prop
 | none=>True
 | some f=>n0≤f∧f<h.n ∧ ∃rest,h.bQ.get f=some (k :: rest) ∧ ∀j∈rest,n0≤j∧j<h.n
def Acc (h:IH) (n0 sz:Nat) (v:Value) (n:Nat) (cs:List Value):Prop :=
 0<sz∧cs.length=n*sz∧((v=.slice none 0 0∧n=0) ∨ ∃k fam,v=.slice (some ⟨2*k,0,none⟩) n (2*n)∧0<n∧n0≤k∧k<h.n∧h.ext.get k=some (.cells cs sz fam)∧Rn h n0 k fam)
theorem Acc.nil (h:IH) (n0:Nat) {sz:Nat} (hz:0<sz):Acc h n0 sz (.slice none 0 0) 0 []:=⟨hz,by simp,.inl ⟨rfl,rfl⟩⟩
theorem Acc.sl {h:IH} {n0 sz:Nat} {v:Value} {n:Nat} {cs:List Value} (a:Acc h n0 sz v n cs):bI h sz v n cs:=by
 obtain⟨hz,hl,a|⟨k,fam,rfl,hn,h1,h2,h3,h4⟩⟩:=a
 ·exact⟨hz,hl,.inl a⟩
 ·refine⟨hz,hl,.inr ⟨2*k,0,2*n,rfl,.inr ⟨by omega,by omega,cs,.inr ⟨by omega,by omega,fam,?_⟩,?_,?_,by omega⟩⟩⟩
  ·rw[show 2*k / 2=k from by omega,h3]
  ·rw[ji];simp[IH.cells,h3]
  ·rw[List.drop_zero,List.take_of_length_le (by omega)]
theorem Acc.ext {h h':IH} {n0 sz:Nat} {v:Value} {n:Nat} {cs:List Value} (a:Acc h n0 sz v n cs) (e:Ext h h'):Acc h' n0 sz v n cs:=by
 obtain⟨hz,hl,a|⟨k,fam,rfl,hn,h1,h2,h3,h4⟩⟩:=a
 ·exact⟨hz,hl,.inl a⟩
 ·refine⟨hz,hl,.inr ⟨k,fam,rfl,hn,h1,by have:=e.n;omega,by rw[e.get k h2];exact h3,?_⟩⟩
  cases fam with
  | none=>trivial
  | some f =>
   obtain⟨a1,a2,rest,a3,a4⟩:=h4
   exact⟨a1,by have:=e.n;omega,rest,by rw[e.bQ f a2];exact a3,fun j hj=>⟨(a4 j hj).1,Nat.lt_of_lt_of_le (a4 j hj).2 e.n⟩⟩
theorem Acc.put {h:IH} {n0 sz:Nat} {v:Value} {n:Nat} {cs:List Value} (a:Acc h n0 sz v n cs) {k:Nat} {c:List Value} {f:Option Nat} (hk:h.ext.get k=some (.cells c 0 f)) (o:bR):Acc (h.put k o) n0 sz v n cs:=by
 obtain⟨hz,hl,a|⟨j,fam,rfl,hn,h1,h2,h3,h4⟩⟩:=a
 ·exact⟨hz,hl,.inl a⟩
 ·refine⟨hz,hl,.inr ⟨j,fam,rfl,hn,h1,h2,?_,?_⟩⟩
  ·rw[mS,if_neg]
   ·exact h3
   ·rintro rfl;rw[hk] at h3;cases h3;omega
  ·cases fam with
   | none=>trivial
   | some f=>exact h4
theorem Acc.app {h:IH} {n0 sz:Nat} {v:Value} {n:Nat} {cs:List Value} (a:Acc h n0 sz v n cs) {P:Program} {t:TypeId} {bytes:Nat} (hT:kL P t=some (sz,bytes)) {x:Value} {m:Nat} {new:List Value} (sx:bI h sz x m new) (hm:0<m)
  (hc:new.all aH=true) (hsz:(n+m)*(bytes+1)≤aI) (h0:n0≤h.n) {h0':IH} (e0:Ext h0' h) (hn0:h0'.n≤n0) :
  ∃v' h',append P h t v x=some (v',h')∧Acc h' n0 sz v' (n+m) (cs ++ new)∧Grow h h'∧h'.n=h.n+1∧Ext h0' h':=by
 unfold kL at hT
 split at hT
 case h_2=>cases hT
 rename_i e hu
 split at hT
 case h_2=>cases hT
 rename_i zs h1 h2 h3
 simp only[cond_eq_ite] at hT
 split at hT
 case isTrue=>cases hT
 rename_i Dx
 cases hT
 have mh:(sz == 0 || (!(Nat.ble bytes 65536) || !(zs.length == sz)))=false:=by simpa using Dx
 have PI:0<sz:=by
  simp at mh;omega
 obtain⟨_,hln,hx⟩:=sx
 have vI:(m == 0)=false:=by simp;omega
 have hx' : ∃b o k row,x=.slice (some ⟨b,o,none⟩) m k∧h.row b=some row∧(row.drop o).take (m*sz)=new∧o+m*sz≤row.length:=by
  rcases hx with⟨rfl,rfl⟩|⟨b,o,k,rfl,⟨rfl,_⟩|⟨_,_,row,_,a1,a2,a3⟩⟩
  ·omega
  ·omega
  ·exact⟨b,o,k,row,rfl,a1,a2,a3⟩
 obtain⟨b,o,k,row,rfl,a1,a2,a3⟩:=hx'
 have hms : ¬m*sz=0:=by
  have:0<m*sz:=Nat.mul_pos hm PI
  omega
 have jJ:bN h sz m (.slice (some ⟨b,o,none⟩) m k)=some new:=by
  simp only[bN,cond_eq_ite,Nat.ble_eq,Nat.le_refl,if_true,beq_iff_eq,if_neg hms]
  rw[tY a1,if_pos a3,a2]
 have ti:Nat.ble ((n+m)*(bytes+1)) aI=true:=by rw[Nat.ble_eq];exact hsz
 obtain⟨hz,hl,⟨rfl,rfl⟩|⟨kk,fam,rfl,hn,g1,g2,g3,g4⟩⟩:=a
 ·-- from nothing
  have hcs:cs = []:=List.length_eq_zero_iff.1 (by omega)
  subst hcs
  refine⟨.slice (some ⟨2*h.n,0,none⟩) m (2*m),h.new (.cells new sz none),?_,⟨hz,by simp;exact hln,.inr ⟨h.n,none,by simp,by omega,h0,by simp,by simp[kV],trivial⟩⟩,(Grow.refl h).new _,rfl,e0.new _⟩
  have PV:Nat.ble (m*(bytes+1)) aI=true:=by simpa using ti
  simp only[Id.append,hu,h1,h2,h3,lenOf,vI,mh,jJ,hc,PV,cond_true,cond_false,Bool.not_true,BEq.rfl,Bool.and_self]
 ·have mB:Nat.ble (n+m) (2*n / 2)=false:=by
   rw[Bool.eq_false_iff];intro hh;rw[Nat.ble_eq] at hh;omega
  have mA:(2*n % 2 == 1)=false:=by simp
  have hlen:(n == 2*n / 2 && Nat.blt 0 n && (2*kk) % 2 == 0)=true:=by
   have:2*n / 2=n:=by omega
   simp[this,Nat.blt,Nat.ble_eq];omega
  have rF:(0+n*sz == cs.length && sz == sz)=true:=by simp[hl]
  have hk2:2*kk / 2=kk:=by omega
  have body : ∀f below,(∀j∈below,n0≤j∧j<h.n)→(n0≤f)→f<h.n+1 →
    Acc (grown h kk f cs sz [] below (cs.drop 0 ++ new) sz) n0 sz (.slice (some ⟨2*h.n,0,none⟩) (n+m) (2*(n+m))) (n+m) (cs ++ new) ∧
    Grow h (grown h kk f cs sz [] below (cs.drop 0 ++ new) sz)∧Ext h0' (grown h kk f cs sz [] below (cs.drop 0 ++ new) sz):=by
   intro f below hbl hf1 hf2
   have cq : ∀j,(grown h kk f cs sz [] below (cs.drop 0 ++ new) sz).ext.get j=if j=h.n then some (.cells (cs ++ new) sz (some f)) else if j=kk then some (.cells cs sz (some f)) else h.ext.get j:=by
    intro j
    simp[grown,IH.cU,Tr.bA]
   refine⟨⟨hz,by simp[hl,hln,Nat.add_mul],.inr ⟨h.n,some f,rfl,by omega,h0,by simp[grown],by rw[cq,if_pos rfl],hf1,by simp[grown];omega,kk :: below,?_,fun j hj=>by rcases List.mem_cons.1 hj with rfl|hj;exact⟨g1,by simp[grown];omega⟩;exact⟨(hbl j hj).1,by have:=(hbl j hj).2;simp[grown];omega⟩⟩⟩,⟨by simp[grown],rfl,fun j hj=>?_⟩,?_⟩
   ·simp[grown,Tr.bA]
   ·rw[cq,if_neg (by omega)]
    by_cases hjk:j=kk
    ·subst hjk
     exact .inr ⟨cs,sz,fam,some f,by omega,g3,by rw[if_pos rfl]⟩
    ·rw[if_neg hjk];exact .inl rfl
   ·refine⟨by have:=e0.n;simp[grown];omega,e0.base,fun j hj=>?_,fun g hg=>?_⟩
    ·rw[cq,if_neg (by omega),if_neg (by omega)];exact e0.get j hj
    ·simp only[grown,Tr.bA]
     rw[if_neg (by omega)];exact e0.bQ g hg
  cases fam with
  | none =>
   obtain⟨b1,b2,b3⟩:=body h.n [] (fun _ h=>by cases h) h0 (by omega)
   refine⟨_,_,?_,b1,b2,rfl,b3⟩
   simp only[Id.append,hu,h1,h2,h3,lenOf,vI,mh,jJ,hc,ti,mB,mA,hlen,hk2,g3,rF,cond_true,cond_false,Bool.not_true]
  | some f =>
   obtain⟨f1,f2,rest,f3,f4⟩:=g4
   obtain⟨b1,b2,b3⟩:=body f rest f4 f1 (by omega)
   refine⟨_,_,?_,b1,b2,rfl,b3⟩
   have t1:(kk :: rest).takeWhile (· != kk) = []:=by simp
   have t2:((kk :: rest).dropWhile (· != kk)).drop 1=rest:=by simp
   simp only[Id.append,hu,h1,h2,h3,lenOf,vI,mh,jJ,hc,ti,mB,mA,hlen,hk2,g3,rF,f3,t1,t2,cond_true,cond_false,Bool.not_true]
end Go.Id
