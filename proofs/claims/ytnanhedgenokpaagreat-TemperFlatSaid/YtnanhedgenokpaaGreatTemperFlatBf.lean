/-
  Contracts: Go's package slices, for numbers. Contracts: share's operations on two shares.
-/
import Derived.Test.YtnanhedgenokpaaGreatTemperFlatAt
import Derived.Test.YtnanhedgenokpaaGreatTemperFlatAu
import Derived.Test.YtnanhedgenokpaaGreatTemperFlatBe
import Derived.Test.YtnanhedgenokpaaGreatTemperFlatAn
import Derived.Test.YtnanhedgenokpaaGreatTemperFlatAo
set_option linter.unusedVariables false
set_option linter.unusedSimpArgs false
set_option linter.defProp false
set_option linter.deprecated false
namespace Go.Id
open Go
open Go.Proofs.Tryz (prog)
open Nat renaming reduceAdd→zA,reduceEqDiff→zE
theorem indexFunc_ok {h:IH} {v fv:Value} {a:List Int} (p:Int→Bool) (ha:SlNow h 1 v a.length (a.map KI)) (la:a.length≤1000000000) (hp : ∀x∈a,WV prog fv [KI x] h fun r h'=>h'=h∧r=.bool (p x)) :
  WV prog (.func (.func 221) #[] #[]) [v,fv] h fun r h'=>h'=h ∧ ∃c:Int,r=KI c∧(0≤c↔a.any p=true):=by
 refine enter (nt:=19) (rs:=[.tmp 4]) Proofs.Tryz.func221 rfl rfl rfl (by simp) ?_
 simp -dsimp (disch:=try exact dx) only[wpS,zE,zA,ha.len sl25]
 refine loop (fun m fr h1=>h1=h ∧ ∃i:Nat,i+m=a.length∧fget fr 0=some v∧fget fr 1=some fv∧fget fr 7=some (KI a.length)∧fget fr 8=some (KI i)∧a.any p=(a.drop i).any p) a.length ⟨rfl,0,by simp,by simp,by simp,by simp,by simp,by simp⟩ ?_
 rintro m fr h1 ⟨rfl,i,him,f0,f1,f7,f8,hz⟩
 simp -dsimp (disch:=try exact dx) only[wpS,f7,f8]
 refine bq_intro ?_ ?_<;>intro hc2<;>simp only[decide_eq_true_eq,decide_eq_false_iff_not] at hc2
 ·have hi:i<a.length:=by omega
  obtain⟨x,hx⟩ : ∃x,a[i]?=some x:=⟨a[i],List.getElem?_eq_getElem hi⟩
  simp -dsimp (disch:=try exact dx) only[wpS,wpT,zE,f0,f1,f8,ha.idx es25 hi,ha.ld (P:=prog) (t:=3) (c:=i) (by simpa using hi) ag3,List.getElem?_map,hx]
  refine call (hp x (List.mem_of_getElem? hx)) ?_
  rintro _ _ ⟨rfl,rfl⟩
  have ea:a.drop i=x :: a.drop (i+1):=by
   have h1:=List.getElem?_eq_some_iff.1 hx
   rw[←h1.2,List.getElem_cons_drop_succ_eq_drop]
  rw[ea,List.any_cons] at hz
  simp -dsimp (disch:=try exact dx) only[wpS,zE]
  refine bq_intro ?_ ?_<;>intro hc
  ·simp -dsimp (disch:=try exact dx) only[wpS,wpT,zE]
   exact⟨_,rfl,by rw[hz,hc];simp⟩
  ·simp -dsimp (disch:=try exact dx) only[wpS,zE,f8]
   rw[hc,Bool.false_or] at hz
   exact⟨m - 1,by omega,rfl,i+1,by omega,by simp[f0],by simp[f1],by simp[f7],by simp,hz⟩
 ·simp -dsimp (disch:=try exact dx) only[wpS,wpT]
  exact⟨_,rfl,by rw[hz,List.drop_of_length_le (by omega)];simp⟩
theorem containsFunc_ok {h:IH} {v fv:Value} {a:List Int} (p:Int→Bool) (ha:SlNow h 1 v a.length (a.map KI)) (la:a.length≤1000000000) (hp : ∀x∈a,WV prog fv [KI x] h fun r h'=>h'=h∧r=.bool (p x)) :
  WV prog (.func (.func 141) #[] #[]) [v,fv] h fun r h'=>h'=h∧r=.bool (a.any p):=by
 refine enter (nt:=9) (rs:=[.tmp 4]) Proofs.Tryz.func141 rfl rfl rfl (by simp) ?_
 simp -dsimp (disch:=try exact dx) only[wpS,zE,zA]
 refine call (indexFunc_ok p ha la hp) ?_
 rintro _ _ ⟨rfl,c,rfl,hc⟩
 simp -dsimp (disch:=try exact dx) only[wpS,wpT,zE]
 cases hb:a.any p
 ·rw[hb] at hc
  simp at hc
  simp;exact hc
 ·rw[hb] at hc
  simp at hc
  simp;exact hc
end Go.Id

namespace Go.Id
open Go
open Go.Proofs.Tryz (prog)
open Nat renaming reduceAdd→zA,reduceEqDiff→zE,reduceLeDiff→zL
set_option maxHeartbeats 16000000
theorem PPair.rat {h:IH} {v:Value} {n d:Nat} (p:PPair h v (wdI n) (wdI d)) (ok:okS n d):PRat h v (rOf (n,d)):=by
 obtain⟨e1,e2⟩:=rOf_parts (p:=(n,d)) ok
 unfold PRat
 rw[e1,e2]
 exact p
theorem two_sl {h:IH} {n1 d1 n2 d2:Nat} (h1:n1<W8) (h2:d1<W8) (h3:n2<W8) (h4:d2<W8):ShSl (h.new (.cells (shL [(n1,d1),(n2,d2)]) 16 none)) (.slice (some ⟨2*h.n,0,none⟩) 2 5) [(n1,d1),(n2,d2)]:=by
 refine⟨sl_block (k:=h.n) (f:=none) (get_new_same _ _ rfl) (by simp) (by decide) (by rw[shL_len];rfl) (by omega) (by omega),by simp,?_⟩
 intro p hp
 simp at hp
 rcases hp with rfl|rfl
 ·exact⟨h1,h2⟩
 ·exact⟨h3,h4⟩
theorem itwo_ok {h:IH} {n1 d1 n2 d2:Nat} {fv:Value} {z:Int} (h1:n1<W8) (h2:d1<W8) (h3:n2<W8) (h4:d2<W8) (ok1:okS n1 d1) (ok2:okS n2 d2)
  (op : ∀(h':IH) (v w:Value),PRat h' v (rOf (n1,d1))→PRat h' w (rOf (n2,d2))→WV prog fv [v,w] h' fun r h''=>Ext h' h''∧r=KI z) :
  WV prog (.func (.func 75) #[] #[]) [shV n1 d1,shV n2 d2,fv] h fun r h'=>Ext h h'∧r=.tuple #[KI z,KI 0]:=by
 refine enter (nt:=21) (rs:=[.tmp 6,.tmp 7]) Proofs.Tryz.func75 rfl rfl rfl (by simp) ?_
 simp -dsimp (disch:=try exact dx) only[wpS,zE,zA,ld32,shV_cells]
 obtain⟨H0,hH0,n0,E0,g0,g1⟩:=boxes2 h (shC n1 d1) (shC n2 d2)
 rw[←hH0]
 clear hH0
 have X0:=Ext.refl H0
 have bb : ∀hx:IH,buildSlice prog hx 60 2 [(0,.agg (shC n1 d1).toArray),(1,.agg (shC n2 d2).toArray)]=some (.slice (some ⟨2*hx.n,0,none⟩) 2 5,hx.new (.cells (shL [(n1,d1),(n2,d2)]) 16 none)):=fun hx=>build2 n1 d1 n2 d2
 simp -dsimp (disch:=try exact dx) only[wpS,zE,zL,ld32,row_of g1,shC_len,sh_take,bb]
 refine call (shvalid_ok (two_sl h1 h2 h3 h4)) ?_
 rintro _ k1 ⟨Y1,rfl⟩
 have X1:Ext H0 k1:=(X0.new _).trans Y1
 have dt:decide (∀p ∈ [(n1,d1),(n2,d2)],okS p.1 p.2)=true:=decide_eq_true (by
  intro p hp
  simp at hp
  rcases hp with rfl|rfl
  ·exact ok1
  ·exact ok2)
 rw[dt]
 have L2:=(psh g1).2.2
 simp -dsimp (disch:=try exact dx) only[wpS,wpT,zE]
 refine drawn [(3,[2])] (by kernel_rfl) (by kernel_rfl) rfl ?_
 simp -dsimp (disch:=try exact dx) only[wpS,zE,zL,ld32,row_of (X1.kept (by omega) g0),shC_len,sh_take]
 refine call (shread_ok n1 d1 h1 h2) ?_
 rintro v k2 ⟨Y2,p2⟩
 have X2:=X1.trans Y2
 simp -dsimp (disch:=try exact dx) only[wpS,zE,zL,ld32,row_of (X2.kept (by omega) g1),shC_len,sh_take]
 refine call (shread_ok n2 d2 h3 h4) ?_
 rintro w k3 ⟨Y3,p3⟩
 have X3:=X2.trans Y3
 simp -dsimp (disch:=try exact dx) only[wpS,zE]
 refine call (op k3 v w (PRat.keep (p2.rat ok1) Y3.keep) (p3.rat ok2)) ?_
 rintro _ k4 ⟨Y4,rfl⟩
 have X4:=X3.trans Y4
 simp -dsimp (disch:=try exact dx) only[wpS,zE]
 refine⟨by repeat' first|refine wpSteady_c2 ?_ ?_|refine wpSteady_t2 ?_ ?_|exact wpSteady_one rfl rfl rfl rfl (steady_ext (H0:=H0) rfl (by omega) (by assumption) (by assumption) (by with_reducible assumption)),?_⟩
 simp -dsimp (disch:=try exact dx) only[wpS,wpT,zE,zA]
 exact E0.trans X4
theorem shcmp_ok {h:IH} {p1 p2:Nat×Nat} (h1:p1.1<W8∧p1.2<W8) (h2:p2.1<W8∧p2.2<W8) (ok1:okS p1.1 p1.2) (ok2:okS p2.1 p2.2):WV prog (.func (.func 46) #[] #[]) [shV p1.1 p1.2,shV p2.1 p2.2] h fun r h'=>Ext h h'∧r=.tuple #[KI (if rOf p1<rOf p2 then -1 else if rOf p1=rOf p2 then 0 else 1),KI 0]:=by
 have q1:=qb512 (p:=p1) h1.1 h1.2 ok1
 have q2:=qb512 (p:=p2) h2.1 h2.2 ok2
 refine enter (nt:=11) (rs:=[.tmp 4,.tmp 5]) Proofs.Tryz.func46 rfl rfl rfl (by simp) ?_
 simp -dsimp (disch:=try exact dx) only[wpS,zE,zA,ld32,shV_cells]
 obtain⟨H0,hH0,n0,E0,g0,g1⟩:=boxes2 h (shC p1.1 p1.2) (shC p2.1 p2.2)
 rw[←hH0]
 clear hH0
 simp -dsimp (disch:=try exact dx) only[wpS,zE,zL,ld32,row_of g1,shC_len,sh_take]
 refine call (itwo_ok h1.1 h1.2 h2.1 h2.2 ok1 ok2 (fun h' v w a b=>rcmp_ok a b q1 q2 (by omega))) ?_
 rintro _ k1 ⟨X1,rfl⟩
 simp -dsimp (disch:=try exact dx) only[wpS,wpT,zE]
 exact E0.trans X1
end Go.Id

namespace Go.Id
open Go
end Go.Id

namespace Go.Id
open Go
def E1 (P:Program) (tb:FuncId→Option (List Value→Option Value)):Env:=⟨P,fun _ _=>none,fun f=>(tb f).map fun g args h=>bif args.all plain then (g args).map (·,h) else none⟩
theorem plain_all {m:Mp} {l l':List Value} (h:LRel m l l') (hp:l.all plain=true):l'=l:=by
 apply List.ext_getElem? fun i=>?_
 by_cases hi:i<l.length
 ·obtain⟨v',h1,h2⟩:=h.get (List.getElem?_eq_getElem hi)
  rw[h1,List.getElem?_eq_getElem hi,h2.plain_eq (by have:=List.all_eq_true.1 hp;exact this _ (List.getElem_mem hi))]
 ·rw[List.getElem?_eq_none (show l'.length≤i from h.1▸Nat.le_of_not_lt hi),List.getElem?_eq_none (Nat.le_of_not_lt hi)]
theorem plain_all_mk {m:Mp} {l:List Value} (hp:l.all plain=true):LRel m l l :=
 ⟨rfl,fun i v v' a b=>by
  rw[a] at b;cases b
  exact .plain_mk (List.all_eq_true.1 hp _ (List.mem_of_getElem? a))⟩
theorem Rel.bare {B:Nat} {w0:World} {m:Mp} {h:IH} {w:World} (R:Rel B w0 m h w):Rel B w0 ⟨fun b=>if b % 2=1 then m b else none,m.ez⟩ (IH.start fun _=>none) w:=by
 have leaf : ∀{α:Type} (k:Nat),(Tr.leaf:Tr α).get k=none:=fun k=>rfl
 have odd : ∀k x,(⟨fun b=>if b % 2=1 then m b else none,m.ez⟩:Mp) (2*k)=some x→False:=by
  intro k x h
  have h1:(if 2*k % 2=1 then m (2*k) else none)=some x:=h
  rw[if_neg (by omega)] at h1;cases h1
 refine⟨R.below,R.size,?_,fun b h=>?_,?_,fun k _=>leaf k,?_,?_,?_,?_,?_,?_⟩
 ·intro b cs h;cases h
 ·show(if (2*b+1) % 2=1 then m (2*b+1) else none)=_
  rw[if_pos (by omega)];exact R.odd b h
 ·intro k r s h;exact(odd _ _ h).elim
 ·intro k o r s h;cases h
 ·intro k k' o o' r s s' _ h;cases h
 ·intro f st h;cases h
 ·intro k cs t f h;cases h
 ·intro f st h;cases h
 ·intro f st x y h;cases h
theorem ObjRel.same {m:Mp} {w w':World} {r s:Nat} {z:Nat×Nat} {o:IObj} (h:ObjRel m w r s z o) (e:w'.heap[r]?=w.heap[r]?):ObjRel m w' r s z o:=by
 cases o<;>simp only[ObjRel] at h ⊢ <;> first|(rw[e];exact h)|trivial
theorem Rel.aside {B:Nat} {w0:World} {m m':Mp} {h h':IH} {w w':World} (R:Rel B w0 m h w) (R':Rel B w0 m' h' w') (S:Step ⟨fun b=>if b % 2=1 then m b else none,m.ez⟩ (IH.start fun _=>none) w m' h' w'):Rel B w0 m h w'∧Step m h w m h w':=by
 have same : ∀r,r<w.heap.size→w'.heap[r]?=w.heap[r]?:=fun r hr=>S.frame r hr fun k s hk=>absurd hk (Nat.not_lt_zero k)
 refine⟨⟨R'.below,R'.size,fun b cs hb=>?_,R.odd,fun k r s hk=>?_,R.dom,fun k o r s hk hm=>?_,R.own,R.famdom,R.fam,R.long,R.whole⟩,
  ⟨Mp.le_refl m,fun b hb=>absurd rfl hb,Nat.le_refl _,rfl,fun r hr _=>same r hr,fun _ _ _=>rfl,S.size,fun k r s h1 h2=>by omega,fun _ _ _ hh=>hh⟩⟩
 ·obtain⟨r,s,h1,h2,c,el,fz,h3,h4⟩:=R.base b cs hb
  exact⟨r,s,h1,h2,c,el,fz,by rw[same r (by have:=R.size;omega)];exact h3,h4⟩
 ·have:=R.even k r s hk
  have:=S.size
  exact⟨by omega,by omega⟩
 ·exact(R.obj k o r s hk hm).same (same r (R.even k r s hm).2)
def plainT:Value→Bool
 | .tuple vs=>vs.toList.all plain
 | v=>plain v
theorem VRel.plainT_eq {m:Mp} {v v':Value} (h:VRel m v v') (hv:plainT v=true):v'=v:=by
 unfold plainT at hv
 split at hv
 ·obtain⟨cs',rfl,h2⟩:=h.tuple_inv
  have:=LRel.plain_eq h2 hv
  exact congrArg Value.tuple (Array.ext' this)
 ·exact h.plain_eq hv
theorem VRel.plainT_mk {m:Mp} {v:Value} (hv:plainT v=true):VRel m v v:=by
 unfold plainT at hv
 split at hv
 ·exact VRel.tuple_iff (plain_all_mk hv)
 ·exact .plain_mk hv
def Gives (P:Program) (f:FuncId) (args:List Value) (v:Value):Prop :=
 ∀(B:Nat) (w0:World) (m:Mp) (h:IH) (w:World),Rel B w0 m h w → ∃h2,CallsTo P f args.toArray B w0 ⟨fun b=>if b % 2=1 then m b else none,m.ez⟩ (IH.start fun _=>none) w v h2
theorem gives_run {E:Env} (S:Sound E) {n:Nat} {f:FuncId} {args:List Value} {v:Value} {h2:IH} (hr:callV E (n+1) (.func (.func f) #[] #[]) args (IH.start fun _=>none)=some (v,h2)) (hb : ∃fn,E.P.funcs[f]?=some fn∧fn.body.isSome=true) (hp:args.all plain=true):Gives E.P f args v:=by
 intro B w0 m h w R
 refine⟨h2,?_⟩
 have hc:=hr
 unfold callV at hc
 have fresh:Fresh ⟨fun b=>if b % 2=1 then m b else none,m.ez⟩ (IH.start fun _=>none).n h2.n:=fun k _ _=>by
  show(if 2*k % 2=1 then m (2*k) else none)=none
  rw[if_neg (by omega)]
 obtain⟨fn,hfn,hb⟩:=hb
 rcases callFn_sim S (callV_sim S n) (callV_mono S n) hc R.bare (args':=args.toArray) (by simpa using plain_all_mk hp) fresh with⟨_,k⟩|⟨fn',k1,k2,_⟩
 ·exact k
 ·have k3:E.P.funcs[f]?=some fn':=k1
  rw[hfn] at k3;cases k3
  rw[k2] at hb;cases hb
theorem gives_wv {P:Program} (S:Sound (E0 P)) {f:FuncId} {args:List Value} {v:Value} (hb : ∃fn,P.funcs[f]?=some fn∧fn.body.isSome=true) (hp:args.all plain=true) (h:WV P (.func (.func f) #[] #[]) args (IH.start fun _=>none) fun r _=>r=v):Gives P f args v:=by
 obtain⟨⟨r,h2⟩,⟨N,hN⟩,hr⟩:=h
 simp only at hr
 subst hr
 exact gives_run (E:=E0 P) S (hN (N+1) (by omega)) hb hp
theorem sound1 {P:Program} {tb:FuncId→Option (List Value→Option Value)} (S:Sound (E0 P)) (hf : ∀f g,tb f=some g → ∃fn,P.funcs[f]?=some fn∧fn.body.isSome=true)
  (hv : ∀f g,tb f=some g → ∀args v,args.all plain=true→g args=some v→plainT v=true∧Gives P f args v):Sound (E1 P tb) where
 mixed:=S.mixed
 names:=S.names
 origin:=S.origin
 intrN:=fun f g hg args h v h' e=>by
  obtain⟨g0,h1,rfl⟩:=Option.map_eq_some_iff.1 hg
  simp only[cond_eq_ite] at e
  split at e
  ·obtain⟨v0,_,e2⟩:=Option.map_eq_some_iff.1 e
   cases e2;exact Nat.le_refl _
  ·cases e
 intr:=fun f g hg=>by
  obtain⟨g0,h1,rfl⟩:=Option.map_eq_some_iff.1 hg
  refine⟨hf f g0 h1,fun args h v h' e B w0 m w args' R hargs _=>?_⟩
  simp only[cond_eq_ite] at e
  split at e
  case isFalse=>cases e
  rename_i hp
  obtain⟨v0,e1,e2⟩:=Option.map_eq_some_iff.1 e
  cases e2
  obtain⟨hpl,hg⟩:=hv f g0 h1 args v hp e1
  obtain⟨h2,key⟩:=hg B w0 m h w R
  have ea:args.toArray=args':=by
   rw[←plain_all hargs hp]
  rw[ea] at key
  refine key.mono fun e' w' ⟨v',m',he,hvr,R',S'⟩=>?_
  obtain⟨R2,S2⟩:=R.aside R' S'
  exact⟨v',m,he,by rw[hvr.plainT_eq hpl];exact .plainT_mk hpl,R2,S2⟩
end Go.Id
