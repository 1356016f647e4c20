/-
  Contracts: slices.Reverse of ints. Contracts: package outlier: Through.
-/
import Derived.Test.YtjhnilfelokpcaaGreatOutlierPathsAq
import Derived.Test.YtjhnilfelokpcaaGreatOutlierPathsBk
import Derived.Test.YtjhnilfelokpcaaGreatOutlierPathsBg
import Derived.Test.YtjhnilfelokpcaaGreatOutlierPathsBf
import Derived.Test.YtjhnilfelokpcaaGreatOutlierPathsBe
import Derived.Test.YtjhnilfelokpcaaGreatOutlierPathsBb
import Derived.Test.YtjhnilfelokpcaaGreatOutlierPathsAp
import Derived.Test.YtjhnilfelokpcaaGreatOutlierPathsBh
import Derived.Test.YtjhnilfelokpcaaGreatOutlierPathsBj
set_option linter.unusedVariables false
set_option linter.unusedSimpArgs false
set_option linter.defProp false
set_option linter.deprecated false
namespace Go.Id
open Go
open Go.Proofs.Tryz (prog)
set_option maxHeartbeats 16000000
theorem Gro.VE {h:IH} {n0:Nat} {v:Value} {n:Nat} {cs:List Value} (g:Gro h n0 1 v n cs) (hn:0<n):nw h n0 h.n v n cs:=by
 rcases g with a|⟨hz,hl,k,rfl,hn',h1,h2,h3⟩
 ·exact a.VE hn
 ·exact⟨by omega,k,2*n+1,none,rfl,.inr ⟨rfl,rfl⟩,hn,h1,h2,Nat.le_refl _,h3,trivial⟩
theorem nw.gro {h:IH} {n0 n1:Nat} {v:Value} {n:Nat} {cs:List Value} (g:nw h n0 n1 v n cs):Gro h n0 1 v n cs:=by
 obtain⟨hl,k,c,fam,rfl,rfl|⟨rfl,rfl⟩,hn,h1,h2,h3,h4,h5⟩:=g
 ·refine .inl ⟨by omega,by omega,.inr ⟨k,fam,rfl,hn,h1,by omega,h4,?_⟩⟩
  cases fam with
  | none=>trivial
  | some f =>
   obtain⟨a1,a2,rest,a3,a4⟩:=h5
   exact⟨a1,a2,rest,a3,fun j hj=>⟨(a4 j hj).1,Nat.lt_of_lt_of_le (a4 j hj).2 h3⟩⟩
 ·exact .inr ⟨by omega,by omega,k,rfl,hn,h1,by omega,h4⟩
theorem Gro.sim {h h':IH} {a b n0:Nat} {v:Value} {n:Nat} {cs:List Value} (g:Gro h n0 1 v n cs) (s:Sim a b h h') (hb:b≤n0):Gro h' n0 1 v n cs:=by
 obtain⟨s1,s2,s3,s4⟩:=s
 rcases g with⟨hz,hl,g|⟨k,fam,rfl,hn,h1,h2,h3,h4⟩⟩|⟨hz,hl,k,rfl,hn',h1,h2,h3⟩
 ·exact .inl ⟨hz,hl,.inl g⟩
 ·refine .inl ⟨hz,hl,.inr ⟨k,fam,rfl,hn,h1,by omega,(s3 k (.inr (by omega))).trans h3,?_⟩⟩
  cases fam with
  | none=>trivial
  | some f =>
   obtain⟨a1,a2,rest,a3,a4⟩:=h4
   exact⟨a1,by omega,rest,by rw[s4];exact a3,fun j hj=>by rw[s1];exact a4 j hj⟩
 ·exact .inr ⟨hz,hl,k,rfl,hn',h1,by omega,(s3 k (.inr (by omega))).trans h3⟩
def xo (l m:List Int) (i:Nat):Prop:=m.length=l.length ∧ ∀k,k<l.length→m[k]?=if k<i∨l.length≤k+i then l[l.length - 1 - k]? else l[k]?
theorem xo.start (l:List Int):xo l l 0:=⟨rfl,fun k hk=>by rw[if_neg (by omega)]⟩
theorem xo.done {l m:List Int} {i:Nat} (r:xo l m i) (hi:l.length≤i+i+1):m=l.reverse:=by
 apply List.ext_getElem?
 intro k
 by_cases hk:k<l.length
 ·rw[List.getElem?_reverse hk,r.2 k hk]
  by_cases c:k<i∨l.length≤k+i
  ·rw[if_pos c]
  ·rw[if_neg c,show l.length - 1 - k=k by omega]
 ·rw[List.getElem?_eq_none (by rw[r.1];omega),List.getElem?_eq_none (by rw[List.length_reverse];omega)]
theorem xo.step {l m:List Int} {i:Nat} (r:xo l m i) (hi:i+i+1<l.length) {x y:Int} (hx:m[i]?=some x) (hy:m[l.length - 1 - i]?=some y):xo l ((m.set i y).set (l.length - 1 - i) x) (i+1):=by
 have ex:=r.2 i (by omega)
 have ey:=r.2 (l.length - 1 - i) (by omega)
 rw[if_neg (by omega),hx] at ex
 rw[if_neg (by omega),hy] at ey
 refine⟨by simp[r.1],fun k hk=>?_⟩
 rw[List.getElem?_set,List.getElem?_set,List.length_set,r.1]
 by_cases c1:l.length - 1 - i=k
 ·subst c1
  rw[if_pos rfl,if_pos hk,if_pos (by omega),show l.length - 1 - (l.length - 1 - i)=i by omega,←ex]
 rw[if_neg c1]
 by_cases c2:i=k
 ·subst c2
  rw[if_pos rfl,if_pos hk,if_pos (by omega),←ey]
 rw[if_neg c2,r.2 k hk]
 by_cases c:k<i∨l.length≤k+i
 ·rw[if_pos c,if_pos (by omega)]
 ·rw[if_neg c,if_neg (by omega)]
theorem Fb {h:IH} {n0 n1:Nat} {v:Value} {l:List Int} (hG:nw h n0 n1 v l.length (l.map KI)) (hl:l.length≤1000000000) :
  WV prog (.func (.func 100) #[] #[]) [v] h fun r h'=>Sim n0 n1 h h'∧nw h' n0 n1 v l.length (l.reverse.map KI):=by
 have len:=hG.sl.len eH (P:=prog)
 refine enter (nt:=28) (rs:=[]) Proofs.Tryz.func100 rfl rfl rfl (by simp) ?_
 simp -dsimp (disch:=try exact dx) only[wpS,Nat.reduceEqDiff,len]
 refine loop (fun m fr hh => ∃(i:Nat) (a:List Int),i+m=l.length∧xo l a i∧Sim n0 n1 h hh∧nw hh n0 n1 v l.length (a.map KI)∧ai fr 0=some v∧ai fr 2=some (KN i)∧ai fr 3=some (KI ((l.length:Int) - 1 - (i:Int)))) l.length
  ⟨0,l,by omega,.start l,Sim.refl _ _ _,hG,by simp,by simp,by simp⟩ ?_
 rintro m fr hh ⟨i,a,him,hr,hE,hA,f0,f2,f3⟩
 simp -dsimp (disch:=try exact dx) only[wpS,Nat.reduceEqDiff,f2,f3]
 refine aA ?_ ?_<;>intro hc<;>simp only[decide_eq_true_eq,decide_eq_false_iff_not] at hc
 ·have al:=hr.1
  obtain⟨j,hj⟩ : ∃j,j=l.length - 1 - i:=⟨_,rfl⟩
  have ej:(l.length:Int) - 1 - (i:Int)=(j:Int):=by omega
  obtain⟨x,hx⟩ : ∃x,a[i]?=some x:=⟨_,List.getElem?_eq_getElem (by omega)⟩
  obtain⟨y,hy⟩ : ∃y,a[j]?=some y:=⟨_,List.getElem?_eq_getElem (by omega)⟩
  have sl:=hA.sl
  have ix1:=sl.idx gU (P:=prog) (k:=.i64) (j:=i) (by omega)
  have ix2:=sl.idx gU (P:=prog) (k:=.i64) (j:=j) (by omega)
  rw[Nat.mul_one] at ix1 ix2
  have ld1:load prog hh 3 (aO v i)=some (KI x):=by rw[sl.ld (aN.refl hh) (by simp;omega) ag3,List.getElem?_map,hx];rfl
  have ld2:load prog hh 3 (aO v j)=some (KI y):=by rw[sl.ld (aN.refl hh) (by simp;omega) ag3,List.getElem?_map,hy];rfl
  obtain⟨h1,s1,A1,E1⟩:=hA.set (P:=prog) sz3 (i:=i) (by omega) (x:=KI y) rfl rfl
  obtain⟨h2,s2,A2,E2⟩:=A1.set (P:=prog) sz3 (i:=j) (by omega) (x:=KI x) rfl rfl
  have st:=hr.step (by omega) hx (by rw[←hj];exact hy)
  rw[←hj] at st
  simp -dsimp (disch:=try exact dx) only[wpS,wpT,Nat.reduceEqDiff,f0,f2,f3,ej,ix1,ix2,ld1,ld2,s1,s2]
  refine⟨m - 1,by omega,i+1,_,by omega,st,(hE.trans E1).trans E2,?_,by simp[f0],by simp,?_⟩
  ·rw[List.map_set,List.map_set];exact A2
  ·simp;omega
 ·simp -dsimp (disch:=try exact dx) only[wpS,wpT]
  have e:=hr.done (by omega)
  rw[e] at hA
  exact⟨hE,hA⟩
end Go.Id

namespace Go.Id
open Go
theorem IP {P:Program} {f:FuncId} {a:Value} {l:List Value} {h:IH} {K:Value→IH→Prop} (w:WV P (.func (.func f) #[] #[]) (a :: l) h K):WV P (.func (.func f) #[a] #[]) l h K:=by
 obtain⟨p,⟨N,hN⟩,hk⟩:=w
 refine⟨p,⟨N,fun n hn=>?_⟩,hk⟩
 have:=hN n hn
 cases n with
 | zero=>exact this
 | succ n=>exact this
theorem DV {P:Program} {t:TypeId} {sz bytes:Nat} (hT:kL P t=some (sz,bytes)) (h:IH) {x:Value} (hx:lenOf x=some 0) (b o n c:Nat):append P h t (.slice (some ⟨b,o,none⟩) n c) x=some (.slice (some ⟨b,o,none⟩) n c,h):=by
 unfold kL at hT
 split at hT
 case h_2=>cases hT
 rename_i e hu
 split at hT
 case h_2=>cases hT
 rename_i zs z1 z2 z3
 simp only[append,hu,z1,z2,z3,hx,beq_self_eq_true,cond_true]
def VR (h:IH) (n0:Nat):IH:={ h with n:=n0 }
theorem DL {h:IH} {n0:Nat} (hn:n0≤h.n):Ext (VR h n0) h:=⟨hn,rfl,fun _ _=>rfl,fun _ _=>rfl⟩
theorem Kj {g h:IH} {n0:Nat} (e:Ext g h) (hn:g.n≤n0):Ext g (VR h n0):=⟨hn,e.base,e.get,e.bQ⟩
theorem Gro.app {h:IH} {n0 sz:Nat} {v:Value} {n:Nat} {cs:List Value} (g:Gro h n0 sz v n cs) {P:Program} {t:TypeId} {bytes:Nat} (hT:kL P t=some (sz,bytes)) {x:Value} {m:Nat} {new:List Value} (sx:bI h sz x m new) (hn:0<n)
  (hc:new.all aH=true) (hsz:(n+m)*(bytes+1)≤1099511627776) (h0:n0≤h.n) :
  ∃v' h',append P h t v x=some (v',h')∧bI h' sz v' (n+m) (cs ++ new)∧Grow h h'∧Ext (VR h n0) h':=by
 by_cases hm:m=0
 ·subst hm
  obtain⟨a,k,rfl⟩:=sx.now.form
  have PM:new = []:=List.length_eq_zero_iff.1 (by rw[sx.2.1];omega)
  subst PM
  have hv : ∃b o c,v=.slice (some ⟨b,o,none⟩) n c:=by
   rcases g with⟨_,_,⟨_,rfl⟩|⟨k,f,rfl,_⟩⟩|⟨_,_,k,rfl,_⟩
   ·omega
   ·exact⟨_,_,_,rfl⟩
   ·exact⟨_,_,_,rfl⟩
  have hs:=g.sl
  obtain⟨b,o,c,rfl⟩:=hv
  exact⟨_,h,DV hT h rfl b o n c,by rw[List.append_nil];exact hs,Grow.refl h,DL h0⟩
 ·rcases g with a|⟨hz,hcl,k,rfl,hn',h1,h2,h3⟩
  ·obtain⟨v',h',b1,b2,b3,b4,b5⟩:=a.app hT sx (by omega) hc hsz h0 (DL h0) (Nat.le_refl _)
   exact⟨v',h',b1,b2.sl,b3,b5⟩
  ·have sv:bI h sz (.slice (some ⟨2*k,0,none⟩) n (2*n+1)) n cs:=cD h3 h2 hz hcl (by omega) (by omega)
   refine⟨_,_,xl hT sv.now sx.now (by omega) hn hc hsz,?_,((Ext.refl h).new _).grow,(DL h0).new _⟩
   exact(yk hz (by rw[List.length_append,hcl,sx.2.1,Nat.add_mul]) (by omega)).sl
theorem l4 (p:List Nat):(pI p).length=p.length:=by simp[pI]
end Go.Id

namespace Go.Id
open Go
end Go.Id

namespace Go.Id
open Go
end Go.Id

namespace Go.Id
open Go
end Go.Id

namespace Go.Id
open Go
end Go.Id

namespace Go.Id
open Go
end Go.Id

namespace Go.Id
open Go
noncomputable section
def CL (l:List (FuncId×(List Value→Option Value))) (f:FuncId):Option (List Value→Option Value):=List.rec (motive:=fun _=>Option (List Value→Option Value)) none (fun p _ ih=>iB (Nat.beq f p.1) (some p.2) ih) l
def uY (P:Program) (f:FuncId) (g:List Value→Option Value):Prop :=
 (∃fn,P.funcs[f]?=some fn∧fn.body.isSome=true) ∧ ∀args v,args.all plain=true→g args=some v→lY v=true∧KT P f args v
theorem yz : ∀{l:List (FuncId×(List Value→Option Value))} {f:FuncId} {g:List Value→Option Value},CL l f=some g→(f,g)∈l
 | [],_,_,h=>by cases h
 | p :: l,f,g,h=>by
  change iB (Nat.beq f p.1) (some p.2) (CL l f)=some g at h
  rw[dW] at h
  cases hb:Nat.beq f p.1 with
  | true =>
   rw[hb] at h;cases h
   have:=Nat.beq_eq.mp hb
   subst this
   exact List.mem_cons_self
  | false =>
   rw[hb] at h
   exact List.mem_cons_of_mem _ (yz h)
theorem EG {P:Program} (S:Sound (E0 P)) {l:List (FuncId×(List Value→Option Value))} (h : ∀p∈l,uY P p.1 p.2):Sound (E1 P (CL l)) :=
 UN S (fun f g hg=>(h _ (yz hg)).1) (fun f g hg=>(h _ (yz hg)).2)
theorem qA {P:Program} (S:Sound (E0 P)) {f:FuncId} {fn:Func} (hf:P.funcs[f]?=some fn) (hb:fn.body.isSome=true) {g:List Value→Option Value}
  (h : ∀args v,args.all plain=true→g args=some v→lY v=true∧WV P (.func (.func f) #[] #[]) args (IH.start fun _=>none) fun r _=>r=v):uY P f g :=
 ⟨⟨fn,hf,hb⟩,fun args v hp e=>⟨(h args v hp e).1,P3 S ⟨fn,hf,hb⟩ hp (h args v hp e).2⟩⟩
def okT (args:List Value):Option Value:=match args with
 | []=>some (.bool true)
 | _=>none
theorem Il {E:Env} (S:Sound E) {n:Nat} {f:FuncId} {fn:Func} (hf:E.P.funcs[f]?=some fn) (hb:fn.body.isSome=true) (h:KE E (n+1) f (fun _=>none)=true):uY E.P f okT:=by
 refine⟨⟨fn,hf,hb⟩,fun args v hp e=>?_⟩
 unfold okT at e
 split at e
 ·cases e
  obtain⟨h',hr⟩:=Iz h
  exact⟨rfl,BW S hr ⟨fn,hf,hb⟩ hp⟩
 ·cases e
end
end Go.Id

namespace Go.Id
open Go
def uX (P:Program) (f:FuncId) (nt:Nat) (run:Fr→IH→Out) (c:Code):Prop :=
 (∀fr h e fr' h',run fr h=some (e,fr',h')→h.n≤h'.n) ∧ ∀(b:Frame) (z B:Nat) (w0:World) (cs:List Frame),b.fn=f→ry (E0 P) run b none B w0 z nt cs c
theorem oV {E:Env} (S:Sound E) (n:Nat) (f:FuncId) (nt:Nat) (c:Code):uX E.P f nt (evC E (cb E n) f nt none n c) c:=by
 refine⟨fun fr h e fr' h' hr=>rT (gL S n) _ _ _ _ _ _ hr,fun b z B w0 cs hb=>?_⟩
 subst hb
 exact tS (E:=E) (oj S n) (gL S n) S.mixed n c
def Ls (ra rb:Fr→IH→Out):Fr→IH→Out:=fun fr h=>match ra fr h with
 | some (.normal,fr,h)=>rb fr h
 | o=>o
theorem wT {P:Program} {f:FuncId} {nt:Nat} {ra rb:Fr→IH→Out} {x y:Code} (hx:uX P f nt ra x) (hy:uX P f nt rb y):uX P f nt (Ls ra rb) (.seq x y):=by
 refine⟨fun fr h e fr' h' hr=>?_,fun b z B w0 cs hb=>?_⟩
 ·unfold Ls at hr
  split at hr
  ·rename_i hx1
   exact Nat.le_trans (hx.1 _ _ _ _ _ hx1) (hy.1 _ _ _ _ _ hr)
  ·exact hx.1 _ _ _ _ _ hr
 ·intro fr h e fr' h' hr m w tmps k ds R hf ht hfr hfo hd hz
  unfold Ls at hr
  split at hr
  ·rename_i fr1 h1 hx1
   have n1:=hx.1 _ _ _ _ _ hx1
   have n2:=hy.1 _ _ _ _ _ hr
   obtain⟨m1,w1,cH,ds1,k1,a1,a2,a3,a4,a5,a6,a7⟩:=hx.2 b z B w0 cs hb fr h .normal fr1 h1 hx1 m w tmps (.code y :: k) ds R hf ht (hfr.sub (Nat.le_refl _) n2) hfo hd hz
   obtain rfl:k1=_:=a2
   refine .first (.head pX a1) (.step a6 ?_)
   exact hy.2 b z B w0 cs hb fr1 h1 e fr' h' hr m1 w1 cH k ds1 a5 a3 a4 (a6.fresh hfr) (hfo.mono a6.le) a7 (Nat.le_trans hz a6.size)
  ·rename_i hne
   cases e with
   | normal=>exact absurd hr (hne _ _)
   | exit i=>exact .first (.one pX) ((hx.2 b z B w0 cs hb fr h _ _ _ hr m w tmps (.code y :: k) ds R hf ht hfr hfo hd hz).out (by simp) (fun i _=>rfl))
   | ret=>exact .first (.one pX) ((hx.2 b z B w0 cs hb fr h _ _ _ hr m w tmps (.code y :: k) ds R hf ht hfr hfo hd hz).out (by simp) (fun i hi=>by cases hi))
theorem AO {P:Program} {f:FuncId} {fn:Func} {c:Code} {run:Fr→IH→Out} (hfn:P.funcs[f]?=some fn) (hc:fn.body=some c) (F:uX P f fn.ntmps run c) {args:List Value} {h h1:IH} {e:bh} {fr1:Fr} {vs:List Value}
  (J9:args.length≤fn.ntmps) (hx:run (dC 0 args) h=some (e,fr1,h1)) (hne : ∀i,e≠.exit i) (hvs:bg P fr1 h1 fn.results.toList=some vs)
  {B:Nat} {w0:World} {m:Mp} {w:World} {args':Array Value} (R:Rel B w0 m h w) (fS:bz m args args'.toList) (hfr:dX m h.n h1.n):j5 P f args' B w0 m h w (single vs) h1:=by
 have hsz:args'.size=args.length:=by rw[fS.1];simp
 intro cs
 let b:Frame:={ fn:=f,tmps:=#[],todo:=[],defers:=[],mode:=.run,kind:=.normal,roundOf:=none }
 let tmps:Array Value:=args' ++ Array.replicate (fn.ntmps - args'.size) undef
 have hen:Frame.enter P f args' .normal=on b tmps [.code c] []:=by
  simp[Frame.enter,hfn,hc,on,b,tmps]
 have PH:dF m (dC 0 args) tmps:=by
  intro t u hu
  rw[oX] at hu
  simp only[Nat.zero_le,if_true,Nat.sub_zero] at hu
  obtain⟨u',h2,h3⟩:=fS.get hu
  have h4:args'[t]?=some u':=by simpa using h2
  refine⟨u',?_,h3⟩
  have:=(Array.getElem?_eq_some_iff.1 h4).1
  rw[Array.getElem?_append_left this,h4]
 have Vk:fn.ntmps≤tmps.size:=by simp[tmps];omega
 obtain⟨m1,w1,cH,ds1,k1,a1,a2,a3,a4,a5,a6,a7⟩:=F.2 b w.heap.size B w0 cs rfl _ _ _ _ _ hx m w tmps [] [] R PH Vk hfr (.inl ⟨rfl,rfl⟩) (kG.nil _ _ _ _) (Nat.le_refl _)
 obtain⟨rs,d1,d2,d3⟩:=a7
 have tf : ∃todo,step P (lone (on b cH k1 ds1) cs w1)=.next (lone { on b cH todo ds1 with mode:=.returning } cs w1):=by
  cases e with
  | normal=>obtain rfl:k1=_:=a2;exact⟨_,stepR_end (b:=b) (a:=⟨cH,ds1⟩) rfl⟩
  | exit i=>exact absurd rfl (hne i)
  | ret=>obtain⟨k2,rfl⟩:=a2;exact⟨_,stepR_ret (b:=b) (a:=⟨cH,ds1⟩) rfl⟩
 obtain⟨todo,tf⟩:=tf
 obtain⟨w2,b1,b2,b3,b4⟩:=oA (P:=P) R.size rs { on b cH todo ds1 with mode:=.returning } cs w1 rfl d1 d2 d3 a5
 obtain⟨v',r1,r2⟩:=wH b2 a3 hvs
 refine⟨.returned v',w2,{ on b cH todo ds1 with mode:=.returning,defers:=[] },⟨v',m1,rfl,r2,b2,?_⟩,?_,?_,?_⟩
 ·refine⟨a6.le,a6.new,a6.n,a6.base,fun r hr hk=>?_,a6.idle,by rw[b3];exact a6.size,a6.img,a6.mP⟩
  rw[b4 r (fun hm=>by have:=(d3 r hm).1;omega)]
  exact a6.frame r hr hk
 ·exact(by rw[hen];exact a1.trans (.head tf b1):Steps P (lone (Frame.enter P f args' .normal) cs w) _)
 ·rfl
 ·exact⟨rfl,rfl,rfl,fn,hfn,r1⟩
end Go.Id

namespace Go.Id
open Go Go.RowKit
def partAt:Code→Nat→Code
 | .seq a _,0=>a
 | .seq _ b,n+1=>partAt b n
 | c,_=>c
def CX:Code→Nat→Code
 | c,0=>c
 | .seq _ b,n+1=>CX b n
 | c,_=>c
theorem Hz {P:Program} {tb:FuncId→Option (List Value→Option Value)} (S0:Sound (E0 P)) (S1:Sound (E1 P tb)) {f:FuncId} {fn:Func} {a b rest:Code} {rs:List ResultVar} {nt:Nat} (hfn:P.funcs[f]?=some fn) (hc:fn.body=some (.seq a (.seq b rest))) (hrs:fn.results.toList=rs) (hnt:fn.ntmps=nt)
  {args:List Value} {base:Nat→Option (List Value)} {A:Nat→Nat×Nat} (hlen:args.length≤nt) {fra fr1:Fr} {ha h1:IH} {n:Nat}
  (ea:evC (E1 P tb) (cb (E1 P tb) n) f nt none n a (dC 0 args) (IH.start base)=some (.normal,fra,ha))
  (eb:evC (E1 P tb) (cb (E1 P tb) n) f nt none n b fra ha=some (.normal,fr1,h1))
  (w:Do (wpC P f nt none rest fr1 h1) (Hp P rs fun r _=>r=.bool true) nx)
  {W:World} {args':Array Value} (hb:IM A base W) (fS:bz (Mp.kQ A) args args'.toList):Calls P f args' W fun e W'=>e=.returned (.bool true)∧Below W.heap.size W W':=by
 subst hrs hnt
 obtain⟨⟨e,fr2,h2⟩,⟨N,hN⟩,hq⟩:=ft w
 have hn:=hN N (Nat.le_refl _)
 have key : ∀(K:Prop),Hp P fn.results.toList (fun r _=>r=.bool true) e fr2 h2→(∀vs,(∀i,e≠.exit i)→bg P fr2 h2 fn.results.toList=some vs→single vs=.bool true→K)→K:=by
  intro K hr k
  cases e with
  | exit i=>exact hr.elim
  | normal=>obtain⟨l,h3,h4⟩:=(hr:Ex _ _);exact k l (fun i h=>by cases h) h3 h4
  | ret=>obtain⟨l,h3,h4⟩:=(hr:Ex _ _);exact k l (fun i h=>by cases h) h3 h4
 refine key _ hq fun vs hne hvs hs=>?_
 have F:=wT (oV S1 n f fn.ntmps a) (wT (oV S1 n f fn.ntmps b) (oV S0 N f fn.ntmps rest))
 have hx:Ls (evC (E1 P tb) (cb (E1 P tb) n) f fn.ntmps none n a) (Ls (evC (E1 P tb) (cb (E1 P tb) n) f fn.ntmps none n b) (evC (E0 P) (cb (E0 P) N) f fn.ntmps none N rest)) (dC 0 args) (IH.start base)=some (e,fr2,h2):=by
  unfold Ls
  rw[ea]
  show(match evC (E1 P tb) (cb (E1 P tb) n) f fn.ntmps none n b fra ha with|some (.normal,fr,h)=>_|o=>o)=_
  rw[eb]
  exact hn
 refine(AO hfn hc F hlen hx hne hvs (Rel.start hb) fS (fun k _ _=>Mp.tL A k)).mono fun e w' ⟨v',m',he,hv,R,_⟩=>?_
 rw[hs] at hv
 rw[he,hv.ct rfl]
 exact⟨rfl,R.below⟩
end Go.Id

namespace Go.Id
open Go

noncomputable abbrev bodyOw:Code:=Proofs.Tryz.f8.body.getD .skip
noncomputable abbrev QOw:bh→Fr→IH→Prop:=Hp Proofs.Tryz.prog [.tmp 8] fun r _=>r=.bool true
section
variable {h:IH} {fr:Fr} {vN:Value} {lN:List Nat} {sz bx cx s:Nat} {from_ steps:Nat}
end
end Go.Id

namespace Go.Id
open Go
theorem B4 {h:IH} {v w:Value} {a b:List Int} (ha:iv h 1 v a.length (a.map KI)) (hb:iv h 1 w b.length (b.map KI)) (la:a.length≤1000000000) :
  WV Proofs.Tryz.prog (.func (.func 27) #[] #[]) [v,w] h fun r h'=>h'=h∧r=.bool (decide (a=b)):=by
 have hln:a.length=b.length∨a.length≠b.length:=by omega
 refine enter (nt:=26) (rs:=[.tmp 4]) Proofs.Tryz.func27 rfl rfl rfl (by simp) ?_
 simp -dsimp (disch:=try exact dx) only[wpS,Nat.reduceEqDiff,Nat.reduceAdd,ha.len eH,hb.len eH]
 refine aA ?_ ?_<;>intro hc<;>simp only[bne_iff_ne,bne_eq_false_iff_eq,ne_eq] at hc
 ·simp -dsimp (disch:=try exact dx) only[wpS,wpT,Nat.reduceEqDiff]
  rw[decide_eq_false]
  rintro rfl;exact hc rfl
 ·have hl:a.length=b.length:=by omega
  simp -dsimp (disch:=try exact dx) only[wpS,wpT,Nat.reduceEqDiff,ha.len eH]
  refine loop (fun m fr h1=>h1=h ∧ ∃i:Nat,i+m=a.length∧ai fr 0=some v∧ai fr 1=some w∧ai fr 12=some (KI a.length)∧ai fr 13=some (KI i) ∧ ∀j,j<i→a[j]?=b[j]?) a.length ⟨rfl,0,by simp,by simp,by simp,by simp,by simp,by simp⟩ ?_
  rintro m fr h1 ⟨rfl,i,him,f0,f1,f12,f13,hz⟩
  simp -dsimp (disch:=try exact dx) only[wpS,f12,f13]
  refine aA ?_ ?_<;>intro hc2<;>simp only[decide_eq_true_eq,decide_eq_false_iff_not] at hc2
  ·have hi:i<a.length:=by omega
   obtain⟨x,hx⟩ : ∃x,a[i]?=some x:=⟨a[i],List.getElem?_eq_getElem hi⟩
   obtain⟨y,hy⟩ : ∃y,b[i]?=some y:=⟨b[i]'(by omega),List.getElem?_eq_getElem (by omega)⟩
   simp -dsimp (disch:=try exact dx) only[wpS,wpT,Nat.reduceEqDiff,f0,f1,f13,ha.idx gU hi,ha.ld (P:=Proofs.Tryz.prog) (t:=3) (c:=i) (by simpa using hi) ag3,hb.idx gU (show i<b.length by omega),hb.ld (P:=Proofs.Tryz.prog) (t:=3) (c:=i) (by simp;omega) ag3,List.getElem?_map,hx,hy]
   refine aA ?_ ?_<;>intro hc3<;>simp only[bne_iff_ne,bne_eq_false_iff_eq,ne_eq] at hc3
   ·simp -dsimp (disch:=try exact dx) only[wpS,wpT,Nat.reduceEqDiff]
    rw[decide_eq_false]
    rintro rfl
    rw[hx] at hy;cases hy;exact hc3 rfl
   ·simp -dsimp (disch:=try exact dx) only[wpS,wpT,Nat.reduceEqDiff,f13]
    refine⟨m - 1,by omega,rfl,i+1,by omega,by simp[f0],by simp[f1],by simp[f12],by simp,fun j hj=>?_⟩
    by_cases hji:j=i
    ·subst hji;rw[hx,hy];congr 1
    ·exact hz j (by omega)
  ·simp -dsimp (disch:=try exact dx) only[wpS,wpT]
   rw[decide_eq_true]
   apply List.ext_getElem?
   intro j
   by_cases hj:j<i
   ·exact hz j hj
   ·rw[List.getElem?_eq_none (by omega),List.getElem?_eq_none (by omega)]
end Go.Id

namespace Go.Id
open Go
open Go.Proofs.Tryz (prog)
theorem QQ (a b:Int):az prog (Op.equal 63 (.agg #[.int .u64 a]) (.agg #[.int .u64 b]))=some (a == b):=by
 have key:=xD (P:=prog) u63 (by kernel_rfl) 9999 #[.int .u64 a] #[.int .u64 b] (fun _=>a == b) (by
  intro f hf
  simp only[List.mem_cons,List.not_mem_nil,or_false] at hf
  subst hf
  exact⟨by decide,.int .u64 a,.int .u64 b,uc pK rfl,uc pK rfl,ud u42 _ _ _⟩)
 refine key.trans (congrArg some ?_)
 simp
theorem VT (a b:Int) (ox oy:Operand):binop prog .neq 63 ox oy (.agg #[.int .u64 a]) (.agg #[.int .u64 b])=some (.bool (!(a == b))) :=
 AR (by kernel_rfl) (by simp[plain,bJ]) (by simp[plain,bJ]) (QQ a b) ox oy
theorem Ky (s:Nat) (ox oy:Operand):binop prog .neq 63 ox oy (.agg #[K64 s]) (.agg #[K64 s])=some (.bool false):=by
 rw[VT];simp
section
variable {h:IH} {fr:Fr} {m k e3 v18:Value} {X N:Nat}
structure WX (hh:IH) (fr:Fr) (m v12 v18:Value) (ll:List (List (Nat×Nat))) (N kn:Nat) (p t:List Nat):Prop where
 f9:ai fr 9=some m
 f11:ai fr 11=some (KN N)
 f12:ai fr 12=some v12
 f18:ai fr 18=some v18
 f19:ai fr 19=some (KN kn)
 hm:hP hh m ll
 sp:bI hh 1 v12 (N+1) ((pI p).map KI)
 st:bI hh 1 v18 (N+1) ((pI t).map KI)
theorem WG {t:List Nat} {i:Nat} (hi:i<t.length):((pI t).map KI)[i]?=some (KN (t.getD i 0)):=by
 rw[List.getElem?_map,List.getElem?_map,List.getElem?_eq_getElem hi,List.getD_eq_getElem?_getD,List.getElem?_eq_getElem hi];rfl
theorem WE {h h':IH} {v:Value} {n:Nat} {t:List Nat} (s:bI h 1 v n ((pI t).map KI)) (e:aN h h') {i:Nat} (hi:i<n):load prog h' 3 (aO v i)=some (KN (t.getD i 0)):=by
 have hl:=s.2.1
 rw[List.length_map,l4] at hl
 rw[s.ld e (by rw[List.length_map,l4];omega) ag3,WG (by omega)]
end
end Go.Id

namespace Go.Id
open Go
end Go.Id

namespace Go.Id
open Go
theorem hP.Ra {h:IH} {v:Value} {ll:List (List (Nat×Nat))} (s:hP h v ll) {i:Nat} {x:List (Nat×Nat)} (hx:ll[i]?=some x) :
  ∃w,(∀h',aN h h'→load Proofs.Tryz.prog h' 82 (aO v i)=some w)∧jt h w x ∧ ∀k:IntKind,indexAddr Proofs.Tryz.prog 54 v (.int k (i:Int))=some (aO v i):=by
 obtain⟨vs,a,b,c⟩:=s
 obtain⟨w,h1,h2⟩:=c i x hx
 have hi:=(List.getElem?_eq_some_iff.1 hx).1
 refine⟨w,fun h' e=>?_,h2,fun k=>by rw[a.idx SR hi,Nat.mul_one]⟩
 rw[a.ld e (by rw[a.2.1];omega) Rh]
 exact h1
section
variable {h:IH} {fr:Fr} {m v12 v18:Value} {X N kn:Nat} {ll:List (List (Nat×Nat))} {p t:List Nat}
end
end Go.Id

namespace Go.Id
open Go
structure FJ (hh H:IH) (fr:Fr) (v v7 out v10:Value) (n i d e b11:Nat) (g:Nat→Rat) (cs:List Value):Prop where
 E:Ext hh H
 rb:RowB H 4 hh.n v10 n cs
 done : ∀k,k<e→Yw fc H cs k (g k)
 b1:hh.n<b11
 b2:b11<H.n
 box : ∃a s b u,H.ext.get b11=some (.cells [a,s,b,u] 0 none)∧fc H (.agg #[a,s,b,u]) (Vc g i d)
 f0:ai fr 0=some v
 f7:ai fr 7=some v7
 f8:ai fr 8=some out
 f9:ai fr 9=some (KN i)
 f10:ai fr 10=some v10
 f11:ai fr 11=some (ptr (2*b11) 0)
 f35:ai fr 35=some (KN n)
 f36:ai fr 36=some (KN i)
 f44:ai fr 44=some (KN n)
end Go.Id

namespace Go.Id
open Go
def Yz (h:IH) (sz:Nat) (v:Value):Prop:=∀k n c,v=.slice (some ⟨2*k,0,none⟩) n c → ∀cs f rest,h.ext.get k=some (.cells cs sz (some f))→h.bQ.get f=some (k :: rest) → ∀j∈rest,∃c' f',h.ext.get j=some (.cells c' sz f')
def mw (h:IH) (n0 sz:Nat) (v:Value) (n:Nat) (cs:List Value):Prop:=Acc h n0 sz v n cs∧Yz h sz v
theorem mw.nil (h:IH) (n0:Nat) {sz:Nat} (hz:0<sz):mw h n0 sz (.slice none 0 0) 0 []:=⟨Acc.nil h n0 hz,fun k n c hv=>by cases hv⟩
theorem Rk {h:IH} {n0 sz:Nat} {v:Value} {n:Nat} {cs:List Value} (a:Acc h n0 sz v n cs) {k m c:Nat} (hv:v=.slice (some ⟨2*k,0,none⟩) m c):0<sz∧k<h.n ∧ ∃fam,h.ext.get k=some (.cells cs sz fam)∧Rn h n0 k fam:=by
 obtain⟨hz,hl,⟨rfl,rfl⟩|⟨k',fam,rfl,hn,h1,h2,h3,h4⟩⟩:=a
 ·cases hv
 ·have hkk:k=k':=by
   injection hv with hv _ _;injection hv with hv;injection hv with hv _ _;omega
  subst hkk
  exact⟨hz,h2,fam,h3,h4⟩
theorem mw.ext {h h':IH} {n0 sz:Nat} {v:Value} {n:Nat} {cs:List Value} (a:mw h n0 sz v n cs) (e:Ext h h'):mw h' n0 sz v n cs:=by
 refine⟨a.1.ext e,fun k m c hv cs2 f rest hg hf j hj=>?_⟩
 obtain⟨hz,hk,fam,g1,g2⟩:=Rk a.1 hv
 rw[e.get k hk,g1] at hg
 cases hg
 obtain⟨f1,f2,r,f3,f4⟩:=g2
 rw[e.bQ f f2,f3] at hf
 cases hf
 obtain⟨c',f',h5⟩:=a.2 k m c hv cs f rest g1 f3 j hj
 exact⟨c',f',(e.get j (f4 j hj).2).trans h5⟩
theorem mw.appE {h:IH} {n0 sz:Nat} {v:Value} {n:Nat} {cs:List Value} (aF:mw h n0 sz v n cs) {P:Program} {t:TypeId} {bytes:Nat} (hT:kL P t=some (sz,bytes)) {x:Value} {m:Nat} {new:List Value} (sx:bI h sz x m new) (hm:0<m)
  (hc:new.all aH=true) (hsz:(n+m)*(bytes+1)≤aI) (h0:n0≤h.n) {h0':IH} (e0:Ext h0' h) (hn0:h0'.n≤n0) :
  ∃v' h',append P h t v x=some (v',h')∧mw h' n0 sz v' (n+m) (cs ++ new)∧Grow h h'∧h'.n=h.n+1∧Ext h0' h' ∧ ∀j c e f,j<h.n→e≠sz→h.ext.get j=some (.cells c e f)→h'.ext.get j=some (.cells c e f):=by
 obtain⟨a,aZ⟩:=aF
 unfold kL at hT
 split at hT
 case h_2=>cases hT
 rename_i e hu
 split at hT
 case h_2=>cases hT
 rename_i zs h1 h2 h3
 simp only[cond_eq_ite] at hT
 split at hT
 case isTrue=>cases hT
 rename_i Dx
 cases hT
 have mh:(sz == 0 || (!(Nat.ble bytes 65536) || !(zs.length == sz)))=false:=by simpa using Dx
 have PI:0<sz:=by
  simp at mh;omega
 obtain⟨_,hln,hx⟩:=sx
 have vI:(m == 0)=false:=by simp;omega
 have hx' : ∃b o k row,x=.slice (some ⟨b,o,none⟩) m k∧h.row b=some row∧(row.drop o).take (m*sz)=new∧o+m*sz≤row.length:=by
  rcases hx with⟨rfl,rfl⟩|⟨b,o,k,rfl,⟨rfl,_⟩|⟨_,_,row,_,a1,a2,a3⟩⟩
  ·omega
  ·omega
  ·exact⟨b,o,k,row,rfl,a1,a2,a3⟩
 obtain⟨b,o,k,row,rfl,a1,a2,a3⟩:=hx'
 have hms : ¬m*sz=0:=by
  have:0<m*sz:=Nat.mul_pos hm PI
  omega
 have jJ:bN h sz m (.slice (some ⟨b,o,none⟩) m k)=some new:=by
  simp only[bN,cond_eq_ite,Nat.ble_eq,Nat.le_refl,if_true,beq_iff_eq,if_neg hms]
  rw[tY a1,if_pos a3,a2]
 have ti:Nat.ble ((n+m)*(bytes+1)) aI=true:=by rw[Nat.ble_eq];exact hsz
 obtain⟨hz,hl,⟨rfl,rfl⟩|⟨kk,fam,rfl,hn,g1,g2,g3,g4⟩⟩:=a
 ·-- from nothing
  have hcs:cs = []:=List.length_eq_zero_iff.1 (by omega)
  subst hcs
  refine⟨.slice (some ⟨2*h.n,0,none⟩) m (2*m),h.new (.cells new sz none),?_,⟨⟨hz,by simp;exact hln,.inr ⟨h.n,none,by simp,by omega,h0,by simp,by simp[kV],trivial⟩⟩,fun k2 n2 c2 hv2 cs2 f2 TH hg2=>by
   have hkk:k2=h.n:=by
    injection hv2 with hv2 _ _;injection hv2 with hv2;injection hv2 with hv2 _ _;omega
   subst hkk
   rw[kV,if_pos rfl] at hg2;cases hg2⟩,(Grow.refl h).new _,rfl,e0.new _,fun j c e f hj _ hg=>(ar _ _ (by omega)).trans hg⟩
  have PV:Nat.ble (m*(bytes+1)) aI=true:=by simpa using ti
  simp only[Id.append,hu,h1,h2,h3,lenOf,vI,mh,jJ,hc,PV,cond_true,cond_false,Bool.not_true,BEq.rfl,Bool.and_self]
 ·have mB:Nat.ble (n+m) (2*n / 2)=false:=by
   rw[Bool.eq_false_iff];intro hh;rw[Nat.ble_eq] at hh;omega
  have mA:(2*n % 2 == 1)=false:=by simp
  have hlen:(n == 2*n / 2 && Nat.blt 0 n && (2*kk) % 2 == 0)=true:=by
   have:2*n / 2=n:=by omega
   simp[this,Nat.blt,Nat.ble_eq];omega
  have rF:(0+n*sz == cs.length && sz == sz)=true:=by simp[hl]
  have hk2:2*kk / 2=kk:=by omega
  have body : ∀f below,(∀j∈below,n0≤j∧j<h.n)→(∀j∈below,∃c f',h.ext.get j=some (.cells c sz f'))→(n0≤f)→f<h.n+1 →
    mw (grown h kk f cs sz [] below (cs.drop 0 ++ new) sz) n0 sz (.slice (some ⟨2*h.n,0,none⟩) (n+m) (2*(n+m))) (n+m) (cs ++ new) ∧
    Grow h (grown h kk f cs sz [] below (cs.drop 0 ++ new) sz)∧Ext h0' (grown h kk f cs sz [] below (cs.drop 0 ++ new) sz)∧(∀j c e f',j<h.n→e≠sz→h.ext.get j=some (.cells c e f')→(grown h kk f cs sz [] below (cs.drop 0 ++ new) sz).ext.get j=some (.cells c e f')):=by
   intro f below hbl hbz hf1 hf2
   have cq : ∀j,(grown h kk f cs sz [] below (cs.drop 0 ++ new) sz).ext.get j=if j=h.n then some (.cells (cs ++ new) sz (some f)) else if j=kk then some (.cells cs sz (some f)) else h.ext.get j:=by
    intro j
    simp[grown,IH.cU,Tr.bA]
   refine⟨⟨⟨hz,by simp[hl,hln,Nat.add_mul],.inr ⟨h.n,some f,rfl,by omega,h0,by simp[grown],by rw[cq,if_pos rfl],hf1,by simp[grown];omega,kk :: below,?_,fun j hj=>by rcases List.mem_cons.1 hj with rfl|hj;exact⟨g1,by simp[grown];omega⟩;exact⟨(hbl j hj).1,by have:=(hbl j hj).2;simp[grown];omega⟩⟩⟩,?_⟩,⟨by simp[grown],rfl,fun j hj=>?_⟩,?_,fun j c e f' hj he hg=>by
    rw[cq,if_neg (by omega),if_neg (by rintro rfl;rw[g3] at hg;cases hg;exact he rfl)];exact hg⟩
   ·simp[grown,Tr.bA]
   ·intro k2 n2 c2 hv2 cs2 f2 TH hg2 Xx j hj
    have hkk:k2=h.n:=by
     injection hv2 with hv2 _ _;injection hv2 with hv2;injection hv2 with hv2 _ _;omega
    subst hkk
    rw[cq,if_pos rfl] at hg2
    cases hg2
    have hfm:(grown h kk f cs sz [] below (cs.drop 0 ++ new) sz).bQ.get f=some (h.n :: kk :: below):=by simp[grown,Tr.bA]
    rw[hfm] at Xx
    cases Xx
    rw[cq]
    rcases List.mem_cons.1 hj with rfl|hj
    ·rw[if_neg (by omega),if_pos rfl];exact⟨_,_,rfl⟩
    ·obtain⟨c',f',hc'⟩:=hbz j hj
     have:=(hbl j hj).2
     rw[if_neg (by omega)]
     by_cases hjk:j=kk
     ·rw[if_pos hjk];exact⟨_,_,rfl⟩
     ·rw[if_neg hjk];exact⟨c',f',hc'⟩
   ·rw[cq,if_neg (by omega)]
    by_cases hjk:j=kk
    ·subst hjk
     exact .inr ⟨cs,sz,fam,some f,by omega,g3,by rw[if_pos rfl]⟩
    ·rw[if_neg hjk];exact .inl rfl
   ·refine⟨by have:=e0.n;simp[grown];omega,e0.base,fun j hj=>?_,fun g hg=>?_⟩
    ·rw[cq,if_neg (by omega),if_neg (by omega)];exact e0.get j hj
    ·simp only[grown,Tr.bA]
     rw[if_neg (by omega)];exact e0.bQ g hg
  cases fam with
  | none =>
   obtain⟨b1,b2,b3,b4⟩:=body h.n [] (fun _ h=>by cases h) (fun _ h=>by cases h) h0 (by omega)
   refine⟨_,_,?_,b1,b2,rfl,b3,b4⟩
   simp only[Id.append,hu,h1,h2,h3,lenOf,vI,mh,jJ,hc,ti,mB,mA,hlen,hk2,g3,rF,cond_true,cond_false,Bool.not_true]
  | some f =>
   obtain⟨f1,f2,rest,f3,f4⟩:=g4
   obtain⟨b1,b2,b3,b4⟩:=body f rest f4 (aZ kk n _ rfl cs f rest g3 f3) f1 (by omega)
   refine⟨_,_,?_,b1,b2,rfl,b3,b4⟩
   have t1:(kk :: rest).takeWhile (· != kk) = []:=by simp
   have t2:((kk :: rest).dropWhile (· != kk)).drop 1=rest:=by simp
   simp only[Id.append,hu,h1,h2,h3,lenOf,vI,mh,jJ,hc,ti,mB,mA,hlen,hk2,g3,rF,f3,t1,t2,cond_true,cond_false,Bool.not_true]
theorem mw.Up {h:IH} {n0 sz:Nat} {v:Value} {n:Nat} {cs:List Value} (a:mw h n0 sz v n cs) {P:Program} {t:TypeId} {bytes:Nat} (hT:kL P t=some (sz,bytes)) {m:Nat} {new:List Value} (hm:0<m) (hl:new.length=m*sz)
  (hc:new.all aH=true) (hsz:(n+m)*(bytes+1)≤1099511627776) (h0:n0≤h.n) {h0':IH} (e0:Ext h0' h) (hn0:h0'.n≤n0) :
  ∃v' h',append P (h.new (.cells new sz none)) t v (.slice (some ⟨2*h.n,0,none⟩) m (2*m+1))=some (v',h')∧mw h' n0 sz v' (n+m) (cs ++ new)∧Grow h h'∧Ext h0' h' ∧ ∀j c e f,j<h.n→e≠sz→h.ext.get j=some (.cells c e f)→h'.ext.get j=some (.cells c e f):=by
 have e1:Ext h (h.new (.cells new sz none)):=(Ext.refl h).new _
 obtain⟨v',h',b1,b2,b3,b4,b5,b6⟩:=(a.ext e1).appE hT (qG h a.1.1 hl hm) hm hc hsz (by simp;omega) (e0.trans e1) hn0
 exact⟨v',h',b1,b2,e1.grow.trans b3,b5,fun j c e f hj he hg=>b6 j c e f (by simp;omega) he ((ar _ _ (by omega)).trans hg)⟩
theorem mw.UT {h:IH} {n0 sz:Nat} {v:Value} {n:Nat} {cs:List Value} (a:mw h n0 sz v n cs) {P:Program} {t:TypeId} (hT:aJ P t=some sz) {i:Nat} (hi:i<n) {x:Value} {xs:List Value} (hx:x.cells.toList=xs) (hxl:xs.length=sz) (hc:xs.all aH=true) {h0':IH} (e0:Ext h0' h) (hn0:h0'.n≤n0) :
  ∃h',store P h t (aO v (i*sz)) x=some h'∧mw h' n0 sz v n (IH.aG cs (i*sz) xs)∧Ext h0' h'∧h'.n=h.n∧h'.base=h.base ∧ ∀j c e f,e≠sz→h.ext.get j=some (.cells c e f)→h'.ext.get j=some (.cells c e f):=by
 obtain⟨⟨hz,hl,⟨rfl,rfl⟩|⟨k,fam,rfl,hn,h1,h2,h3,h4⟩⟩,aZ⟩:=a
 ·omega
 ·have hle:i*sz+sz≤cs.length:=by
   rw[hl,←Nat.succ_mul];exact Nat.mul_le_mul_right _ hi
  have hsl:(IH.aG cs (i*sz) xs).length=n*sz:=by
   simp only[IH.aG,List.length_append,List.length_take,List.length_drop]
   omega
  have k2:2*k / 2=k:=by omega
  have k1:(2*k % 2 == 1)=false:=by simp
  have hsx:x.cells.size=sz:=by rw[←Array.length_toList,hx,hxl]
  have hst:store P h t (aO (.slice (some ⟨2*k,0,none⟩) n (2*n)) (i*sz)) x=h.wr (2*k) (i*sz) xs:=by
   simp only[aO,Nat.zero_add,store,asAddr,ptr,hT,hx,hsx,hc,beq_self_eq_true,Bool.and_self,cond_true]
  have hle:Nat.ble (i*sz+xs.length) cs.length=true:=by rw[Nat.ble_eq,hxl];exact hle
  have TP : ∀H:IH,H.ext.get k=some (.cells (IH.aG cs (i*sz) xs) sz none)→Yz H sz (.slice (some ⟨2*k,0,none⟩) n (2*n)):=fun H hH k' n' c' hv cs2 f rest hg=>by
   have hkk:k'=k:=by
    injection hv with hv _ _;injection hv with hv;injection hv with hv _ _;omega
   subst hkk
   rw[hH] at hg;cases hg
  rw[hst]
  cases fam with
  | none =>
   refine⟨h.put k (.cells (IH.aG cs (i*sz) xs) sz none),?_,⟨⟨hz,hsl,.inr ⟨k,none,rfl,hn,h1,h2,aa _ _ rfl,trivial⟩⟩,TP _ (aa _ _ rfl)⟩,e0.put (by omega) _,rfl,rfl,fun j c e f he hg=>?_⟩
   ·simp only[IH.wr,k1,k2,h3,hle,cond_true,cond_false];rfl
   ·rw[ah]
    ·exact hg
    ·rintro rfl;rw[h3] at hg;cases hg;exact he rfl
  | some f =>
   obtain⟨a1,a2,rest,a3,a4⟩:=h4
   have hgk:((IH.cU h.ext (((k :: rest).filter (· != k)))).set k (.cells (IH.aG cs (i*sz) xs) sz none)).get k=some (.cells (IH.aG cs (i*sz) xs) sz none):=by simp[Tr.bA]
   refine⟨{ h with ext:=(IH.cU h.ext (((k :: rest).filter (· != k)))).set k (.cells (IH.aG cs (i*sz) xs) sz none) },?_,⟨⟨hz,hsl,.inr ⟨k,none,rfl,hn,h1,h2,hgk,trivial⟩⟩,TP _ hgk⟩,⟨e0.n,e0.base,fun j hj=>?_,e0.bQ⟩,rfl,rfl,fun j c e f2 he hg=>?_⟩
   ·simp only[IH.wr,k1,k2,h3,hle,cond_true,cond_false,a3]
   ·have hjk:j≠k:=by omega
    rw[Tr.bA,if_neg hjk,gJ,if_neg]
    ·exact e0.get j hj
    ·intro hm
     simp only[List.mem_filter,List.mem_cons,bne_iff_ne,ne_eq] at hm
     rcases hm with⟨rfl|hm,hne⟩
     ·exact hne rfl
     ·have:=a4 j hm;omega
   ·have hjk:j≠k:=by rintro rfl;rw[h3] at hg;cases hg;exact he rfl
    rw[Tr.bA,if_neg hjk,gJ,if_neg]
    ·exact hg
    ·intro hm
     simp only[List.mem_filter,List.mem_cons,bne_iff_ne,ne_eq] at hm
     rcases hm with⟨rfl|hm,hne⟩
     ·exact hne rfl
     ·obtain⟨c',f',h5⟩:=aZ k n _ rfl cs f rest h3 a3 j hm
      rw[h5] at hg;cases hg;exact he rfl
end Go.Id

namespace Go.Id
open Go
end Go.Id

namespace Go.Id
open Go
def pQ (g:Nat→Rat) (i j:Nat):Rat:=if i=j then 0 else g j
def Wy (g:Nat→Rat) (i:Nat):Nat→Rat
 | 0=>0
 | j+1=>Wy g i j+pQ g i j
structure FR (hh H:IH) (fr:Fr) (v v6 out rw:Value) (i d e b10:Nat) (g:Nat→Rat) (cs:List Value):Prop where
 E:Ext hh H
 acc:mw H hh.n 4 rw e cs
 els:YB po H ((List.range e).map (pQ g i)) cs
 b1:hh.n≤b10
 b2:b10<H.n
 box : ∃a s b u,H.ext.get b10=some (.cells [a,s,b,u] 0 none)∧po H (.agg #[a,s,b,u]) (Wy g i d)
 f0:ai fr 0=some v
 f6:ai fr 6=some v6
 f7:ai fr 7=some out
 f8:ai fr 8=some (KN i)
 f9:ai fr 9=some rw
 f10:ai fr 10=some (ptr (2*b10) 0)
section
variable {hh H H':IH} {fr gr:Fr} {v v6 out rw:Value} {i d e b10:Nat} {g:Nat→Rat} {cs:List Value}
end
end Go.Id

namespace Go.Id
open Go
end Go.Id
