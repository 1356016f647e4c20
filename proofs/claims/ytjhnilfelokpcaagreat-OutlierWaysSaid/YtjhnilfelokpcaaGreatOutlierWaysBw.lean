/-
  Contracts: slices.Concat of two lists of ints. The statement OutlierWays: plain part.
-/
import Derived.Test.YtjhnilfelokpcaaGreatOutlierWaysAt
import Derived.Test.YtjhnilfelokpcaaGreatOutlierWaysBv
import Derived.Test.YtjhnilfelokpcaaGreatOutlierWaysBh
import Derived.Test.YtjhnilfelokpcaaGreatOutlierWaysAr
import Derived.Test.YtjhnilfelokpcaaGreatOutlierWaysBp
import Derived.Test.YtjhnilfelokpcaaGreatOutlierWaysBl
import Derived.Test.YtjhnilfelokpcaaGreatOutlierWaysBg
set_option linter.unusedVariables false
set_option linter.unusedSimpArgs false
set_option linter.defProp false
set_option linter.deprecated false
namespace Go.Id
open Go
open Go.Proofs.Tryz (prog)
set_option maxHeartbeats 16000000
theorem concatI_ok {h:IH} {v w1 w2:Value} {l1 l2:List Int} (hv:SlOf h 1 v 2 [w1,w2]) (h1:SlOf h 1 w1 l1.length (l1.map KI)) (h2:SlOf h 1 w2 l2.length (l2.map KI)) (h0:0<l1.length+l2.length) (hb1:l1.length≤1000) (hb2:l2.length≤1000) :
  WV prog (.func (.func 42) #[] #[]) [v] h fun r h'=>Ext h h'∧SlOf h' 1 r (l1.length+l2.length) ((l1 ++ l2).map KI):=by
 obtain⟨W,hW⟩ : ∃W:Nat→Value,∀i,W i=if i=0 then w1 else w2:=⟨_,fun _=>rfl⟩
 obtain⟨L,hL⟩ : ∃L:Nat→List Int,∀i,L i=if i=0 then l1 else l2:=⟨_,fun _=>rfl⟩
 obtain⟨C,hC⟩ : ∃C:Nat→List Int,∀i,C i=if i=0 then [] else if i=1 then l1 else l1 ++ l2:=⟨_,fun _=>rfl⟩
 have hCs : ∀i,i<2→C (i+1)=C i ++ L i:=fun i hi=>by
  rcases i with _|_|i
  ·simp[hC,hL]
  ·simp[hC,hL]
  ·omega
 have hsl : ∀i,SlOf h 1 (W i) (L i).length ((L i).map KI):=fun i=>by
  rw[hW,hL]
  split
  ·exact h1
  ·exact h2
 have hLb : ∀i,(L i).length≤1000:=fun i=>by rw[hL];split<;>omega
 have hWi : ∀i,i<2 → [w1,w2][i]?=some (W i):=fun i hi=>by
  rcases i with _|_|i
  ·simp[hW]
  ·simp[hW]
  ·omega
 have hCl : ∀i,i≤2→(C i).length≤2000:=fun i hi=>by
  rw[hC]
  split
  ·simp
  ·split
   ·omega
   ·rw[List.length_append];omega
 have hC2:C 2=l1 ++ l2:=by simp[hC]
 have hC0:C 0 = []:=by simp[hC]
 have hCm : ∀i,i<2→(C i).length+(L i).length≤l1.length+l2.length:=fun i hi=>by
  rcases i with _|_|i
  ·simp[hC,hL]
  ·simp[hC,hL]
  ·omega
 have hlen:=hv.len sl182 (P:=prog)
 refine enter (nt:=36) (rs:=[.tmp 2]) Proofs.Tryz.func42 rfl rfl rfl (by simp) ?_
 simp -dsimp (maxSteps:=1000000) (disch:=try exact dx) only[wpS,Nat.reduceEqDiff,hlen]
 refine loop (fun m fr hh => ∃i:Nat,i+m=2∧hh=h∧fget fr 0=some v∧fget fr 3=some (KN (C i).length)∧fget fr 9=some v∧fget fr 10=some (KN 2)∧fget fr 11=some (KN i)) 2
  ⟨0,by omega,rfl,by simp,by simp[hC0],by simp,by simp,by simp⟩ ?_
 rintro m fr hh ⟨i,him,rfl,f0,f3,f9,f10,f11⟩
 simp -dsimp (maxSteps:=1000000) (disch:=try exact dx) only[wpS,f10,f11]
 refine bq_intro ?_ ?_<;>intro hc<;>simp only[decide_eq_true_eq,decide_eq_false_iff_not] at hc
 ·have hi:i<2:=by omega
  have ix:=hv.idx es182 (P:=prog) (k:=.i64) (j:=i) hi
  rw[Nat.mul_one] at ix
  have ld:=(hv.ld (Keep.refl hh) (by simpa using hi) ag25 (P:=prog) (c:=i)).trans (hWi i hi)
  have ln:=(hsl i).len sl25 (P:=prog)
  have b1:=hCl i (by omega)
  have b2:=hLb i
  simp -dsimp (maxSteps:=1000000) (disch:=try exact dx) only[wpS,wpT,Nat.reduceEqDiff,f3,f9,f11,ix,ld,ln]
  refine⟨m - 1,by omega,i+1,by omega,rfl,by simp[f0],?_,by simp[f9],by simp[f10],by simp⟩
  rw[hCs i hi]
  simp
 ·obtain rfl:i=2:=by omega
  rw[hC2] at f3
  simp -dsimp (maxSteps:=1000000) (disch:=try exact dx) only[wpS,wpT,Nat.reduceEqDiff,f3]
  refine call (growI_ok (n:=(l1 ++ l2).length) (by rw[List.length_append];exact h0) (by rw[List.length_append];omega)) ?_
  rintro r h3 ⟨X3,hR⟩
  simp -dsimp (maxSteps:=1000000) (disch:=try exact dx) only[wpS,Nat.reduceEqDiff,f0,hlen]
  refine loop (fun m fr h4 => ∃(i:Nat) (out:Value),i+m=2∧Ext hh h4∧Room h4 hh.n out (C i).length ((C i).map KI) (l1.length+l2.length - (C i).length)∧fget fr 6=some out∧fget fr 25=some v∧fget fr 26=some (KN 2)∧fget fr 27=some (KN i)) 2
   ⟨0,r,by omega,X3,by rw[hC0];rw[List.length_append] at hR;exact hR,by simp,by simp,by simp,by simp⟩ ?_
  rintro m fr h4 ⟨i,out,him,hE,hA,f6,f25,f26,f27⟩
  simp -dsimp (maxSteps:=1000000) (disch:=try exact dx) only[wpS,f26,f27]
  refine bq_intro ?_ ?_<;>intro hc2<;>simp only[decide_eq_true_eq,decide_eq_false_iff_not] at hc2
  ·have hi:i<2:=by omega
   have ix:=hv.idx es182 (P:=prog) (k:=.i64) (j:=i) hi
   rw[Nat.mul_one] at ix
   have ld:=(hv.ld hE.keep (by simpa using hi) ag25 (P:=prog) (c:=i)).trans (hWi i hi)
   have b1:=hCl i (by omega)
   have b2:=hLb i
   have b3:=hCm i hi
   obtain⟨out',h5,ha,hR5,hn5,hE5⟩:=hA.app (P:=prog) (t:=25) ap25 ((hsl i).keep hE.keep).now (by omega) (by simp[cellOK]) (by omega)
   simp -dsimp (maxSteps:=1000000) (disch:=try exact dx) only[wpS,wpT,Nat.reduceEqDiff,ba25_25,f6,f25,f27,ix,ld,ha]
   refine⟨m - 1,by omega,i+1,out',by omega,hE5 _ hE (Nat.le_refl _),?_,by simp,by simp[f25],by simp[f26],by simp⟩
   rw[hCs i hi,List.length_append,List.map_append,show l1.length+l2.length - ((C i).length+(L i).length)=l1.length+l2.length - (C i).length - (L i).length by omega]
   exact hR5
  ·obtain rfl:i=2:=by omega
   simp -dsimp (maxSteps:=1000000) (disch:=try exact dx) only[wpS,wpT,Nat.reduceEqDiff,f6]
   have hs:=hA.sl
   rw[hC2,List.length_append] at hs
   exact⟨hE,hs⟩
end Go.Id

namespace Go.Id
open Go
theorem thr_lo {b o:List Nat} {k i:Nat} (hb:b.length=k+1) (hi:i≤k):(b.reverse ++ o.drop 1).getD i 0=b.getD (k - i) 0:=by
 rw[List.getD_eq_getElem?_getD,List.getElem?_append_left (by rw[List.length_reverse];omega),List.getElem?_reverse (by omega),List.getD_eq_getElem?_getD,show b.length - 1 - i=k - i by omega]
theorem thr_hi {b o:List Nat} {k i:Nat} (hb:b.length=k+1) (h0:b.getD 0 0=o.getD 0 0) (hi:k≤i):(b.reverse ++ o.drop 1).getD i 0=o.getD (i - k) 0:=by
 by_cases c:i=k
 ·subst c
  rw[thr_lo hb (Nat.le_refl _),Nat.sub_self,h0]
 ·rw[List.getD_eq_getElem?_getD,List.getElem?_append_right (by rw[List.length_reverse];omega),List.length_reverse,hb,List.getElem?_drop,List.getD_eq_getElem?_getD,show 1+(i - (k+1))=i - k by omega]
theorem thr_all {ll:List (List (Nat×Nat))} {x n k:Nat} {b o:List Nat} (h:thrOk ll x n k b o) :
  (b.reverse ++ o.drop 1).length=n+1∧(b.reverse ++ o.drop 1).getD k 0=x∧(∀y∈b.reverse ++ o.drop 1,y<ll.length) ∧
  (∀i,i<k→kpos ll ((b.reverse ++ o.drop 1).getD (i+1) 0) ((b.reverse ++ o.drop 1).getD i 0)) ∧ ∀i,k≤i→i<n→kpos ll ((b.reverse ++ o.drop 1).getD i 0) ((b.reverse ++ o.drop 1).getD (i+1) 0):=by
 obtain⟨h1,h2,h3,h4,h5,h6,h7⟩:=h
 have h0:b.getD 0 0=o.getD 0 0:=h6.trans h7.symm
 refine⟨by rw[List.length_append,List.length_reverse,List.length_drop];omega,?_,fun y hy=>?_,fun i hi=>?_,fun i hi hn=>?_⟩
 ·rw[thr_lo h4 (Nat.le_refl _),Nat.sub_self];exact h6
 ·rcases List.mem_append.1 hy with hy|hy
  ·exact h2.1 y (List.mem_reverse.1 hy)
  ·exact h3.1 y (List.mem_of_mem_drop hy)
 ·rw[thr_lo h4 (by omega),thr_lo h4 (by omega)]
  have:=h2.2 (k - (i+1)) (by omega)
  rw[show k - (i+1)+1=k - i by omega] at this
  exact this
 ·rw[thr_hi h4 h0 hi,thr_hi h4 h0 (by omega)]
  have:=h3.2 (i - k) (by omega)
  rw[show i - k+1=i+1 - k by omega] at this
  exact this
end Go.Id

namespace Go.Id
open Go
def Follows (P:Program) (f:FuncId) (nt:Nat) (run:Fr→IH→Out) (c:Code):Prop :=
 (∀fr h e fr' h',run fr h=some (e,fr',h')→h.n≤h'.n) ∧ ∀(b:Frame) (z B:Nat) (w0:World) (cs:List Frame),b.fn=f→SimCode (E0 P) run b none B w0 z nt cs c
theorem follows_code {E:Env} (S:Sound E) (n:Nat) (f:FuncId) (nt:Nat) (c:Code):Follows E.P f nt (evC E (callV E n) f nt none n c) c:=by
 refine⟨fun fr h e fr' h' hr=>evC_n (callV_mono S n) _ _ _ _ _ _ hr,fun b z B w0 cs hb=>?_⟩
 subst hb
 exact sim_code (E:=E) (callV_sim S n) (callV_mono S n) S.mixed n c
def seqR (ra rb:Fr→IH→Out):Fr→IH→Out:=fun fr h=>match ra fr h with
 | some (.normal,fr,h)=>rb fr h
 | o=>o
theorem follows_seq {P:Program} {f:FuncId} {nt:Nat} {ra rb:Fr→IH→Out} {x y:Code} (hx:Follows P f nt ra x) (hy:Follows P f nt rb y):Follows P f nt (seqR ra rb) (.seq x y):=by
 refine⟨fun fr h e fr' h' hr=>?_,fun b z B w0 cs hb=>?_⟩
 ·unfold seqR at hr
  split at hr
  ·rename_i hx1
   exact Nat.le_trans (hx.1 _ _ _ _ _ hx1) (hy.1 _ _ _ _ _ hr)
  ·exact hx.1 _ _ _ _ _ hr
 ·intro fr h e fr' h' hr m w tmps k ds R hf ht hfr hfo hd hz
  unfold seqR at hr
  split at hr
  ·rename_i fr1 h1 hx1
   have n1:=hx.1 _ _ _ _ _ hx1
   have n2:=hy.1 _ _ _ _ _ hr
   obtain⟨m1,w1,tmps1,ds1,k1,a1,a2,a3,a4,a5,a6,a7⟩:=hx.2 b z B w0 cs hb fr h .normal fr1 h1 hx1 m w tmps (.code y :: k) ds R hf ht (hfr.sub (Nat.le_refl _) n2) hfo hd hz
   obtain rfl:k1=_:=a2
   refine .first (.head st_seq a1) (.step a6 ?_)
   exact hy.2 b z B w0 cs hb fr1 h1 e fr' h' hr m1 w1 tmps1 k ds1 a5 a3 a4 (a6.fresh hfr) (hfo.mono a6.le) a7 (Nat.le_trans hz a6.size)
  ·rename_i hne
   cases e with
   | normal=>exact absurd hr (hne _ _)
   | exit i=>exact .first (.one st_seq) ((hx.2 b z B w0 cs hb fr h _ _ _ hr m w tmps (.code y :: k) ds R hf ht hfr hfo hd hz).out (by simp) (fun i _=>rfl))
   | ret=>exact .first (.one st_seq) ((hx.2 b z B w0 cs hb fr h _ _ _ hr m w tmps (.code y :: k) ds R hf ht hfr hfo hd hz).out (by simp) (fun i hi=>by cases hi))
theorem follows_calls {P:Program} {f:FuncId} {fn:Func} {c:Code} {run:Fr→IH→Out} (hfn:P.funcs[f]?=some fn) (hc:fn.body=some c) (F:Follows P f fn.ntmps run c) {args:List Value} {h h1:IH} {e:IExit} {fr1:Fr} {vs:List Value}
  (hlen':args.length≤fn.ntmps) (hx:run (enterFr 0 args) h=some (e,fr1,h1)) (hne : ∀i,e≠.exit i) (hvs:resultsOf P fr1 h1 fn.results.toList=some vs)
  {B:Nat} {w0:World} {m:Mp} {w:World} {args':Array Value} (R:Rel B w0 m h w) (hargs:LRel m args args'.toList) (hfr:Fresh m h.n h1.n):CallsTo P f args' B w0 m h w (single vs) h1:=by
 have hsz:args'.size=args.length:=by rw[hargs.1];simp
 intro cs
 let b:Frame:={ fn:=f,tmps:=#[],todo:=[],defers:=[],mode:=.run,kind:=.normal,roundOf:=none }
 let tmps:Array Value:=args' ++ Array.replicate (fn.ntmps - args'.size) undef
 have hen:Frame.enter P f args' .normal=on b tmps [.code c] []:=by
  simp[Frame.enter,hfn,hc,on,b,tmps]
 have htmps:FrRel m (enterFr 0 args) tmps:=by
  intro t u hu
  rw[fget_enterFr] at hu
  simp only[Nat.zero_le,if_true,Nat.sub_zero] at hu
  obtain⟨u',h2,h3⟩:=hargs.get hu
  have h4:args'[t]?=some u':=by simpa using h2
  refine⟨u',?_,h3⟩
  have:=(Array.getElem?_eq_some_iff.1 h4).1
  rw[Array.getElem?_append_left this,h4]
 have htsz:fn.ntmps≤tmps.size:=by simp[tmps];omega
 obtain⟨m1,w1,tmps1,ds1,k1,a1,a2,a3,a4,a5,a6,a7⟩:=F.2 b w.heap.size B w0 cs rfl _ _ _ _ _ hx m w tmps [] [] R htmps htsz hfr (.inl ⟨rfl,rfl⟩) (DefOK.nil _ _ _ _) (Nat.le_refl _)
 obtain⟨rs,d1,d2,d3⟩:=a7
 have hleave : ∃todo,step P (lone (on b tmps1 k1 ds1) cs w1)=.next (lone { on b tmps1 todo ds1 with mode:=.returning } cs w1):=by
  cases e with
  | normal=>obtain rfl:k1=_:=a2;exact⟨_,stepR_end (b:=b) (a:=⟨tmps1,ds1⟩) rfl⟩
  | exit i=>exact absurd rfl (hne i)
  | ret=>obtain⟨k2,rfl⟩:=a2;exact⟨_,stepR_ret (b:=b) (a:=⟨tmps1,ds1⟩) rfl⟩
 obtain⟨todo,hleave⟩:=hleave
 obtain⟨w2,b1,b2,b3,b4⟩:=unwind_marks (P:=P) R.size rs { on b tmps1 todo ds1 with mode:=.returning } cs w1 rfl d1 d2 d3 a5
 obtain⟨v',r1,r2⟩:=results_run b2 a3 hvs
 refine⟨.returned v',w2,{ on b tmps1 todo ds1 with mode:=.returning,defers:=[] },⟨v',m1,rfl,r2,b2,?_⟩,?_,?_,?_⟩
 ·refine⟨a6.le,a6.new,a6.n,a6.base,fun r hr hk=>?_,a6.idle,by rw[b3];exact a6.size,a6.img,a6.idleF⟩
  rw[b4 r (fun hm=>by have:=(d3 r hm).1;omega)]
  exact a6.frame r hr hk
 ·exact(by rw[hen];exact a1.trans (.head hleave b1):Steps P (lone (Frame.enter P f args' .normal) cs w) _)
 ·rfl
 ·exact⟨rfl,rfl,rfl,fn,hfn,r1⟩
end Go.Id

namespace Go.Id
open Go Go.RowKit
def partAt:Code→Nat→Code
 | .seq a _,0=>a
 | .seq _ b,n+1=>partAt b n
 | c,_=>c
def restAt:Code→Nat→Code
 | c,0=>c
 | .seq _ b,n+1=>restAt b n
 | c,_=>c
theorem parts_true {P:Program} {tb:FuncId→Option (List Value→Option Value)} (S0:Sound (E0 P)) (S1:Sound (E1 P tb)) {f:FuncId} {fn:Func} {a b rest:Code} {rs:List ResultVar} {nt:Nat} (hfn:P.funcs[f]?=some fn) (hc:fn.body=some (.seq a (.seq b rest))) (hrs:fn.results.toList=rs) (hnt:fn.ntmps=nt)
  {args:List Value} {base:Nat→Option (List Value)} {A:Nat→Nat×Nat} (hlen:args.length≤nt) {fra fr1:Fr} {ha h1:IH} {n:Nat}
  (ea:evC (E1 P tb) (callV (E1 P tb) n) f nt none n a (enterFr 0 args) (IH.start base)=some (.normal,fra,ha))
  (eb:evC (E1 P tb) (callV (E1 P tb) n) f nt none n b fra ha=some (.normal,fr1,h1))
  (w:Do (wpC P f nt none rest fr1 h1) (retK P rs fun r _=>r=.bool true) nx)
  {W:World} {args':Array Value} (hb:BaseOK A base W) (hargs:LRel (Mp.startOf A) args args'.toList):Calls P f args' W fun e W'=>e=.returned (.bool true)∧Below W.heap.size W W':=by
 subst hrs hnt
 obtain⟨⟨e,fr2,h2⟩,⟨N,hN⟩,hq⟩:=wpC_sound w
 have hn:=hN N (Nat.le_refl _)
 have key : ∀(K:Prop),retK P fn.results.toList (fun r _=>r=.bool true) e fr2 h2→(∀vs,(∀i,e≠.exit i)→resultsOf P fr2 h2 fn.results.toList=some vs→single vs=.bool true→K)→K:=by
  intro K hr k
  cases e with
  | exit i=>exact hr.elim
  | normal=>obtain⟨l,h3,h4⟩:=(hr:Ex _ _);exact k l (fun i h=>by cases h) h3 h4
  | ret=>obtain⟨l,h3,h4⟩:=(hr:Ex _ _);exact k l (fun i h=>by cases h) h3 h4
 refine key _ hq fun vs hne hvs hs=>?_
 have F:=follows_seq (follows_code S1 n f fn.ntmps a) (follows_seq (follows_code S1 n f fn.ntmps b) (follows_code S0 N f fn.ntmps rest))
 have hx:seqR (evC (E1 P tb) (callV (E1 P tb) n) f fn.ntmps none n a) (seqR (evC (E1 P tb) (callV (E1 P tb) n) f fn.ntmps none n b) (evC (E0 P) (callV (E0 P) N) f fn.ntmps none N rest)) (enterFr 0 args) (IH.start base)=some (e,fr2,h2):=by
  unfold seqR
  rw[ea]
  show(match evC (E1 P tb) (callV (E1 P tb) n) f fn.ntmps none n b fra ha with|some (.normal,fr,h)=>_|o=>o)=_
  rw[eb]
  exact hn
 refine(follows_calls hfn hc F hlen hx hne hvs (Rel.start hb) hargs (fun k _ _=>Mp.startOf_even A k)).mono fun e w' ⟨v',m',he,hv,R,_⟩=>?_
 rw[hs] at hv
 rw[he,hv.scal_eq rfl]
 exact⟨rfl,R.below⟩
end Go.Id

namespace Go.Id
open Go
open Go.Proofs.Tryz (prog)
open Nat (reduceAdd reduceEqDiff reduceLeDiff)

noncomputable abbrev bodyOw:Code:=Proofs.Tryz.f8.body.getD .skip
noncomputable abbrev QOw:IExit→Fr→IH→Prop:=retK prog [.tmp 8] fun r _=>r=.bool true
def PR (h:IH) (v e:Value) (b:Nat):Option (List Nat×Nat)→Prop
 | none=>v=.slice none 0 0∧e=KI 9∧h.ext.get b=some (.cells [K64 0] 0 none)
 | some q=>e=KI 0∧SlOf h 1 v q.1.length ((pI q.1).map KI)∧h.ext.get b=some (.cells [K64 q.2] 0 none)
theorem PR.ext {h h':IH} {v e:Value} {b:Nat} {o:Option (List Nat×Nat)} (p:PR h v e b o) (E:Ext h h') (hb:b<h.n):PR h' v e b o:=by
 rcases o with _|q
 ·exact⟨p.1,p.2.1,E.kept hb p.2.2⟩
 ·exact⟨p.1,p.2.1.keep E.keep,E.kept hb p.2.2⟩
section
variable {h:IH} {fr:Fr} {vN:Value} {lN:List Nat} {sz bx cx s:Nat} {from_ steps:Nat}
theorem ow2 (hN:BySl h vN lN) (hsz:sz<256) (gb:h.ext.get bx=some (.cells [B8 sz,vN] 0 none)) (f4:fget fr 4=some (ptr (2*bx) 0)) (f1:fget fr 1=some (B8 from_)) (f2:fget fr 2=some (B8 steps)) (f7:fget fr 7=some (ptr (2*cx) 0)) :
  Do (wpC prog 8 220 none (partAt bodyOw 2) fr h) (seqK (fun fr h'=>Pst (Ext h h' ∧ ∃m ll,ShLs h' m ll∧kerS ll∧kerOk ll∧ll.length=1+sz % 4∧fget fr 9=some m∧fget fr 1=some (B8 from_)∧fget fr 2=some (B8 steps)∧fget fr 7=some (ptr (2*cx) 0)) nx) QOw) nx:=by
 show Do (wpC _ _ _ _ (.region _ _ _) fr h) _ _
 simp -dsimp (maxSteps:=1000000) (disch:=try exact dx) only[wpS,wpT,reduceLeDiff,reduceAdd,ld24,f4,row_of gb,tk2a]
 refine call (dkernel_ok hN hsz) ?_
 rintro m h1 ⟨X1,ll,hm,hl,hr⟩
 obtain⟨k1,k2⟩:=kerS_ok (ll:=ll) (by omega) (by omega) (fun x hx=>by rw[hl];exact hr x hx)
 simp -dsimp (maxSteps:=1000000) (disch:=try exact dx) only[wpS,reduceEqDiff]
 exact⟨X1,m,ll,hm,k1,k2,hl,by simp,by simp[f1],by simp[f2],by simp[f7]⟩
theorem ow3 {m:Value} {ll:List (List (Nat×Nat))} (hm:ShLs h m ll) (h1:1≤ll.length) (h2:ll.length≤60) (hf:from_<256) (hs:steps<256) (f9:fget fr 9=some m) (f1:fget fr 1=some (B8 from_)) (f2:fget fr 2=some (B8 steps)) (f7:fget fr 7=some (ptr (2*cx) 0)) :
  Do (wpC prog 8 220 none (partAt bodyOw 3) fr h) (seqK (fun fr h'=>Pst (h'=h∧fget fr 9=some m∧fget fr 7=some (ptr (2*cx) 0)∧fget fr 10=some (KN (from_ % ll.length))∧fget fr 11=some (KN (steps % 21))) nx) QOw) nx:=by
 show Do (wpC _ _ _ _ (.region _ _ _) fr h) _ _
 obtain⟨_,_,hlen⟩:=hm.co
 have r1 : ∀ox oy,binop prog .rem 3 ox oy (KN from_) (KN ll.length)=some (KN (from_ % ll.length)):=fun ox oy=>rem_natk _ _ .i64 ox oy from_ ll.length (by omega)
 have r2 : ∀ox oy,binop prog .rem 5 ox oy (B8 steps) (.int .u8 21)=some (.int .u8 ((steps % 21:Nat):Int)):=fun ox oy=>rem_natk _ _ .u8 ox oy steps 21 (by omega)
 simp -dsimp (maxSteps:=1000000) (disch:=try exact dx) only[wpS,reduceEqDiff,cv5_3,f1,f2,f9,hlen,r1,r2]
 exact⟨rfl,by simp[f9],by simp[f7],by simp,by simp⟩
theorem ow4 {m:Value} {ll:List (List (Nat×Nat))} {X N:Nat} (hm:ShLs h m ll) (k1:kerS ll) (k2:kerOk ll) (hX:X<ll.length) (hN:N≤20) (hst:s<18446744073709551616) (gc:h.ext.get cx=some (.cells [K64 s] 0 none)) (f9:fget fr 9=some m) (f7:fget fr 7=some (ptr (2*cx) 0)) (f10:fget fr 10=some (KN X)) (f11:fget fr 11=some (KN N)) :
  Do (wpC prog 8 220 none (partAt bodyOw 4) fr h) (seqK (fun fr h'=>Pst (Ext h h' ∧ ∃v e b,PR h' v e b (pathT ll N [X] s)∧h.n≤b∧b<h'.n∧fget fr 12=some v∧fget fr 13=some (ptr (2*b) 0)∧fget fr 14=some e∧fget fr 9=some m∧fget fr 7=some (ptr (2*cx) 0)∧fget fr 10=some (KN X)∧fget fr 11=some (KN N)) nx) QOw) nx:=by
 show Do (wpC _ _ _ _ (.region _ _ _) fr h) _ _
 simp -dsimp (maxSteps:=1000000) (disch:=try exact dx) only[wpS,wpT,reduceEqDiff,reduceLeDiff,ld63,f7,f9,f10,f11,row_of gc,tk1]
 refine call (oPath_ok hm k1 k2 hX hN hst) ?_
 rintro r h1 ⟨X1,hr⟩
 have m1:=X1.n
 revert hr
 rcases pathT ll N [X] s with _|q<;>intro hr
 ·obtain rfl:=hr
  simp -dsimp (maxSteps:=1000000) (disch:=try exact dx) only[wpS,wpT,reduceEqDiff,reduceLeDiff,zc63,st63,chV]
  refine⟨(X1.new _).put (by omega) _,_,_,h1.n,⟨rfl,rfl,by simp (disch:=try exact dx) only[get_put_same]⟩,m1,by simp,by simp,by simp,by simp,by simp[f9],by simp[f7],by simp[f10],by simp[f11]⟩
 ·obtain⟨out,rfl,hG⟩:=hr
  simp -dsimp (maxSteps:=1000000) (disch:=try exact dx) only[wpS,wpT,reduceEqDiff,reduceLeDiff,zc63,st63,chV]
  refine⟨(X1.new _).put (by omega) _,_,_,h1.n,⟨rfl,hG.sl.keep (((Ext.refl h1).new _).put (Nat.le_refl _) _).keep,by simp (disch:=try exact dx) only[get_put_same]⟩,m1,by simp,by simp,by simp,by simp,by simp[f9],by simp[f7],by simp[f10],by simp[f11]⟩
theorem ow5 {m v12 v14:Value} {b13:Nat} {ll:List (List (Nat×Nat))} {X N:Nat} (hm:ShLs h m ll) (k1:kerS ll) (k2:kerOk ll) (hX:X<ll.length) (hN:N≤20) (hst:s<18446744073709551616) (gc:h.ext.get cx=some (.cells [K64 s] 0 none)) (f9:fget fr 9=some m) (f7:fget fr 7=some (ptr (2*cx) 0)) (f10:fget fr 10=some (KN X)) (f11:fget fr 11=some (KN N)) (f12:fget fr 12=some v12) (f13:fget fr 13=some (ptr (2*b13) 0)) (f14:fget fr 14=some v14) :
  Do (wpC prog 8 220 none (partAt bodyOw 5) fr h) (seqK (fun fr h'=>Pst (Ext h h' ∧ ∃v e b,PR h' v e b (pathT ll N [X] s)∧h.n≤b∧b<h'.n∧fget fr 15=some v∧fget fr 16=some (ptr (2*b) 0)∧fget fr 17=some e∧fget fr 9=some m∧fget fr 7=some (ptr (2*cx) 0)∧fget fr 10=some (KN X)∧fget fr 11=some (KN N)∧fget fr 12=some v12∧fget fr 13=some (ptr (2*b13) 0)∧fget fr 14=some v14) nx) QOw) nx:=by
 show Do (wpC _ _ _ _ (.region _ _ _) fr h) _ _
 simp -dsimp (maxSteps:=1000000) (disch:=try exact dx) only[wpS,wpT,reduceEqDiff,reduceLeDiff,ld63,f7,f9,f10,f11,row_of gc,tk1]
 refine call (oPath_ok hm k1 k2 hX hN hst) ?_
 rintro r h1 ⟨X1,hr⟩
 have m1:=X1.n
 revert hr
 rcases pathT ll N [X] s with _|q<;>intro hr
 ·obtain rfl:=hr
  simp -dsimp (maxSteps:=1000000) (disch:=try exact dx) only[wpS,wpT,reduceEqDiff,reduceLeDiff,zc63,st63,chV]
  refine⟨(X1.new _).put (by omega) _,_,_,h1.n,⟨rfl,rfl,by simp (disch:=try exact dx) only[get_put_same]⟩,m1,by simp,by simp,by simp,by simp,by simp[f9],by simp[f7],by simp[f10],by simp[f11],by simp[f12],by simp[f13],by simp[f14]⟩
 ·obtain⟨out,rfl,hG⟩:=hr
  simp -dsimp (maxSteps:=1000000) (disch:=try exact dx) only[wpS,wpT,reduceEqDiff,reduceLeDiff,zc63,st63,chV]
  refine⟨(X1.new _).put (by omega) _,_,_,h1.n,⟨rfl,hG.sl.keep (((Ext.refl h1).new _).put (Nat.le_refl _) _).keep,by simp (disch:=try exact dx) only[get_put_same]⟩,m1,by simp,by simp,by simp,by simp,by simp[f9],by simp[f7],by simp[f10],by simp[f11],by simp[f12],by simp[f13],by simp[f14]⟩
def TR3 (h:IH) (ll:List (List (Nat×Nat))) (X N:Nat) (v k e:Value):Prop:=e=KI 9 ∨ ∃kn b o,e=KI 0∧k=KN kn∧thrOk ll X N kn b o∧SlOf h 1 v (N+1) ((pI (b.reverse ++ o.drop 1)).map KI)
theorem ow6 {m v12 v14 v15 v17:Value} {b13 b16:Nat} {ll:List (List (Nat×Nat))} {X N:Nat} (hm:ShLs h m ll) (k1:kerS ll) (k2:kerOk ll) (hX:X<ll.length) (hN:N≤20) (hst:s<18446744073709551616) (gc:h.ext.get cx=some (.cells [K64 s] 0 none)) (f9:fget fr 9=some m) (f7:fget fr 7=some (ptr (2*cx) 0)) (f10:fget fr 10=some (KN X)) (f11:fget fr 11=some (KN N)) (f12:fget fr 12=some v12) (f13:fget fr 13=some (ptr (2*b13) 0)) (f14:fget fr 14=some v14) (f15:fget fr 15=some v15) (f16:fget fr 16=some (ptr (2*b16) 0)) (f17:fget fr 17=some v17) :
  Do (wpC prog 8 220 none (partAt bodyOw 6) fr h) (seqK (fun fr h'=>Pst (Ext h h' ∧ ∃v k e,TR3 h' ll X N v k e∧fget fr 18=some v∧fget fr 19=some k∧fget fr 21=some e∧fget fr 9=some m∧fget fr 10=some (KN X)∧fget fr 11=some (KN N)∧fget fr 12=some v12∧fget fr 13=some (ptr (2*b13) 0)∧fget fr 14=some v14∧fget fr 15=some v15∧fget fr 16=some (ptr (2*b16) 0)∧fget fr 17=some v17) nx) QOw) nx:=by
 show Do (wpC _ _ _ _ (.region _ _ _) fr h) _ _
 simp -dsimp (maxSteps:=1000000) (disch:=try exact dx) only[wpS,wpT,reduceEqDiff,reduceLeDiff,ld63,f7,f9,f10,f11,row_of gc,tk1]
 refine call (through_ok hm k1 k2 hX hN hst) ?_
 rintro r h1 ⟨X1,rfl|⟨out,k,t,b,o,rfl,ht,hs⟩⟩
 ·have m1:=X1.n
  simp -dsimp (maxSteps:=1000000) (disch:=try exact dx) only[wpS,wpT,reduceEqDiff,reduceLeDiff,zc63,st63,chV]
  refine⟨(X1.new _).put (by omega) _,.slice none 0 0,KI 0,KI 9,.inl rfl,by simp,by simp,by simp,by simp[f9],by simp[f10],by simp[f11],by simp[f12],by simp[f13],by simp[f14],by simp[f15],by simp[f16],by simp[f17]⟩
 ·have m1:=X1.n
  simp -dsimp (maxSteps:=1000000) (disch:=try exact dx) only[wpS,wpT,reduceEqDiff,reduceLeDiff,zc63,st63,chV]
  refine⟨(X1.new _).put (by omega) _,_,_,_,.inr ⟨k,b,o,rfl,rfl,ht,hs.keep (((Ext.refl h1).new _).put (Nat.le_refl _) _).keep⟩,by simp,by simp,by simp,by simp[f9],by simp[f10],by simp[f11],by simp[f12],by simp[f13],by simp[f14],by simp[f15],by simp[f16],by simp[f17]⟩
end
end Go.Id

namespace Go.Id
open Go
theorem equalI_ok {h:IH} {v w:Value} {a b:List Int} (ha:SlNow h 1 v a.length (a.map KI)) (hb:SlNow h 1 w b.length (b.map KI)) (la:a.length≤1000000000) :
  WV Proofs.Tryz.prog (.func (.func 27) #[] #[]) [v,w] h fun r h'=>h'=h∧r=.bool (decide (a=b)):=by
 have hln:a.length=b.length∨a.length≠b.length:=by omega
 refine enter (nt:=26) (rs:=[.tmp 4]) Proofs.Tryz.func27 rfl rfl rfl (by simp) ?_
 simp -dsimp (maxSteps:=1000000) (disch:=try exact dx) only[wpS,Nat.reduceEqDiff,Nat.reduceAdd,ha.len sl25,hb.len sl25]
 refine bq_intro ?_ ?_<;>intro hc<;>simp only[bne_iff_ne,bne_eq_false_iff_eq,ne_eq] at hc
 ·simp -dsimp (maxSteps:=1000000) (disch:=try exact dx) only[wpS,wpT,Nat.reduceEqDiff]
  rw[decide_eq_false]
  rintro rfl;exact hc rfl
 ·have hl:a.length=b.length:=by omega
  simp -dsimp (maxSteps:=1000000) (disch:=try exact dx) only[wpS,wpT,Nat.reduceEqDiff,ha.len sl25]
  refine loop (fun m fr h1=>h1=h ∧ ∃i:Nat,i+m=a.length∧fget fr 0=some v∧fget fr 1=some w∧fget fr 12=some (KI a.length)∧fget fr 13=some (KI i) ∧ ∀j,j<i→a[j]?=b[j]?) a.length ⟨rfl,0,by simp,by simp,by simp,by simp,by simp,by simp⟩ ?_
  rintro m fr h1 ⟨rfl,i,him,f0,f1,f12,f13,hz⟩
  simp -dsimp (maxSteps:=1000000) (disch:=try exact dx) only[wpS,f12,f13]
  refine bq_intro ?_ ?_<;>intro hc2<;>simp only[decide_eq_true_eq,decide_eq_false_iff_not] at hc2
  ·have hi:i<a.length:=by omega
   obtain⟨x,hx⟩ : ∃x,a[i]?=some x:=⟨a[i],List.getElem?_eq_getElem hi⟩
   obtain⟨y,hy⟩ : ∃y,b[i]?=some y:=⟨b[i]'(by omega),List.getElem?_eq_getElem (by omega)⟩
   simp -dsimp (maxSteps:=1000000) (disch:=try exact dx) only[wpS,wpT,Nat.reduceEqDiff,f0,f1,f13,ha.idx es25 hi,ha.ld (P:=Proofs.Tryz.prog) (t:=3) (c:=i) (by simpa using hi) ag3,hb.idx es25 (show i<b.length by omega),hb.ld (P:=Proofs.Tryz.prog) (t:=3) (c:=i) (by simp;omega) ag3,List.getElem?_map,hx,hy]
   refine bq_intro ?_ ?_<;>intro hc3<;>simp only[bne_iff_ne,bne_eq_false_iff_eq,ne_eq] at hc3
   ·simp -dsimp (maxSteps:=1000000) (disch:=try exact dx) only[wpS,wpT,Nat.reduceEqDiff]
    rw[decide_eq_false]
    rintro rfl
    rw[hx] at hy;cases hy;exact hc3 rfl
   ·simp -dsimp (maxSteps:=1000000) (disch:=try exact dx) only[wpS,wpT,Nat.reduceEqDiff,f13]
    refine⟨m - 1,by omega,rfl,i+1,by omega,by simp[f0],by simp[f1],by simp[f12],by simp,fun j hj=>?_⟩
    by_cases hji:j=i
    ·subst hji;rw[hx,hy];congr 1
    ·exact hz j (by omega)
  ·simp -dsimp (maxSteps:=1000000) (disch:=try exact dx) only[wpS,wpT]
   rw[decide_eq_true]
   apply List.ext_getElem?
   intro j
   by_cases hj:j<i
   ·exact hz j hj
   ·rw[List.getElem?_eq_none (by omega),List.getElem?_eq_none (by omega)]
end Go.Id

namespace Go.Id
open Go
open Go.Proofs.Tryz (prog)
open Nat (reduceEqDiff reduceLeDiff)
set_option maxHeartbeats 16000000
theorem ch_equal (a b:Int):pureRun prog (Op.equal 63 (.agg #[.int .u64 a]) (.agg #[.int .u64 b]))=some (a == b):=by
 have key:=pr_equal_struct (P:=prog) u63 (by kernel_rfl) 9999 #[.int .u64 a] #[.int .u64 b] (fun _=>a == b) (by
  intro f hf
  simp only[List.mem_cons,List.not_mem_nil,or_false] at hf
  subst hf
  exact⟨by decide,.int .u64 a,.int .u64 b,pr_part_scal ag42 rfl,pr_part_scal ag42 rfl,pr_equal_int u42 _ _ _⟩)
 refine key.trans (congrArg some ?_)
 simp
theorem ch_neq (a b:Int) (ox oy:Operand):binop prog .neq 63 ox oy (.agg #[.int .u64 a]) (.agg #[.int .u64 b])=some (.bool (!(a == b))) :=
 binop_neq_gen (by kernel_rfl) (by simp[plain,scal]) (by simp[plain,scal]) (ch_equal a b) ox oy
theorem ch_same (s:Nat) (ox oy:Operand):binop prog .neq 63 ox oy (.agg #[K64 s]) (.agg #[K64 s])=some (.bool false):=by
 rw[ch_neq];simp
section
variable {h:IH} {fr:Fr} {m k e3 v18:Value} {X N:Nat}
theorem ow7 {v12 e v15 e2:Value} {b13 b16:Nat} {o:Option (List Nat×Nat)} (p1:PR h v12 e b13 o) (p2:PR h v15 e2 b16 o) (hl : ∀q,o=some q→q.1.length≤1000) (f9:fget fr 9=some m) (f10:fget fr 10=some (KN X)) (f11:fget fr 11=some (KN N)) (f12:fget fr 12=some v12) (f13:fget fr 13=some (ptr (2*b13) 0)) (f14:fget fr 14=some e) (f15:fget fr 15=some v15) (f16:fget fr 16=some (ptr (2*b16) 0)) (f17:fget fr 17=some e2) (f18:fget fr 18=some v18) (f19:fget fr 19=some k) (f21:fget fr 21=some e3) :
  Do (wpC prog 8 220 none (partAt bodyOw 7) fr h) (seqK (fun fr h'=>Pst (h'=h∧fget fr 9=some m∧fget fr 10=some (KN X)∧fget fr 11=some (KN N)∧fget fr 12=some v12∧fget fr 14=some e∧fget fr 18=some v18∧fget fr 19=some k∧fget fr 21=some e3) nx) QOw) nx:=by
 show Do (wpC _ _ _ _ (.seq _ _) fr h) _ _
 rcases o with _|q
 ·obtain⟨rfl,rfl,g1⟩:=p1
  obtain⟨rfl,rfl,g2⟩:=p2
  have s0:SlNow h 1 (.slice none 0 0) ([]:List Int).length (([]:List Int).map KI):=(SlOf.nil h (by decide)).now
  simp -dsimp (maxSteps:=1000000) (disch:=try exact dx) only[wpS,wpT,reduceEqDiff,f12,f14,f15,f17]
  refine call (equalI_ok (a:=[]) (b:=[]) s0 s0 (by simp)) ?_
  rintro _ _ ⟨rfl,rfl⟩
  simp -dsimp (maxSteps:=1000000) (disch:=try exact dx) only[wpS,wpT,reduceEqDiff,reduceLeDiff,ld63,f13,f16,row_of g1,row_of g2,tk1,decide_true,ch_same]
  exact⟨rfl,by simp[f9],by simp[f10],by simp[f11],by simp[f12],by simp[f14],by simp[f18],by simp[f19],by simp[f21]⟩
 ·obtain⟨rfl,g0,g1⟩:=p1
  obtain⟨rfl,g3,g2⟩:=p2
  simp -dsimp (maxSteps:=1000000) (disch:=try exact dx) only[wpS,wpT,reduceEqDiff,f12,f14,f15,f17]
  have hq:=hl q rfl
  refine call (equalI_ok (a:=pI q.1) (b:=pI q.1) (by rw[pI_len];exact g0.now) (by rw[pI_len];exact g3.now) (by rw[pI_len];omega)) ?_
  rintro _ _ ⟨rfl,rfl⟩
  simp -dsimp (maxSteps:=1000000) (disch:=try exact dx) only[wpS,wpT,reduceEqDiff,reduceLeDiff,ld63,f13,f16,row_of g1,row_of g2,tk1,decide_true,ch_same]
  exact⟨rfl,by simp[f9],by simp[f10],by simp[f11],by simp[f12],by simp[f14],by simp[f18],by simp[f19],by simp[f21]⟩
structure WX (hh:IH) (fr:Fr) (m v12 v18:Value) (ll:List (List (Nat×Nat))) (N kn:Nat) (p t:List Nat):Prop where
 f9:fget fr 9=some m
 f11:fget fr 11=some (KN N)
 f12:fget fr 12=some v12
 f18:fget fr 18=some v18
 f19:fget fr 19=some (KN kn)
 hm:ShLs hh m ll
 sp:SlOf hh 1 v12 (N+1) ((pI p).map KI)
 st:SlOf hh 1 v18 (N+1) ((pI t).map KI)
def goodP (ll:List (List (Nat×Nat))) (X N:Nat) (p:List Nat):Prop:=chainOk ll p∧p.length=N+1∧p.getD 0 0=X
def goodT (ll:List (List (Nat×Nat))) (X N kn:Nat) (t:List Nat):Prop:=kn≤N∧t.length=N+1∧t.getD kn 0=X∧(∀y∈t,y<ll.length)∧(∀i,i<kn→kpos ll (t.getD (i+1) 0) (t.getD i 0)) ∧ ∀i,kn≤i→i<N→kpos ll (t.getD i 0) (t.getD (i+1) 0)
theorem path_good {ll:List (List (Nat×Nat))} {s:Nat} (kS:kerS ll) (hX:X<ll.length) (hs:s<18446744073709551616) {q:List Nat×Nat} (hq:pathT ll N [X] s=some q):goodP ll X N q.1:=by
 obtain⟨a,b,c,d⟩:=pathT_ok kS (p:=[X]) (by simp) ⟨fun y hy=>by rw[List.mem_singleton.1 hy];exact hX,fun i hi=>by simp at hi⟩ hs (p':=q.1) (t:=q.2) hq
 exact⟨a,by rw[b,List.length_singleton];omega,d⟩
theorem ow8 {ll:List (List (Nat×Nat))} {v12 e:Value} {b13 s:Nat} (hm:ShLs h m ll) (kS:kerS ll) (hX:X<ll.length) (hs:s<18446744073709551616) (p1:PR h v12 e b13 (pathT ll N [X] s)) (p3:TR3 h ll X N v18 k e3) (f9:fget fr 9=some m) (f10:fget fr 10=some (KN X)) (f11:fget fr 11=some (KN N)) (f12:fget fr 12=some v12) (f14:fget fr 14=some e) (f18:fget fr 18=some v18) (f19:fget fr 19=some k) (f21:fget fr 21=some e3) :
  Do (wpC prog 8 220 none (partAt bodyOw 8) fr h) (seqK (fun fr h'=>Pst (∃kn p t,WX h' fr m v12 v18 ll N kn p t∧goodP ll X N p∧goodT ll X N kn t∧fget fr 10=some (KN X)∧fget fr 14=some (KI 0)∧fget fr 21=some (KI 0)) nx) QOw) nx:=by
 show Do (wpC _ _ _ _ (.seq _ _) fr h) _ _
 rcases hp:pathT ll N [X] s with _|q
 ·rw[hp] at p1
  obtain⟨rfl,rfl,g1⟩:=p1
  simp -dsimp (maxSteps:=1000000) (disch:=try exact dx) only[wpS,wpT,reduceEqDiff,f14]
 ·rw[hp] at p1
  obtain⟨rfl,g0,g1⟩:=p1
  rcases p3 with rfl|⟨kn,b,o,rfl,rfl,ht,hS⟩
  ·simp -dsimp (maxSteps:=1000000) (disch:=try exact dx) only[wpS,wpT,reduceEqDiff,f14,f21]
  ·have gp:=path_good kS hX hs hp
   have gt:=thr_all ht
   rw[gp.2.1] at g0
   simp -dsimp (maxSteps:=1000000) (disch:=try exact dx) only[wpS,wpT,reduceEqDiff,f14,f21]
   exact⟨kn,q.1,_,⟨by simp[f9],by simp[f11],by simp[f12],by simp[f18],by simp[f19],hm,g0,hS⟩,gp,⟨ht.1,gt⟩,by simp[f10],by simp[f14],by simp[f21]⟩
theorem pI_at {t:List Nat} {i:Nat} (hi:i<t.length):((pI t).map KI)[i]?=some (KN (t.getD i 0)):=by
 rw[List.getElem?_map,List.getElem?_map,List.getElem?_eq_getElem hi,List.getD_eq_getElem?_getD,List.getElem?_eq_getElem hi];rfl
theorem pI_ld {h h':IH} {v:Value} {n:Nat} {t:List Nat} (s:SlOf h 1 v n ((pI t).map KI)) (e:Keep h h') {i:Nat} (hi:i<n):load prog h' 3 (elemAddr v i)=some (KN (t.getD i 0)):=by
 have hl:=s.2.1
 rw[List.length_map,pI_len] at hl
 rw[s.ld e (by rw[List.length_map,pI_len];omega) ag3,pI_at (by omega)]
theorem ow9 {ll:List (List (Nat×Nat))} {v12:Value} {kn:Nat} {p t:List Nat} (w:WX h fr m v12 v18 ll N kn p t) (gp:goodP ll X N p) (gt:goodT ll X N kn t) (hN:N≤20) (f10:fget fr 10=some (KN X)) (f14:fget fr 14=some (KI 0)) (f21:fget fr 21=some (KI 0)) :
  Do (wpC prog 8 220 none (partAt bodyOw 9) fr h) (seqK (fun fr h'=>Pst (WX h' fr m v12 v18 ll N kn p t) nx) QOw) nx:=by
 show Do (wpC _ _ _ _ (.seq _ _) fr h) _ _
 have hk:=gt.1
 have l1:=w.sp.len (P:=prog) sl25
 have l2:=w.st.len (P:=prog) sl25
 have i1:=w.sp.idx es25 (P:=prog) (k:=.i64) (j:=0) (by omega)
 have i2:=w.st.idx es25 (P:=prog) (k:=.i64) (j:=kn) (by omega)
 have d1:=pI_ld w.sp (Keep.refl h) (i:=0) (by omega)
 have d2:=pI_ld w.st (Keep.refl h) (i:=kn) (by omega)
 rw[gp.2.2] at d1
 rw[gt.2.2.1] at d2
 have c1:((((N+1:Nat)):Int) != (N:Int)+1)=false:=by simp
 have i1':indexAddr prog 25 v12 (KI 0)=some (elemAddr v12 0):=i1
 simp -dsimp (maxSteps:=1000000) (disch:=try exact dx) only[wpS,wpT,reduceEqDiff,f10,f14,f21,w.f11,w.f12,w.f18,w.f19,l1,l2,i1',i2,d1,d2,c1]
 exact⟨by simp[w.f9],by simp[w.f11],by simp[w.f12],by simp[w.f18],by simp[w.f19],w.hm,w.sp,w.st⟩
end
end Go.Id

namespace Go.Id
open Go
theorem olq_ok {h:IH} (n d:Int) (hn:In64 n) (hd:In64 d) (d0:d≠0):WV Proofs.Tryz.prog (.func (.func 37) #[] #[]) [KI n,KI d] h fun r h'=>Ext h h'∧r=shareV (Rat.divInt n d):=by
 refine enter (nt:=14) (rs:=[.cell 4 48]) Proofs.Tryz.func37 rfl rfl rfl (by simp) ?_
 simp -dsimp (maxSteps:=1000000) (disch:=try exact dx) only[wpS,Nat.reduceEqDiff,Nat.reduceAdd,zc48]
 have E1:Ext h (h.new (.cells Z16 0 none)):=(Ext.refl h).new _
 have g1:(h.new (.cells Z16 0 none)).ext.get h.n=some (.cells Z16 0 none):=by simp (disch:=try exact dx) only[get_new_same]
 refine call (shof_ok n d hn hd d0) ?_
 rintro _ h1 ⟨X1,rfl⟩
 have m1:=X1.n
 simp only[new_n] at m1
 have k1:=X1.kept (by simp) g1
 simp -dsimp (maxSteps:=1000000) (disch:=try exact dx) only[wpS,wpT,Nat.reduceEqDiff,Nat.reduceLeDiff,Nat.reduceAdd,zc48,st48,ld48,k1,shV_cells,shC_len,shC_all,sh_sp3,sh_take]
 exact⟨(((E1.trans X1).new _).put (by omega) _).put (by omega) _,rfl⟩
end Go.Id
