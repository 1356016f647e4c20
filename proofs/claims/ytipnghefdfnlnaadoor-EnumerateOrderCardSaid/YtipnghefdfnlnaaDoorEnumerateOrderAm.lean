/-
  EnumerateOrder: for every draft and number the law returns true, and the draft reads as it did. Conditions: none but the row's own (the listed tables of math/bits hold what the program's text lays into them).
-/
import Derived.Test.YtipnghefdfnlnaaDoorEnumerateOrderAl
import Derived.Test.YtipnghefdfnlnaaDoorEnumerateOrderAk
import Derived.Test.YtipnghefdfnlnaaDoorEnumerateOrderAh
set_option linter.unusedVariables false
set_option linter.unusedSimpArgs false
set_option linter.defProp false
set_option linter.deprecated false
/-! Contracts: lists; the chapter's examples. -/
namespace Go.Id
open Go
theorem planAt_len (F:Nat→Bool) (n k:Nat) : ∀(m node:Nat) (cs:List Nat) (i:Nat),(planAt F n k m node cs i).length≤m
 | 0,_,_,_=>Nat.le_refl _
 | m+1,node,cs,i=>by
  unfold planAt
  split
  ·have:=planAt_len F n k m
   simp only[List.length_cons]
   exact Nat.succ_le_succ (this _ _ _)
  ·simp
theorem lists_ok {h:IH} (hB:BaseT h) {n:Nat} {E:List (Nat×Nat)} {v w x:Value} {ws:List Int} {lo hi:Int} {k:Nat} (a:ArgsAt h n E v w ws lo hi k) {qs:List (List Nat)} (hq:PlansAt h x qs) (lq:qs.length≤1000000) :
  WV Proofs.Tryd.prog (.func (.func 15) #[] #[]) [.agg #[KI n,v],.agg #[w,KI lo,KI hi,KI k],x] h fun r h'=>Ext h h'∧r=.bool (decide (totalP n E ws lo hi k≤400∧plansP n E ws lo hi k=qs)):=by
 obtain⟨hG,hn0,hn12,hV,hlen,hwl,hws,hd1,hd2,hlo,hlohi⟩:=enErr_ok a.ok
 refine enter (nt:=29) (rs:=[.tmp 6]) Proofs.Tryd.func15 rfl rfl rfl (by simp) ?_
 simp -dsimp (maxSteps:=1000000) (disch:=first|omega|(simp only[new_n,put_n];omega)|decide +kernel|(repeat first|rw[new_n]|rw[put_n])) only[wpS,wpT,Nat.reduceEqDiff,Nat.reduceLeDiff,Nat.reduceAdd,ld32,ld35]
 have e0 : ∀o1 o2,Ext h ((h.new o1).new o2):=fun o1 o2=>((Ext.refl h).new _).new _
 have a0:=a.keep (e0 (.cells [KI n,v] 0 none) (.cells [w,KI lo,KI hi,KI k] 0 none)).keep
 refine call (all_ok (hB.ext (e0 _ _)) a0) ?_
 rintro r h1 ⟨hE1,hr⟩
 have hE2:=(e0 _ _).trans hE1
 by_cases hT:totalP n E ws lo hi k≤400
 ·rw[if_pos hT] at hr
  obtain⟨y,rfl,hy⟩:=hr
  have hlp:(plansP n E ws lo hi k).length=totalP n E ws lo hi k:=by simp[plansP]
  simp -dsimp (maxSteps:=1000000) (disch:=first|omega|(simp only[new_n,put_n];omega)|decide +kernel|(repeat first|rw[new_n]|rw[put_n])) only[wpS,wpT,Nat.reduceEqDiff]
  refine call (samePlans_ok hy (hq.keep hE2.keep) (by omega) fun p hp=>?_) ?_
  ·obtain⟨i,_,rfl⟩:=List.mem_map.1 hp
   have:=planAt_len (fitsB E ws lo hi) n k n 0 [] i
   omega
  rintro _ h1' ⟨hh1,rfl⟩
  rw[hh1]
  have hr1:h1.row (2*h.n)=some [KI n,v]:=by
   rw[hE1.row (.inr (by simp only[new_n];omega)),row_even];simp only[IH.cells];simp (disch:=first|omega|(simp only[new_n,put_n];omega)|(repeat first|rw[new_n]|rw[put_n])) only[get_new_same,get_new_old]
  have hr2:h1.row (2*(h.n+1))=some [w,KI lo,KI hi,KI k]:=by
   rw[hE1.row (.inr (by simp only[new_n];omega)),row_even];simp only[IH.cells];simp (disch:=first|omega|(simp only[new_n,put_n];omega)|(repeat first|rw[new_n]|rw[put_n])) only[get_new_same]
  obtain⟨us,hsl,hu⟩:=hq.keep hE2.keep
  by_cases hpq:plansP n E ws lo hi k=qs
  ·simp -dsimp (maxSteps:=1000000) (disch:=first|omega|(simp only[new_n,put_n];omega)|decide +kernel|(repeat first|rw[new_n]|rw[put_n])) only[wpS,wpT,Nat.reduceEqDiff,Nat.reduceLeDiff,Nat.reduceAdd,ld32,ld35,hr1,hr2,hsl.len sl42,decide_eq_true hpq]
   refine call (counts_ok (hB.ext hE2) (a.keep hE2.keep) (qs.length:Int) ⟨by omega,by omega⟩) ?_
   rintro _ h3 ⟨hE3,rfl⟩
   simp -dsimp (maxSteps:=1000000) (disch:=first|omega|(simp only[new_n,put_n];omega)|decide +kernel|(repeat first|rw[new_n]|rw[put_n])) only[wpS,Nat.reduceEqDiff]
   refine⟨hE2.trans hE3,?_⟩
   have h4:(totalP n E ws lo hi k:Int)=(qs.length:Int):=by rw[←hpq,hlp]
   rw[decide_eq_true h4,decide_eq_true ⟨hT,hpq⟩]
  ·simp -dsimp (maxSteps:=1000000) (disch:=first|omega|(simp only[new_n,put_n];omega)|decide +kernel|(repeat first|rw[new_n]|rw[put_n])) only[wpS,wpT,Nat.reduceEqDiff,decide_eq_false hpq]
   refine⟨hE2,?_⟩
   rw[decide_eq_false fun hh=>hpq hh.2]
 ·rw[if_neg hT] at hr
  subst hr
  simp -dsimp (maxSteps:=1000000) (disch:=first|omega|(simp only[new_n,put_n];omega)|decide +kernel|(repeat first|rw[new_n]|rw[put_n])) only[wpS,wpT,Nat.reduceEqDiff]
  refine⟨hE2,?_⟩
  rw[decide_eq_false fun hh=>hT hh.1]
theorem neq64 (x y:Nat) (P:Program) (t:TypeId) (o1 o2:Operand):binop P .neq t o1 o2 (K64 x) (K64 y)=some (.bool (decide (x≠y))):=by
 rw[binop_neq]
 by_cases h:x=y
 ·subst h;simp
 ·have h1:((x:Int) != (y:Int))=true:=by simp;omega
  rw[h1,decide_eq_true h]
theorem neqI (x y:Int) (P:Program) (t:TypeId) (o1 o2:Operand):binop P .neq t o1 o2 (KI x) (KI y)=some (.bool (decide (x≠y))):=by
 rw[binop_neq]
 by_cases h:x=y
 ·subst h;simp
 ·have h1:(x != y)=true:=by simpa using h
  rw[h1,decide_eq_true h]
structure Wk (h hh:IH) (p c:Nat) (vp vc:Value):Prop where
 e:Ext h hh
 rp:hh.row (2*p)=some [KI ((4:Nat):Int),vp]
 rc:hh.row (2*c)=some [KI ((4:Nat):Int),vc]
 lp:p<hh.n
 lc:c<hh.n
 sp:SlOf hh 2 vp 3 (eCells (castE pathE))
 sc:SlOf hh 2 vc 4 (eCells (castE cycE))
 b:BaseT hh
theorem Wk.ext {h hh h3:IH} {p c:Nat} {vp vc:Value} (w:Wk h hh p c vp vc) (e:Ext hh h3):Wk h h3 p c vp vc :=
 ⟨w.e.trans e,by rw[e.row (.inr (by have:=w.lp;omega))];exact w.rp,by rw[e.row (.inr (by have:=w.lc;omega))];exact w.rc,Nat.lt_of_lt_of_le w.lp e.n,Nat.lt_of_lt_of_le w.lc e.n,w.sp.ext e,w.sc.ext e,w.b.ext e⟩
theorem Wk.path {h hh:IH} {p c:Nat} {vp vc w:Value} (a:Wk h hh p c vp vc) (hw:SlOf hh 1 w 4 (List.replicate 4 (KI 1))) {lo hi:Int} {k:Nat} (h3:1≤k∧k≤8∧0≤lo∧lo≤hi) (h4:hi≤1000):ArgsAt hh 4 pathE vp w one4 lo hi k :=
 ⟨a.sp,hw,⟨by omega,by omega⟩,ok_path one4 lo hi k rfl one4_ok h3⟩
theorem Wk.cycle {h hh:IH} {p c:Nat} {vp vc w:Value} (a:Wk h hh p c vp vc) (hw:SlOf hh 1 w 4 (List.replicate 4 (KI 1))) {lo hi:Int} {k:Nat} (h3:1≤k∧k≤8∧0≤lo∧lo≤hi) (h4:hi≤1000):ArgsAt hh 4 cycE vc w one4 lo hi k :=
 ⟨a.sc,hw,⟨by omega,by omega⟩,ok_cyc one4 lo hi k rfl one4_ok h3⟩
set_option maxHeartbeats 8000000 in
theorem works_ok {h:IH} (hB:BaseT h):WV Proofs.Tryd.prog (.func (.func 8) #[] #[]) [] h fun r h'=>Ext h h'∧r=.bool true:=by
 refine enter (nt:=101) (rs:=[.tmp 0]) Proofs.Tryd.func8 rfl rfl rfl (by simp) ?_
 simp -dsimp (maxSteps:=1000000) (disch:=first|omega|(simp only[new_n,put_n];omega)|decide +kernel|(repeat first|rw[new_n]|rw[put_n])) only[wpS]
 refine call path_ok ?_
 rintro _ h1 ⟨hE1,vp,rfl,hvp⟩
 simp -dsimp (maxSteps:=1000000) (disch:=first|omega|(simp only[new_n,put_n];omega)|decide +kernel|(repeat first|rw[new_n]|rw[put_n])) only[wpS]
 refine call cycle_ok ?_
 rintro _ h2 ⟨hE2,vc,rfl,hvc⟩
 simp -dsimp (maxSteps:=1000000) (disch:=first|omega|(simp only[new_n,put_n];omega)|decide +kernel|(repeat first|rw[new_n]|rw[put_n])) only[wpS,wpT,Nat.reduceEqDiff,Nat.reduceLeDiff,Nat.reduceAdd,zc32,st32,hvp.cok,hvc.cok]
 have eA:Ext h2 ((((h2.new (.cells [.int .i64 0,.slice none 0 0] 0 none)).new (.cells [.int .i64 0,.slice none 0 0] 0 none)).put h2.n (.cells [KI ((4:Nat):Int),vp] 0 none)).put (h2.n+1) (.cells [KI ((4:Nat):Int),vc] 0 none)):=((((Ext.refl h2).new _).new _).put (Nat.le_refl _) _).put (by omega) _
 have wA:Wk h ((((h2.new (.cells [.int .i64 0,.slice none 0 0] 0 none)).new (.cells [.int .i64 0,.slice none 0 0] 0 none)).put h2.n (.cells [KI ((4:Nat):Int),vp] 0 none)).put (h2.n+1) (.cells [KI ((4:Nat):Int),vc] 0 none)) h2.n (h2.n+1) vp vc:=by
  refine⟨(hE1.trans hE2).trans eA,?_,?_,by simp only[new_n,put_n];omega,by simp only[new_n,put_n];omega,(hvp.ext hE2).ext eA,hvc.ext eA,((hB.ext hE1).ext hE2).ext eA⟩
  ·rw[row_even];simp only[IH.cells];simp (disch:=first|omega|(simp only[new_n,put_n];omega)|(repeat first|rw[new_n]|rw[put_n])) only[get_put_same,get_put_old]
  ·rw[row_even];simp only[IH.cells];simp (disch:=first|omega|(simp only[new_n,put_n];omega)|(repeat first|rw[new_n]|rw[put_n])) only[get_put_same]
 generalize ((((h2.new (.cells [.int .i64 0,.slice none 0 0] 0 none)).new (.cells [.int .i64 0,.slice none 0 0] 0 none)).put h2.n (.cells [KI ((4:Nat):Int),vp] 0 none)).put (h2.n+1) (.cells [KI ((4:Nat):Int),vc] 0 none))=hA at *
 generalize h2.n=p at *
 generalize hpc:p+1=c at *
 refine drawn [(0,[2])] (by kernel_rfl) (by kernel_rfl) rfl ?_
 simp -dsimp (maxSteps:=1000000) (disch:=first|omega|(simp only[new_n,put_n];omega)|decide +kernel|(repeat first|rw[new_n]|rw[put_n])) only[wpS,wpT,Nat.reduceEqDiff,Nat.reduceLeDiff,Nat.reduceAdd,ld32,wA.rp,List.drop_zero,take2]
 refine call (ones_ok 4 2 2 1 (by decide)) ?_
 rintro _ h3 ⟨hE3,w3,rfl,hw3⟩
 have w3A:=wA.ext hE3
 simp -dsimp (maxSteps:=1000000) (disch:=first|omega|(simp only[new_n,put_n];omega)|decide +kernel|(repeat first|rw[new_n]|rw[put_n])) only[wpS,Nat.reduceEqDiff]
 have a3:=w3A.path hw3 (lo:=2) (hi:=2) (k:=1) (by decide) (by decide)
 refine call (districts_ok w3A.b a3.sE a3.sW a3.hhi a3.ok) ?_
 rintro _ h4 ⟨hE4,x4,rfl,hx4⟩
 rw[dist_path22] at hx4
 have w4A:=w3A.ext hE4
 simp -dsimp (maxSteps:=1000000) (disch:=first|omega|(simp only[new_n,put_n];omega)|decide +kernel|(repeat first|rw[new_n]|rw[put_n])) only[wpS,Nat.reduceEqDiff]
 refine⟨wpSteady_one rfl rfl rfl rfl (steady_load (av:=ptr (2*p) 0) (v:=.agg #[KI ((4:Nat):Int),vp]) rfl ?_ ?_),?_⟩
 ·simp -dsimp (maxSteps:=1000000) (disch:=first|omega|(simp only[new_n,put_n];omega)|decide +kernel|(repeat first|rw[new_n]|rw[put_n])) only[wpS,wpT,Nat.reduceLeDiff,Nat.reduceAdd,ld32,wA.rp,List.drop_zero,take2]
 ·simp -dsimp (maxSteps:=1000000) (disch:=first|omega|(simp only[new_n,put_n];omega)|decide +kernel|(repeat first|rw[new_n]|rw[put_n])) only[wpS,wpT,Nat.reduceLeDiff,Nat.reduceAdd,ld32,w3A.rp,List.drop_zero,take2]
 simp -dsimp (maxSteps:=1000000) (disch:=first|omega|(simp only[new_n,put_n];omega)|decide +kernel|(repeat first|rw[new_n]|rw[put_n])) only[wpS,wpT,Nat.reduceAdd]
 refine drawn [(0,[2,3])] (by kernel_rfl) (by kernel_rfl) rfl ?_
 simp -dsimp (maxSteps:=1000000) (disch:=first|omega|(simp only[new_n,put_n];omega)|decide +kernel|(repeat first|rw[new_n]|rw[put_n])) only[wpS,wpT,Nat.reduceEqDiff,Nat.reduceLeDiff,Nat.reduceAdd,ld32,w4A.rc,List.drop_zero,take2]
 refine call (ones_ok 4 1 3 2 (by decide)) ?_
 rintro _ h5 ⟨hE5,w5,rfl,hw5⟩
 have w5A:=w4A.ext hE5
 simp -dsimp (maxSteps:=1000000) (disch:=first|omega|(simp only[new_n,put_n];omega)|decide +kernel|(repeat first|rw[new_n]|rw[put_n])) only[wpS]
 refine call (refOf_ok 0 (by decide)) ?_
 rintro _ h6 ⟨hE6,rfl⟩
 have w6A:=w5A.ext hE6
 simp -dsimp (maxSteps:=1000000) (disch:=first|omega|(simp only[new_n,put_n];omega)|decide +kernel|(repeat first|rw[new_n]|rw[put_n])) only[wpS,Nat.reduceEqDiff]
 have a6:=w6A.cycle (hw5.ext hE6) (lo:=1) (hi:=3) (k:=2) (by decide) (by decide)
 refine call (kth_ok w6A.b a6 (wideN 0) (wideN_small (by decide))) ?_
 rintro _ h7 ⟨hE7,hr7⟩
 rw[wdI_wideN (inW_of64 (by decide)),total_cyc13,if_pos (by decide)] at hr7
 obtain⟨x7,rfl,hx7⟩:=hr7
 rw[show(0:Int).toNat=0 from rfl,plan_cyc13] at hx7
 have w7A:=w6A.ext hE7
 simp -dsimp (maxSteps:=1000000) (disch:=first|omega|(simp only[new_n,put_n];omega)|decide +kernel|(repeat first|rw[new_n]|rw[put_n])) only[wpS,Nat.reduceEqDiff]
 refine⟨wpSteady_two (wpSteady_one rfl rfl rfl rfl (steady_load (av:=ptr (2*c) 0) (v:=.agg #[KI ((4:Nat):Int),vc]) rfl ?_ ?_)) (wpSteady_one rfl rfl rfl rfl (steady_load (av:=ptr (2*c) 0) (v:=.agg #[KI ((4:Nat):Int),vc]) rfl ?_ ?_)),?_⟩
 ·simp -dsimp (maxSteps:=1000000) (disch:=first|omega|(simp only[new_n,put_n];omega)|decide +kernel|(repeat first|rw[new_n]|rw[put_n])) only[wpS,wpT,Nat.reduceLeDiff,Nat.reduceAdd,ld32,w4A.rc,List.drop_zero,take2]
 ·simp -dsimp (maxSteps:=1000000) (disch:=first|omega|(simp only[new_n,put_n];omega)|decide +kernel|(repeat first|rw[new_n]|rw[put_n])) only[wpS,wpT,Nat.reduceLeDiff,Nat.reduceAdd,ld32,w5A.rc,List.drop_zero,take2]
 ·simp -dsimp (maxSteps:=1000000) (disch:=first|omega|(simp only[new_n,put_n];omega)|decide +kernel|(repeat first|rw[new_n]|rw[put_n])) only[wpS,wpT,Nat.reduceLeDiff,Nat.reduceAdd,ld32,w4A.rc,List.drop_zero,take2]
 ·simp -dsimp (maxSteps:=1000000) (disch:=first|omega|(simp only[new_n,put_n];omega)|decide +kernel|(repeat first|rw[new_n]|rw[put_n])) only[wpS,wpT,Nat.reduceLeDiff,Nat.reduceAdd,ld32,w6A.rc,List.drop_zero,take2]
 simp -dsimp (maxSteps:=1000000) (disch:=first|omega|(simp only[new_n,put_n];omega)|decide +kernel|(repeat first|rw[new_n]|rw[put_n])) only[wpS,wpT,Nat.reduceAdd]
 refine drawn [(0,[3])] (by kernel_rfl) (by kernel_rfl) rfl ?_
 simp -dsimp (maxSteps:=1000000) (disch:=first|omega|(simp only[new_n,put_n];omega)|decide +kernel|(repeat first|rw[new_n]|rw[put_n])) only[wpS,wpT,Nat.reduceEqDiff,Nat.reduceLeDiff,Nat.reduceAdd,ld32,w7A.rc,List.drop_zero,take2]
 refine call (ones_ok 4 1 3 2 (by decide)) ?_
 rintro _ h8 ⟨hE8,w8,rfl,hw8⟩
 have w8A:=w7A.ext hE8
 simp -dsimp (maxSteps:=1000000) (disch:=first|omega|(simp only[new_n,put_n];omega)|decide +kernel|(repeat first|rw[new_n]|rw[put_n])) only[wpS,wpT,Nat.reduceEqDiff,Nat.reduceLeDiff,Nat.reduceAdd,Nat.reduceMul,bs44]
 have n8:Ext h8 (h8.new (.cells [.int .i64 0,.int .i64 1,.int .i64 1,.int .i64 0] 1 none)):=(Ext.refl h8).new _
 have w8B:=w8A.ext n8
 have a8:=w8B.cycle (hw8.ext n8) (lo:=1) (hi:=3) (k:=2) (by decide) (by decide)
 refine call (index_ok w8B.b a8 (p:=[0,1,1,0]) (sl_block (k:=h8.n) (f:=none) (get_new_same _ _ rfl) (by simp only[new_n];omega) (by decide) rfl (by decide) (by decide))) ?_
 rintro _ h9 ⟨hE9,rfl⟩
 rw[idx_cyc13]
 have w9A:=w8B.ext hE9
 have hspl : ∀n,IH.splice [.int .u64 0,.int .u64 0,.int .u64 0,.int .u64 0,.int .u64 0,.int .u64 0,.int .u64 0,.int .u64 0] 0 (wdC n)=wdC n:=fun n=>splice_all (by rw[wdC_len];rfl)
 simp -dsimp (maxSteps:=1000000) (disch:=first|omega|(simp only[new_n,put_n];omega)|decide +kernel|(repeat first|rw[new_n]|rw[put_n])) only[wpS,wpT,Nat.reduceEqDiff,Nat.reduceLeDiff,Nat.reduceAdd,zc58,st58,wdV_form,wdC_len,wdC_all,hspl]
 refine⟨wpSteady_one rfl rfl rfl rfl (steady_load (av:=ptr (2*c) 0) (v:=.agg #[KI ((4:Nat):Int),vc]) rfl ?_ ?_),?_⟩
 ·simp -dsimp (maxSteps:=1000000) (disch:=first|omega|(simp only[new_n,put_n];omega)|decide +kernel|(repeat first|rw[new_n]|rw[put_n])) only[wpS,wpT,Nat.reduceLeDiff,Nat.reduceAdd,ld32,w7A.rc,List.drop_zero,take2]
 ·simp -dsimp (maxSteps:=1000000) (disch:=first|omega|(simp only[new_n,put_n];omega)|decide +kernel|(repeat first|rw[new_n]|rw[put_n])) only[wpS,wpT,Nat.reduceLeDiff,Nat.reduceAdd,ld32,w8B.rc,List.drop_zero,take2]
 simp -dsimp (maxSteps:=1000000) (disch:=first|omega|(simp only[new_n,put_n];omega)|decide +kernel|(repeat first|rw[new_n]|rw[put_n])) only[wpS,wpT,Nat.reduceAdd]
 have eB:Ext h9 ((h9.new (.cells [.int .u64 0,.int .u64 0,.int .u64 0,.int .u64 0,.int .u64 0,.int .u64 0,.int .u64 0,.int .u64 0] 0 none)).put h9.n (.cells (wdC (wideN 4)) 0 none)):=((Ext.refl h9).new _).put (Nat.le_refl _) _
 have gB:((h9.new (.cells [.int .u64 0,.int .u64 0,.int .u64 0,.int .u64 0,.int .u64 0,.int .u64 0,.int .u64 0,.int .u64 0] 0 none)).put h9.n (.cells (wdC (wideN 4)) 0 none)).ext.get h9.n=some (.cells (wdC (wideN 4)) 0 none):=get_put_same _ _ rfl
 have w10:=w9A.ext eB
 have nB:h9.n<((h9.new (.cells [.int .u64 0,.int .u64 0,.int .u64 0,.int .u64 0,.int .u64 0,.int .u64 0,.int .u64 0,.int .u64 0] 0 none)).put h9.n (.cells (wdC (wideN 4)) 0 none)).n:=by simp only[new_n,put_n];omega
 have eAll:=(((((hE4.trans hE5).trans hE6).trans hE7).trans hE8).trans n8).trans (hE9.trans eB)
 have hx4':=hx4.ext ((((((hE5.trans hE6).trans hE7).trans hE8).trans n8).trans hE9).trans eB)
 have hx7':=hx7.ext (((hE8.trans n8).trans hE9).trans eB)
 generalize ((h9.new (.cells [.int .u64 0,.int .u64 0,.int .u64 0,.int .u64 0,.int .u64 0,.int .u64 0,.int .u64 0,.int .u64 0] 0 none)).put h9.n (.cells (wdC (wideN 4)) 0 none))=hB2 at *
 generalize h9.n=t at *
 refine drawn [(0,[2,3])] (by kernel_rfl) (by kernel_rfl) rfl ?_
 simp -dsimp (maxSteps:=1000000) (disch:=first|omega|(simp only[new_n,put_n];omega)|decide +kernel|(repeat first|rw[new_n]|rw[put_n])) only[wpS,wpT,Nat.reduceEqDiff,Nat.reduceLeDiff,Nat.reduceAdd,ld32,w10.rp,List.drop_zero,take2]
 refine call (ones_ok 4 2 2 2 (by decide)) ?_
 rintro _ h11 ⟨hE11,v11,rfl,hv11⟩
 have w11A:=w10.ext hE11
 simp -dsimp (maxSteps:=1000000) (disch:=first|omega|(simp only[new_n,put_n];omega)|decide +kernel|(repeat first|rw[new_n]|rw[put_n])) only[wpS]
 refine call (refOf_ok 1 (by decide)) ?_
 rintro _ h12 ⟨hE12,rfl⟩
 have w12A:=w11A.ext hE12
 simp -dsimp (maxSteps:=1000000) (disch:=first|omega|(simp only[new_n,put_n];omega)|decide +kernel|(repeat first|rw[new_n]|rw[put_n])) only[wpS,Nat.reduceEqDiff]
 have a12:=w12A.path (hv11.ext hE12) (lo:=2) (hi:=2) (k:=2) (by decide) (by decide)
 refine call (kth_ok w12A.b a12 (wideN 1) (wideN_small (by decide))) ?_
 rintro _ h13 ⟨hE13,hr13⟩
 rw[wdI_wideN (inW_of64 (by decide)),total_path22,if_neg (by decide)] at hr13
 subst hr13
 have w13A:=w12A.ext hE13
 simp -dsimp (maxSteps:=1000000) (disch:=first|omega|(simp only[new_n,put_n];omega)|decide +kernel|(repeat first|rw[new_n]|rw[put_n])) only[wpS,Nat.reduceEqDiff]
 refine⟨wpSteady_two (wpSteady_one rfl rfl rfl rfl (steady_load (av:=ptr (2*p) 0) (v:=.agg #[KI ((4:Nat):Int),vp]) rfl ?_ ?_)) (wpSteady_one rfl rfl rfl rfl (steady_load (av:=ptr (2*p) 0) (v:=.agg #[KI ((4:Nat):Int),vp]) rfl ?_ ?_)),?_⟩
 ·simp -dsimp (maxSteps:=1000000) (disch:=first|omega|(simp only[new_n,put_n];omega)|decide +kernel|(repeat first|rw[new_n]|rw[put_n])) only[wpS,wpT,Nat.reduceLeDiff,Nat.reduceAdd,ld32,w10.rp,List.drop_zero,take2]
 ·simp -dsimp (maxSteps:=1000000) (disch:=first|omega|(simp only[new_n,put_n];omega)|decide +kernel|(repeat first|rw[new_n]|rw[put_n])) only[wpS,wpT,Nat.reduceLeDiff,Nat.reduceAdd,ld32,w11A.rp,List.drop_zero,take2]
 ·simp -dsimp (maxSteps:=1000000) (disch:=first|omega|(simp only[new_n,put_n];omega)|decide +kernel|(repeat first|rw[new_n]|rw[put_n])) only[wpS,wpT,Nat.reduceLeDiff,Nat.reduceAdd,ld32,w10.rp,List.drop_zero,take2]
 ·simp -dsimp (maxSteps:=1000000) (disch:=first|omega|(simp only[new_n,put_n];omega)|decide +kernel|(repeat first|rw[new_n]|rw[put_n])) only[wpS,wpT,Nat.reduceLeDiff,Nat.reduceAdd,ld32,w12A.rp,List.drop_zero,take2]
 simp -dsimp (maxSteps:=1000000) (disch:=first|omega|(simp only[new_n,put_n];omega)|decide +kernel|(repeat first|rw[new_n]|rw[put_n])) only[wpS,wpT,Nat.reduceAdd]
 refine drawn [(0,[3])] (by kernel_rfl) (by kernel_rfl) rfl ?_
 simp -dsimp (maxSteps:=1000000) (disch:=first|omega|(simp only[new_n,put_n];omega)|decide +kernel|(repeat first|rw[new_n]|rw[put_n])) only[wpS,wpT,Nat.reduceEqDiff,Nat.reduceLeDiff,Nat.reduceAdd,ld32,w13A.rp,List.drop_zero,take2]
 refine call (ones_ok 4 1 3 2 (by decide)) ?_
 rintro _ h14 ⟨hE14,v14,rfl,hv14⟩
 have w14A:=w13A.ext hE14
 simp -dsimp (maxSteps:=1000000) (disch:=first|omega|(simp only[new_n,put_n];omega)|decide +kernel|(repeat first|rw[new_n]|rw[put_n])) only[wpS,wpT,Nat.reduceEqDiff,Nat.reduceLeDiff,Nat.reduceAdd,Nat.reduceMul,bs44]
 have n14:Ext h14 (h14.new (.cells [.int .i64 1,.int .i64 1,.int .i64 0,.int .i64 0] 1 none)):=(Ext.refl h14).new _
 have w14B:=w14A.ext n14
 have a14:=w14B.path (hv14.ext n14) (lo:=1) (hi:=3) (k:=2) (by decide) (by decide)
 refine call (index_ok w14B.b a14 (p:=[1,1,0,0]) (sl_block (k:=h14.n) (f:=none) (get_new_same _ _ rfl) (by simp only[new_n];omega) (by decide) rfl (by decide) (by decide))) ?_
 rintro _ h15 ⟨hE15,rfl⟩
 rw[idx_path13]
 have w15A:=w14B.ext hE15
 simp -dsimp (maxSteps:=1000000) (disch:=first|omega|(simp only[new_n,put_n];omega)|decide +kernel|(repeat first|rw[new_n]|rw[put_n])) only[wpS,wpT,Nat.reduceEqDiff,Nat.reduceLeDiff,Nat.reduceAdd,zc58,st58,wdV_form,wdC_len,wdC_all,hspl]
 refine⟨wpSteady_one rfl rfl rfl rfl (steady_load (av:=ptr (2*p) 0) (v:=.agg #[KI ((4:Nat):Int),vp]) rfl ?_ ?_),?_⟩
 ·simp -dsimp (maxSteps:=1000000) (disch:=first|omega|(simp only[new_n,put_n];omega)|decide +kernel|(repeat first|rw[new_n]|rw[put_n])) only[wpS,wpT,Nat.reduceLeDiff,Nat.reduceAdd,ld32,w13A.rp,List.drop_zero,take2]
 ·simp -dsimp (maxSteps:=1000000) (disch:=first|omega|(simp only[new_n,put_n];omega)|decide +kernel|(repeat first|rw[new_n]|rw[put_n])) only[wpS,wpT,Nat.reduceLeDiff,Nat.reduceAdd,ld32,w14B.rp,List.drop_zero,take2]
 simp -dsimp (maxSteps:=1000000) (disch:=first|omega|(simp only[new_n,put_n];omega)|decide +kernel|(repeat first|rw[new_n]|rw[put_n])) only[wpS,wpT,Nat.reduceAdd]
 have eC:Ext h15 ((h15.new (.cells [.int .u64 0,.int .u64 0,.int .u64 0,.int .u64 0,.int .u64 0,.int .u64 0,.int .u64 0,.int .u64 0] 0 none)).put h15.n (.cells (wdC 0) 0 none)):=((Ext.refl h15).new _).put (Nat.le_refl _) _
 have w16:=w15A.ext eC
 have eD:=(((((hE11.trans hE12).trans hE13).trans hE14).trans n14).trans hE15).trans eC
 generalize ((h15.new (.cells [.int .u64 0,.int .u64 0,.int .u64 0,.int .u64 0,.int .u64 0,.int .u64 0,.int .u64 0,.int .u64 0] 0 none)).put h15.n (.cells (wdC 0) 0 none))=hC at *
 refine drawn [(0,[6]),(8,[13])] (by kernel_rfl) (by kernel_rfl) rfl ?_
 simp -dsimp (maxSteps:=1000000) (disch:=first|omega|(simp only[new_n,put_n];omega)|decide +kernel|(repeat first|rw[new_n]|rw[put_n])) only[wpS,wpT,Nat.reduceEqDiff,Nat.reduceLeDiff,Nat.reduceAdd,ld32,w16.rp,List.drop_zero,take2]
 refine call (ones_ok 4 1 3 2 (by decide)) ?_
 rintro _ h17 ⟨hE17,v17,rfl,hv17⟩
 have w17A:=w16.ext hE17
 simp -dsimp (maxSteps:=1000000) (disch:=first|omega|(simp only[new_n,put_n];omega)|decide +kernel|(repeat first|rw[new_n]|rw[put_n])) only[wpS,wpT,Nat.reduceEqDiff,Nat.reduceLeDiff,Nat.reduceAdd,Nat.reduceMul,bs44,bs42]
 have n17:Ext h17 (((((h17.new (.cells [.int .i64 0,.int .i64 0,.int .i64 0,.int .i64 1] 1 none)).new (.cells [.int .i64 0,.int .i64 0,.int .i64 1,.int .i64 1] 1 none)).new (.cells [.int .i64 0,.int .i64 1,.int .i64 1,.int .i64 1] 1 none)).new (.cells [.slice (some ⟨2*(h17.n),0,none⟩) 4 9,.slice (some ⟨2*(h17.n+1),0,none⟩) 4 9,.slice (some ⟨2*(h17.n+1+1),0,none⟩) 4 9] 1 none))):=((((Ext.refl h17).new _).new _).new _).new _
 have pl1:PlansAt (((((h17.new (.cells [.int .i64 0,.int .i64 0,.int .i64 0,.int .i64 1] 1 none)).new (.cells [.int .i64 0,.int .i64 0,.int .i64 1,.int .i64 1] 1 none)).new (.cells [.int .i64 0,.int .i64 1,.int .i64 1,.int .i64 1] 1 none)).new (.cells [.slice (some ⟨2*(h17.n),0,none⟩) 4 9,.slice (some ⟨2*(h17.n+1),0,none⟩) 4 9,.slice (some ⟨2*(h17.n+1+1),0,none⟩) 4 9] 1 none))) (.slice (some ⟨2*(h17.n+1+1+1),0,none⟩) 3 7) [[0,0,0,1],[0,0,1,1],[0,1,1,1]]:=by
  refine⟨[.slice (some ⟨2*(h17.n),0,none⟩) 4 9,.slice (some ⟨2*(h17.n+1),0,none⟩) 4 9,.slice (some ⟨2*(h17.n+1+1),0,none⟩) 4 9],sl_block (k:=h17.n+1+1+1) (f:=none) ?_ (by simp only[new_n];omega) (by decide) rfl (by decide) (by decide),?_⟩
  ·simp (disch:=first|omega|(simp only[new_n,put_n];omega)|(repeat first|rw[new_n]|rw[put_n])) only[get_new_same]
  intro i p hp
  match i,hp with
  | 0,hp =>
   cases hp
   refine⟨_,rfl,sl_block (k:=h17.n) (f:=none) ?_ (by simp only[new_n];omega) (by decide) rfl (by decide) (by decide)⟩
   simp (disch:=first|omega|(simp only[new_n,put_n];omega)|(repeat first|rw[new_n]|rw[put_n])) only[get_new_same,get_new_old]
   rfl
  | 1,hp =>
   cases hp
   refine⟨_,rfl,sl_block (k:=h17.n+1) (f:=none) ?_ (by simp only[new_n];omega) (by decide) rfl (by decide) (by decide)⟩
   simp (disch:=first|omega|(simp only[new_n,put_n];omega)|(repeat first|rw[new_n]|rw[put_n])) only[get_new_same,get_new_old]
   rfl
  | 2,hp =>
   cases hp
   refine⟨_,rfl,sl_block (k:=h17.n+1+1) (f:=none) ?_ (by simp only[new_n];omega) (by decide) rfl (by decide) (by decide)⟩
   simp (disch:=first|omega|(simp only[new_n,put_n];omega)|(repeat first|rw[new_n]|rw[put_n])) only[get_new_same,get_new_old]
   rfl
  | i+3,hp=>simp at hp
 have w17B:=w17A.ext n17
 have a17:=w17B.path (hv17.ext n17) (lo:=1) (hi:=3) (k:=2) (by decide) (by decide)
 refine call (lists_ok w17B.b a17 pl1 (by decide)) ?_
 rintro _ h18 ⟨hE18,rfl⟩
 rw[decide_eq_true ⟨by rw[total_path13];decide,plans_path13⟩]
 have w18A:=w17B.ext hE18
 simp -dsimp (maxSteps:=1000000) (disch:=first|omega|(simp only[new_n,put_n];omega)|decide +kernel|(repeat first|rw[new_n]|rw[put_n])) only[wpS,wpT,Nat.reduceEqDiff,Nat.reduceLeDiff,Nat.reduceAdd,ld32,w18A.rc,List.drop_zero,take2]
 refine call (ones_ok 4 2 2 2 (by decide)) ?_
 rintro _ h19 ⟨hE19,v19,rfl,hv19⟩
 have w19A:=w18A.ext hE19
 simp -dsimp (maxSteps:=1000000) (disch:=first|omega|(simp only[new_n,put_n];omega)|decide +kernel|(repeat first|rw[new_n]|rw[put_n])) only[wpS,wpT,Nat.reduceEqDiff,Nat.reduceLeDiff,Nat.reduceAdd,Nat.reduceMul,bs44,bs42]
 have n19:Ext h19 ((((h19.new (.cells [.int .i64 0,.int .i64 0,.int .i64 1,.int .i64 1] 1 none)).new (.cells [.int .i64 0,.int .i64 1,.int .i64 1,.int .i64 0] 1 none)).new (.cells [.slice (some ⟨2*(h19.n),0,none⟩) 4 9,.slice (some ⟨2*(h19.n+1),0,none⟩) 4 9] 1 none))):=(((Ext.refl h19).new _).new _).new _
 have pl2:PlansAt ((((h19.new (.cells [.int .i64 0,.int .i64 0,.int .i64 1,.int .i64 1] 1 none)).new (.cells [.int .i64 0,.int .i64 1,.int .i64 1,.int .i64 0] 1 none)).new (.cells [.slice (some ⟨2*(h19.n),0,none⟩) 4 9,.slice (some ⟨2*(h19.n+1),0,none⟩) 4 9] 1 none))) (.slice (some ⟨2*(h19.n+1+1),0,none⟩) 2 5) [[0,0,1,1],[0,1,1,0]]:=by
  refine⟨[.slice (some ⟨2*(h19.n),0,none⟩) 4 9,.slice (some ⟨2*(h19.n+1),0,none⟩) 4 9],sl_block (k:=h19.n+1+1) (f:=none) ?_ (by simp only[new_n];omega) (by decide) rfl (by decide) (by decide),?_⟩
  ·simp (disch:=first|omega|(simp only[new_n,put_n];omega)|(repeat first|rw[new_n]|rw[put_n])) only[get_new_same]
  intro i p hp
  match i,hp with
  | 0,hp =>
   cases hp
   refine⟨_,rfl,sl_block (k:=h19.n) (f:=none) ?_ (by simp only[new_n];omega) (by decide) rfl (by decide) (by decide)⟩
   simp (disch:=first|omega|(simp only[new_n,put_n];omega)|(repeat first|rw[new_n]|rw[put_n])) only[get_new_same,get_new_old]
   rfl
  | 1,hp =>
   cases hp
   refine⟨_,rfl,sl_block (k:=h19.n+1) (f:=none) ?_ (by simp only[new_n];omega) (by decide) rfl (by decide) (by decide)⟩
   simp (disch:=first|omega|(simp only[new_n,put_n];omega)|(repeat first|rw[new_n]|rw[put_n])) only[get_new_same,get_new_old]
   rfl
  | i+2,hp=>simp at hp
 have w19B:=w19A.ext n19
 have a19:=w19B.cycle (hv19.ext n19) (lo:=2) (hi:=2) (k:=2) (by decide) (by decide)
 refine call (lists_ok w19B.b a19 pl2 (by decide)) ?_
 rintro _ h20 ⟨hE20,rfl⟩
 rw[decide_eq_true ⟨by rw[total_cyc22];decide,plans_cyc22⟩]
 have w20A:=w19B.ext hE20
 simp -dsimp (maxSteps:=1000000) (disch:=first|omega|(simp only[new_n,put_n];omega)|decide +kernel|(repeat first|rw[new_n]|rw[put_n])) only[wpS,Nat.reduceEqDiff]
 refine⟨wpSteady_cons (wpSteady_one rfl rfl rfl rfl (steady_load (av:=ptr (2*p) 0) (v:=.agg #[KI ((4:Nat):Int),vp]) rfl ?_ ?_)) (wpSteady_one rfl rfl rfl rfl (steady_load (av:=ptr (2*c) 0) (v:=.agg #[KI ((4:Nat):Int),vc]) rfl ?_ ?_)),?_⟩
 ·simp -dsimp (maxSteps:=1000000) (disch:=first|omega|(simp only[new_n,put_n];omega)|decide +kernel|(repeat first|rw[new_n]|rw[put_n])) only[wpS,wpT,Nat.reduceLeDiff,Nat.reduceAdd,ld32,w16.rp,List.drop_zero,take2]
 ·simp -dsimp (maxSteps:=1000000) (disch:=first|omega|(simp only[new_n,put_n];omega)|decide +kernel|(repeat first|rw[new_n]|rw[put_n])) only[wpS,wpT,Nat.reduceLeDiff,Nat.reduceAdd,ld32,w17B.rp,List.drop_zero,take2]
 ·simp -dsimp (maxSteps:=1000000) (disch:=first|omega|(simp only[new_n,put_n];omega)|decide +kernel|(repeat first|rw[new_n]|rw[put_n])) only[wpS,wpT,Nat.reduceLeDiff,Nat.reduceAdd,ld32,w18A.rc,List.drop_zero,take2]
 ·simp -dsimp (maxSteps:=1000000) (disch:=first|omega|(simp only[new_n,put_n];omega)|decide +kernel|(repeat first|rw[new_n]|rw[put_n])) only[wpS,wpT,Nat.reduceLeDiff,Nat.reduceAdd,ld32,w19B.rc,List.drop_zero,take2]
 simp -dsimp (maxSteps:=1000000) (disch:=first|omega|(simp only[new_n,put_n];omega)|decide +kernel|(repeat first|rw[new_n]|rw[put_n])) only[wpS,wpT,Nat.reduceAdd]
 have eE:=((((eD.trans hE17).trans n17).trans hE18).trans hE19).trans (n19.trans hE20)
 have hx4f:=hx4'.ext eE
 have hx7f:=hx7'.ext eE
 have gF:h20.row (2*t)=some (wdC (wideN 4)):=by rw[eE.row (.inr (by omega)),row_even];simp only[IH.cells,gB]
 refine drawn [(20,[37])] (by kernel_rfl) (by kernel_rfl) rfl ?_
 simp -dsimp (maxSteps:=1000000) (disch:=first|omega|(simp only[new_n,put_n];omega)|decide +kernel|(repeat first|rw[new_n]|rw[put_n])) only[wpS,wpT,Nat.reduceEqDiff,Nat.reduceLeDiff,Nat.reduceAdd,Nat.reduceMul,bs38]
 have m1:Ext h20 (h20.new (.cells [.int .u64 3,.int .u64 6,.int .u64 12] 1 none)):=(Ext.refl h20).new _
 have s1:SlOf (h20.new (.cells [.int .u64 3,.int .u64 6,.int .u64 12] 1 none)) 1 (.slice (some ⟨2*h20.n,0,none⟩) 3 7) 3 ([3,6,12].map fun n:Nat=>K64 n):=sl_block (k:=h20.n) (f:=none) (get_new_same _ _ rfl) (by simp only[new_n];omega) (by decide) rfl (by decide) (by decide)
 refine call (equal64_ok (a:=[3,6,12]) (b:=[3,6,12]) (hx4f.ext m1).now s1.now (by decide) (fun x _ y _ o1 o2=>neq64 x y _ _ o1 o2)) ?_
 rintro _ h21 ⟨hh21,rfl⟩
 rw[hh21,decide_eq_true rfl]
 simp -dsimp (maxSteps:=1000000) (disch:=first|omega|(simp only[new_n,put_n];omega)|decide +kernel|(repeat first|rw[new_n]|rw[put_n])) only[wpS,wpT,Nat.reduceEqDiff,Nat.reduceLeDiff,Nat.reduceAdd,Nat.reduceMul,bs44]
 have m2:Ext h20 ((h20.new (.cells [.int .u64 3,.int .u64 6,.int .u64 12] 1 none)).new (.cells [.int .i64 0,.int .i64 0,.int .i64 0,.int .i64 1] 1 none)):=m1.new _
 have s2:SlOf ((h20.new (.cells [.int .u64 3,.int .u64 6,.int .u64 12] 1 none)).new (.cells [.int .i64 0,.int .i64 0,.int .i64 0,.int .i64 1] 1 none)) 1 (.slice (some ⟨2*(h20.n+1),0,none⟩) 4 9) 4 ([0,0,0,1].map KI):=sl_block (k:=h20.n+1) (f:=none) (get_new_same _ _ (by simp only[new_n])) (by simp only[new_n];omega) (by decide) rfl (by decide) (by decide)
 refine call (equalP_ok (a:=[0,0,0,1]) (b:=[0,0,0,1]) (hx7f.ext m2).now s2.now (by decide) (fun x _ y _ o1 o2=>neqI x y _ _ o1 o2)) ?_
 rintro _ h22 ⟨hh22,rfl⟩
 rw[hh22,decide_eq_true rfl]
 have ht20:t<h20.n:=Nat.lt_of_lt_of_le nB eE.n
 simp -dsimp (maxSteps:=1000000) (disch:=first|omega|(simp only[new_n,put_n];omega)|decide +kernel|(repeat first|rw[new_n]|rw[put_n])) only[wpS,wpT,Nat.reduceEqDiff,Nat.reduceLeDiff,ld58,gF,wdC_len,wd_take]
 refine call (refOf_ok 4 (by decide)) ?_
 rintro _ h23 ⟨hE23,rfl⟩
 have hq4 : ∀ox oy,binop Proofs.Tryd.prog .eql 58 ox oy (.agg (wdC (wideN 4)).toArray) (wideV 4)=some (.bool true):=fun ox oy=>by
  have:=wd_eql (wideN_small (show In64 4 by decide)) (wideN_small (show In64 4 by decide)) ox oy
  rw[decide_eq_true rfl] at this
  exact this
 have gG:h23.row (2*t)=some (wdC (wideN 4)):=by rw[(m2.trans hE23).row (.inr (by omega))];exact gF
 simp -dsimp (maxSteps:=1000000) (disch:=first|omega|(simp only[new_n,put_n];omega)|decide +kernel|(repeat first|rw[new_n]|rw[put_n])) only[wpS,wpT,Nat.reduceEqDiff,hq4]
 refine⟨wpSteady_one rfl rfl rfl rfl (steady_load (av:=ptr (2*t) 0) (v:=wideV 4) rfl ?_ ?_),?_⟩
 ·simp -dsimp (maxSteps:=1000000) (disch:=first|omega|(simp only[new_n,put_n];omega)|decide +kernel|(repeat first|rw[new_n]|rw[put_n])) only[wpS,Nat.reduceLeDiff,ld58,gF,wdC_len,wd_take]
  rfl
 ·simp -dsimp (maxSteps:=1000000) (disch:=first|omega|(simp only[new_n,put_n];omega)|decide +kernel|(repeat first|rw[new_n]|rw[put_n])) only[wpS,Nat.reduceLeDiff,ld58,gG,wdC_len,wd_take]
  rfl
 simp -dsimp (maxSteps:=1000000) (disch:=first|omega|(simp only[new_n,put_n];omega)|decide +kernel|(repeat first|rw[new_n]|rw[put_n])) only[wpS,wpT,Nat.reduceEqDiff,Nat.reduceAdd]
 exact w20A.e.trans (m2.trans hE23)
end Go.Id

/-! The statement EnumerateSets, on the ideal machine. -/
namespace Go.Id
open Go
theorem DraftAt.ext {h h':IH} {x:Value} (d:DraftAt h x) (e:Ext h h'):DraftAt h' x:=by
 obtain⟨wd,hi,less,sl,ds,mn,wn,mv,wv,ms,wcs,rfl,hm,h8m,hw,h8w,h1⟩:=d.ex
 exact⟨wd,hi,less,sl,ds,mn,wn,mv,wv,ms,wcs,rfl,hm.ext e,h8m,hw.ext e,h8w,h1⟩
theorem DraftAt.cells {h:IH} {x:Value} (d:DraftAt h x) : ∃cs:List Value,x=.agg cs.toArray∧cs.length=7∧cs.all cellOK=true:=by
 obtain⟨wd,hi,less,sl,ds,mn,wn,mv,wv,ms,wcs,rfl,hm,h8m,hw,h8w,h1⟩:=d.ex
 refine⟨[K8 wd,K8 hi,K16 less,mv,wv,K8 sl,K8 ds],rfl,rfl,?_⟩
 have c1:=hm.cok
 have c2:=hw.cok
 simp only[List.all_cons,c1,c2,List.all_nil,Bool.and_true,Bool.true_and]
 rfl
end Go.Id

/-! Fractions: lowest terms, sizes; loads of what was there before. -/
namespace Go.Id
open Go
def QB (k:Nat) (q:Rat):Prop:=q.num.natAbs≤2 ^ k∧q.den≤2 ^ k
theorem QB.mono {a b:Nat} {x:Rat} (h:QB a x) (k:a≤b):QB b x :=
 ⟨Nat.le_trans h.1 (Nat.pow_le_pow_right (by omega) k),Nat.le_trans h.2 (Nat.pow_le_pow_right (by omega) k)⟩
theorem QB.int {k:Nat} {n:Int} (h:n.natAbs≤2 ^ k):QB k (n:Rat):=⟨h,Nat.pow_pos (by omega)⟩
theorem wpSteady_c2 {P:Program} {ops:List Oper} {tr:List (Fr×IH)} {e e':Nat×List Nat} {l:List (Nat×List Nat)} (h1:wpSteady P ops tr [e]) (h2:wpSteady P ops tr (e' :: l)):wpSteady P ops tr (e :: e' :: l):=wpSteady_cons h1 h2
theorem Ext.kept {a b:IH} (e:Ext a b) {k:Nat} {o:IObj} (hk:k<a.n) (g:a.ext.get k=some o):b.ext.get k=some o:=(e.get k hk).trans g
end Go.Id

/-! EnumerateOrder, on the ideal machine: up to the list of plans. -/
namespace Go.Id
open Go
def nthP:Code→Nat→Code
 | .seq a _,0=>a
 | .seq _ b,n+1=>nthP b n
 | c,_=>c
noncomputable def partO (i:Nat):Code:=nthP (Proofs.Tryd.f4.body.getD .skip) i
structure OQ where
 (n k:Nat) (E:List (Nat×Nat)) (v w:Value) (ws:List Int) (lo hi:Int) (b5 b6 at_:Nat)
noncomputable def OQ.F (q:OQ):Nat→Bool:=fitsB q.E q.ws q.lo q.hi
noncomputable def OQ.T (q:OQ):Nat:=totalP q.n q.E q.ws q.lo q.hi q.k
noncomputable def OQ.P (q:OQ) (i:Nat):List Nat:=planAt q.F q.n q.k q.n 0 [] i
noncomputable def OQ.L (q:OQ) (base len:Nat):List (List Nat):=(List.range len).map fun i=>q.P (base+i)
structure OM (q:OQ) (hh:IH):Prop where
 b:BaseT hh
 a:ArgsAt hh q.n q.E q.v q.w q.ws q.lo q.hi q.k
 g5:hh.ext.get q.b5=some (.cells [KI q.n,q.v] 0 none)
 g6:hh.ext.get q.b6=some (.cells [q.w,KI q.lo,KI q.hi,KI q.k] 0 none)
 l5:q.b5<q.b6
 l6:q.b6<hh.n
 lt:q.at_<65536
theorem OM.ext {q:OQ} {hh h2:IH} (p:OM q hh) (e:Ext hh h2):OM q h2 :=
 have:=p.l5;have:=p.l6
 ⟨p.b.ext e,p.a.keep e.keep,(e.get _ (by omega)).trans p.g5,(e.get _ (by omega)).trans p.g6,p.l5,Nat.lt_of_lt_of_le p.l6 e.n,p.lt⟩
theorem OM.r5 {q:OQ} {hh:IH} (p:OM q hh):hh.row (2*q.b5)=some [KI q.n,q.v]:=by rw[row_even];simp only[IH.cells,p.g5]
theorem OM.r6 {q:OQ} {hh:IH} (p:OM q hh):hh.row (2*q.b6)=some [q.w,KI q.lo,KI q.hi,KI q.k]:=by rw[row_even];simp only[IH.cells,p.g6]
structure OF (q:OQ) (fr:Fr):Prop where
 f1:fget fr 1=some (K16 q.at_)
 f5:fget fr 5=some (ptr (2*q.b5) 0)
 f6:fget fr 6=some (ptr (2*q.b6) 0)
theorem otk2 (a b:Value):List.take 2 [a,b] = [a,b]:=rfl
theorem otk4 (a b c d:Value):List.take 4 [a,b,c,d] = [a,b,c,d]:=rfl
theorem OM.ld5 {q:OQ} {hh:IH} (m:OM q hh):load Proofs.Tryd.prog hh 32 (ptr (2*q.b5) 0)=some (.agg #[KI q.n,q.v]):=by
 simp -dsimp (disch:=omega) only[wpS,wpT,Nat.reduceLeDiff,Nat.reduceAdd,ld32,m.r5,List.drop_zero,otk2]
theorem OM.ld6 {q:OQ} {hh:IH} (m:OM q hh):load Proofs.Tryd.prog hh 35 (ptr (2*q.b6) 0)=some (.agg #[q.w,KI q.lo,KI q.hi,KI q.k]):=by
 simp -dsimp (disch:=omega) only[wpS,wpT,Nat.reduceLeDiff,Nat.reduceAdd,ld35,m.r6,List.drop_zero,otk4]
set_option maxHeartbeats 4000000 in
theorem o0 {hh:IH} {fr:Fr} {Q:IExit→Fr→IH→Prop} {x:Value} {n:Nat} (f0:fget fr 0=some x) (f1:fget fr 1=some (K16 n)) (hc : ∃cs:List Value,x=.agg cs.toArray∧cs.length=7∧cs.all cellOK=true):Do (wpC Proofs.Tryd.prog 4 217 none (partO 0) fr hh) (seqK (fun fr h'=>Pst ((∃cs:List Value,x=.agg cs.toArray∧cs.length=7∧h'=hh.new (.cells cs 0 none))∧fget fr 1=some (K16 n)∧fget fr 2=some (ptr (2*hh.n) 0)) nx) Q) nx:=by
 show Do (wpC _ _ _ _ (.region _ _ _) fr hh) _ _
 obtain⟨cs,rfl,hl,hca⟩:=hc
 simp -dsimp (disch:=omega) only[wpS,f0]
 exact⟨⟨cs,rfl,hl,rfl⟩,by simp[f1],by simp⟩
set_option maxHeartbeats 4000000 in
theorem o1 {hh:IH} {fr:Fr} {Q:IExit→Fr→IH→Prop} {n b:Nat} (hB:BaseT hh) (f1:fget fr 1=some (K16 n)) (f2:fget fr 2=some (ptr (2*b) 0)):Do (wpC Proofs.Tryd.prog 4 217 none (partO 1) fr hh) (seqK (fun fr h'=>Pst (Ext hh h'∧fget fr 1=some (K16 n)∧fget fr 2=some (ptr (2*b) 0)) nx) Q) nx:=by
 show Do (wpC _ _ _ _ (.seq _ _) fr hh) _ _
 simp -dsimp (disch:=omega) only[wpS]
 refine call (works_ok hB) ?_
 rintro _ h1 ⟨hE1,rfl⟩
 simp -dsimp (disch:=omega) only[wpS,wpT,Nat.reduceEqDiff]
 exact⟨hE1,by simp[f1],by simp[f2]⟩
set_option maxHeartbeats 4000000 in
theorem o2 {hh:IH} {fr:Fr} {Q:IExit→Fr→IH→Prop} {n b:Nat} {cs:List Value} (hB:BaseT hh) (hx:DraftAt hh (.agg cs.toArray)) (hcl:cs.length=7) (hn:n<65536) (hb:b<hh.n) (g:hh.ext.get b=some (.cells cs 0 none)) (f1:fget fr 1=some (K16 n)) (f2:fget fr 2=some (ptr (2*b) 0)):Do (wpC Proofs.Tryd.prog 4 217 none (partO 2) fr hh) (seqK (fun fr h'=>Pst (Ext hh h' ∧ ∃q,OM q h'∧OF q fr∧q.n≤9∧q.k≤4) nx) Q) nx:=by
 show Do (wpC _ _ _ _ (.region _ _ _) fr hh) _ _
 have tk:List.take 7 (List.drop 0 cs)=cs:=by rw[List.drop_zero,List.take_of_length_le (by omega)]
 have r0:hh.row (2*b)=some cs:=by rw[row_even];simp only[IH.cells,g]
 simp -dsimp (maxSteps:=1000000) (disch:=first|omega|(simp only[new_n,put_n];omega)|decide +kernel|(repeat first|rw[new_n]|rw[put_n])) only[wpS,Nat.reduceLeDiff,ld28,f2,r0,hcl,tk]
 refine call (problem_ok hx) ?_
 rintro _ h2 ⟨hE2,n1,k,E,v,w,ws,lo,hi,rfl,a,hk4,hn9,hws⟩
 simp -dsimp (maxSteps:=1000000) (disch:=first|omega|(simp only[new_n,put_n];omega)|decide +kernel|(repeat first|rw[new_n]|rw[put_n])) only[wpS,wpT,Nat.reduceEqDiff,Nat.reduceLeDiff,Nat.reduceAdd,zc32,zc35,st32,st35,a.sE.cok,a.sW.cok]
 have eT:Ext h2 ((((h2.new (.cells [.int .i64 0,.slice none 0 0] 0 none)).new (.cells [.slice none 0 0,.int .i64 0,.int .i64 0,.int .i64 0] 0 none)).put h2.n (.cells [KI n1,v] 0 none)).put (h2.n+1) (.cells [w,KI lo,KI hi,KI k] 0 none)):=((((Ext.refl h2).new _).new _).put (Nat.le_refl _) _).put (by omega) _
 refine⟨hE2.trans eT,⟨n1,k,E,v,w,ws,lo,hi,h2.n,h2.n+1,n⟩,⟨(hB.ext hE2).ext eT,a.keep eT.keep,by simp (disch:=first|omega|(simp only[new_n,put_n];omega)|(repeat first|rw[new_n]|rw[put_n])) only[get_put_same,get_put_old],by simp (disch:=first|omega|(simp only[new_n,put_n];omega)|(repeat first|rw[new_n]|rw[put_n])) only[get_put_same],by simp,by simp,hn⟩,⟨by simp[f1],by simp,by simp⟩,hn9,hk4⟩
set_option maxHeartbeats 4000000 in
theorem o3 {hh:IH} {fr:Fr} {Q:IExit→Fr→IH→Prop} {q:OQ} (m:OM q hh) (f:OF q fr):Do (wpC Proofs.Tryd.prog 4 217 none (partO 3) fr hh) (seqK (fun fr h'=>Pst (OM q h'∧OF q fr ∧ ∃x e,fget fr 7=some x∧fget fr 8=some (KI e)∧(e=0∧q.T≤400∧PlansAt h' x (q.L 0 q.T)∨e=3∧400<q.T)) nx) Q) nx:=by
 show Do (wpC _ _ _ _ (.region _ _ _) fr hh) _ _
 simp -dsimp (disch:=omega) only[wpS,wpT,Nat.reduceEqDiff,Nat.reduceLeDiff,Nat.reduceAdd,ld32,ld35,f.f5,f.f6,m.r5,m.r6,List.drop_zero,otk2,otk4]
 refine call (all_ok m.b m.a) ?_
 rintro r h1 ⟨hE1,hr⟩
 have mT:totalP q.n q.E q.ws q.lo q.hi q.k=q.T:=rfl
 rw[mT] at hr
 by_cases ht:q.T≤400
 ·rw[if_pos ht] at hr
  obtain⟨x,rfl,hp⟩:=hr
  simp -dsimp (disch:=omega) only[wpS,Nat.reduceEqDiff]
  refine⟨m.ext hE1,⟨by simp[f.f1],by simp[f.f5],by simp[f.f6]⟩,x,0,by simp,by simp,.inl ⟨rfl,ht,?_⟩⟩
  have e:q.L 0 q.T=plansP q.n q.E q.ws q.lo q.hi q.k:=by simp only[OQ.L,Nat.zero_add];rfl
  rw[e];exact hp
 ·rw[if_neg ht] at hr
  subst hr
  simp -dsimp (disch:=omega) only[wpS,Nat.reduceEqDiff]
  exact⟨m.ext hE1,⟨by simp[f.f1],by simp[f.f5],by simp[f.f6]⟩,.slice none 0 0,3,by simp,by simp,.inr ⟨rfl,by omega⟩⟩
def OL (q:OQ) (hh:IH) (fr:Fr) (x:Value) (base len:Nat) (e:Int):Prop:=fget fr 7=some x∧fget fr 8=some (KI e)∧PlansAt hh x (q.L base len)∧base+len≤q.T∧len≤400∧(e=0∧base=0∨e=3∧base=q.at_ % 400)
theorem OL.ext {q:OQ} {hh h2:IH} {fr fr2:Fr} {x:Value} {base len:Nat} {e:Int} (l:OL q hh fr x base len e) (E:Ext hh h2) (f7:fget fr2 7=some x) (f8:fget fr2 8=some (KI e)):OL q h2 fr2 x base len e:=by
 obtain⟨_,_,a,b,c,d⟩:=l
 exact⟨f7,f8,a.keep E.keep,b,c,d⟩
theorem OM.small {q:OQ} {hh:IH} (m:OM q hh):q.n≤12∧0<q.n∧1≤q.k∧q.k≤8∧q.T≤68719476736:=by
 obtain⟨hG,hn0,hn12,hV,hlen,hwl,hwb,hd1,hd2,hlo,hlohi⟩:=enErr_ok m.a.ok
 have hp:0<2 ^ q.n:=Nat.pow_pos (by omega)
 exact⟨hn12,hn0,by omega,by omega,after_small _ [] hn12 (by omega) (by omega)⟩
theorem OM.plan {q:OQ} {hh:IH} (m:OM q hh) {i:Nat} (hi:i<q.T):(q.P i).length=q.n∧OkL 0 [] (q.P i)∧(csF 0 [] (q.P i)).length=q.k∧(∀c∈csF 0 [] (q.P i),q.F c=true)∧idxV q.F q.n q.k ((q.P i).map fun(l:Nat)=>(l:Int))=.tuple #[wideV i,KI 0] :=
 plan_all q.F (by have:=m.small;omega) hi
theorem wideK (n:Nat):wideV (n:Int)=wdV n:=by
 have e:wideN (n:Int)=n:=by unfold wideN;rw[if_pos (by omega)];exact Int.toNat_natCast n
 show wdV (wideN n)=wdV n
 rw[e]
theorem inW_nat {n:Nat} (h:n≤68719476736):InW (n:Int):=by
 have h2:68719476736<H8:=by decide +kernel
 unfold InW
 omega
theorem OM.kth {q:OQ} {hh:IH} (m:OM q hh) {i:Nat} (hi:i<q.T):WV Proofs.Tryd.prog (.func (.func 17) #[] #[]) [.agg #[KI q.n,q.v],.agg #[q.w,KI q.lo,KI q.hi,KI q.k],wideV i] hh fun r h'=>Ext hh h' ∧ ∃s,r=.tuple #[s,KI 0]∧SlOf h' 1 s (q.P i).length (i64s (q.P i)):=by
 have hs:=m.small
 have hw:wideN (i:Int)<W8:=wideN_small (by omega)
 have e:wdI (wideN (i:Int))=i:=wdI_wideN (inW_nat (by omega))
 refine(kth_ok m.b m.a (wideN (i:Int)) hw).mono ?_
 rintro r h' ⟨E,hr⟩
 rw[e,if_pos ⟨by omega,by rw[show totalP q.n q.E q.ws q.lo q.hi q.k=q.T from rfl];omega⟩,Int.toNat_natCast] at hr
 exact⟨E,hr⟩
theorem OQ.L_at (q:OQ) {base len i:Nat} (h:i<len):(q.L base len)[i]?=some (q.P (base+i)):=by simp[OQ.L,h]
theorem OQ.L_len (q:OQ) (base len:Nat):(q.L base len).length=len:=by simp[OQ.L]
set_option maxHeartbeats 8000000 in
theorem o4 {hh:IH} {fr:Fr} {Q:IExit→Fr→IH→Prop} {q:OQ} (m:OM q hh) (f:OF q fr) (hx : ∃x e,fget fr 7=some x∧fget fr 8=some (KI e)∧(e=0∧q.T≤400∧PlansAt hh x (q.L 0 q.T)∨e=3∧400<q.T)):Do (wpC Proofs.Tryd.prog 4 217 none (partO 4) fr hh) (seqK (fun fr h'=>Pst (OM q h'∧OF q fr ∧ ∃x base len e,OL q h' fr x base len e) nx) Q) nx:=by
 show Do (wpC _ _ _ _ (.seq _ _) fr hh) _ _
 obtain⟨x,e,f7,f8,hc⟩:=hx
 have hs:=m.small
 rcases hc with⟨rfl,ht,hp⟩|⟨rfl,ht⟩
 ·have hlen:q.T=(q.L 0 q.T).length:=(q.L_len 0 q.T).symm
  obtain⟨vs,sv,hvs⟩:=id hp
  rw[q.L_len] at sv
  simp -dsimp (disch:=omega) only[wpS,wpT,Nat.reduceEqDiff,Nat.reduceLeDiff,Nat.reduceAdd,ld32,ld35,f.f5,f.f6,f7,f8,m.r5,m.r6,List.drop_zero,otk2,otk4,sv.len sl42]
  refine call (counts_ok m.b m.a (q.T:Int) ⟨by omega,by omega⟩) ?_
  rintro _ h1 ⟨hE1,rfl⟩
  have ed:decide ((totalP q.n q.E q.ws q.lo q.hi q.k:Int)=(q.T:Int))=true:=decide_eq_true rfl
  simp -dsimp (disch:=omega) only[wpS,wpT,Nat.reduceEqDiff,ed]
  exact⟨m.ext hE1,⟨by simp[f.f1],by simp[f.f5],by simp[f.f6]⟩,x,0,q.T,0,by simp[f7],by simp[f8],hp.keep hE1.keep,by omega,ht,.inl ⟨rfl,rfl⟩⟩
 ·obtain⟨A,hA⟩ : ∃A,A=q.at_ % 400:=⟨_,rfl⟩
  have hA4:A<400:=by omega
  have hlt:=m.lt
  have hrem : ∀ox oy,binop Proofs.Tryd.prog .rem 3 ox oy (KI (q.at_:Int)) (.int .i64 400)=some (KN A):=fun ox oy=>by
   rw[binop_rem _ _ _ _ (by decide),Int.tmod_eq_emod_of_nonneg (by omega),hA]
   congr 2
  have hi0:indexV Proofs.Tryd.prog 54 (.agg #[KN A,KI ((A:Int)+1)]) (KN 0)=some (KN A):=by kernel_rfl
  have hi1:indexV Proofs.Tryd.prog 54 (.agg #[KN A,KI ((A:Int)+1)]) (KN 1)=some (KI ((A:Int)+1)):=by kernel_rfl
  simp -dsimp (disch:=omega) only[wpS,wpT,Nat.reduceEqDiff,Nat.reduceLeDiff,Nat.reduceAdd,cv22_3,bv54,pl54_0,pl54_1,f.f1,f8,hrem]
  refine loop (fun mm fr g => ∃j out vs,j+mm=2∧Ext hh g∧Acc g hh.n 1 out j vs∧(∀i,i<j → ∃s,vs[i]?=some s∧SlOf g 1 s (q.P (A+i)).length (i64s (q.P (A+i))))∧OF q fr∧fget fr 7=some out∧fget fr 8=some (KI 3)∧fget fr 52=some (.agg #[KN A,KI ((A:Int)+1)])∧fget fr 53=some (KN j)) 2
   ⟨0,.slice none 0 0,[],by omega,Ext.refl _,Acc.nil _ _ (by omega),fun i hi=>absurd hi (by omega),⟨by simp[f.f1],by simp[f.f5],by simp[f.f6]⟩,by simp,by simp[f8],by simp,by simp⟩ ?_
  rintro mm fr g ⟨j,out,vs,hj,E,hAc,hvs,f,f7,f8,f52,f53⟩
  have hnn:=E.n
  have mg:=m.ext E
  simp -dsimp (disch:=omega) only[wpS,f53]
  refine bq_intro ?_ ?_<;>intro hc<;>simp only[decide_eq_true_eq,decide_eq_false_iff_not] at hc
  ·have hj2:j<2:=by omega
   have hid:indexV Proofs.Tryd.prog 54 (.agg #[KN A,KI ((A:Int)+1)]) (KN j)=some (KN (A+j)):=by
    have:j=0∨j=1:=by omega
    rcases this with rfl|rfl
    ·exact hi0
    ·rw[hi1];congr 2
   simp -dsimp (disch:=omega) only[wpS,wpT,Nat.reduceEqDiff,f52,f53,hid]
   refine drawn [(0,[4]),(1,[4])] (by kernel_rfl) (by kernel_rfl) rfl ?_
   simp -dsimp (disch:=omega) only[wpS,wpT,Nat.reduceEqDiff,Nat.reduceLeDiff,Nat.reduceAdd,ld32,ld35,f.f5,f.f6,mg.r5,mg.r6,List.drop_zero,otk2,otk4]
   refine call (refOf_ok ((A+j:Nat):Int) ⟨by omega,by omega⟩) ?_
   rintro _ h1 ⟨hE1,rfl⟩
   simp -dsimp (disch:=omega) only[wpS,Nat.reduceEqDiff]
   refine call ((mg.ext hE1).kth (i:=A+j) (by omega)) ?_
   rintro _ h2 ⟨hE2,s,rfl,hs2⟩
   simp -dsimp (disch:=omega) only[wpS,Nat.reduceEqDiff]
   refine⟨wpSteady_c2 (wpSteady_one rfl rfl rfl rfl (steady_load f.f5 mg.ld5 (mg.ext hE1).ld5)) (wpSteady_one rfl rfl rfl rfl (steady_load f.f6 mg.ld6 (mg.ext hE1).ld6)),?_⟩
   simp -dsimp (disch:=omega) only[wpS,wpT,Nat.reduceEqDiff,Nat.reduceLeDiff,Nat.reduceAdd,bs42,ba42_42,f7,hs2.cells]
   have E12:=E.trans (hE1.trans hE2)
   obtain⟨out',h8,hap,hA8,hG8,hE8⟩:=((hAc.ext (hE1.trans hE2)).app1 (x:=s) (P:=Proofs.Tryd.prog) (t:=42) ap42 hs2.cok (by omega) (by have:=(hE1.trans hE2).n;omega) E12 (Nat.le_refl _))
   simp -dsimp (disch:=omega) only[wpS,Nat.reduceEqDiff,f53,hap]
   refine⟨mm - 1,by omega,j+1,out',vs ++ [s],by omega,hE8,hA8,fun i hi=>?_,⟨by simp[f.f1],by simp[f.f5],by simp[f.f6]⟩,by simp,by simp[f8],by simp[f52],by simp⟩
   have hvl:vs.length=j:=by have:=hAc.2.1;omega
   by_cases hij:i<j
   ·obtain⟨s0,h1s,h2s⟩:=hvs i hij
    exact⟨s0,by rw[List.getElem?_append_left (by omega)];exact h1s,(h2s.keep (hE1.trans hE2).keep).keep hG8.keep⟩
   ·obtain rfl:i=j:=by omega
    exact⟨s,by rw[List.getElem?_append_right (by omega),hvl];simp,hs2.keep hG8.keep⟩
  ·obtain rfl:j=2:=by omega
   simp -dsimp (disch:=omega) only[wpS,wpT]
   refine⟨mg,⟨by simp[f.f1],by simp[f.f5],by simp[f.f6]⟩,out,A,2,3,by simp[f7],by simp[f8],⟨vs,by rw[q.L_len];exact hAc.sl,fun i p hp=>?_⟩,by omega,by omega,.inr ⟨rfl,hA⟩⟩
   have hi:i<2:=by
    have:=(List.getElem?_eq_some_iff.1 hp).1
    rw[q.L_len] at this;exact this
   rw[q.L_at hi] at hp
   cases hp
   exact hvs i hi
end Go.Id

/-! EnumerateOrder, on the ideal machine: the plans, and the law. -/
namespace Go.Id
open Go
noncomputable def OQ.D (q:OQ):List Nat:=distL q.F (2 ^ q.n)
structure OD (q:OQ) (hh:IH) (fr:Fr) (xs:Value):Prop where
 f:fget fr 13=some xs
 s:SlOf hh 1 xs q.D.length (q.D.map fun s=>K64 s)
theorem OD.ext {q:OQ} {hh h2:IH} {fr fr2:Fr} {xs:Value} (d:OD q hh fr xs) (e:Ext hh h2) (f:fget fr2 13=some xs):OD q h2 fr2 xs:=⟨f,d.s.keep e.keep⟩
theorem keep_putI {h:IH} {k:Nat} {a b:Nat} {c:List Nat} {d:Nat} (hk:h.ext.get k=some (.iter a b c d)) (o:IObj):Keep h (h.put k o):=⟨Nat.le_refl _,rfl,fun j c e f1 hj hg he=>by
 refine⟨f1,?_⟩
 rw[get_put,if_neg]
 ·exact hg
 ·rintro rfl;rw[hk] at hg;cases hg⟩
theorem OM.dlen {q:OQ} {hh:IH} (m:OM q hh):q.D.length≤4096:=by
 have h1:=distL_len q.F (2 ^ q.n)
 have h2:=m.small
 have h3:2 ^ q.n≤2 ^ 12:=Nat.pow_le_pow_right (by omega) h2.1
 unfold OQ.D;omega
theorem OM.inD {q:OQ} {hh:IH} (m:OM q hh) {i c:Nat} (hi:i<q.T) (hc:c∈csF 0 [] (q.P i)):c∈q.D:=by
 obtain⟨p1,p2,p3,p4,p5⟩:=m.plan hi
 have:=csF_lt (n:=q.n) (q.P i) 0 [] (by omega) (fun c hc=>by cases hc) c hc
 unfold OQ.D distL
 rw[List.mem_filter,List.mem_range]
 exact⟨this,p4 c hc⟩
set_option maxHeartbeats 4000000 in
theorem o5 {hh:IH} {fr:Fr} {Q:IExit→Fr→IH→Prop} {q:OQ} {x:Value} {base len:Nat} {e:Int} (m:OM q hh) (f:OF q fr) (l:OL q hh fr x base len e):Do (wpC Proofs.Tryd.prog 4 217 none (partO 5) fr hh) (seqK (fun fr h'=>Pst (OM q h'∧OF q fr∧OL q h' fr x base len e∧fget fr 14=some (KI 0) ∧ ∃xs,OD q h' fr xs) nx) Q) nx:=by
 show Do (wpC _ _ _ _ (.region _ _ _) fr hh) _ _
 simp -dsimp (disch:=omega) only[wpS,wpT,Nat.reduceEqDiff,Nat.reduceLeDiff,Nat.reduceAdd,ld32,ld35,f.f5,f.f6,m.r5,m.r6,List.drop_zero,otk2,otk4]
 refine call (districts_ok m.b m.a.sE m.a.sW m.a.hhi m.a.ok) ?_
 rintro _ h1 ⟨hE1,xs,rfl,hx⟩
 simp -dsimp (disch:=omega) only[wpS,Nat.reduceEqDiff]
 exact⟨m.ext hE1,⟨by simp[f.f1],by simp[f.f5],by simp[f.f6]⟩,l.ext hE1 (by simp[l.1]) (by simp[l.2.1]),by simp,xs,by simp,hx⟩
set_option maxHeartbeats 4000000 in
theorem o6 {hh:IH} {fr:Fr} {Q:IExit→Fr→IH→Prop} {q:OQ} {x xs:Value} {base len:Nat} {e:Int} (m:OM q hh) (f:OF q fr) (l:OL q hh fr x base len e) (f14:fget fr 14=some (KI 0)) (d:OD q hh fr xs):Do (wpC Proofs.Tryd.prog 4 217 none (partO 6) fr hh) (seqK (fun fr h'=>Pst (OM q h'∧OF q fr∧OL q h' fr x base len e∧OD q h' fr xs) nx) Q) nx:=by
 show Do (wpC _ _ _ _ (.seq _ _) fr hh) _ _
 have f8:=l.2.1
 have hf : ∀b:Nat,∀v:Value,True:=fun _ _=>trivial
 simp -dsimp (disch:=omega) only[wpS,wpT,Nat.reduceEqDiff,f14,d.f]
 refine call (issorted_ok d.s (rises_dist _ _) (by have:=m.dlen;omega)) ?_
 rintro _ h1 ⟨rfl,rfl⟩
 rcases l.2.2.2.2.2 with⟨rfl,_⟩|⟨rfl,_⟩
 ·simp -dsimp (disch:=omega) only[wpS,wpT,Nat.reduceEqDiff,f8]
  exact⟨m,⟨by simp[f.f1],by simp[f.f5],by simp[f.f6]⟩,l.ext (Ext.refl _) (by simp[l.1]) (by simp[f8]),by simp[d.f],d.s⟩
 ·simp -dsimp (disch:=omega) only[wpS,wpT,Nat.reduceEqDiff,f8]
  exact⟨m,⟨by simp[f.f1],by simp[f.f5],by simp[f.f6]⟩,l.ext (Ext.refl _) (by simp[l.1]) (by simp[f8]),by simp[d.f],d.s⟩
def cBlock:Code→Code
 | .block _ c=>c
 | c=>c
def cLoop:Code→Code
 | .loop c=>c
 | c=>c
def cL:Code→Code
 | .seq a _=>a
 | c=>c
def cR:Code→Code
 | .seq _ b=>b
 | c=>c
noncomputable def codeX:Code:=cBlock (cL (cR (cR (cLoop (cBlock (cR (partO 7)))))))
noncomputable def partX (i:Nat):Code:=nthP codeX i
noncomputable def lastX (_:Nat):Code:=cR (cR (cR (cR (cR codeX))))
structure OX (q:OQ) (hh:IH) (fr:Fr) (x xs s:Value) (base len i:Nat) (e:Int):Prop where
 m:OM q hh
 f:OF q fr
 f7:fget fr 7=some x
 f8:fget fr 8=some (KI e)
 f13:fget fr 13=some xs
 f15:fget fr 15=some (KN i)
 f16:fget fr 16=some s
 f98:fget fr 98=some x
 f99:fget fr 99=some (KN len)
 f100:fget fr 100=some (KN i)
 hp:PlansAt hh x (q.L base len)
 hi:i<len
 hT:base+len≤q.T
 l4:len≤400
 ss:SlOf hh 1 s (q.P (base+i)).length (i64s (q.P (base+i)))
 sx:SlOf hh 1 xs q.D.length (q.D.map fun s=>K64 s)
theorem OX.ln {q:OQ} {hh:IH} {fr:Fr} {x xs s:Value} {base len i:Nat} {e:Int} (X:OX q hh fr x xs s base len i e):lenB Proofs.Tryd.prog hh 44 s=some (KI q.n):=by
 have h:=X.ss.len sl44 (P:=Proofs.Tryd.prog) hh
 rw[(X.m.plan (i:=base+i) (by have:=X.hi;have:=X.hT;omega)).1] at h
 exact h
theorem i64s_map (p:List Nat):i64s p=(p.map fun(l:Nat)=>(l:Int)).map KI:=by simp[i64s,List.map_map,Function.comp_def]
set_option maxHeartbeats 4000000 in
theorem x0 {hh:IH} {fr:Fr} {Q:IExit→Fr→IH→Prop} {q:OQ} {x xs:Value} {base len i:Nat} {e:Int} (m:OM q hh) (f:OF q fr) (f7:fget fr 7=some x) (f8:fget fr 8=some (KI e)) (f13:fget fr 13=some xs) (f98:fget fr 98=some x) (f99:fget fr 99=some (KN len)) (f100:fget fr 100=some (KN i)) (hp:PlansAt hh x (q.L base len)) (hi:i<len) (hT:base+len≤q.T) (l4:len≤400) (sx:SlOf hh 1 xs q.D.length (q.D.map fun s=>K64 s)):Do (wpC Proofs.Tryd.prog 4 217 none (partX 0) fr hh) (seqK (fun fr h'=>Pst (h'=hh ∧ ∃s,OX q h' fr x xs s base len i e) nx) Q) nx:=by
 show Do (wpC _ _ _ _ (.region _ _ _) fr hh) _ _
 obtain⟨vs,sv,hvs⟩:=id hp
 rw[q.L_len] at sv
 obtain⟨s,hsv,hss⟩:=hvs i _ (q.L_at hi)
 have ix:=sv.idx (P:=Proofs.Tryd.prog) (t:=42) es42 (k:=.i64) (j:=i) (by omega)
 have ld:=sv.ld (Keep.refl hh) (P:=Proofs.Tryd.prog) (t:=44) (c:=i) (by have:=sv.2.1;omega) ag44
 rw[hsv] at ld
 rw[Nat.mul_one] at ix
 simp -dsimp (disch:=omega) only[wpS,Nat.reduceEqDiff,f98,f100,ix,ld]
 exact⟨rfl,s,m,⟨by simp[f.f1],by simp[f.f5],by simp[f.f6]⟩,by simp[f7],by simp[f8],by simp[f13],by simp,by simp,by simp[f98],by simp[f99],by simp[f100],hp,hi,hT,l4,hss,sx⟩
set_option maxHeartbeats 8000000 in
theorem x1 {hh:IH} {fr:Fr} {Q:IExit→Fr→IH→Prop} {q:OQ} {x xs s:Value} {base len i:Nat} {e:Int} (X:OX q hh fr x xs s base len i e):Do (wpC Proofs.Tryd.prog 4 217 none (partX 1) fr hh) (seqK (fun fr h'=>Pst (h'=hh∧OX q h' fr x xs s base len i e) nx) Q) nx:=by
 show Do (wpC _ _ _ _ (.seq _ _) fr hh) _ _
 have ln:=X.ln
 have nn:((q.n:Int) != (q.n:Int))=false:=by simp
 have r5:=X.m.r5
 have f5:=X.f.f5
 have f15:=X.f15
 have f16:=X.f16
 have f7:=X.f7
 rcases Nat.eq_zero_or_pos i with h0|h0
 ·have c0:decide ((i:Int) > 0)=false:=by simp<;>omega
  have c1:decide ((0:Int)<(i:Int))=false:=by simp<;>omega
  simp -dsimp (disch:=omega) only[wpS,wpT,Nat.reduceEqDiff,fa32_0,ld3,f5,f15,f16,r5,ln,nn,c0]
  exact⟨rfl,⟨X.m,⟨by simp[X.f.f1],by simp[X.f.f5],by simp[X.f.f6]⟩,by simp[X.f7],by simp[X.f8],by simp[X.f13],by simp[X.f15],by simp[X.f16],by simp[X.f98],by simp[X.f99],by simp[X.f100],X.hp,X.hi,X.hT,X.l4,X.ss,X.sx⟩⟩
 ·have hi:=X.hi
  have c1:decide ((0:Int)<(i:Int))=true:=by simp<;>omega
  have e1:(i:Int) - 1=((i - 1:Nat):Int):=by omega
  obtain⟨vs,sv,hvs⟩:=id X.hp
  rw[q.L_len] at sv
  obtain⟨s',hsv,hss⟩:=hvs (i - 1) _ (q.L_at (show i - 1<len by omega))
  have ix:=sv.idx (P:=Proofs.Tryd.prog) (t:=42) es42 (k:=.i64) (j:=i - 1) (by omega)
  have ld:=sv.ld (Keep.refl hh) (P:=Proofs.Tryd.prog) (t:=44) (c:=i - 1) (by have:=sv.2.1;omega) ag44
  rw[hsv] at ld
  rw[Nat.mul_one] at ix
  have hT:=X.hT
  have p1:=(X.m.plan (i:=base+i) (by omega)).1
  have p2:=(X.m.plan (i:=base+(i - 1)) (by omega)).1
  have sm:=X.m.small
  simp -dsimp (disch:=omega) only[wpS,wpT,Nat.reduceEqDiff,fa32_0,ld3,f5,f7,f15,f16,r5,ln,nn,c1,e1,ix,ld]
  have hss':=hss
  have hss2:=X.ss
  rw[i64s_map] at hss' hss2
  refine call (compareP_ok (a:=(q.P (base+(i - 1))).map fun(l:Nat)=>(l:Int)) (b:=(q.P (base+i)).map fun(l:Nat)=>(l:Int)) (by simpa using hss'.now) (by simpa using hss2.now) (by simp[p1,p2]) (by simp[p2];omega)) ?_
  rintro _ h1 ⟨rfl,rfl⟩
  have hlt:=plan_rises q.F (n:=q.n) (by omega) q.k q.n 0 [] (base+(i - 1)) (base+i) (by omega) (by omega) (show base+i<after q.F [] (2 ^ q.n - 2 ^ 0) q.k by rw[Nat.pow_zero];show base+i<q.T;omega)
  have hlt':cmpL ((q.P (base+(i - 1))).map fun(l:Nat)=>(l:Int)) ((q.P (base+i)).map fun(l:Nat)=>(l:Int)) = -1:=hlt
  rw[hlt']
  simp -dsimp (disch:=omega) only[wpS,wpT,Nat.reduceEqDiff]
  exact⟨rfl,⟨X.m,⟨by simp[X.f.f1],by simp[X.f.f5],by simp[X.f.f6]⟩,by simp[X.f7],by simp[X.f8],by simp[X.f13],by simp[X.f15],by simp[X.f16],by simp[X.f98],by simp[X.f99],by simp[X.f100],X.hp,X.hi,X.hT,X.l4,X.ss,X.sx⟩⟩
set_option maxHeartbeats 4000000 in
theorem x2 {hh:IH} {fr:Fr} {Q:IExit→Fr→IH→Prop} {q:OQ} {x xs s:Value} {base len i:Nat} {e:Int} (X:OX q hh fr x xs s base len i e):Do (wpC Proofs.Tryd.prog 4 217 none (partX 2) fr hh) (seqK (fun fr h'=>Pst (h'=hh∧OX q h' fr x xs s base len i e∧fget fr 17=some (KI 0)) nx) Q) nx:=by
 show Do (wpC _ _ _ _ (.region _ _ _) fr hh) _ _
 simp -dsimp (disch:=omega) only[wpS]
 exact⟨rfl,⟨X.m,⟨by simp[X.f.f1],by simp[X.f.f5],by simp[X.f.f6]⟩,by simp[X.f7],by simp[X.f8],by simp[X.f13],by simp[X.f15],by simp[X.f16],by simp[X.f98],by simp[X.f99],by simp[X.f100],X.hp,X.hi,X.hT,X.l4,X.ss,X.sx⟩,by simp⟩
set_option maxHeartbeats 8000000 in
theorem x3 {hh:IH} {fr:Fr} {Q:IExit→Fr→IH→Prop} {q:OQ} {x xs s:Value} {base len i:Nat} {e:Int} (X:OX q hh fr x xs s base len i e) (f17:fget fr 17=some (KI 0)):Do (wpC Proofs.Tryd.prog 4 217 none (partX 3) fr hh) (seqK (fun fr h'=>Pst (h'=hh∧OX q h' fr x xs s base len i e∧fget fr 17=some (KI q.k)) nx) Q) nx:=by
 show Do (wpC _ _ _ _ (.seq _ _) fr hh) _ _
 have hTi:base+i<q.T:=by have:=X.hi;have:=X.hT;omega
 obtain⟨p1,p2,p3,p4,p5⟩:=X.m.plan (i:=base+i) hTi
 have ln:=X.ln
 have f16:=X.f16
 have sm:=X.m.small
 simp -dsimp (disch:=omega) only[wpS,f16,ln]
 refine loop (fun mm fr g => ∃j:Nat,j+mm=q.n∧g=hh∧OX q g fr x xs s base len i e∧fget fr 17=some (KN (csF 0 [] ((q.P (base+i)).take j)).length)∧fget fr 124=some s∧fget fr 125=some (KI q.n)∧fget fr 126=some (KN j)) q.n
  ⟨0,by omega,rfl,⟨X.m,⟨by simp[X.f.f1],by simp[X.f.f5],by simp[X.f.f6]⟩,by simp[X.f7],by simp[X.f8],by simp[X.f13],by simp[X.f15],by simp[X.f16],by simp[X.f98],by simp[X.f99],by simp[X.f100],X.hp,X.hi,X.hT,X.l4,X.ss,X.sx⟩,by simp[f17,csF],by simp,by simp,by simp⟩ ?_
 clear X ln f16 f17
 rintro mm fr g ⟨j,hj,rfl,X,f17,f124,f125,f126⟩
 simp -dsimp (disch:=omega) only[wpS,f125,f126]
 refine bq_intro ?_ ?_<;>intro hc<;>simp only[decide_eq_true_eq,decide_eq_false_iff_not] at hc
 ·have hjn:j<(q.P (base+i)).length:=by rw[p1];omega
  obtain⟨l,hpl⟩ : ∃l,(q.P (base+i))[j]?=some l:=⟨_,List.getElem?_eq_getElem hjn⟩
  obtain⟨h1,h2⟩:=okL_at (q.P (base+i)) 0 [] p2 j l hpl
  have h3:=congrArg List.length h2
  rw[lab_len] at h3
  have hcl:=csF_len ((q.P (base+i)).take j) 0 []
  rw[List.length_take] at hcl
  simp only[List.length_nil,Nat.zero_add] at hcl
  have ix:=X.ss.idx (P:=Proofs.Tryd.prog) (t:=44) es44 (k:=.i64) (j:=j) hjn
  have ld:=X.ss.ld (Keep.refl g) (P:=Proofs.Tryd.prog) (t:=3) (c:=j) (by rw[i64s_len];exact hjn) ag3
  rw[show(i64s (q.P (base+i)))[j]?=some (KI (l:Int)) by rw[i64s,List.getElem?_map,hpl];rfl] at ld
  rw[Nat.mul_one] at ix
  generalize hS:(csF 0 [] ((q.P (base+i)).take j)).length=S at *
  have c0:decide ((l:Int)<0)=false:=by simp<;>omega
  have c1:decide ((S:Int)<(l:Int))=false:=by simp<;>omega
  by_cases hlS:l=S
  ·have c2:((l:Int) == (S:Int))=true:=by simp<;>omega
   simp -dsimp (disch:=omega) only[wpS,wpT,Nat.reduceEqDiff,f17,f124,f126,ix,ld,c0,c1,c2]
   refine⟨mm - 1,by omega,j+1,by omega,rfl,⟨X.m,⟨by simp[X.f.f1],by simp[X.f.f5],by simp[X.f.f6]⟩,by simp[X.f7],by simp[X.f8],by simp[X.f13],by simp[X.f15],by simp[X.f16],by simp[X.f98],by simp[X.f99],by simp[X.f100],X.hp,X.hi,X.hT,X.l4,X.ss,X.sx⟩,?_,by simp[f124],by simp[f125],by simp⟩
   rw[h3,if_pos (by omega)];simp[]
  ·have c2:((l:Int) == (S:Int))=false:=by simp<;>omega
   simp -dsimp (disch:=omega) only[wpS,wpT,Nat.reduceEqDiff,f17,f124,f126,ix,ld,c0,c1,c2]
   refine⟨mm - 1,by omega,j+1,by omega,rfl,⟨X.m,⟨by simp[X.f.f1],by simp[X.f.f5],by simp[X.f.f6]⟩,by simp[X.f7],by simp[X.f8],by simp[X.f13],by simp[X.f15],by simp[X.f16],by simp[X.f98],by simp[X.f99],by simp[X.f100],X.hp,X.hi,X.hT,X.l4,X.ss,X.sx⟩,?_,by simp[f124],by simp[f125],by simp⟩
   rw[h3,if_neg (by omega)];simp[f17]
 ·obtain rfl:j=q.n:=by omega
  simp -dsimp (disch:=omega) only[wpS,wpT]
  refine⟨rfl,⟨X.m,⟨by simp[X.f.f1],by simp[X.f.f5],by simp[X.f.f6]⟩,by simp[X.f7],by simp[X.f8],by simp[X.f13],by simp[X.f15],by simp[X.f16],by simp[X.f98],by simp[X.f99],by simp[X.f100],X.hp,X.hi,X.hT,X.l4,X.ss,X.sx⟩,?_⟩
  rw[List.take_of_length_le (by omega),p3] at f17
  simp[f17]
set_option maxHeartbeats 4000000 in
theorem x4 {hh:IH} {fr:Fr} {Q:IExit→Fr→IH→Prop} {q:OQ} {x xs s:Value} {base len i:Nat} {e:Int} (X:OX q hh fr x xs s base len i e) (f17:fget fr 17=some (KI q.k)):Do (wpC Proofs.Tryd.prog 4 217 none (partX 4) fr hh) (seqK (fun fr h'=>Pst (h'=hh∧OX q h' fr x xs s base len i e) nx) Q) nx:=by
 show Do (wpC _ _ _ _ (.seq _ _) fr hh) _ _
 have r6:=X.m.r6
 have f6:=X.f.f6
 have nn:((q.k:Int) != (q.k:Int))=false:=by simp
 simp -dsimp (disch:=omega) only[wpS,Nat.reduceEqDiff,ld3,fa35_3,f6,f17,r6,nn]
 exact⟨rfl,⟨X.m,⟨by simp[X.f.f1],by simp[X.f.f5],by simp[X.f.f6]⟩,by simp[X.f7],by simp[X.f8],by simp[X.f13],by simp[X.f15],by simp[X.f16],by simp[X.f98],by simp[X.f99],by simp[X.f100],X.hp,X.hi,X.hT,X.l4,X.ss,X.sx⟩⟩
end Go.Id

/-! EnumerateOrder, on the ideal machine: the districts of a plan; the law. -/
namespace Go.Id
open Go
theorem cutB {P:Program} {fn:FuncId} {nt:Nat} {rd:Option Nat} {a:Code} {fr:Fr} {h:IH} {K:IExit→Fr→IH→Prop} (R:Fr→IH→Prop)
  (w:Do (wpC P fn nt rd a fr h) (seqK (fun fr h=>Pst (R fr h) nx) K) nx) (k : ∀fr h,R fr h→K .normal fr h):Do (wpC P fn nt rd a fr h) K nx :=
 wpC_mono (fun e fr h w=>by cases e<;>first|exact k _ _ w|exact w) w
theorem mapOf_even {h:IH} {k:Nat} {es:MapL} (hg:h.ext.get k=some (.map es)):mapOf h (2*k)=some es:=by
 have h1:(2*k % 2 == 1)=false:=by simp
 have h2:2*k / 2=k:=by omega
 simp[mapOf,h2,hg]
set_option maxHeartbeats 8000000 in
theorem x5 {hh:IH} {fr:Fr} {Q:IExit→Fr→IH→Prop} {q:OQ} {x xs s:Value} {base len i:Nat} {e:Int} (X:OX q hh fr x xs s base len i e):Do (wpC Proofs.Tryd.prog 4 217 none (lastX 0) fr hh) (seqK (fun fr h'=>Pst (Ext hh h'∧OX q h' fr x xs s base len i e) nx) Q) nx:=by
 show Do (wpC _ _ _ _ (.seq _ _) fr hh) _ _
 have hTi:base+i<q.T:=by have:=X.hi;have:=X.hT;omega
 obtain⟨p1,p2,p3,p4,p5⟩:=X.m.plan (i:=base+i) hTi
 have sm:=X.m.small
 have f16:=X.f16
 simp -dsimp (disch:=omega) only[wpS,f16]
 refine call (mdist_ok X.ss p2 (by omega)) ?_
 rintro _ h1 ⟨E1,rfl,n1,gm⟩
 obtain⟨es,hes⟩ : ∃es,es=csM 0 (csF 0 [] (q.P (base+i))):=⟨_,rfl⟩
 rw[←hes] at gm
 have hu:=u45
 have hk1:=mapOf_even gm
 have hrv:=rangeV_eq (P:=Proofs.Tryd.prog) (t:=45) hu hk1
 simp -dsimp (disch:=omega) only[wpS,Nat.reduceEqDiff,d_range,hrv]
 obtain⟨h2,hh2⟩ : ∃H,H=h1.new (.iter (2*hh.n) es.length [] es.length):=⟨_,rfl⟩
 have E2:Ext h1 h2:=by rw[hh2];exact(Ext.refl h1).new _
 have gi:h2.ext.get h1.n=some (.iter (2*hh.n) es.length [] es.length):=by rw[hh2];simp (disch:=first|omega|(simp only[new_n,put_n];omega)|(repeat first|rw[new_n]|rw[put_n])) only[get_new_same]
 have n2:h2.n=h1.n+1:=by rw[hh2];rfl
 have gm2:h2.ext.get hh.n=some (.map es):=(E2.get _ n1).trans gm
 rw[←hh2]
 clear hh2
 have hk2:=mapOf_even gm2
 have hcells : ∀(j:Nat) (y:Value×Value),es[j]?=some y → ∃c,y=(KN j,K64 c)∧c∈q.D:=by
  intro j y hy
  rw[hes,csM_at] at hy
  obtain⟨c,hc1,hc2⟩:=Option.map_eq_some_iff.1 hy
  rw[Nat.zero_add] at hc2
  exact⟨c,hc2.symm,X.m.inD hTi (List.mem_of_getElem? hc1)⟩
 refine mapLoopA (fun fr=>fget fr 149=some (ptr (2*h1.n) 0)∧OX q hh fr x xs s base len i e) (.exit 6) gi hk2 ⟨by simp,⟨X.m,⟨by simp[X.f.f1],by simp[X.f.f5],by simp[X.f.f6]⟩,by simp[X.f7],by simp[X.f8],by simp[X.f13],by simp[X.f15],by simp[X.f16],by simp[X.f98],by simp[X.f99],by simp[X.f100],X.hp,X.hi,X.hT,X.l4,X.ss,X.sx⟩⟩ (fun fr h=>h.1) ?_ ?_ ?_
 ·intro j y fr sq hy ⟨f149,X⟩
  obtain⟨c,rfl,hcD⟩:=hcells j y hy
  have gA:(atS h2 h1.n (2*hh.n) es (sq ++ [j])).ext.get h1.n=some (.iter (2*hh.n) es.length (sq ++ [j]) es.length):=by rw[atS_get,if_pos rfl]
  have kA:Keep h2 (atS h2 h1.n (2*hh.n) es (sq ++ [j])):=keep_putI gi _
  have hkA:mapOf (atS h2 h1.n (2*hh.n) es (sq ++ [j])) (2*hh.n)=some es:=mapOf_even (by rw[atS_get,if_neg (by omega)];exact gm2)
  have hen:=entryV_eq gA hkA hy
  have f13:=X.f13
  simp -dsimp (disch:=omega) only[wpS,Nat.reduceEqDiff,d_entry,f149,hen,f13]
  refine call (bsearch_ok (((X.sx.keep E1.keep).keep E2.keep).keep kA) (rises_dist _ _) (by have:=X.m.dlen;omega) c) ?_
  rintro _ h3 ⟨rfl,idx,rfl⟩
  rw[decide_eq_true hcD]
  simp -dsimp (disch:=omega) only[wpS,wpT,Nat.reduceEqDiff,roundK_normal]
  exact⟨by simp[f149],⟨X.m,⟨by simp[X.f.f1],by simp[X.f.f5],by simp[X.f.f6]⟩,by simp[X.f7],by simp[X.f8],by simp[X.f13],by simp[X.f15],by simp[X.f16],by simp[X.f98],by simp[X.f99],by simp[X.f100],X.hp,X.hi,X.hT,X.l4,X.ss,X.sx⟩⟩
 ·intro fr sq ⟨f149,X⟩
  simp -dsimp (disch:=omega) only[wpS,wpT,Nat.reduceEqDiff,overK_eq]
  exact⟨by simp[f149],⟨X.m,⟨by simp[X.f.f1],by simp[X.f.f5],by simp[X.f.f6]⟩,by simp[X.f7],by simp[X.f8],by simp[X.f13],by simp[X.f15],by simp[X.f16],by simp[X.f98],by simp[X.f99],by simp[X.f100],X.hp,X.hi,X.hT,X.l4,X.ss,X.sx⟩⟩
 ·intro G hG
  have gg : ∀t v,t<217→(∀fr,(fget fr 149=some (ptr (2*h1.n) 0)∧OX q hh fr x xs s base len i e)→fget fr t=some v)→fget G t=some v:=hG
  have E3:Ext hh (h2.put h1.n .dead):=(E1.trans E2).put E1.n _
  show blockK 6 _ (.exit 6) G (h2.put h1.n .dead)
  rw[blockK_same,seqK_normal]
  refine⟨E3,X.m.ext E3,⟨gg 1 _ (by omega) fun fr h=>h.2.f.f1,gg 5 _ (by omega) fun fr h=>h.2.f.f5,gg 6 _ (by omega) fun fr h=>h.2.f.f6⟩,gg 7 _ (by omega) fun fr h=>h.2.f7,gg 8 _ (by omega) fun fr h=>h.2.f8,gg 13 _ (by omega) fun fr h=>h.2.f13,gg 15 _ (by omega) fun fr h=>h.2.f15,gg 16 _ (by omega) fun fr h=>h.2.f16,gg 98 _ (by omega) fun fr h=>h.2.f98,gg 99 _ (by omega) fun fr h=>h.2.f99,gg 100 _ (by omega) fun fr h=>h.2.f100,X.hp.keep E3.keep,X.hi,X.hT,X.l4,X.ss.keep E3.keep,X.sx.keep E3.keep⟩
set_option maxHeartbeats 8000000 in
theorem o7 {hh:IH} {fr:Fr} {Q:IExit→Fr→IH→Prop} {q:OQ} {x xs:Value} {base len:Nat} {e:Int} (m:OM q hh) (f:OF q fr) (l:OL q hh fr x base len e) (d:OD q hh fr xs):Do (wpC Proofs.Tryd.prog 4 217 none (partO 7) fr hh) (seqK (fun fr h'=>Pst (OM q h'∧OF q fr∧OL q h' fr x base len e∧OD q h' fr xs) nx) Q) nx:=by
 show Do (wpC _ _ _ _ (.seq _ _) fr hh) _ _
 obtain⟨vs,sv,hvs⟩:=id l.2.2.1
 have f7:=l.1
 have f8:=l.2.1
 have f13:=d.f
 have hbl:=l.2.2.2.1
 have hl4:=l.2.2.2.2.1
 rw[q.L_len] at sv
 simp -dsimp (disch:=omega) only[wpS,f7,sv.len sl42]
 refine loop (fun mm fr g => ∃i:Nat,i+mm=len∧Ext hh g∧OF q fr∧fget fr 7=some x∧fget fr 8=some (KI e)∧fget fr 13=some xs∧fget fr 98=some x∧fget fr 99=some (KN len)∧fget fr 100=some (KN i)) len
  ⟨0,by omega,Ext.refl _,⟨by simp[f.f1],by simp[f.f5],by simp[f.f6]⟩,by simp[f7],by simp[f8],by simp[f13],by simp,by simp,by simp⟩ ?_
 rintro mm fr g ⟨i,hi,E,f,f7,f8,f13,f98,f99,f100⟩
 have mg:=m.ext E
 simp -dsimp (disch:=omega) only[wpS,f99,f100]
 refine bq_intro ?_ ?_<;>intro hc<;>simp only[decide_eq_true_eq,decide_eq_false_iff_not] at hc
 ·have hil:i<len:=by omega
  rw[d_skip,seqK_normal,d_seq,d_block,d_seq]
  refine cut _ (x0 (q:=q) (base:=base) (i:=i) (e:=e) mg ⟨by simp[f.f1],by simp[f.f5],by simp[f.f6]⟩ (by simp[f7]) (by simp[f8]) (by simp[f13]) (by simp[f98]) (by simp[f99]) (by simp[f100]) (l.2.2.1.keep E.keep) hil hbl hl4 (d.s.keep E.keep)) ?_
  clear f f7 f8 f13 f98 f99 f100
  rintro fr _ ⟨rfl,s,X⟩
  rw[d_seq];refine cut _ (x1 X) ?_;clear X;rintro fr _ ⟨rfl,X⟩
  rw[d_seq];refine cut _ (x2 X) ?_;clear X;rintro fr _ ⟨rfl,X,f17⟩
  rw[d_seq];refine cut _ (x3 X f17) ?_;clear X f17;rintro fr _ ⟨rfl,X,f17⟩
  rw[d_seq];refine cut _ (x4 X f17) ?_;clear X f17;rintro fr _ ⟨rfl,X⟩
  refine cutB _ (x5 X) ?_
  clear X mg
  rintro fr g2 ⟨E2,X⟩
  have f100:=X.f100
  simp -dsimp (disch:=omega) only[wpS,f100]
  exact⟨mm - 1,by omega,i+1,by omega,E.trans E2,⟨by simp[X.f.f1],by simp[X.f.f5],by simp[X.f.f6]⟩,by simp[X.f7],by simp[X.f8],by simp[X.f13],by simp[X.f98],by simp[X.f99],by simp⟩
 ·obtain rfl:i=len:=by omega
  simp -dsimp (disch:=omega) only[wpS,wpT]
  exact⟨mg,⟨by simp[f.f1],by simp[f.f5],by simp[f.f6]⟩,l.ext E (by simp[f7]) (by simp[f8]),by simp[f13],d.s.keep E.keep⟩
end Go.Id

/-! The statement EnumerateOrder, on the ideal machine. -/
namespace Go.Id
open Go
set_option maxHeartbeats 4000000 in
theorem o8 {hh : IH} {fr : Fr} {Q : IExit → Fr → IH → Prop} {q : OQ} {x : Value} {base len : Nat} {e : Int} (m : OM q hh) (f : OF q fr) (l : OL q hh fr x base len e) (hret : ∀ fr h, fget fr 4 = some (.bool true) → Q .ret fr h) : Do (wpC Proofs.Tryd.prog 4 217 none (partO 8) fr hh) (seqK (fun fr h' => Pst (h' = hh ∧ OF q fr ∧ OL q h' fr x base len e ∧ 0 < len) nx) Q) nx := by
  show Do (wpC _ _ _ _ (.seq _ _) fr hh) _ _
  obtain ⟨vs, sv, hvs⟩ := id l.2.2.1
  have f7 := l.1
  rw [q.L_len] at sv
  rcases Nat.eq_zero_or_pos len with h0 | h0
  · have c0 : ((len : Int) == 0) = true := by simp <;> omega
    simp -dsimp (disch := omega) only [wpS, Nat.reduceEqDiff, f7, sv.len sl42, c0]
    exact hret _ _ (by simp)
  · have c0 : ((len : Int) == 0) = false := by simp <;> omega
    simp -dsimp (disch := omega) only [wpS, Nat.reduceEqDiff, f7, sv.len sl42, c0]
    exact ⟨rfl, ⟨by simp [f.f1], by simp [f.f5], by simp [f.f6]⟩, l.ext (Ext.refl _) (by simp [l.1]) (by simp [l.2.1]), h0⟩
set_option maxHeartbeats 4000000 in
theorem o9 {hh : IH} {fr : Fr} {Q : IExit → Fr → IH → Prop} {q : OQ} {x : Value} {base len : Nat} {e : Int} (m : OM q hh) (f : OF q fr) (l : OL q hh fr x base len e) (h0 : 0 < len) : Do (wpC Proofs.Tryd.prog 4 217 none (partO 9) fr hh) (seqK (fun fr h' => Pst (h' = hh ∧ OF q fr ∧ OL q h' fr x base len e ∧ fget fr 24 = some (KN (q.at_ % len))) nx) Q) nx := by
  show Do (wpC _ _ _ _ (.region _ _ _) fr hh) _ _
  obtain ⟨vs, sv, hvs⟩ := id l.2.2.1
  have f7 := l.1
  have f1 := f.f1
  have hlt := m.lt
  rw [q.L_len] at sv
  have hrem : ∀ ox oy, binop Proofs.Tryd.prog .rem 3 ox oy (KI (q.at_ : Int)) (KI (len : Int)) = some (KN (q.at_ % len)) := fun ox oy => by
    rw [binop_rem _ _ _ _ (by omega), Int.tmod_eq_emod_of_nonneg (by omega)]
    congr 2
  simp -dsimp (disch := omega) only [wpS, Nat.reduceEqDiff, cv22_3, f1, f7, sv.len sl42, hrem]
  exact ⟨rfl, ⟨by simp [f.f1], by simp [f.f5], by simp [f.f6]⟩, l.ext (Ext.refl _) (by simp [l.1]) (by simp [l.2.1]), by simp⟩
set_option maxHeartbeats 4000000 in
theorem o10 {hh : IH} {fr : Fr} {Q : IExit → Fr → IH → Prop} {q : OQ} {x : Value} {base len : Nat} {e : Int} (m : OM q hh) (f : OF q fr) (l : OL q hh fr x base len e) {kk : Nat} (hk : kk < 65536) (f24 : fget fr 24 = some (KN kk)) : Do (wpC Proofs.Tryd.prog 4 217 none (partO 10) fr hh) (seqK (fun fr h' => Pst (Ext hh h' ∧ OF q fr ∧ OL q h' fr x base len e ∧ fget fr 24 = some (KN kk) ∧ ∃ b, b < h'.n ∧ hh.n ≤ b ∧ fget fr 25 = some (ptr (2 * b) 0) ∧ h'.ext.get b = some (.cells (wdC kk) 0 none)) nx) Q) nx := by
  show Do (wpC _ _ _ _ (.region _ _ _) fr hh) _ _
  simp -dsimp (disch := omega) only [wpS, f24]
  refine call (refOf_ok (kk : Int) ⟨by omega, by omega⟩) ?_
  rintro _ h1 ⟨E1, rfl⟩
  rw [wideK]
  have hspl : ∀ n, IH.splice [.int .u64 0, .int .u64 0, .int .u64 0, .int .u64 0, .int .u64 0, .int .u64 0, .int .u64 0, .int .u64 0] 0 (wdC n) = wdC n := fun n => splice_all (by rw [wdC_len]; rfl)
  simp -dsimp (disch := omega) only [wpS, wpT, Nat.reduceEqDiff, Nat.reduceLeDiff, Nat.reduceAdd, zc58, st58, wdV_form, wdC_len, wdC_all, hspl]
  have E2 := (E1.new (.cells [.int .u64 0, .int .u64 0, .int .u64 0, .int .u64 0, .int .u64 0, .int .u64 0, .int .u64 0, .int .u64 0] 0 none)).put E1.n (.cells (wdC kk) 0 none)
  refine ⟨E2, ⟨by simp [f.f1], by simp [f.f5], by simp [f.f6]⟩, l.ext E2 (by simp [l.1]) (by simp [l.2.1]), by simp [f24], h1.n, by simp, E1.n, by simp, by simp (disch := first | omega | (simp only [new_n, put_n]; omega) | (repeat first | rw [new_n] | rw [put_n])) only [get_put_same]⟩
set_option maxHeartbeats 4000000 in
theorem o11 {hh : IH} {fr : Fr} {Q : IExit → Fr → IH → Prop} {q : OQ} {x : Value} {base len : Nat} {e : Int} (m : OM q hh) (f : OF q fr) (l : OL q hh fr x base len e) {kk b : Nat} (hk : kk < len) (f24 : fget fr 24 = some (KN kk)) (hb : b < hh.n) (hb6 : q.b6 < b) (f25 : fget fr 25 = some (ptr (2 * b) 0)) (gb : hh.ext.get b = some (.cells (wdC kk) 0 none)) : Do (wpC Proofs.Tryd.prog 4 217 none (partO 11) fr hh) (seqK (fun fr h' => Pst (OM q h' ∧ OF q fr ∧ OL q h' fr x base len e ∧ fget fr 24 = some (KN kk) ∧ fget fr 25 = some (ptr (2 * b) 0) ∧ b < h'.n ∧ h'.ext.get b = some (.cells (wdC (base + kk)) 0 none)) nx) Q) nx := by
  show Do (wpC _ _ _ _ (.seq _ _) fr hh) _ _
  have f8 := l.2.1
  have hl4 := l.2.2.2.2.1
  have hlt := m.lt
  rcases l.2.2.2.2.2 with ⟨rfl, rfl⟩ | ⟨rfl, hbase⟩
  · simp -dsimp (disch := omega) only [wpS, wpT, Nat.reduceEqDiff, f8]
    exact ⟨m, ⟨by simp [f.f1], by simp [f.f5], by simp [f.f6]⟩, l.ext (Ext.refl _) (by simp [l.1]) (by simp [l.2.1]), by simp [f24], by simp [f25], hb, by rw [Nat.zero_add]; exact gb⟩
  · have f1 := f.f1
    have hb4 : base < 400 := by omega
    have hrem : ∀ ox oy, binop Proofs.Tryd.prog .rem 3 ox oy (KI (q.at_ : Int)) (.int .i64 400) = some (KN base) := fun ox oy => by
      rw [binop_rem _ _ _ _ (by decide), Int.tmod_eq_emod_of_nonneg (by omega), hbase]
      congr 2
    have hadd : (base : Int) + (kk : Int) = ((base + kk : Nat) : Int) := by omega
    simp -dsimp (disch := omega) only [wpS, wpT, Nat.reduceEqDiff, cv22_3, f8, f1, f24, hrem]
    refine call (refOf_ok ((base : Int) + (kk : Int)) ⟨by omega, by omega⟩) ?_
    rintro _ h1 ⟨E1, rfl⟩
    rw [hadd, wideK]
    have hspl : ∀ n a, IH.splice (wdC a) 0 (wdC n) = wdC n := fun n a => splice_all (by rw [wdC_len, wdC_len])
    have g1 := E1.kept hb gb
    have hb1 : b < h1.n := Nat.lt_of_lt_of_le hb E1.n
    simp -dsimp (disch := omega) only [wpS, wpT, Nat.reduceEqDiff, Nat.reduceLeDiff, st58, f25, g1, wdV_form, wdC_len, wdC_all, hspl]
    have k2 := (Keep.refl h1).put g1 (.cells (wdC (base + kk)) 0 none)
    have m1 := m.ext E1
    have l5 := m1.l5
    have l6 := m1.l6
    refine ⟨⟨m1.b, m1.a.keep k2, by rw [get_put_old _ _ (by omega)]; exact m1.g5, by rw [get_put_old _ _ (by omega)]; exact m1.g6, m1.l5, m1.l6, m1.lt⟩, ⟨by simp [f.f1], by simp [f.f5], by simp [f.f6]⟩, ⟨by simp [l.1], by simp [f8], (l.2.2.1.keep E1.keep).keep k2, l.2.2.2.1, hl4, .inr ⟨rfl, hbase⟩⟩, by simp [f24], by simp [f25], hb1, by simp (disch := first | omega | (simp only [new_n, put_n]; omega) | (repeat first | rw [new_n] | rw [put_n])) only [get_put_same]⟩
set_option maxHeartbeats 4000000 in
theorem o12 {hh : IH} {fr : Fr} {Q : IExit → Fr → IH → Prop} {q : OQ} {x : Value} {base len : Nat} {e : Int} (m : OM q hh) (f : OF q fr) (l : OL q hh fr x base len e) {kk b : Nat} (hk : kk < len) (f24 : fget fr 24 = some (KN kk)) (f25 : fget fr 25 = some (ptr (2 * b) 0)) (hb : b < hh.n) (gb : hh.ext.get b = some (.cells (wdC (base + kk)) 0 none)) : Do (wpC Proofs.Tryd.prog 4 217 none (partO 12) fr hh) (seqK (fun fr h' => Pst (OM q h' ∧ OF q fr ∧ OL q h' fr x base len e ∧ fget fr 24 = some (KN kk) ∧ fget fr 25 = some (ptr (2 * b) 0) ∧ b < h'.n ∧ h'.ext.get b = some (.cells (wdC (base + kk)) 0 none) ∧ fget fr 27 = some (KI 0) ∧ ∃ s, fget fr 26 = some s ∧ SlOf h' 1 s (q.P (base + kk)).length (i64s (q.P (base + kk)))) nx) Q) nx := by
  show Do (wpC _ _ _ _ (.region _ _ _) fr hh) _ _
  have rb : hh.row (2 * b) = some (wdC (base + kk)) := by rw [row_even]; simp only [IH.cells, gb]
  simp -dsimp (disch := omega) only [wpS, wpT, Nat.reduceEqDiff, Nat.reduceLeDiff, Nat.reduceAdd, ld32, ld35, ld58, f.f5, f.f6, f25, m.r5, m.r6, rb, List.drop_zero, otk2, otk4, wdC_len]
  have hv : (.agg (wdC (base + kk)).toArray : Value) = wideV ((base + kk : Nat) : Int) := by rw [wideK]; rfl
  have hbl := l.2.2.2.1
  try rw [hv]
  refine call (m.kth (i := base + kk) (by omega)) ?_
  rintro _ h1 ⟨E1, s, rfl, hs⟩
  simp -dsimp (disch := omega) only [wpS, Nat.reduceEqDiff]
  exact ⟨m.ext E1, ⟨by simp [f.f1], by simp [f.f5], by simp [f.f6]⟩, l.ext E1 (by simp [l.1]) (by simp [l.2.1]), by simp [f24], by simp [f25], Nat.lt_of_lt_of_le hb E1.n, E1.kept hb gb, by simp, s, by simp, hs⟩
set_option maxHeartbeats 4000000 in
theorem o13 {hh : IH} {fr : Fr} {Q : IExit → Fr → IH → Prop} {q : OQ} {x : Value} {base len : Nat} {e : Int} (m : OM q hh) (f : OF q fr) (l : OL q hh fr x base len e) {kk b : Nat} {s : Value} (hk : kk < len) (f24 : fget fr 24 = some (KN kk)) (f25 : fget fr 25 = some (ptr (2 * b) 0)) (hb : b < hh.n) (gb : hh.ext.get b = some (.cells (wdC (base + kk)) 0 none)) (f27 : fget fr 27 = some (KI 0)) (f26 : fget fr 26 = some s) (hs : SlOf hh 1 s (q.P (base + kk)).length (i64s (q.P (base + kk)))) : Do (wpC Proofs.Tryd.prog 4 217 none (partO 13) fr hh) (seqK (fun fr h' => Pst (OM q h' ∧ OL q h' fr x base len e ∧ fget fr 24 = some (KN kk) ∧ fget fr 25 = some (ptr (2 * b) 0) ∧ b < h'.n ∧ h'.ext.get b = some (.cells (wdC (base + kk)) 0 none) ∧ fget fr 27 = some (KI 0) ∧ fget fr 26 = some s ∧ SlOf h' 1 s (q.P (base + kk)).length (i64s (q.P (base + kk))) ∧ fget fr 29 = some (KI 0) ∧ ∃ c, c < h'.n ∧ fget fr 28 = some (ptr (2 * c) 0) ∧ h'.ext.get c = some (.cells (wdC (base + kk)) 0 none)) nx) Q) nx := by
  show Do (wpC _ _ _ _ (.region _ _ _) fr hh) _ _
  obtain ⟨vs, sv, hvs⟩ := id l.2.2.1
  have f7 := l.1
  have hbl := l.2.2.2.1
  rw [q.L_len] at sv
  obtain ⟨s', hsv, hss⟩ := hvs kk _ (q.L_at hk)
  have ix := sv.idx (P := Proofs.Tryd.prog) (t := 42) es42 (k := .i64) (j := kk) (by omega)
  have ld := sv.ld (Keep.refl hh) (P := Proofs.Tryd.prog) (t := 44) (c := kk) (by have := sv.2.1; omega) ag44
  rw [hsv] at ld
  rw [Nat.mul_one] at ix
  obtain ⟨p1, p2, p3, p4, p5⟩ := m.plan (i := base + kk) (by omega)
  simp -dsimp (maxSteps := 1000000) (disch := first | omega | (simp only [new_n, put_n]; omega) | decide +kernel | (repeat first | rw [new_n] | rw [put_n])) only [wpS, wpT, Nat.reduceEqDiff, Nat.reduceLeDiff, Nat.reduceAdd, ld32, ld35, f.f5, f.f6, f7, f24, m.r5, m.r6, List.drop_zero, otk2, otk4, ix, ld]
  have hss2 := hss
  rw [i64s_map] at hss2
  refine call (index_ok m.b m.a (p := (q.P (base + kk)).map fun (l : Nat) => (l : Int)) (by simpa using hss2)) ?_
  rintro _ h1 ⟨E1, rfl⟩
  rw [show fitsB q.E q.ws q.lo q.hi = q.F from rfl, p5, wideK]
  have hspl : ∀ n, IH.splice [.int .u64 0, .int .u64 0, .int .u64 0, .int .u64 0, .int .u64 0, .int .u64 0, .int .u64 0, .int .u64 0] 0 (wdC n) = wdC n := fun n => splice_all (by rw [wdC_len]; rfl)
  simp -dsimp (maxSteps := 1000000) (disch := first | omega | (simp only [new_n, put_n]; omega) | decide +kernel | (repeat first | rw [new_n] | rw [put_n])) only [wpS, wpT, Nat.reduceEqDiff, Nat.reduceLeDiff, Nat.reduceAdd, zc58, st58, wdV_form, wdC_len, wdC_all, hspl]
  have E2 := (E1.new (.cells [.int .u64 0, .int .u64 0, .int .u64 0, .int .u64 0, .int .u64 0, .int .u64 0, .int .u64 0, .int .u64 0] 0 none)).put E1.n (.cells (wdC (base + kk)) 0 none)
  exact ⟨m.ext E2, l.ext E2 (by simp [l.1]) (by simp [l.2.1]), by simp [f24], by simp [f25], Nat.lt_of_lt_of_le hb E2.n, E2.kept hb gb, by simp [f27], by simp [f26], hs.keep E2.keep, by simp, h1.n, by simp, by simp, by simp (disch := first | omega | (simp only [new_n, put_n]; omega) | (repeat first | rw [new_n] | rw [put_n])) only [get_put_same]⟩
set_option maxHeartbeats 4000000 in
theorem o14 {hh : IH} {fr : Fr} {Q : IExit → Fr → IH → Prop} {q : OQ} {x : Value} {base len : Nat} {e : Int} (m : OM q hh) (l : OL q hh fr x base len e) {kk b c : Nat} {s : Value} (hk : kk < len) (f24 : fget fr 24 = some (KN kk)) (f25 : fget fr 25 = some (ptr (2 * b) 0)) (gb : hh.ext.get b = some (.cells (wdC (base + kk)) 0 none)) (f27 : fget fr 27 = some (KI 0)) (f26 : fget fr 26 = some s) (hs : SlOf hh 1 s (q.P (base + kk)).length (i64s (q.P (base + kk)))) (f29 : fget fr 29 = some (KI 0)) (f28 : fget fr 28 = some (ptr (2 * c) 0)) (gc : hh.ext.get c = some (.cells (wdC (base + kk)) 0 none)) : Do (wpC Proofs.Tryd.prog 4 217 none (partO 14) fr hh) (seqK (fun fr h' => Pst (fget fr 4 = some (.bool true)) nx) Q) nx := by
  show Do (wpC _ _ _ _ (.region _ _ _) fr hh) _ _
  obtain ⟨vs, sv, hvs⟩ := id l.2.2.1
  have f7 := l.1
  have hbl := l.2.2.2.1
  have hl4 := l.2.2.2.2.1
  have sm := m.small
  rw [q.L_len] at sv
  obtain ⟨s', hsv, hss⟩ := hvs kk _ (q.L_at hk)
  have ix := sv.idx (P := Proofs.Tryd.prog) (t := 42) es42 (k := .i64) (j := kk) (by omega)
  have ld := sv.ld (Keep.refl hh) (P := Proofs.Tryd.prog) (t := 44) (c := kk) (by have := sv.2.1; omega) ag44
  rw [hsv] at ld
  rw [Nat.mul_one] at ix
  have rb : hh.row (2 * b) = some (wdC (base + kk)) := by rw [row_even]; simp only [IH.cells, gb]
  have rc : hh.row (2 * c) = some (wdC (base + kk)) := by rw [row_even]; simp only [IH.cells, gc]
  have p1 := (m.plan (i := base + kk) (by omega)).1
  simp -dsimp (disch := omega) only [wpS, wpT, Nat.reduceEqDiff, f7, f24, f26, f27, f29, ix, ld]
  have hss2 := hss
  have hs2 := hs
  rw [i64s_map] at hss2 hs2
  refine call (equalP_ok (a := (q.P (base + kk)).map fun (l : Nat) => (l : Int)) (b := (q.P (base + kk)).map fun (l : Nat) => (l : Int)) (by simpa using hs2.now) (by simpa using hss2.now) (by simp [p1]; omega) (fun x _ y _ o1 o2 => neqI x y _ _ o1 o2)) ?_
  rintro _ h1 ⟨rfl, rfl⟩
  rw [decide_eq_true rfl]
  have hw : base + kk < W8 := by have : 68719476736 < W8 := by decide +kernel
                                 omega
  have heq : ∀ ox oy, binop Proofs.Tryd.prog .eql 58 ox oy (.agg (wdC (base + kk)).toArray) (.agg (wdC (base + kk)).toArray) = some (.bool true) := fun ox oy => (wd_eql hw hw ox oy).trans (by simp)
  simp -dsimp (disch := omega) only [wpS, wpT, Nat.reduceEqDiff, Nat.reduceLeDiff, ld58, f25, f28, rb, rc, wdC_len, wd_take, heq]
  exact rfl
theorem order_ideal {h : IH} (hB : BaseT h) {x : Value} (hx : DraftAt h x) {n : Nat} (hn : n < 65536) : WV Proofs.Tryd.prog (.func (.func 4) #[] #[]) [x, K16 n] h fun r h' => r = .bool true := by
  refine enter (nt := 217) (rs := [.tmp 4]) Proofs.Tryd.func4 rfl rfl rfl (by simp) ?_
  rw [d_seq]; refine cut _ (o0 (x := x) (n := n) (by simp) (by simp) hx.cells) ?_; rintro fr h0 ⟨⟨cs, rfl, hcl, rfl⟩, f1, f2⟩
  have E0 : Ext h (h.new (.cells cs 0 none)) := (Ext.refl h).new _
  have g0 : (h.new (.cells cs 0 none)).ext.get h.n = some (.cells cs 0 none) := by simp (disch := first | omega | (simp only [new_n, put_n]; omega) | (repeat first | rw [new_n] | rw [put_n])) only [get_new_same]
  rw [d_seq]; refine cut _ (o1 (hB.ext E0) f1 f2) ?_; clear f1 f2; rintro fr h1 ⟨E1, f1, f2⟩
  rw [d_seq]; refine cut _ (o2 ((hB.ext E0).ext E1) ((hx.ext E0).ext E1) hcl hn (Nat.lt_of_lt_of_le (by simp) E1.n) (E1.kept (by simp) g0) f1 f2) ?_; clear f1 f2; rintro fr h2 ⟨E2, q, m, f, _, _⟩
  rw [d_seq]; refine cut _ (o3 m f) ?_; clear m f; rintro fr h3 ⟨m, f, hx3⟩
  rw [d_seq]; refine cut _ (o4 m f hx3) ?_; clear m f hx3; rintro fr h4 ⟨m, f, x4, base, len, e, l⟩
  rw [d_seq]; refine cut _ (o5 m f l) ?_; clear m f l; rintro fr h5 ⟨m, f, l, f14, xs, d⟩
  rw [d_seq]; refine cut _ (o6 m f l f14 d) ?_; clear m f l f14 d; rintro fr h6 ⟨m, f, l, d⟩
  rw [d_seq]; refine cut _ (o7 m f l d) ?_; clear m f l d; rintro fr h7 ⟨m, f, l, d⟩
  rw [d_seq]; refine cut _ (o8 m f l ?_) ?_
  · intro fr hh f4
    simp -dsimp (disch := omega) only [wpS, f4]
  clear f l; rintro fr _ ⟨rfl, f, l, h0⟩
  rw [d_seq]; refine cut _ (o9 m f l h0) ?_; clear f l; rintro fr _ ⟨rfl, f, l, f24⟩
  have hkk : q.at_ % len < len := Nat.mod_lt _ h0
  generalize q.at_ % len = kk at hkk f24
  have hl4 := l.2.2.2.2.1
  rw [d_seq]; refine cut _ (o10 m f l (by omega) f24) ?_; clear f l f24; rintro fr h10 ⟨E10, f, l, f24, b, hb, hbn, f25, gb⟩
  have l6 := m.l6
  rw [d_seq]; refine cut _ (o11 (m.ext E10) f l hkk f24 hb (by omega) f25 gb) ?_; clear m f l f24 f25 gb hb; rintro fr h11 ⟨m, f, l, f24, f25, hb, gb⟩
  rw [d_seq]; refine cut _ (o12 m f l hkk f24 f25 hb gb) ?_; clear m f l f24 f25 gb hb; rintro fr h12 ⟨m, f, l, f24, f25, hb, gb, f27, s, f26, hs⟩
  rw [d_seq]; refine cut _ (o13 m f l hkk f24 f25 hb gb f27 f26 hs) ?_; clear m f l f24 f25 gb hb f27 f26 hs; rintro fr h13 ⟨m, l, f24, f25, hb, gb, f27, f26, hs, f29, c, hc, f28, gc⟩
  rw [d_seq]; refine cut _ (o14 m l hkk f24 f25 gb f27 f26 hs f29 f28 gc) ?_; intro fr h14 f4
  simp -dsimp (disch := omega) only [wpS, f4]
end Go.Id

/-! EnumerateOrder: for every draft and number the law returns true, and the draft reads as it did. Conditions: none but the row's own (the listed tables of math/bits hold what the program's text lays into them). -/
namespace Go.Proofs.YtipnghefdfnlnaaDoor
open Go.ChangeShapes Go.WideShapes Go.ChangeAt Go.RowKit Go.Id
theorem order_met (os:Os) (args:Array Value):laidMetH Tryd.prog laid2 ((World.doorLaid Tryd.prog 400 os).forCall (fun _ _=>0) ⟨#[],args,[]⟩).memory:=by
 rw[MakeChecks.laidMetH_plain _ _ _ (by kernel_rfl)]
 exact laidMet_of_run' 8 (by kernel_rfl) (by kernel_rfl)
theorem wf_u16 {x:Int} (h:(Lit.int .u16 x).wf=true):0≤x∧x<65536:=by
 simp only[Lit.wf,Bool.and_eq_true,decide_eq_true_eq] at h
 have h1:(0:Int)≤x:=h.1
 have h2:x≤(65535:Int):=h.2
 exact⟨h1,by omega⟩
theorem order_wv {h:IH} (hB:BaseT h) {x:Value} (hx:DraftAt h x) {n:Int} (hn:0≤n∧n<65536):WV Tryd.prog (.func (.func 4) #[] #[]) [x,.int .u16 n] h fun r _=>r=.bool true:=by
 obtain⟨m,rfl⟩:=Int.eq_ofNat_of_zero_le hn.1
 exact order_ideal hB hx (by omega)
set_option maxRecDepth 100000 in
theorem order_lifted (os:Os) (started:os.Started) (H:Type) (enc:TypeId×Value→H) :
  ReturnsInHanded {} Tryd.checked os 4 .any (fun w args=>(Rows.enumerateOrderSpec.pre enc Tryd.prog Tryd.f4 [] false w args∧laidMetH Tryd.prog laid2 w)∧sizedMet enc Tryd.prog Tryd.f4 (OpenSpec.ofChange Rows.enumerateOrderSpec) false w args)
   (Rows.enumerateOrderSpec.post enc Tryd.prog Tryd.f4 false true false false):=by
 refine returnsInHanded_of_change_and (C:=Tryd.checked) (X:=fun w _=>laidMetH Tryd.prog laid2 w) (fun _ _ _ hh h=>h.of_heap hh) Tryd.own started (by kernel_rfl) Tryd.func4
  (ChangeSpec.witness_shaped (enc:=enc) (C:=Tryd.checked) (os:=os) (X:=fun w _=>laidMetH Tryd.prog laid2 w) false (World.doorLaid Tryd.prog 400 os) #[.agg #[.int .u8 0,.int .u8 0,.int .u16 0,.slice none 0 0,.slice none 0 0,.int .u8 0,.int .u8 0],.int .u16 0] 8 rfl (World.shaped_of_RefB (by kernel_rfl) (by kernel_rfl)) (by kernel_rfl) (by kernel_rfl) (by kernel_rfl) (order_met os _)) ?_
 intro W base args ds gs before hval0 hW _ _ hL _
 have hval : ∀(j:Nat) t v,Tryd.f4.params[j]?=some t→args[j]?=some v→Value.okWide Tryd.prog W .any base t v:=hval0
 have hW':=hW
 obtain⟨p,q,hA0,hV,rfl,hfz,hnd⟩:=hW
 have hA:DataW.TrodAll enc Tryd.prog W 0 (fun _=>true) true Tryd.f4.params.toList args.toList ds p:=hA0
 have hA1:=hA
 rw[Tryd.params4] at hA hval
 obtain⟨a0,r0,d0,ds0,p0,q0,e0,rfl,rfl,t0,h0A⟩:=trodAll_cons hA
 obtain⟨a1,r1,d1,ds1,p1,q1,rfl,rfl,rfl,t1,h1A⟩:=trodAll_cons h0A
 obtain⟨rfl,rfl,rfl⟩:=trodAll_nil h1A
 obtain⟨rfl,rfl⟩:=trodVars_none hV
 obtain rfl:args = #[a0,a1]:=by cases args;simpa using e0
 obtain⟨cs,rfl,_,_⟩ : ∃cs,a0=.agg cs∧cs.size=Tryd.prog.cellsOf 28∧Row.okWide Tryd.prog W .any base 28 cs:=by
  have:=hval 0 28 a0 rfl rfl
  unfold Value.okWide at this
  rw[Tryd.underlying28] at this
  exact this
 obtain⟨fuel,h1⟩:=t0
 have hD:DraftIn W cs.toList:=draft_of (held:=true) h1
 obtain⟨x1,rfl,_,_,w1⟩:=open_int Tryd.underlying22 (hval 1 _ _ rfl rfl) t1
 have i1:=wf_u16 w1
 obtain⟨l,x,hl,hr,hx⟩:=draft_ideal hD
 have hr':VRel (Mp.startOf (entA l)) x (.agg cs):=by simpa using hr
 have hb:=base_ok (glob_ok hL) hl
 refine(wv_true Tryd.sound (order_wv (baseT_start l) hx i1) hb (args':=#[.agg cs,.int .u16 x1]) (.cons hr' (.cons (.scal rfl) (.nil _)))).mono fun e W' ⟨he,hk⟩=>?_
 subst he
 refine⟨_,rfl,post_of_below (pa:=p0 ++ (p1 ++ [])) (pv:=[]) hW' (fun _ _ _=>trodAll_mk1 (shut_bool Tryd.underlying4 _)) (fun sp hs=>?_) (fun _ _=>rfl) hk⟩
 exact trodAll_stays Tryd.kids Tryd.pos hk hA1 (fun t ht=>by
  rw[Tryd.params4] at ht
  simp at ht
  rcases ht with rfl|rfl<;>exact of_decide_eq_true (by kernel_rfl)) (fun x hx=>hs x (by simpa using hx))
theorem order_row:Rows.EnumerateOrderSaid :=
 OpenClaim.holds_of_wide 4 Tryd.f4 rfl rfl rfl rfl rfl rfl rfl ⟨rfl,rfl,rfl,rfl,rfl⟩ rfl rfl rfl rfl rfl (by kernel_rfl) Tryd.func4 (by kernel_rfl)
  (of_decide_eq_true (by kernel_rfl)) (by unfold Func.isWrapper;first|(rw[if_pos (by decide +kernel)];kernel_rfl)|(rw[if_neg (by decide +kernel)];exact⟨rfl,rfl⟩))
  (fun os started H enc _=>order_lifted os started H enc)
theorem order_card:Rows.EnumerateOrderCardSaid :=
 Claim7.holds_tied_plain_at .later [] [.data,.data] true (true, "b80a82165a2d264761c7db3c16b4c062e137e60f9a7b5a706201c7c056ff15aa") false
  order_row (fun _ h=>by cases h) (by kernel_rfl) (fun _ h=>by cases h) enumerateOrder_row_tie rfl ⟨rfl,rfl⟩ (by kernel_rfl) rfl
  (fun f fn hf hfn=>by
   obtain rfl:f=4:=Option.some.inj ((show Tryd.prog.funcNamed "wardmote/wardmotelaw36.EnumerateOrder" = some 4 by kernel_rfl).symm.trans hf) |>.symm
   obtain rfl:fn=Tryd.f4:=(Option.some.inj (Tryd.func4.symm.trans hfn)).symm
   exact⟨by kernel_rfl,fun j t ht=>by
    rw[Tryd.params4] at ht
    have h3:t=28∨t=22:=by
     match j,ht with
     | 0,ht=>exact .inl (by simpa using ht.symm)
     | 1,ht=>exact .inr (by simpa using ht.symm)
     | j+2,ht=>simp at ht
    rcases h3 with rfl|rfl
    ·exact(show Tryd.prog.wantsStandIn 28=false by kernel_rfl)
    ·exact(show Tryd.prog.wantsStandIn 22=false by kernel_rfl)⟩)
  (by kernel_rfl)
#print axioms order_card
end Go.Proofs.YtipnghefdfnlnaaDoor
