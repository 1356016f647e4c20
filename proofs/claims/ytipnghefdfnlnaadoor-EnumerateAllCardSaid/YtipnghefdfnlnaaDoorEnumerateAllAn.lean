/-
  EnumerateAll: for every draft the law returns true, and the draft reads as it did. Conditions: none but the row's own (the listed tables of math/bits hold what the program's text lays into them).
-/
import Derived.Test.YtipnghefdfnlnaaDoorEnumerateAllAl
import Derived.Test.YtipnghefdfnlnaaDoorEnumerateAllAm
import Derived.Test.YtipnghefdfnlnaaDoorEnumerateAllAk
set_option linter.unusedVariables false
set_option linter.unusedSimpArgs false
set_option linter.defProp false
set_option linter.deprecated false
/-! Contracts: lists; the chapter's examples. -/
namespace Go.Id
open Go
theorem planAt_len (F:Nat→Bool) (n k:Nat) : ∀(m node:Nat) (cs:List Nat) (i:Nat),(planAt F n k m node cs i).length≤m
 | 0,_,_,_=>Nat.le_refl _
 | m+1,node,cs,i=>by
  unfold planAt
  split
  ·have:=planAt_len F n k m
   simp only[List.length_cons]
   exact Nat.succ_le_succ (this _ _ _)
  ·simp
theorem lists_ok {h:IH} (hB:BaseT h) {n:Nat} {E:List (Nat×Nat)} {v w x:Value} {ws:List Int} {lo hi:Int} {k:Nat} (a:ArgsAt h n E v w ws lo hi k) {qs:List (List Nat)} (hq:PlansAt h x qs) (lq:qs.length≤1000000) :
  WV Proofs.Tryd.prog (.func (.func 15) #[] #[]) [.agg #[KI n,v],.agg #[w,KI lo,KI hi,KI k],x] h fun r h'=>Ext h h'∧r=.bool (decide (totalP n E ws lo hi k≤400∧plansP n E ws lo hi k=qs)):=by
 obtain⟨hG,hn0,hn12,hV,hlen,hwl,hws,hd1,hd2,hlo,hlohi⟩:=enErr_ok a.ok
 refine enter (nt:=29) (rs:=[.tmp 6]) Proofs.Tryd.func15 rfl rfl rfl (by simp) ?_
 simp -dsimp (maxSteps:=1000000) (disch:=first|omega|(simp only[new_n,put_n];omega)|decide +kernel|(repeat first|rw[new_n]|rw[put_n])) only[wpS,wpT,Nat.reduceEqDiff,Nat.reduceLeDiff,Nat.reduceAdd,ld32,ld35]
 have e0 : ∀o1 o2,Ext h ((h.new o1).new o2):=fun o1 o2=>((Ext.refl h).new _).new _
 have a0:=a.keep (e0 (.cells [KI n,v] 0 none) (.cells [w,KI lo,KI hi,KI k] 0 none)).keep
 refine call (all_ok (hB.ext (e0 _ _)) a0) ?_
 rintro r h1 ⟨hE1,hr⟩
 have hE2:=(e0 _ _).trans hE1
 by_cases hT:totalP n E ws lo hi k≤400
 ·rw[if_pos hT] at hr
  obtain⟨y,rfl,hy⟩:=hr
  have hlp:(plansP n E ws lo hi k).length=totalP n E ws lo hi k:=by simp[plansP]
  simp -dsimp (maxSteps:=1000000) (disch:=first|omega|(simp only[new_n,put_n];omega)|decide +kernel|(repeat first|rw[new_n]|rw[put_n])) only[wpS,wpT,Nat.reduceEqDiff]
  refine call (samePlans_ok hy (hq.keep hE2.keep) (by omega) fun p hp=>?_) ?_
  ·obtain⟨i,_,rfl⟩:=List.mem_map.1 hp
   have:=planAt_len (fitsB E ws lo hi) n k n 0 [] i
   omega
  rintro _ h1' ⟨hh1,rfl⟩
  rw[hh1]
  have hr1:h1.row (2*h.n)=some [KI n,v]:=by
   rw[hE1.row (.inr (by simp only[new_n];omega)),row_even];simp only[IH.cells];simp (disch:=first|omega|(simp only[new_n,put_n];omega)|(repeat first|rw[new_n]|rw[put_n])) only[get_new_same,get_new_old]
  have hr2:h1.row (2*(h.n+1))=some [w,KI lo,KI hi,KI k]:=by
   rw[hE1.row (.inr (by simp only[new_n];omega)),row_even];simp only[IH.cells];simp (disch:=first|omega|(simp only[new_n,put_n];omega)|(repeat first|rw[new_n]|rw[put_n])) only[get_new_same]
  obtain⟨us,hsl,hu⟩:=hq.keep hE2.keep
  by_cases hpq:plansP n E ws lo hi k=qs
  ·simp -dsimp (maxSteps:=1000000) (disch:=first|omega|(simp only[new_n,put_n];omega)|decide +kernel|(repeat first|rw[new_n]|rw[put_n])) only[wpS,wpT,Nat.reduceEqDiff,Nat.reduceLeDiff,Nat.reduceAdd,ld32,ld35,hr1,hr2,hsl.len sl42,decide_eq_true hpq]
   refine call (counts_ok (hB.ext hE2) (a.keep hE2.keep) (qs.length:Int) ⟨by omega,by omega⟩) ?_
   rintro _ h3 ⟨hE3,rfl⟩
   simp -dsimp (maxSteps:=1000000) (disch:=first|omega|(simp only[new_n,put_n];omega)|decide +kernel|(repeat first|rw[new_n]|rw[put_n])) only[wpS,Nat.reduceEqDiff]
   refine⟨hE2.trans hE3,?_⟩
   have h4:(totalP n E ws lo hi k:Int)=(qs.length:Int):=by rw[←hpq,hlp]
   rw[decide_eq_true h4,decide_eq_true ⟨hT,hpq⟩]
  ·simp -dsimp (maxSteps:=1000000) (disch:=first|omega|(simp only[new_n,put_n];omega)|decide +kernel|(repeat first|rw[new_n]|rw[put_n])) only[wpS,wpT,Nat.reduceEqDiff,decide_eq_false hpq]
   refine⟨hE2,?_⟩
   rw[decide_eq_false fun hh=>hpq hh.2]
 ·rw[if_neg hT] at hr
  subst hr
  simp -dsimp (maxSteps:=1000000) (disch:=first|omega|(simp only[new_n,put_n];omega)|decide +kernel|(repeat first|rw[new_n]|rw[put_n])) only[wpS,wpT,Nat.reduceEqDiff]
  refine⟨hE2,?_⟩
  rw[decide_eq_false fun hh=>hT hh.1]
theorem neq64 (x y:Nat) (P:Program) (t:TypeId) (o1 o2:Operand):binop P .neq t o1 o2 (K64 x) (K64 y)=some (.bool (decide (x≠y))):=by
 rw[binop_neq]
 by_cases h:x=y
 ·subst h;simp
 ·have h1:((x:Int) != (y:Int))=true:=by simp;omega
  rw[h1,decide_eq_true h]
theorem neqI (x y:Int) (P:Program) (t:TypeId) (o1 o2:Operand):binop P .neq t o1 o2 (KI x) (KI y)=some (.bool (decide (x≠y))):=by
 rw[binop_neq]
 by_cases h:x=y
 ·subst h;simp
 ·have h1:(x != y)=true:=by simpa using h
  rw[h1,decide_eq_true h]
structure Wk (h hh:IH) (p c:Nat) (vp vc:Value):Prop where
 e:Ext h hh
 rp:hh.row (2*p)=some [KI ((4:Nat):Int),vp]
 rc:hh.row (2*c)=some [KI ((4:Nat):Int),vc]
 lp:p<hh.n
 lc:c<hh.n
 sp:SlOf hh 2 vp 3 (eCells (castE pathE))
 sc:SlOf hh 2 vc 4 (eCells (castE cycE))
 b:BaseT hh
theorem Wk.ext {h hh h3:IH} {p c:Nat} {vp vc:Value} (w:Wk h hh p c vp vc) (e:Ext hh h3):Wk h h3 p c vp vc :=
 ⟨w.e.trans e,by rw[e.row (.inr (by have:=w.lp;omega))];exact w.rp,by rw[e.row (.inr (by have:=w.lc;omega))];exact w.rc,Nat.lt_of_lt_of_le w.lp e.n,Nat.lt_of_lt_of_le w.lc e.n,w.sp.ext e,w.sc.ext e,w.b.ext e⟩
theorem Wk.path {h hh:IH} {p c:Nat} {vp vc w:Value} (a:Wk h hh p c vp vc) (hw:SlOf hh 1 w 4 (List.replicate 4 (KI 1))) {lo hi:Int} {k:Nat} (h3:1≤k∧k≤8∧0≤lo∧lo≤hi) (h4:hi≤1000):ArgsAt hh 4 pathE vp w one4 lo hi k :=
 ⟨a.sp,hw,⟨by omega,by omega⟩,ok_path one4 lo hi k rfl one4_ok h3⟩
theorem Wk.cycle {h hh:IH} {p c:Nat} {vp vc w:Value} (a:Wk h hh p c vp vc) (hw:SlOf hh 1 w 4 (List.replicate 4 (KI 1))) {lo hi:Int} {k:Nat} (h3:1≤k∧k≤8∧0≤lo∧lo≤hi) (h4:hi≤1000):ArgsAt hh 4 cycE vc w one4 lo hi k :=
 ⟨a.sc,hw,⟨by omega,by omega⟩,ok_cyc one4 lo hi k rfl one4_ok h3⟩
set_option maxHeartbeats 8000000 in
theorem works_ok {h:IH} (hB:BaseT h):WV Proofs.Tryd.prog (.func (.func 8) #[] #[]) [] h fun r h'=>Ext h h'∧r=.bool true:=by
 refine enter (nt:=101) (rs:=[.tmp 0]) Proofs.Tryd.func8 rfl rfl rfl (by simp) ?_
 simp -dsimp (maxSteps:=1000000) (disch:=first|omega|(simp only[new_n,put_n];omega)|decide +kernel|(repeat first|rw[new_n]|rw[put_n])) only[wpS]
 refine call path_ok ?_
 rintro _ h1 ⟨hE1,vp,rfl,hvp⟩
 simp -dsimp (maxSteps:=1000000) (disch:=first|omega|(simp only[new_n,put_n];omega)|decide +kernel|(repeat first|rw[new_n]|rw[put_n])) only[wpS]
 refine call cycle_ok ?_
 rintro _ h2 ⟨hE2,vc,rfl,hvc⟩
 simp -dsimp (maxSteps:=1000000) (disch:=first|omega|(simp only[new_n,put_n];omega)|decide +kernel|(repeat first|rw[new_n]|rw[put_n])) only[wpS,wpT,Nat.reduceEqDiff,Nat.reduceLeDiff,Nat.reduceAdd,zc32,st32,hvp.cok,hvc.cok]
 have eA:Ext h2 ((((h2.new (.cells [.int .i64 0,.slice none 0 0] 0 none)).new (.cells [.int .i64 0,.slice none 0 0] 0 none)).put h2.n (.cells [KI ((4:Nat):Int),vp] 0 none)).put (h2.n+1) (.cells [KI ((4:Nat):Int),vc] 0 none)):=((((Ext.refl h2).new _).new _).put (Nat.le_refl _) _).put (by omega) _
 have wA:Wk h ((((h2.new (.cells [.int .i64 0,.slice none 0 0] 0 none)).new (.cells [.int .i64 0,.slice none 0 0] 0 none)).put h2.n (.cells [KI ((4:Nat):Int),vp] 0 none)).put (h2.n+1) (.cells [KI ((4:Nat):Int),vc] 0 none)) h2.n (h2.n+1) vp vc:=by
  refine⟨(hE1.trans hE2).trans eA,?_,?_,by simp only[new_n,put_n];omega,by simp only[new_n,put_n];omega,(hvp.ext hE2).ext eA,hvc.ext eA,((hB.ext hE1).ext hE2).ext eA⟩
  ·rw[row_even];simp only[IH.cells];simp (disch:=first|omega|(simp only[new_n,put_n];omega)|(repeat first|rw[new_n]|rw[put_n])) only[get_put_same,get_put_old]
  ·rw[row_even];simp only[IH.cells];simp (disch:=first|omega|(simp only[new_n,put_n];omega)|(repeat first|rw[new_n]|rw[put_n])) only[get_put_same]
 generalize ((((h2.new (.cells [.int .i64 0,.slice none 0 0] 0 none)).new (.cells [.int .i64 0,.slice none 0 0] 0 none)).put h2.n (.cells [KI ((4:Nat):Int),vp] 0 none)).put (h2.n+1) (.cells [KI ((4:Nat):Int),vc] 0 none))=hA at *
 generalize h2.n=p at *
 generalize hpc:p+1=c at *
 refine drawn [(0,[2])] (by kernel_rfl) (by kernel_rfl) rfl ?_
 simp -dsimp (maxSteps:=1000000) (disch:=first|omega|(simp only[new_n,put_n];omega)|decide +kernel|(repeat first|rw[new_n]|rw[put_n])) only[wpS,wpT,Nat.reduceEqDiff,Nat.reduceLeDiff,Nat.reduceAdd,ld32,wA.rp,List.drop_zero,take2]
 refine call (ones_ok 4 2 2 1 (by decide)) ?_
 rintro _ h3 ⟨hE3,w3,rfl,hw3⟩
 have w3A:=wA.ext hE3
 simp -dsimp (maxSteps:=1000000) (disch:=first|omega|(simp only[new_n,put_n];omega)|decide +kernel|(repeat first|rw[new_n]|rw[put_n])) only[wpS,Nat.reduceEqDiff]
 have a3:=w3A.path hw3 (lo:=2) (hi:=2) (k:=1) (by decide) (by decide)
 refine call (districts_ok w3A.b a3.sE a3.sW a3.hhi a3.ok) ?_
 rintro _ h4 ⟨hE4,x4,rfl,hx4⟩
 rw[dist_path22] at hx4
 have w4A:=w3A.ext hE4
 simp -dsimp (maxSteps:=1000000) (disch:=first|omega|(simp only[new_n,put_n];omega)|decide +kernel|(repeat first|rw[new_n]|rw[put_n])) only[wpS,Nat.reduceEqDiff]
 refine⟨wpSteady_one rfl rfl rfl rfl (steady_load (av:=ptr (2*p) 0) (v:=.agg #[KI ((4:Nat):Int),vp]) rfl ?_ ?_),?_⟩
 ·simp -dsimp (maxSteps:=1000000) (disch:=first|omega|(simp only[new_n,put_n];omega)|decide +kernel|(repeat first|rw[new_n]|rw[put_n])) only[wpS,wpT,Nat.reduceLeDiff,Nat.reduceAdd,ld32,wA.rp,List.drop_zero,take2]
 ·simp -dsimp (maxSteps:=1000000) (disch:=first|omega|(simp only[new_n,put_n];omega)|decide +kernel|(repeat first|rw[new_n]|rw[put_n])) only[wpS,wpT,Nat.reduceLeDiff,Nat.reduceAdd,ld32,w3A.rp,List.drop_zero,take2]
 simp -dsimp (maxSteps:=1000000) (disch:=first|omega|(simp only[new_n,put_n];omega)|decide +kernel|(repeat first|rw[new_n]|rw[put_n])) only[wpS,wpT,Nat.reduceAdd]
 refine drawn [(0,[2,3])] (by kernel_rfl) (by kernel_rfl) rfl ?_
 simp -dsimp (maxSteps:=1000000) (disch:=first|omega|(simp only[new_n,put_n];omega)|decide +kernel|(repeat first|rw[new_n]|rw[put_n])) only[wpS,wpT,Nat.reduceEqDiff,Nat.reduceLeDiff,Nat.reduceAdd,ld32,w4A.rc,List.drop_zero,take2]
 refine call (ones_ok 4 1 3 2 (by decide)) ?_
 rintro _ h5 ⟨hE5,w5,rfl,hw5⟩
 have w5A:=w4A.ext hE5
 simp -dsimp (maxSteps:=1000000) (disch:=first|omega|(simp only[new_n,put_n];omega)|decide +kernel|(repeat first|rw[new_n]|rw[put_n])) only[wpS]
 refine call (refOf_ok 0 (by decide)) ?_
 rintro _ h6 ⟨hE6,rfl⟩
 have w6A:=w5A.ext hE6
 simp -dsimp (maxSteps:=1000000) (disch:=first|omega|(simp only[new_n,put_n];omega)|decide +kernel|(repeat first|rw[new_n]|rw[put_n])) only[wpS,Nat.reduceEqDiff]
 have a6:=w6A.cycle (hw5.ext hE6) (lo:=1) (hi:=3) (k:=2) (by decide) (by decide)
 refine call (kth_ok w6A.b a6 (wideN 0) (wideN_small (by decide))) ?_
 rintro _ h7 ⟨hE7,hr7⟩
 rw[wdI_wideN (inW_of64 (by decide)),total_cyc13,if_pos (by decide)] at hr7
 obtain⟨x7,rfl,hx7⟩:=hr7
 rw[show(0:Int).toNat=0 from rfl,plan_cyc13] at hx7
 have w7A:=w6A.ext hE7
 simp -dsimp (maxSteps:=1000000) (disch:=first|omega|(simp only[new_n,put_n];omega)|decide +kernel|(repeat first|rw[new_n]|rw[put_n])) only[wpS,Nat.reduceEqDiff]
 refine⟨wpSteady_two (wpSteady_one rfl rfl rfl rfl (steady_load (av:=ptr (2*c) 0) (v:=.agg #[KI ((4:Nat):Int),vc]) rfl ?_ ?_)) (wpSteady_one rfl rfl rfl rfl (steady_load (av:=ptr (2*c) 0) (v:=.agg #[KI ((4:Nat):Int),vc]) rfl ?_ ?_)),?_⟩
 ·simp -dsimp (maxSteps:=1000000) (disch:=first|omega|(simp only[new_n,put_n];omega)|decide +kernel|(repeat first|rw[new_n]|rw[put_n])) only[wpS,wpT,Nat.reduceLeDiff,Nat.reduceAdd,ld32,w4A.rc,List.drop_zero,take2]
 ·simp -dsimp (maxSteps:=1000000) (disch:=first|omega|(simp only[new_n,put_n];omega)|decide +kernel|(repeat first|rw[new_n]|rw[put_n])) only[wpS,wpT,Nat.reduceLeDiff,Nat.reduceAdd,ld32,w5A.rc,List.drop_zero,take2]
 ·simp -dsimp (maxSteps:=1000000) (disch:=first|omega|(simp only[new_n,put_n];omega)|decide +kernel|(repeat first|rw[new_n]|rw[put_n])) only[wpS,wpT,Nat.reduceLeDiff,Nat.reduceAdd,ld32,w4A.rc,List.drop_zero,take2]
 ·simp -dsimp (maxSteps:=1000000) (disch:=first|omega|(simp only[new_n,put_n];omega)|decide +kernel|(repeat first|rw[new_n]|rw[put_n])) only[wpS,wpT,Nat.reduceLeDiff,Nat.reduceAdd,ld32,w6A.rc,List.drop_zero,take2]
 simp -dsimp (maxSteps:=1000000) (disch:=first|omega|(simp only[new_n,put_n];omega)|decide +kernel|(repeat first|rw[new_n]|rw[put_n])) only[wpS,wpT,Nat.reduceAdd]
 refine drawn [(0,[3])] (by kernel_rfl) (by kernel_rfl) rfl ?_
 simp -dsimp (maxSteps:=1000000) (disch:=first|omega|(simp only[new_n,put_n];omega)|decide +kernel|(repeat first|rw[new_n]|rw[put_n])) only[wpS,wpT,Nat.reduceEqDiff,Nat.reduceLeDiff,Nat.reduceAdd,ld32,w7A.rc,List.drop_zero,take2]
 refine call (ones_ok 4 1 3 2 (by decide)) ?_
 rintro _ h8 ⟨hE8,w8,rfl,hw8⟩
 have w8A:=w7A.ext hE8
 simp -dsimp (maxSteps:=1000000) (disch:=first|omega|(simp only[new_n,put_n];omega)|decide +kernel|(repeat first|rw[new_n]|rw[put_n])) only[wpS,wpT,Nat.reduceEqDiff,Nat.reduceLeDiff,Nat.reduceAdd,Nat.reduceMul,bs44]
 have n8:Ext h8 (h8.new (.cells [.int .i64 0,.int .i64 1,.int .i64 1,.int .i64 0] 1 none)):=(Ext.refl h8).new _
 have w8B:=w8A.ext n8
 have a8:=w8B.cycle (hw8.ext n8) (lo:=1) (hi:=3) (k:=2) (by decide) (by decide)
 refine call (index_ok w8B.b a8 (p:=[0,1,1,0]) (sl_block (k:=h8.n) (f:=none) (get_new_same _ _ rfl) (by simp only[new_n];omega) (by decide) rfl (by decide) (by decide))) ?_
 rintro _ h9 ⟨hE9,rfl⟩
 rw[idx_cyc13]
 have w9A:=w8B.ext hE9
 have hspl : ∀n,IH.splice [.int .u64 0,.int .u64 0,.int .u64 0,.int .u64 0,.int .u64 0,.int .u64 0,.int .u64 0,.int .u64 0] 0 (wdC n)=wdC n:=fun n=>splice_all (by rw[wdC_len];rfl)
 simp -dsimp (maxSteps:=1000000) (disch:=first|omega|(simp only[new_n,put_n];omega)|decide +kernel|(repeat first|rw[new_n]|rw[put_n])) only[wpS,wpT,Nat.reduceEqDiff,Nat.reduceLeDiff,Nat.reduceAdd,zc58,st58,wdV_form,wdC_len,wdC_all,hspl]
 refine⟨wpSteady_one rfl rfl rfl rfl (steady_load (av:=ptr (2*c) 0) (v:=.agg #[KI ((4:Nat):Int),vc]) rfl ?_ ?_),?_⟩
 ·simp -dsimp (maxSteps:=1000000) (disch:=first|omega|(simp only[new_n,put_n];omega)|decide +kernel|(repeat first|rw[new_n]|rw[put_n])) only[wpS,wpT,Nat.reduceLeDiff,Nat.reduceAdd,ld32,w7A.rc,List.drop_zero,take2]
 ·simp -dsimp (maxSteps:=1000000) (disch:=first|omega|(simp only[new_n,put_n];omega)|decide +kernel|(repeat first|rw[new_n]|rw[put_n])) only[wpS,wpT,Nat.reduceLeDiff,Nat.reduceAdd,ld32,w8B.rc,List.drop_zero,take2]
 simp -dsimp (maxSteps:=1000000) (disch:=first|omega|(simp only[new_n,put_n];omega)|decide +kernel|(repeat first|rw[new_n]|rw[put_n])) only[wpS,wpT,Nat.reduceAdd]
 have eB:Ext h9 ((h9.new (.cells [.int .u64 0,.int .u64 0,.int .u64 0,.int .u64 0,.int .u64 0,.int .u64 0,.int .u64 0,.int .u64 0] 0 none)).put h9.n (.cells (wdC (wideN 4)) 0 none)):=((Ext.refl h9).new _).put (Nat.le_refl _) _
 have gB:((h9.new (.cells [.int .u64 0,.int .u64 0,.int .u64 0,.int .u64 0,.int .u64 0,.int .u64 0,.int .u64 0,.int .u64 0] 0 none)).put h9.n (.cells (wdC (wideN 4)) 0 none)).ext.get h9.n=some (.cells (wdC (wideN 4)) 0 none):=get_put_same _ _ rfl
 have w10:=w9A.ext eB
 have nB:h9.n<((h9.new (.cells [.int .u64 0,.int .u64 0,.int .u64 0,.int .u64 0,.int .u64 0,.int .u64 0,.int .u64 0,.int .u64 0] 0 none)).put h9.n (.cells (wdC (wideN 4)) 0 none)).n:=by simp only[new_n,put_n];omega
 have eAll:=(((((hE4.trans hE5).trans hE6).trans hE7).trans hE8).trans n8).trans (hE9.trans eB)
 have hx4':=hx4.ext ((((((hE5.trans hE6).trans hE7).trans hE8).trans n8).trans hE9).trans eB)
 have hx7':=hx7.ext (((hE8.trans n8).trans hE9).trans eB)
 generalize ((h9.new (.cells [.int .u64 0,.int .u64 0,.int .u64 0,.int .u64 0,.int .u64 0,.int .u64 0,.int .u64 0,.int .u64 0] 0 none)).put h9.n (.cells (wdC (wideN 4)) 0 none))=hB2 at *
 generalize h9.n=t at *
 refine drawn [(0,[2,3])] (by kernel_rfl) (by kernel_rfl) rfl ?_
 simp -dsimp (maxSteps:=1000000) (disch:=first|omega|(simp only[new_n,put_n];omega)|decide +kernel|(repeat first|rw[new_n]|rw[put_n])) only[wpS,wpT,Nat.reduceEqDiff,Nat.reduceLeDiff,Nat.reduceAdd,ld32,w10.rp,List.drop_zero,take2]
 refine call (ones_ok 4 2 2 2 (by decide)) ?_
 rintro _ h11 ⟨hE11,v11,rfl,hv11⟩
 have w11A:=w10.ext hE11
 simp -dsimp (maxSteps:=1000000) (disch:=first|omega|(simp only[new_n,put_n];omega)|decide +kernel|(repeat first|rw[new_n]|rw[put_n])) only[wpS]
 refine call (refOf_ok 1 (by decide)) ?_
 rintro _ h12 ⟨hE12,rfl⟩
 have w12A:=w11A.ext hE12
 simp -dsimp (maxSteps:=1000000) (disch:=first|omega|(simp only[new_n,put_n];omega)|decide +kernel|(repeat first|rw[new_n]|rw[put_n])) only[wpS,Nat.reduceEqDiff]
 have a12:=w12A.path (hv11.ext hE12) (lo:=2) (hi:=2) (k:=2) (by decide) (by decide)
 refine call (kth_ok w12A.b a12 (wideN 1) (wideN_small (by decide))) ?_
 rintro _ h13 ⟨hE13,hr13⟩
 rw[wdI_wideN (inW_of64 (by decide)),total_path22,if_neg (by decide)] at hr13
 subst hr13
 have w13A:=w12A.ext hE13
 simp -dsimp (maxSteps:=1000000) (disch:=first|omega|(simp only[new_n,put_n];omega)|decide +kernel|(repeat first|rw[new_n]|rw[put_n])) only[wpS,Nat.reduceEqDiff]
 refine⟨wpSteady_two (wpSteady_one rfl rfl rfl rfl (steady_load (av:=ptr (2*p) 0) (v:=.agg #[KI ((4:Nat):Int),vp]) rfl ?_ ?_)) (wpSteady_one rfl rfl rfl rfl (steady_load (av:=ptr (2*p) 0) (v:=.agg #[KI ((4:Nat):Int),vp]) rfl ?_ ?_)),?_⟩
 ·simp -dsimp (maxSteps:=1000000) (disch:=first|omega|(simp only[new_n,put_n];omega)|decide +kernel|(repeat first|rw[new_n]|rw[put_n])) only[wpS,wpT,Nat.reduceLeDiff,Nat.reduceAdd,ld32,w10.rp,List.drop_zero,take2]
 ·simp -dsimp (maxSteps:=1000000) (disch:=first|omega|(simp only[new_n,put_n];omega)|decide +kernel|(repeat first|rw[new_n]|rw[put_n])) only[wpS,wpT,Nat.reduceLeDiff,Nat.reduceAdd,ld32,w11A.rp,List.drop_zero,take2]
 ·simp -dsimp (maxSteps:=1000000) (disch:=first|omega|(simp only[new_n,put_n];omega)|decide +kernel|(repeat first|rw[new_n]|rw[put_n])) only[wpS,wpT,Nat.reduceLeDiff,Nat.reduceAdd,ld32,w10.rp,List.drop_zero,take2]
 ·simp -dsimp (maxSteps:=1000000) (disch:=first|omega|(simp only[new_n,put_n];omega)|decide +kernel|(repeat first|rw[new_n]|rw[put_n])) only[wpS,wpT,Nat.reduceLeDiff,Nat.reduceAdd,ld32,w12A.rp,List.drop_zero,take2]
 simp -dsimp (maxSteps:=1000000) (disch:=first|omega|(simp only[new_n,put_n];omega)|decide +kernel|(repeat first|rw[new_n]|rw[put_n])) only[wpS,wpT,Nat.reduceAdd]
 refine drawn [(0,[3])] (by kernel_rfl) (by kernel_rfl) rfl ?_
 simp -dsimp (maxSteps:=1000000) (disch:=first|omega|(simp only[new_n,put_n];omega)|decide +kernel|(repeat first|rw[new_n]|rw[put_n])) only[wpS,wpT,Nat.reduceEqDiff,Nat.reduceLeDiff,Nat.reduceAdd,ld32,w13A.rp,List.drop_zero,take2]
 refine call (ones_ok 4 1 3 2 (by decide)) ?_
 rintro _ h14 ⟨hE14,v14,rfl,hv14⟩
 have w14A:=w13A.ext hE14
 simp -dsimp (maxSteps:=1000000) (disch:=first|omega|(simp only[new_n,put_n];omega)|decide +kernel|(repeat first|rw[new_n]|rw[put_n])) only[wpS,wpT,Nat.reduceEqDiff,Nat.reduceLeDiff,Nat.reduceAdd,Nat.reduceMul,bs44]
 have n14:Ext h14 (h14.new (.cells [.int .i64 1,.int .i64 1,.int .i64 0,.int .i64 0] 1 none)):=(Ext.refl h14).new _
 have w14B:=w14A.ext n14
 have a14:=w14B.path (hv14.ext n14) (lo:=1) (hi:=3) (k:=2) (by decide) (by decide)
 refine call (index_ok w14B.b a14 (p:=[1,1,0,0]) (sl_block (k:=h14.n) (f:=none) (get_new_same _ _ rfl) (by simp only[new_n];omega) (by decide) rfl (by decide) (by decide))) ?_
 rintro _ h15 ⟨hE15,rfl⟩
 rw[idx_path13]
 have w15A:=w14B.ext hE15
 simp -dsimp (maxSteps:=1000000) (disch:=first|omega|(simp only[new_n,put_n];omega)|decide +kernel|(repeat first|rw[new_n]|rw[put_n])) only[wpS,wpT,Nat.reduceEqDiff,Nat.reduceLeDiff,Nat.reduceAdd,zc58,st58,wdV_form,wdC_len,wdC_all,hspl]
 refine⟨wpSteady_one rfl rfl rfl rfl (steady_load (av:=ptr (2*p) 0) (v:=.agg #[KI ((4:Nat):Int),vp]) rfl ?_ ?_),?_⟩
 ·simp -dsimp (maxSteps:=1000000) (disch:=first|omega|(simp only[new_n,put_n];omega)|decide +kernel|(repeat first|rw[new_n]|rw[put_n])) only[wpS,wpT,Nat.reduceLeDiff,Nat.reduceAdd,ld32,w13A.rp,List.drop_zero,take2]
 ·simp -dsimp (maxSteps:=1000000) (disch:=first|omega|(simp only[new_n,put_n];omega)|decide +kernel|(repeat first|rw[new_n]|rw[put_n])) only[wpS,wpT,Nat.reduceLeDiff,Nat.reduceAdd,ld32,w14B.rp,List.drop_zero,take2]
 simp -dsimp (maxSteps:=1000000) (disch:=first|omega|(simp only[new_n,put_n];omega)|decide +kernel|(repeat first|rw[new_n]|rw[put_n])) only[wpS,wpT,Nat.reduceAdd]
 have eC:Ext h15 ((h15.new (.cells [.int .u64 0,.int .u64 0,.int .u64 0,.int .u64 0,.int .u64 0,.int .u64 0,.int .u64 0,.int .u64 0] 0 none)).put h15.n (.cells (wdC 0) 0 none)):=((Ext.refl h15).new _).put (Nat.le_refl _) _
 have w16:=w15A.ext eC
 have eD:=(((((hE11.trans hE12).trans hE13).trans hE14).trans n14).trans hE15).trans eC
 generalize ((h15.new (.cells [.int .u64 0,.int .u64 0,.int .u64 0,.int .u64 0,.int .u64 0,.int .u64 0,.int .u64 0,.int .u64 0] 0 none)).put h15.n (.cells (wdC 0) 0 none))=hC at *
 refine drawn [(0,[6]),(8,[13])] (by kernel_rfl) (by kernel_rfl) rfl ?_
 simp -dsimp (maxSteps:=1000000) (disch:=first|omega|(simp only[new_n,put_n];omega)|decide +kernel|(repeat first|rw[new_n]|rw[put_n])) only[wpS,wpT,Nat.reduceEqDiff,Nat.reduceLeDiff,Nat.reduceAdd,ld32,w16.rp,List.drop_zero,take2]
 refine call (ones_ok 4 1 3 2 (by decide)) ?_
 rintro _ h17 ⟨hE17,v17,rfl,hv17⟩
 have w17A:=w16.ext hE17
 simp -dsimp (maxSteps:=1000000) (disch:=first|omega|(simp only[new_n,put_n];omega)|decide +kernel|(repeat first|rw[new_n]|rw[put_n])) only[wpS,wpT,Nat.reduceEqDiff,Nat.reduceLeDiff,Nat.reduceAdd,Nat.reduceMul,bs44,bs42]
 have n17:Ext h17 (((((h17.new (.cells [.int .i64 0,.int .i64 0,.int .i64 0,.int .i64 1] 1 none)).new (.cells [.int .i64 0,.int .i64 0,.int .i64 1,.int .i64 1] 1 none)).new (.cells [.int .i64 0,.int .i64 1,.int .i64 1,.int .i64 1] 1 none)).new (.cells [.slice (some ⟨2*(h17.n),0,none⟩) 4 9,.slice (some ⟨2*(h17.n+1),0,none⟩) 4 9,.slice (some ⟨2*(h17.n+1+1),0,none⟩) 4 9] 1 none))):=((((Ext.refl h17).new _).new _).new _).new _
 have pl1:PlansAt (((((h17.new (.cells [.int .i64 0,.int .i64 0,.int .i64 0,.int .i64 1] 1 none)).new (.cells [.int .i64 0,.int .i64 0,.int .i64 1,.int .i64 1] 1 none)).new (.cells [.int .i64 0,.int .i64 1,.int .i64 1,.int .i64 1] 1 none)).new (.cells [.slice (some ⟨2*(h17.n),0,none⟩) 4 9,.slice (some ⟨2*(h17.n+1),0,none⟩) 4 9,.slice (some ⟨2*(h17.n+1+1),0,none⟩) 4 9] 1 none))) (.slice (some ⟨2*(h17.n+1+1+1),0,none⟩) 3 7) [[0,0,0,1],[0,0,1,1],[0,1,1,1]]:=by
  refine⟨[.slice (some ⟨2*(h17.n),0,none⟩) 4 9,.slice (some ⟨2*(h17.n+1),0,none⟩) 4 9,.slice (some ⟨2*(h17.n+1+1),0,none⟩) 4 9],sl_block (k:=h17.n+1+1+1) (f:=none) ?_ (by simp only[new_n];omega) (by decide) rfl (by decide) (by decide),?_⟩
  ·simp (disch:=first|omega|(simp only[new_n,put_n];omega)|(repeat first|rw[new_n]|rw[put_n])) only[get_new_same]
  intro i p hp
  match i,hp with
  | 0,hp =>
   cases hp
   refine⟨_,rfl,sl_block (k:=h17.n) (f:=none) ?_ (by simp only[new_n];omega) (by decide) rfl (by decide) (by decide)⟩
   simp (disch:=first|omega|(simp only[new_n,put_n];omega)|(repeat first|rw[new_n]|rw[put_n])) only[get_new_same,get_new_old]
   rfl
  | 1,hp =>
   cases hp
   refine⟨_,rfl,sl_block (k:=h17.n+1) (f:=none) ?_ (by simp only[new_n];omega) (by decide) rfl (by decide) (by decide)⟩
   simp (disch:=first|omega|(simp only[new_n,put_n];omega)|(repeat first|rw[new_n]|rw[put_n])) only[get_new_same,get_new_old]
   rfl
  | 2,hp =>
   cases hp
   refine⟨_,rfl,sl_block (k:=h17.n+1+1) (f:=none) ?_ (by simp only[new_n];omega) (by decide) rfl (by decide) (by decide)⟩
   simp (disch:=first|omega|(simp only[new_n,put_n];omega)|(repeat first|rw[new_n]|rw[put_n])) only[get_new_same,get_new_old]
   rfl
  | i+3,hp=>simp at hp
 have w17B:=w17A.ext n17
 have a17:=w17B.path (hv17.ext n17) (lo:=1) (hi:=3) (k:=2) (by decide) (by decide)
 refine call (lists_ok w17B.b a17 pl1 (by decide)) ?_
 rintro _ h18 ⟨hE18,rfl⟩
 rw[decide_eq_true ⟨by rw[total_path13];decide,plans_path13⟩]
 have w18A:=w17B.ext hE18
 simp -dsimp (maxSteps:=1000000) (disch:=first|omega|(simp only[new_n,put_n];omega)|decide +kernel|(repeat first|rw[new_n]|rw[put_n])) only[wpS,wpT,Nat.reduceEqDiff,Nat.reduceLeDiff,Nat.reduceAdd,ld32,w18A.rc,List.drop_zero,take2]
 refine call (ones_ok 4 2 2 2 (by decide)) ?_
 rintro _ h19 ⟨hE19,v19,rfl,hv19⟩
 have w19A:=w18A.ext hE19
 simp -dsimp (maxSteps:=1000000) (disch:=first|omega|(simp only[new_n,put_n];omega)|decide +kernel|(repeat first|rw[new_n]|rw[put_n])) only[wpS,wpT,Nat.reduceEqDiff,Nat.reduceLeDiff,Nat.reduceAdd,Nat.reduceMul,bs44,bs42]
 have n19:Ext h19 ((((h19.new (.cells [.int .i64 0,.int .i64 0,.int .i64 1,.int .i64 1] 1 none)).new (.cells [.int .i64 0,.int .i64 1,.int .i64 1,.int .i64 0] 1 none)).new (.cells [.slice (some ⟨2*(h19.n),0,none⟩) 4 9,.slice (some ⟨2*(h19.n+1),0,none⟩) 4 9] 1 none))):=(((Ext.refl h19).new _).new _).new _
 have pl2:PlansAt ((((h19.new (.cells [.int .i64 0,.int .i64 0,.int .i64 1,.int .i64 1] 1 none)).new (.cells [.int .i64 0,.int .i64 1,.int .i64 1,.int .i64 0] 1 none)).new (.cells [.slice (some ⟨2*(h19.n),0,none⟩) 4 9,.slice (some ⟨2*(h19.n+1),0,none⟩) 4 9] 1 none))) (.slice (some ⟨2*(h19.n+1+1),0,none⟩) 2 5) [[0,0,1,1],[0,1,1,0]]:=by
  refine⟨[.slice (some ⟨2*(h19.n),0,none⟩) 4 9,.slice (some ⟨2*(h19.n+1),0,none⟩) 4 9],sl_block (k:=h19.n+1+1) (f:=none) ?_ (by simp only[new_n];omega) (by decide) rfl (by decide) (by decide),?_⟩
  ·simp (disch:=first|omega|(simp only[new_n,put_n];omega)|(repeat first|rw[new_n]|rw[put_n])) only[get_new_same]
  intro i p hp
  match i,hp with
  | 0,hp =>
   cases hp
   refine⟨_,rfl,sl_block (k:=h19.n) (f:=none) ?_ (by simp only[new_n];omega) (by decide) rfl (by decide) (by decide)⟩
   simp (disch:=first|omega|(simp only[new_n,put_n];omega)|(repeat first|rw[new_n]|rw[put_n])) only[get_new_same,get_new_old]
   rfl
  | 1,hp =>
   cases hp
   refine⟨_,rfl,sl_block (k:=h19.n+1) (f:=none) ?_ (by simp only[new_n];omega) (by decide) rfl (by decide) (by decide)⟩
   simp (disch:=first|omega|(simp only[new_n,put_n];omega)|(repeat first|rw[new_n]|rw[put_n])) only[get_new_same,get_new_old]
   rfl
  | i+2,hp=>simp at hp
 have w19B:=w19A.ext n19
 have a19:=w19B.cycle (hv19.ext n19) (lo:=2) (hi:=2) (k:=2) (by decide) (by decide)
 refine call (lists_ok w19B.b a19 pl2 (by decide)) ?_
 rintro _ h20 ⟨hE20,rfl⟩
 rw[decide_eq_true ⟨by rw[total_cyc22];decide,plans_cyc22⟩]
 have w20A:=w19B.ext hE20
 simp -dsimp (maxSteps:=1000000) (disch:=first|omega|(simp only[new_n,put_n];omega)|decide +kernel|(repeat first|rw[new_n]|rw[put_n])) only[wpS,Nat.reduceEqDiff]
 refine⟨wpSteady_cons (wpSteady_one rfl rfl rfl rfl (steady_load (av:=ptr (2*p) 0) (v:=.agg #[KI ((4:Nat):Int),vp]) rfl ?_ ?_)) (wpSteady_one rfl rfl rfl rfl (steady_load (av:=ptr (2*c) 0) (v:=.agg #[KI ((4:Nat):Int),vc]) rfl ?_ ?_)),?_⟩
 ·simp -dsimp (maxSteps:=1000000) (disch:=first|omega|(simp only[new_n,put_n];omega)|decide +kernel|(repeat first|rw[new_n]|rw[put_n])) only[wpS,wpT,Nat.reduceLeDiff,Nat.reduceAdd,ld32,w16.rp,List.drop_zero,take2]
 ·simp -dsimp (maxSteps:=1000000) (disch:=first|omega|(simp only[new_n,put_n];omega)|decide +kernel|(repeat first|rw[new_n]|rw[put_n])) only[wpS,wpT,Nat.reduceLeDiff,Nat.reduceAdd,ld32,w17B.rp,List.drop_zero,take2]
 ·simp -dsimp (maxSteps:=1000000) (disch:=first|omega|(simp only[new_n,put_n];omega)|decide +kernel|(repeat first|rw[new_n]|rw[put_n])) only[wpS,wpT,Nat.reduceLeDiff,Nat.reduceAdd,ld32,w18A.rc,List.drop_zero,take2]
 ·simp -dsimp (maxSteps:=1000000) (disch:=first|omega|(simp only[new_n,put_n];omega)|decide +kernel|(repeat first|rw[new_n]|rw[put_n])) only[wpS,wpT,Nat.reduceLeDiff,Nat.reduceAdd,ld32,w19B.rc,List.drop_zero,take2]
 simp -dsimp (maxSteps:=1000000) (disch:=first|omega|(simp only[new_n,put_n];omega)|decide +kernel|(repeat first|rw[new_n]|rw[put_n])) only[wpS,wpT,Nat.reduceAdd]
 have eE:=((((eD.trans hE17).trans n17).trans hE18).trans hE19).trans (n19.trans hE20)
 have hx4f:=hx4'.ext eE
 have hx7f:=hx7'.ext eE
 have gF:h20.row (2*t)=some (wdC (wideN 4)):=by rw[eE.row (.inr (by omega)),row_even];simp only[IH.cells,gB]
 refine drawn [(20,[37])] (by kernel_rfl) (by kernel_rfl) rfl ?_
 simp -dsimp (maxSteps:=1000000) (disch:=first|omega|(simp only[new_n,put_n];omega)|decide +kernel|(repeat first|rw[new_n]|rw[put_n])) only[wpS,wpT,Nat.reduceEqDiff,Nat.reduceLeDiff,Nat.reduceAdd,Nat.reduceMul,bs38]
 have m1:Ext h20 (h20.new (.cells [.int .u64 3,.int .u64 6,.int .u64 12] 1 none)):=(Ext.refl h20).new _
 have s1:SlOf (h20.new (.cells [.int .u64 3,.int .u64 6,.int .u64 12] 1 none)) 1 (.slice (some ⟨2*h20.n,0,none⟩) 3 7) 3 ([3,6,12].map fun n:Nat=>K64 n):=sl_block (k:=h20.n) (f:=none) (get_new_same _ _ rfl) (by simp only[new_n];omega) (by decide) rfl (by decide) (by decide)
 refine call (equal64_ok (a:=[3,6,12]) (b:=[3,6,12]) (hx4f.ext m1).now s1.now (by decide) (fun x _ y _ o1 o2=>neq64 x y _ _ o1 o2)) ?_
 rintro _ h21 ⟨hh21,rfl⟩
 rw[hh21,decide_eq_true rfl]
 simp -dsimp (maxSteps:=1000000) (disch:=first|omega|(simp only[new_n,put_n];omega)|decide +kernel|(repeat first|rw[new_n]|rw[put_n])) only[wpS,wpT,Nat.reduceEqDiff,Nat.reduceLeDiff,Nat.reduceAdd,Nat.reduceMul,bs44]
 have m2:Ext h20 ((h20.new (.cells [.int .u64 3,.int .u64 6,.int .u64 12] 1 none)).new (.cells [.int .i64 0,.int .i64 0,.int .i64 0,.int .i64 1] 1 none)):=m1.new _
 have s2:SlOf ((h20.new (.cells [.int .u64 3,.int .u64 6,.int .u64 12] 1 none)).new (.cells [.int .i64 0,.int .i64 0,.int .i64 0,.int .i64 1] 1 none)) 1 (.slice (some ⟨2*(h20.n+1),0,none⟩) 4 9) 4 ([0,0,0,1].map KI):=sl_block (k:=h20.n+1) (f:=none) (get_new_same _ _ (by simp only[new_n])) (by simp only[new_n];omega) (by decide) rfl (by decide) (by decide)
 refine call (equalP_ok (a:=[0,0,0,1]) (b:=[0,0,0,1]) (hx7f.ext m2).now s2.now (by decide) (fun x _ y _ o1 o2=>neqI x y _ _ o1 o2)) ?_
 rintro _ h22 ⟨hh22,rfl⟩
 rw[hh22,decide_eq_true rfl]
 have ht20:t<h20.n:=Nat.lt_of_lt_of_le nB eE.n
 simp -dsimp (maxSteps:=1000000) (disch:=first|omega|(simp only[new_n,put_n];omega)|decide +kernel|(repeat first|rw[new_n]|rw[put_n])) only[wpS,wpT,Nat.reduceEqDiff,Nat.reduceLeDiff,ld58,gF,wdC_len,wd_take]
 refine call (refOf_ok 4 (by decide)) ?_
 rintro _ h23 ⟨hE23,rfl⟩
 have hq4 : ∀ox oy,binop Proofs.Tryd.prog .eql 58 ox oy (.agg (wdC (wideN 4)).toArray) (wideV 4)=some (.bool true):=fun ox oy=>by
  have:=wd_eql (wideN_small (show In64 4 by decide)) (wideN_small (show In64 4 by decide)) ox oy
  rw[decide_eq_true rfl] at this
  exact this
 have gG:h23.row (2*t)=some (wdC (wideN 4)):=by rw[(m2.trans hE23).row (.inr (by omega))];exact gF
 simp -dsimp (maxSteps:=1000000) (disch:=first|omega|(simp only[new_n,put_n];omega)|decide +kernel|(repeat first|rw[new_n]|rw[put_n])) only[wpS,wpT,Nat.reduceEqDiff,hq4]
 refine⟨wpSteady_one rfl rfl rfl rfl (steady_load (av:=ptr (2*t) 0) (v:=wideV 4) rfl ?_ ?_),?_⟩
 ·simp -dsimp (maxSteps:=1000000) (disch:=first|omega|(simp only[new_n,put_n];omega)|decide +kernel|(repeat first|rw[new_n]|rw[put_n])) only[wpS,Nat.reduceLeDiff,ld58,gF,wdC_len,wd_take]
  rfl
 ·simp -dsimp (maxSteps:=1000000) (disch:=first|omega|(simp only[new_n,put_n];omega)|decide +kernel|(repeat first|rw[new_n]|rw[put_n])) only[wpS,Nat.reduceLeDiff,ld58,gG,wdC_len,wd_take]
  rfl
 simp -dsimp (maxSteps:=1000000) (disch:=first|omega|(simp only[new_n,put_n];omega)|decide +kernel|(repeat first|rw[new_n]|rw[put_n])) only[wpS,wpT,Nat.reduceEqDiff,Nat.reduceAdd]
 exact w20A.e.trans (m2.trans hE23)
end Go.Id

/-! EnumerateAll, on the ideal machine. -/
namespace Go.Id
open Go
theorem atk2 (a b : Value) : List.take 2 [a, b] = [a, b] := rfl
theorem atk4 (a b c d : Value) : List.take 4 [a, b, c, d] = [a, b, c, d] := rfl
set_option maxHeartbeats 8000000 in
theorem all_ideal {h : IH} (hB : BaseT h) {x : Value} (hx : DraftAt h x) : WV Proofs.Tryd.prog (.func (.func 3) #[] #[]) [x] h fun r h' => r = .bool true := by
  obtain ⟨wd, hi, less, sl, ds, mn, wn, mv, wv, ms, wcs, rfl, hm, h8m, hw, h8w, h1, h2, h3, h4, h5⟩ := hx.ex
  refine enter (nt := 43) (rs := [.tmp 2]) Proofs.Tryd.func3 rfl rfl rfl (by simp) ?_
  simp -dsimp (maxSteps := 1000000) (disch := first | omega | (simp only [new_n, put_n]; omega) | decide +kernel | (repeat first | rw [new_n] | rw [put_n])) only [wpS]
  obtain ⟨hA, hhA⟩ : ∃ H, H = h.new (.cells [K8 wd, K8 hi, K16 less, mv, wv, K8 sl, K8 ds] 0 none) := ⟨_, rfl⟩
  have EA : Ext h hA := by rw [hhA]; exact (Ext.refl h).new _
  have gA : hA.ext.get h.n = some (.cells [K8 wd, K8 hi, K16 less, mv, wv, K8 sl, K8 ds] 0 none) := by rw [hhA]; simp (disch := first | omega | (simp only [new_n, put_n]; omega) | (repeat first | rw [new_n] | rw [put_n])) only [get_new_same]
  have nA : hA.n = h.n + 1 := by rw [hhA]; rfl
  rw [← hhA]
  clear hhA
  refine call (works_ok (hB.ext EA)) ?_
  rintro _ hC ⟨EC, rfl⟩
  have nC := EC.n
  have gC : hC.ext.get h.n = some (.cells [K8 wd, K8 hi, K16 less, mv, wv, K8 sl, K8 ds] 0 none) := by rw [EC.get _ (by omega)]; exact gA
  have rC : hC.row (2 * h.n) = some [K8 wd, K8 hi, K16 less, mv, wv, K8 sl, K8 ds] := by rw [row_even]; simp only [IH.cells, gC]
  have e3 : (wd : Int) % 3 = ((wd % 3 : Nat) : Int) := by omega
  have e2 : (hi : Int) % 2 = ((hi % 2 : Nat) : Int) := by omega
  simp -dsimp (maxSteps := 1000000) (disch := first | omega | (simp only [new_n, put_n]; omega) | decide +kernel | (repeat first | rw [new_n] | rw [put_n])) only [wpS, wpT, Nat.reduceEqDiff, Nat.reduceLeDiff, Nat.reduceAdd, fa28_0, fa25_0, ld5, fa25_1, st5, ld28, rC, gC, e3, e2]
  have tk : List.take 7 (List.drop 0 [Value.int IntKind.u8 ((wd % 3 : Nat) : Int), Value.int IntKind.u8 ((hi % 2 : Nat) : Int), K16 less, mv, wv, K8 sl, K8 ds]) = [K8 (wd % 3), K8 (hi % 2), K16 less, mv, wv, K8 sl, K8 ds] := rfl
  rw [tk]
  obtain ⟨hD, hhD⟩ : ∃ H, H = ((hC.put h.n (IObj.cells [Value.int IntKind.u8 ((wd % 3 : Nat) : Int), K8 hi, K16 less, mv, wv, K8 sl, K8 ds] 0 none)).put h.n (IObj.cells [Value.int IntKind.u8 ((wd % 3 : Nat) : Int), Value.int IntKind.u8 ((hi % 2 : Nat) : Int), K16 less, mv, wv, K8 sl, K8 ds] 0 none)) := ⟨_, rfl⟩
  have ED : Ext h hD := by rw [hhD]; exact ((EA.trans EC).put (Nat.le_refl _) _).put (Nat.le_refl _) _
  rw [← hhD]
  clear hhD
  have hxD : DraftAt hD (.agg [K8 (wd % 3), K8 (hi % 2), K16 less, mv, wv, K8 sl, K8 ds].toArray) := ⟨wd % 3, hi % 2, less, sl, ds, mn, wn, mv, wv, ms, wcs, rfl, hm.ext ED, h8m, hw.ext ED, h8w, by omega, by omega, h3, h4, h5⟩
  refine call (problemN_ok hxD (M := 6) ?_) ?_
  · intro wd' hi' less' mv' wv' sl' ds' he
    simp only [Value.agg.injEq] at he
    have he' := congrArg Array.toList he
    simp only [List.cons.injEq, Value.int.injEq, Int.natCast_inj] at he'
    exact Nat.mul_le_mul (show 1 + wd' % 3 % 4 ≤ 3 by omega) (show 1 + hi' % 3 ≤ 2 by omega)
  rintro _ hP ⟨EP, n, k, E, v, w, ws, lo, hi2, rfl, a, hk4, _, hn6, hws⟩
  simp -dsimp (maxSteps := 1000000) (disch := first | omega | (simp only [new_n, put_n]; omega) | decide +kernel | (repeat first | rw [new_n] | rw [put_n])) only [wpS, wpT, Nat.reduceEqDiff, Nat.reduceLeDiff, Nat.reduceAdd, zc32, zc35, st32, st35, ld32, ld35, a.sE.cok, a.sW.cok, List.drop_zero, atk2, atk4]
  obtain ⟨hE, hhE⟩ : ∃ H, H = ((((hP.new (.cells [.int .i64 0, .slice none 0 0] 0 none)).new (.cells [.slice none 0 0, .int .i64 0, .int .i64 0, .int .i64 0] 0 none)).put hP.n (.cells [KI n, v] 0 none)).put (hP.n + 1) (.cells [w, KI lo, KI hi2, KI k] 0 none)) := ⟨_, rfl⟩
  have EE : Ext hP hE := by rw [hhE]; exact ((((Ext.refl hP).new _).new _).put (Nat.le_refl _) _).put (by omega) _
  have gG : hE.ext.get hP.n = some (.cells [KI n, v] 0 none) := by rw [hhE]; simp (disch := first | omega | (simp only [new_n, put_n]; omega) | (repeat first | rw [new_n] | rw [put_n])) only [get_put_same, get_put_old]
  have gB : hE.ext.get (hP.n + 1) = some (.cells [w, KI lo, KI hi2, KI k] 0 none) := by rw [hhE]; simp (disch := first | omega | (simp only [new_n, put_n]; omega) | (repeat first | rw [new_n] | rw [put_n])) only [get_put_same]
  have nE : hE.n = hP.n + 2 := by rw [hhE]; rfl
  rw [← hhE]
  clear hhE
  have BE : BaseT hE := ((hB.ext ED).ext EP).ext EE
  have aE := a.keep EE.keep
  refine call (districts_ok BE aE.sE aE.sW aE.hhi aE.ok) ?_
  rintro _ hS ⟨ES, xs, rfl, sxs⟩
  have nS := ES.n
  have rG : hS.row (2 * hP.n) = some [KI n, v] := by rw [row_even]; simp only [IH.cells]; rw [ES.get _ (by omega), gG]
  simp -dsimp (maxSteps := 1000000) (disch := first | omega | (simp only [new_n, put_n]; omega) | decide +kernel | (repeat first | rw [new_n] | rw [put_n])) only [wpS, wpT, Nat.reduceEqDiff, Nat.reduceLeDiff, zc38, st38, zc42, zc43, st43, ld43, sxs.cells, sxs.cok]
  obtain ⟨R, hR⟩ : ∃ H, H = (((((hS.new (.cells [.slice none 0 0] 0 none)).put hS.n (.cells [xs] 0 none)).new (.cells [.slice none 0 0] 0 none)).new (.cells [.nilFunc] 0 none)).put (hS.n + 1 + 1) (.cells [.func (.func 11) #[] #[ptr (2 * hP.n) 0, ptr (2 * hS.n) 0, ptr (2 * (hP.n + 1)) 0, ptr (2 * (hS.n + 1)) 0, ptr (2 * (hS.n + 1 + 1)) 0]] 0 none)) := ⟨_, rfl⟩
  have ER : Ext hS R := by rw [hR]; exact (((((Ext.refl hS).new _).put (Nat.le_refl _) _).new _).new _).put (by omega) _
  have i1 : R.ext.get hS.n = some (.cells [xs] 0 none) := by rw [hR]; simp (disch := first | omega | (simp only [new_n, put_n]; omega) | (repeat first | rw [new_n] | rw [put_n])) only [get_new_old, get_put_same, get_put_old]
  have i2 : R.ext.get (hS.n + 1) = some (.cells [.slice none 0 0] 0 none) := by rw [hR]; simp (disch := first | omega | (simp only [new_n, put_n]; omega) | (repeat first | rw [new_n] | rw [put_n])) only [get_new_same, get_new_old, get_put_old]
  have i3 : R.ext.get (hS.n + 1 + 1) = some (.cells [.func (.func 11) #[] #[ptr (2 * hP.n) 0, ptr (2 * hS.n) 0, ptr (2 * (hP.n + 1)) 0, ptr (2 * (hS.n + 1)) 0, ptr (2 * (hS.n + 1 + 1)) 0]] 0 none) := by rw [hR]; simp (disch := first | omega | (simp only [new_n, put_n]; omega) | (repeat first | rw [new_n] | rw [put_n])) only [get_put_same]
  have nR : R.n = hS.n + 3 := by rw [hR]; rfl
  rw [← hR]
  clear hR
  have aR := (aE.keep ES.keep).keep ER.keep
  obtain ⟨_, hn0, hn12, _, _, _, _, hd1, hd2, _, _⟩ := enErr_ok aR.ok
  obtain ⟨q, hq⟩ : ∃ q : GQ, q = ⟨n, k, E, ws, lo, hi2, v, w, xs, hP.n, hS.n, hP.n + 1, hS.n + 1, hS.n + 1 + 1, R⟩ := ⟨_, rfl⟩
  have gr : GR q := by
    subst hq
    have jG : R.ext.get hP.n = some (.cells [KI n, v] 0 none) := by rw [ER.get _ (by omega), ES.get _ (by omega)]; exact gG
    have jB : R.ext.get (hP.n + 1) = some (.cells [w, KI lo, KI hi2, KI k] 0 none) := by rw [ER.get _ (by omega), ES.get _ (by omega)]; exact gB
    have l1 : hP.n < R.n := by omega
    have l2 : hP.n + 1 < R.n := by omega
    exact ⟨show 0 < n by omega, show n ≤ 12 by omega, show 1 ≤ k by omega, show k ≤ 8 by omega, jG, i1, jB, ⟨_, i2⟩, i3, ⟨show hP.n < R.n by omega, show hP.n ≠ hS.n + 1 by omega⟩, ⟨show hS.n < R.n by omega, show hS.n ≠ hS.n + 1 by omega⟩, ⟨show hP.n + 1 < R.n by omega, show hP.n + 1 ≠ hS.n + 1 by omega⟩, ⟨show hS.n + 1 + 1 < R.n by omega, show hS.n + 1 + 1 ≠ hS.n + 1 by omega⟩, sxs.keep ER.keep⟩
  have hF : q.F = fitsB E ws lo hi2 := by subst hq; rfl
  have hT : totalP n E ws lo hi2 k ≤ 400 := total6_le hn6 hk4
  have hA : q.A n [] = plansP n E ws lo hi2 k := by
    unfold GQ.A plansP totalP
    rw [hF, show q.k = k by rw [hq]]
    show (allP _ k n 0 []).map (fun x => [] ++ x) = _
    rw [allP_eq _ (n := n) (by omega) k n 0 [] (by omega)]
    simp
  have s0 : GSt q.R R R.n q.bw q.n (.slice none 0 0) [] none none [] none none [] [] := by
    subst hq
    exact { hn := Nat.le_refl _, base := rfl, root := fun _ _ _ => rfl, hb := by simp only; omega, nle := Nat.le_refl _, rn1 := Nat.le_refl _
            pa := .inl ⟨rfl, rfl, rfl, rfl, rfl⟩, wa := ⟨_, i2, rfl, fun i q j h => by simp at h, .inl ⟨rfl, rfl, rfl, rfl⟩⟩
            d := fun f hf => (by cases hf), kk := fun j hj => (by cases hj), wk := fun j hj => (by cases hj), wj := fun j hj => (by cases hj) }
  have hlen : (plansP n E ws lo hi2 k).length ≤ 400 := by unfold plansP; simpa using hT
  have hg := grow_ok gr n (by rw [hq]; simp) s0 trivial (by rw [hA]; simp; omega)
  rw [hA] at hg
  have hv : growV q = .func (.func 11) #[] #[ptr (2 * hP.n) 0, ptr (2 * hS.n) 0, ptr (2 * (hP.n + 1)) 0, ptr (2 * (hS.n + 1)) 0, ptr (2 * (hS.n + 1 + 1)) 0] := by rw [hq]; rfl
  rw [hv] at hg
  refine call hg ?_
  rintro _ hZ ⟨⟨fam', kw', fw', js1, sZ, _, _, _⟩, _⟩
  obtain ⟨rgZ, rbZ, _⟩ := sZ.rows gr
  obtain ⟨wv, hwv, hpl⟩ := sZ.wa.plans gr.n0
  have rwZ : hZ.row (2 * q.bw) = some [wv] := by rw [row_even]; simp only [IH.cells, hwv]
  have KZ := sZ.keep gr.iw
  have BR : BaseT R := (BE.ext ES).ext ER
  subst hq
  simp only at rgZ rbZ rwZ KZ
  have BZ : BaseT hZ := BR.keep KZ
  simp -dsimp (maxSteps := 1000000) (disch := first | omega | (simp only [new_n, put_n]; omega) | decide +kernel | (repeat first | rw [new_n] | rw [put_n])) only [wpS, wpT, Nat.reduceEqDiff, Nat.reduceLeDiff, Nat.reduceAdd, ld32, ld35, ld42, rgZ, rbZ, rwZ, List.drop_zero, atk2, atk4]
  refine call (lists_ok BZ (aR.keep KZ) hpl (by simp; omega)) ?_
  rintro _ hL ⟨_, rfl⟩
  rw [List.nil_append, decide_eq_true ⟨hT, rfl⟩]
  simp -dsimp (maxSteps := 1000000) (disch := first | omega | (simp only [new_n, put_n]; omega) | decide +kernel | (repeat first | rw [new_n] | rw [put_n])) only [wpS, Nat.reduceEqDiff]
end Go.Id

/-! EnumerateAll: for every draft the law returns true, and the draft reads as it did. Conditions: none but the row's own (the listed tables of math/bits hold what the program's text lays into them). -/
namespace Go.Proofs.YtipnghefdfnlnaaDoor
open Go.ChangeShapes Go.WideShapes Go.ChangeAt Go.RowKit Go.Id
theorem alls_met (os:Os) (args:Array Value):laidMetH Tryd.prog laid2 ((World.doorLaid Tryd.prog 400 os).forCall (fun _ _=>0) ⟨#[],args,[]⟩).memory:=by
 rw[MakeChecks.laidMetH_plain _ _ _ (by kernel_rfl)]
 exact laidMet_of_run' 8 (by kernel_rfl) (by kernel_rfl)
set_option maxRecDepth 100000 in
theorem alls_lifted (os:Os) (started:os.Started) (H:Type) (enc:TypeId×Value→H) :
  ReturnsInHanded {} Tryd.checked os 3 .any (fun w args=>(Rows.enumerateAllSpec.pre enc Tryd.prog Tryd.f3 [] false w args∧laidMetH Tryd.prog laid2 w)∧sizedMet enc Tryd.prog Tryd.f3 (OpenSpec.ofChange Rows.enumerateAllSpec) false w args)
   (Rows.enumerateAllSpec.post enc Tryd.prog Tryd.f3 false true false false):=by
 refine returnsInHanded_of_change_and (C:=Tryd.checked) (X:=fun w _=>laidMetH Tryd.prog laid2 w) (fun _ _ _ hh h=>h.of_heap hh) Tryd.own started (by kernel_rfl) Tryd.func3
  (ChangeSpec.witness_shaped (enc:=enc) (C:=Tryd.checked) (os:=os) (X:=fun w _=>laidMetH Tryd.prog laid2 w) false (World.doorLaid Tryd.prog 400 os) #[.agg #[.int .u8 0,.int .u8 0,.int .u16 0,.slice none 0 0,.slice none 0 0,.int .u8 0,.int .u8 0]] 8 rfl (World.shaped_of_RefB (by kernel_rfl) (by kernel_rfl)) (by kernel_rfl) (by kernel_rfl) (by kernel_rfl) (alls_met os _)) ?_
 intro W base args ds gs before hval0 hW _ _ hL _
 have hval : ∀(j:Nat) t v,Tryd.f3.params[j]?=some t→args[j]?=some v→Value.okWide Tryd.prog W .any base t v:=hval0
 have hW':=hW
 obtain⟨p,q,hA0,hV,rfl,hfz,hnd⟩:=hW
 have hA:DataW.TrodAll enc Tryd.prog W 0 (fun _=>true) true Tryd.f3.params.toList args.toList ds p:=hA0
 have hA1:=hA
 rw[Tryd.params3] at hA hval
 obtain⟨v0,d0,rfl,rfl,h0⟩:=trodAll_one hA
 obtain⟨rfl,rfl⟩:=trodVars_none hV
 obtain⟨cs,rfl,_,_⟩ : ∃cs,v0=.agg cs∧cs.size=Tryd.prog.cellsOf 28∧Row.okWide Tryd.prog W .any base 28 cs:=by
  have:=hval 0 28 v0 rfl rfl
  unfold Value.okWide at this
  rw[Tryd.underlying28] at this
  exact this
 obtain⟨fuel,h1⟩:=h0
 have hD:DraftIn W cs.toList:=draft_of (held:=true) h1
 obtain⟨l,x,hl,hr,hx⟩:=draft_ideal hD
 have hr':VRel (Mp.startOf (entA l)) x (.agg cs):=by simpa using hr
 have hb:=base_ok (glob_ok hL) hl
 refine(wv_true Tryd.sound (all_ideal (baseT_start l) hx) hb (args':=#[.agg cs]) (.cons hr' (.nil _))).mono fun e W' ⟨he,hk⟩=>?_
 subst he
 refine⟨_,rfl,post_of_below (pa:=p) (pv:=[]) hW' (fun _ _ _=>trodAll_mk1 (shut_bool Tryd.underlying4 _)) (fun sp hs=>?_) (fun _ _=>rfl) hk⟩
 exact trodAll_stays Tryd.kids Tryd.pos hk hA1 (fun t ht=>by rw[Tryd.params3] at ht;simp at ht;subst ht;exact of_decide_eq_true (by kernel_rfl)) (fun x hx=>hs x (by simpa using hx))
theorem alls_row:Rows.EnumerateAllSaid :=
 OpenClaim.holds_of_wide 3 Tryd.f3 rfl rfl rfl rfl rfl rfl rfl ⟨rfl,rfl,rfl,rfl,rfl⟩ rfl rfl rfl rfl rfl (by kernel_rfl) Tryd.func3 (by kernel_rfl)
  (of_decide_eq_true (by kernel_rfl)) (by unfold Func.isWrapper;first|(rw[if_pos (by decide +kernel)];kernel_rfl)|(rw[if_neg (by decide +kernel)];exact⟨rfl,rfl⟩))
  (fun os started H enc _=>alls_lifted os started H enc)
theorem alls_card:Rows.EnumerateAllCardSaid :=
 Claim7.holds_tied_plain_at .later [] [.data,.data] true (true, "b80a82165a2d264761c7db3c16b4c062e137e60f9a7b5a706201c7c056ff15aa") false
  alls_row (fun _ h=>by cases h) (by kernel_rfl) (fun _ h=>by cases h) enumerateAll_row_tie rfl ⟨rfl,rfl⟩ (by kernel_rfl) rfl
  (fun f fn hf hfn=>by
   obtain rfl:f=3:=Option.some.inj ((show Tryd.prog.funcNamed "wardmote/wardmotelaw36.EnumerateAll" = some 3 by kernel_rfl).symm.trans hf) |>.symm
   obtain rfl:fn=Tryd.f3:=(Option.some.inj (Tryd.func3.symm.trans hfn)).symm
   exact⟨by kernel_rfl,fun j t ht=>by
    rw[Tryd.params3] at ht
    have h3:t=28:=by
     rcases j with _|j
     ·simpa using ht.symm
     ·simp at ht
    subst h3
    exact(show Tryd.prog.wantsStandIn 28=false by kernel_rfl)⟩)
  (by kernel_rfl)
#print axioms alls_card
end Go.Proofs.YtipnghefdfnlnaaDoor
