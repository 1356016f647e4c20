/-
  Contracts: the examples' parts: path, cycle, ones; two lists of plans compared. Contracts: counts, lists; the search of a number in a rising list. Counting plans: the districts of a given graph, computed. Plans by number: their labels, classes and places; they rise. Counting plans: where a set is a district by its size alone. Counting plans of a part: sets of the part's nodes, numbered anew. Counting plans: complete graphs, and graphs without edges. Counting plans of a part: the induced graph's districts. The induced graph is a graph. The places of a part's nodes, as a map. A plan's districts, as a map. The greater and the lesser of two integers. Loops over functions, whose rounds may lay their variable into memory and may end early. Weakest preconditions over the ideal machine: appends to slices without room; lengths and parts of slices in regions whose order is open. Weakest preconditions over the ideal machine: loops over maps. Contracts: the districts of a plan as a map; lists that rise; plans compared; lists that contain.
-/
import Derived.Test.YtipnghefdfnlnaaDoorEnumerateOrderAk
import Derived.Test.YtipnghefdfnlnaaDoorEnumerateOrderAj
import Derived.Test.YtipnghefdfnlnaaDoorEnumerateOrderAh
set_option linter.unusedVariables false
set_option linter.unusedSimpArgs false
set_option linter.defProp false
set_option linter.deprecated false
/-! Contracts: the examples' parts: path, cycle, ones; two lists of plans compared. -/
namespace Go.Id
open Go
theorem path_ok {h:IH}:WV Proofs.Tryd.prog (.func (.func 38) #[] #[]) [] h fun r h'=>Ext h h' ∧ ∃v,r=.agg #[KI ((4:Nat):Int),v]∧SlOf h' 2 v 3 (eCells (castE [(0,1),(1,2),(2,3)])):=by
 refine enter (nt:=6) (rs:=[.cell 0 32]) Proofs.Tryd.func38 rfl rfl rfl (by simp) ?_
 simp -dsimp (maxSteps:=1000000) (disch:=first|omega|(simp only[new_n,put_n];omega)|decide +kernel|(repeat first|rw[new_n]|rw[put_n])) only[wpS,wpT,Nat.reduceEqDiff,Nat.reduceLeDiff,Nat.reduceAdd,Nat.reduceMul,zc32,bv54,pl54_0,pl54_1,bs30,bv32,pl32_0,pl32_1,st32,ld32]
 refine⟨(((Ext.refl h).new _).new _).put (by omega) _,_,rfl,sl_block (k:=h.n+1) (f:=none) ?_ (by simp only[new_n,put_n];omega) (by decide) rfl (by decide) (by decide)⟩
 simp (disch:=first|omega|(simp only[new_n,put_n];omega)|(repeat first|rw[new_n]|rw[put_n])) only[get_new_same,get_put_old]
 rfl
theorem cycle_ok {h:IH}:WV Proofs.Tryd.prog (.func (.func 39) #[] #[]) [] h fun r h'=>Ext h h' ∧ ∃v,r=.agg #[KI ((4:Nat):Int),v]∧SlOf h' 2 v 4 (eCells (castE [(0,1),(0,3),(1,2),(2,3)])):=by
 refine enter (nt:=7) (rs:=[.cell 0 32]) Proofs.Tryd.func39 rfl rfl rfl (by simp) ?_
 simp -dsimp (maxSteps:=1000000) (disch:=first|omega|(simp only[new_n,put_n];omega)|decide +kernel|(repeat first|rw[new_n]|rw[put_n])) only[wpS,wpT,Nat.reduceEqDiff,Nat.reduceLeDiff,Nat.reduceAdd,Nat.reduceMul,zc32,bv54,pl54_0,pl54_1,bs30,bv32,pl32_0,pl32_1,st32,ld32]
 refine⟨(((Ext.refl h).new _).new _).put (by omega) _,_,rfl,sl_block (k:=h.n+1) (f:=none) ?_ (by simp only[new_n,put_n];omega) (by decide) rfl (by decide) (by decide)⟩
 simp (disch:=first|omega|(simp only[new_n,put_n];omega)|(repeat first|rw[new_n]|rw[put_n])) only[get_new_same,get_put_old]
 rfl
theorem ones_ok {h:IH} (n:Nat) (lo hi d:Int) (hn:n≤1000):WV Proofs.Tryd.prog (.func (.func 40) #[] #[]) [KI n,KI lo,KI hi,KI d] h fun r h'=>Ext h h' ∧ ∃w,r=.agg #[w,KI lo,KI hi,KI d]∧SlOf h' 1 w n (List.replicate n (KI 1)):=by
 refine enter (nt:=16) (rs:=[.cell 8 35]) Proofs.Tryd.func40 rfl rfl rfl (by simp) ?_
 simp -dsimp (disch:=omega) only[wpS,wpT,Nat.reduceEqDiff,Nat.reduceLeDiff,Nat.reduceAdd,zc35,bs33]
 have e0 : ∀o1 o2,Ext h ((h.new o1).new o2):=fun o1 o2=>((Ext.refl h).new _).new _
 refine call (repeat_ok 1 (sl_block (k:=h.n+1) (f:=none) (cs:=[KI 1]) ?_ (by simp only[new_n];omega) (by decide) rfl (by decide) (by decide)) n (by omega)) ?_
 ·simp (disch:=first|omega|(simp only[new_n,put_n];omega)|(repeat first|rw[new_n]|rw[put_n])) only[get_new_same]
 rintro r h1 ⟨hE1,hs⟩
 have hg:h1.ext.get h.n=some (.cells [.slice none 0 0,.int .i64 0,.int .i64 0,.int .i64 0] 0 none):=by
  rw[hE1.get _ (by simp only[new_n];omega)];simp (disch:=first|omega|(simp only[new_n,put_n];omega)|(repeat first|rw[new_n]|rw[put_n])) only[get_new_same,get_new_old]
 simp -dsimp (disch:=omega) only[wpS,wpT,Nat.reduceEqDiff,Nat.reduceLeDiff,Nat.reduceAdd,bv35,pl35_0,pl35_1,pl35_2,pl35_3,st35,ld35,hg,hs.cells,hs.cok]
 refine⟨((e0 _ _).trans hE1).put (by omega) _,r,rfl,hs.keep (Keep.put (Keep.refl _) hg _)⟩
theorem samePlan_ok {h:IH} {v w:Value} {a b:List Int} (ha:SlOf h 1 v a.length (a.map KI)) (hb:SlOf h 1 w b.length (b.map KI)) (la:a.length≤1000000000) :
  WV Proofs.Tryd.prog (.func (.func 36) #[] #[]) [v,w] h fun r h'=>h'=h∧r=.bool (decide (a=b)):=by
 have hln:a.length=b.length∨a.length≠b.length:=by omega
 have ha:=ha.now
 have hb:=hb.now
 refine enter (nt:=26) (rs:=[.tmp 4]) Proofs.Tryd.func36 rfl rfl rfl (by simp) ?_
 simp -dsimp (maxSteps:=1000000) (disch:=first|omega|(simp only[new_n,put_n];omega)|decide +kernel|(repeat first|rw[new_n]|rw[put_n])) only[wpS,Nat.reduceEqDiff,Nat.reduceAdd,ha.len sl44,hb.len sl44]
 refine bq_intro ?_ ?_<;>intro hc<;>simp only[bne_iff_ne,bne_eq_false_iff_eq,ne_eq] at hc
 ·simp -dsimp (maxSteps:=1000000) (disch:=first|omega|(simp only[new_n,put_n];omega)|decide +kernel|(repeat first|rw[new_n]|rw[put_n])) only[wpS,wpT,Nat.reduceEqDiff]
  rw[decide_eq_false]
  rintro rfl;exact hc rfl
 ·have hl:a.length=b.length:=by omega
  simp -dsimp (maxSteps:=1000000) (disch:=first|omega|(simp only[new_n,put_n];omega)|decide +kernel|(repeat first|rw[new_n]|rw[put_n])) only[wpS,wpT]
  refine loop (fun m fr h1=>h1=h ∧ ∃i:Nat,i+m=a.length∧fget fr 0=some v∧fget fr 1=some w∧fget fr 5=some (KI i) ∧ ∀j,j<i→a[j]?=b[j]?) a.length ⟨rfl,0,by simp,by simp,by simp,by simp,by simp⟩ ?_
  rintro m fr h1 ⟨rfl,i,him,f0,f1,f5,hz⟩
  simp -dsimp (maxSteps:=1000000) (disch:=first|omega|(simp only[new_n,put_n];omega)|decide +kernel|(repeat first|rw[new_n]|rw[put_n])) only[wpS,Nat.reduceEqDiff,f0,f5,ha.len sl44]
  refine bq_intro ?_ ?_<;>intro hc2<;>simp only[decide_eq_true_eq,decide_eq_false_iff_not] at hc2
  ·have hi:i<a.length:=by omega
   obtain⟨x,hx⟩ : ∃x,a[i]?=some x:=⟨a[i],List.getElem?_eq_getElem hi⟩
   obtain⟨y,hy⟩ : ∃y,b[i]?=some y:=⟨b[i]'(by omega),List.getElem?_eq_getElem (by omega)⟩
   have i1:=ha.idx (P:=Proofs.Tryd.prog) es44 (k:=.i64) hi
   have i2:=hb.idx (P:=Proofs.Tryd.prog) es44 (k:=.i64) (show i<b.length by omega)
   have l1:=ha.ld (P:=Proofs.Tryd.prog) (t:=3) (c:=i) (by simpa using hi) ag3
   have l2:=hb.ld (P:=Proofs.Tryd.prog) (t:=3) (c:=i) (by simp;omega) ag3
   rw[Nat.mul_one] at i1 i2
   rw[List.getElem?_map,hx] at l1
   rw[List.getElem?_map,hy] at l2
   simp only[Option.map_some] at l1 l2
   simp -dsimp (maxSteps:=1000000) (disch:=first|omega|(simp only[new_n,put_n];omega)|decide +kernel|(repeat first|rw[new_n]|rw[put_n])) only[wpS,wpT,Nat.reduceEqDiff,f0,f1,f5,i1,i2,l1,l2]
   refine bq_intro ?_ ?_<;>intro hc3<;>simp only[bne_iff_ne,bne_eq_false_iff_eq,ne_eq] at hc3
   ·simp -dsimp (maxSteps:=1000000) (disch:=first|omega|(simp only[new_n,put_n];omega)|decide +kernel|(repeat first|rw[new_n]|rw[put_n])) only[wpS,wpT,Nat.reduceEqDiff]
    rw[decide_eq_false]
    rintro rfl
    rw[hx] at hy;cases hy;exact hc3 rfl
   ·simp -dsimp (maxSteps:=1000000) (disch:=first|omega|(simp only[new_n,put_n];omega)|decide +kernel|(repeat first|rw[new_n]|rw[put_n])) only[wpS,wpT,Nat.reduceEqDiff,f5]
    refine⟨m - 1,by omega,rfl,i+1,by omega,by simp[f0],by simp[f1],by simp,fun j hj=>?_⟩
    by_cases hji:j=i
    ·subst hji;rw[hx,hy,hc3]
    ·exact hz j (by omega)
  ·simp -dsimp (maxSteps:=1000000) (disch:=first|omega|(simp only[new_n,put_n];omega)|decide +kernel|(repeat first|rw[new_n]|rw[put_n])) only[wpS,wpT]
   rw[decide_eq_true]
   apply List.ext_getElem?
   intro j
   by_cases hj:j<i
   ·exact hz j hj
   ·rw[List.getElem?_eq_none (by omega),List.getElem?_eq_none (by omega)]
theorem i64s_int (p:List Nat):i64s p=(p.map fun(l:Nat)=>(l:Int)).map KI:=by simp[i64s]
theorem natInt_inj {p q:List Nat} (h:(p.map fun(l:Nat)=>(l:Int))=q.map fun(l:Nat)=>(l:Int)):p=q:=List.map_inj_right (fun _ _ h=>Int.ofNat.inj h) |>.1 h
theorem samePlanN_ok {h:IH} {v w:Value} {a b:List Nat} (ha:SlOf h 1 v a.length (i64s a)) (hb:SlOf h 1 w b.length (i64s b)) (la:a.length≤1000000000) :
  WV Proofs.Tryd.prog (.func (.func 36) #[] #[]) [v,w] h fun r h'=>h'=h∧r=.bool (decide (a=b)):=by
 refine WV.mono (samePlan_ok (a:=a.map fun(l:Nat)=>(l:Int)) (b:=b.map fun(l:Nat)=>(l:Int)) (by rw[List.length_map,←i64s_int];exact ha) (by rw[List.length_map,←i64s_int];exact hb) (by simpa using la)) ?_
 rintro r h' ⟨rfl,rfl⟩
 refine⟨rfl,?_⟩
 have:((a.map fun(l:Nat)=>(l:Int))=b.map fun(l:Nat)=>(l:Int))↔a=b:=⟨natInt_inj,fun h=>by rw[h]⟩
 simp only[this]
theorem samePlans_ok {h:IH} {v w:Value} {ps qs:List (List Nat)} (ha:PlansAt h v ps) (hb:PlansAt h w qs) (la:ps.length≤1000000000) (lp : ∀p∈ps,p.length≤1000000000) :
  WV Proofs.Tryd.prog (.func (.func 33) #[] #[]) [v,w] h fun r h'=>h'=h∧r=.bool (decide (ps=qs)):=by
 obtain⟨vs,ha,hva⟩:=ha
 obtain⟨us,hb,hub⟩:=hb
 have hln:ps.length=qs.length∨ps.length≠qs.length:=by omega
 have la2:=ha.2.1
 have lb2:=hb.2.1
 have ha:=ha.now
 have hb:=hb.now
 refine enter (nt:=27) (rs:=[.tmp 4]) Proofs.Tryd.func33 rfl rfl rfl (by simp) ?_
 simp -dsimp (maxSteps:=1000000) (disch:=first|omega|(simp only[new_n,put_n];omega)|decide +kernel|(repeat first|rw[new_n]|rw[put_n])) only[wpS,Nat.reduceEqDiff,Nat.reduceAdd,ha.len sl42,hb.len sl42]
 refine bq_intro ?_ ?_<;>intro hc<;>simp only[bne_iff_ne,bne_eq_false_iff_eq,ne_eq] at hc
 ·simp -dsimp (maxSteps:=1000000) (disch:=first|omega|(simp only[new_n,put_n];omega)|decide +kernel|(repeat first|rw[new_n]|rw[put_n])) only[wpS,wpT,Nat.reduceEqDiff]
  rw[decide_eq_false]
  rintro rfl;exact hc rfl
 ·have hl:ps.length=qs.length:=by omega
  simp -dsimp (maxSteps:=1000000) (disch:=first|omega|(simp only[new_n,put_n];omega)|decide +kernel|(repeat first|rw[new_n]|rw[put_n])) only[wpS,wpT]
  refine loop (fun m fr h1=>h1=h ∧ ∃i:Nat,i+m=ps.length∧fget fr 0=some v∧fget fr 1=some w∧fget fr 5=some (KI i) ∧ ∀j,j<i→ps[j]?=qs[j]?) ps.length ⟨rfl,0,by simp,by simp,by simp,by simp,by simp⟩ ?_
  rintro m fr h1 ⟨rfl,i,him,f0,f1,f5,hz⟩
  simp -dsimp (maxSteps:=1000000) (disch:=first|omega|(simp only[new_n,put_n];omega)|decide +kernel|(repeat first|rw[new_n]|rw[put_n])) only[wpS,Nat.reduceEqDiff,f0,f5,ha.len sl42]
  refine bq_intro ?_ ?_<;>intro hc2<;>simp only[decide_eq_true_eq,decide_eq_false_iff_not] at hc2
  ·have hi:i<ps.length:=by omega
   obtain⟨x,hx⟩ : ∃x,ps[i]?=some x:=⟨ps[i],List.getElem?_eq_getElem hi⟩
   obtain⟨y,hy⟩ : ∃y,qs[i]?=some y:=⟨qs[i]'(by omega),List.getElem?_eq_getElem (by omega)⟩
   obtain⟨vx,hvx,hsx⟩:=hva i x hx
   obtain⟨vy,hvy,hsy⟩:=hub i y hy
   have i1:=ha.idx (P:=Proofs.Tryd.prog) es42 (k:=.i64) hi
   have i2:=hb.idx (P:=Proofs.Tryd.prog) es42 (k:=.i64) (show i<qs.length by omega)
   have l1:=ha.ld (P:=Proofs.Tryd.prog) (t:=44) (c:=i) (by omega) ag44
   have l2:=hb.ld (P:=Proofs.Tryd.prog) (t:=44) (c:=i) (by omega) ag44
   rw[Nat.mul_one] at i1 i2
   rw[hvx] at l1
   rw[hvy] at l2
   simp -dsimp (maxSteps:=1000000) (disch:=first|omega|(simp only[new_n,put_n];omega)|decide +kernel|(repeat first|rw[new_n]|rw[put_n])) only[wpS,wpT,Nat.reduceEqDiff,f0,f1,f5,i1,i2,l1,l2]
   refine call (samePlanN_ok hsx hsy (lp x (List.mem_of_getElem? hx))) ?_
   rintro _ _ ⟨rfl,rfl⟩
   simp -dsimp (maxSteps:=1000000) (disch:=first|omega|(simp only[new_n,put_n];omega)|decide +kernel|(repeat first|rw[new_n]|rw[put_n])) only[wpS,Nat.reduceEqDiff]
   refine bq_intro ?_ ?_<;>intro hc3<;>simp only[decide_eq_true_eq,decide_eq_false_iff_not,Bool.not_eq_true',Bool.not_eq_false'] at hc3
   ·simp -dsimp (maxSteps:=1000000) (disch:=first|omega|(simp only[new_n,put_n];omega)|decide +kernel|(repeat first|rw[new_n]|rw[put_n])) only[wpS,wpT,Nat.reduceEqDiff]
    rw[decide_eq_false]
    rintro rfl
    rw[hx] at hy;cases hy;exact hc3 rfl
   ·simp -dsimp (maxSteps:=1000000) (disch:=first|omega|(simp only[new_n,put_n];omega)|decide +kernel|(repeat first|rw[new_n]|rw[put_n])) only[wpS,Nat.reduceEqDiff,f5]
    refine⟨m - 1,by omega,rfl,i+1,by omega,by simp[f0],by simp[f1],by simp,fun j hj=>?_⟩
    by_cases hji:j=i
    ·subst hji;rw[hx,hy,hc3]
    ·exact hz j (by omega)
  ·simp -dsimp (maxSteps:=1000000) (disch:=first|omega|(simp only[new_n,put_n];omega)|decide +kernel|(repeat first|rw[new_n]|rw[put_n])) only[wpS,wpT]
   rw[decide_eq_true]
   apply List.ext_getElem?
   intro j
   by_cases hj:j<i
   ·exact hz j hj
   ·rw[List.getElem?_eq_none (by omega),List.getElem?_eq_none (by omega)]
end Go.Id

/-! Contracts: counts, lists; the search of a number in a rising list. -/
namespace Go.Id
open Go
theorem wideN_inj {a b:Int} (ha:In64 a) (hb:In64 b):wideN a=wideN b↔a=b:=by
 have hh:=H8_big
 have hw:=W8_two
 have h1:InW a:=by unfold InW;omega
 have h2:InW b:=by unfold InW;omega
 constructor
 ·intro h
  rw[←wdI_wideN h1,←wdI_wideN h2,h]
 ·rintro rfl;rfl
theorem inW_of64 {a:Int} (ha:In64 a):InW a:=by
 have hh:=H8_big
 unfold InW;omega
theorem wideN_small {a:Int} (ha:In64 a):wideN a<W8:=wideN_lt (inW_of64 ha)
theorem totalP_small {n:Nat} {E:List (Nat×Nat)} {ws:List Int} {lo hi:Int} {k:Nat} (hok:enErr n (castE E) ws lo hi k=0):totalP n E ws lo hi k≤68719476736:=by
 obtain⟨hG,hn0,hn12,hV,hlen,hwl,hws,hd1,hd2,hlo,hlohi⟩:=enErr_ok hok
 have hp0:0<2 ^ n:=Nat.pow_pos (by omega)
 exact after_small _ [] hn12 (by omega) (by omega)
theorem counts_ok {h:IH} (hB:BaseT h) {n:Nat} {E:List (Nat×Nat)} {v w:Value} {ws:List Int} {lo hi:Int} {k:Nat} (a:ArgsAt h n E v w ws lo hi k) (want:Int) (hwant:In64 want) :
  WV Proofs.Tryd.prog (.func (.func 19) #[] #[]) [.agg #[KI n,v],.agg #[w,KI lo,KI hi,KI k],KI want] h fun r h'=>Ext h h'∧r=.bool (decide ((totalP n E ws lo hi k:Int)=want)):=by
 have hts:=totalP_small a.ok
 refine enter (nt:=23) (rs:=[.tmp 6]) Proofs.Tryd.func19 rfl rfl rfl (by simp) ?_
 simp -dsimp (maxSteps:=1000000) (disch:=first|omega|(simp only[new_n,put_n];omega)|decide +kernel|(repeat first|rw[new_n]|rw[put_n])) only[wpS,wpT,Nat.reduceEqDiff,Nat.reduceLeDiff,Nat.reduceAdd,ld32,ld35]
 have e0 : ∀o1 o2,Ext h ((h.new o1).new o2):=fun o1 o2=>((Ext.refl h).new _).new _
 have a0:=a.keep (e0 (.cells [KI n,v] 0 none) (.cells [w,KI lo,KI hi,KI k] 0 none)).keep
 refine call (count_ok (hB.ext (e0 _ _)) a0) ?_
 rintro _ h1 ⟨hE1,rfl⟩
 have hspl : ∀n,IH.splice [.int .u64 0,.int .u64 0,.int .u64 0,.int .u64 0,.int .u64 0,.int .u64 0,.int .u64 0,.int .u64 0] 0 (wdC n)=wdC n:=fun n=>splice_all (by rw[wdC_len];rfl)
 simp -dsimp (maxSteps:=1000000) (disch:=first|omega|(simp only[new_n,put_n];omega)|decide +kernel|(repeat first|rw[new_n]|rw[put_n])) only[wpS,wpT,Nat.reduceEqDiff,Nat.reduceLeDiff,Nat.reduceAdd,zc58,st58,wdV_form,wdC_len,wdC_all,hspl]
 refine drawn [(3,[9])] (by kernel_rfl) (by kernel_rfl) rfl ?_
 simp -dsimp (maxSteps:=1000000) (disch:=first|omega|(simp only[new_n,put_n];omega)|decide +kernel|(repeat first|rw[new_n]|rw[put_n])) only[wpS,wpT,Nat.reduceEqDiff,Nat.reduceLeDiff,ld58,wdC_len,wd_take]
 refine call (refOf_ok want hwant) ?_
 rintro _ h2 ⟨hE2,rfl⟩
 have hT64:In64 (totalP n E ws lo hi k:Int):=⟨by omega,by omega⟩
 have hq : ∀ox oy,binop Proofs.Tryd.prog .eql 58 ox oy (.agg (wdC (wideN (totalP n E ws lo hi k))).toArray) (wideV want)=some (.bool (decide ((totalP n E ws lo hi k:Int)=want))):=fun ox oy=>by
  have:=wd_eql (wideN_small hT64) (wideN_small hwant) ox oy
  simp only[wideN_inj hT64 hwant] at this
  exact this
 have hg2:h2.row (2*h1.n)=some (wdC (wideN (totalP n E ws lo hi k))):=by
  rw[hE2.row (.inr (by simp only[new_n,put_n];omega)),row_even];simp only[IH.cells];simp (disch:=first|omega|(simp only[new_n,put_n];omega)|(repeat first|rw[new_n]|rw[put_n])) only[get_put_same]
 simp -dsimp (maxSteps:=1000000) (disch:=first|omega|(simp only[new_n,put_n];omega)|decide +kernel|(repeat first|rw[new_n]|rw[put_n])) only[wpS,wpT,Nat.reduceEqDiff,hq]
 refine⟨wpSteady_one rfl rfl rfl rfl (steady_load (av:=ptr (2*h1.n) 0) (v:=wideV (totalP n E ws lo hi k)) rfl ?_ ?_),?_⟩
 ·simp -dsimp (maxSteps:=1000000) (disch:=first|omega|(simp only[new_n,put_n];omega)|decide +kernel|(repeat first|rw[new_n]|rw[put_n])) only[wpS,Nat.reduceLeDiff,ld58,wdC_len,wd_take]
  rfl
 ·simp -dsimp (maxSteps:=1000000) (disch:=first|omega|(simp only[new_n,put_n];omega)|decide +kernel|(repeat first|rw[new_n]|rw[put_n])) only[wpS,Nat.reduceLeDiff,ld58,hg2,wdC_len,wd_take]
  rfl
 simp -dsimp (maxSteps:=1000000) (disch:=first|omega|(simp only[new_n,put_n];omega)|decide +kernel|(repeat first|rw[new_n]|rw[put_n])) only[wpS,wpT,Nat.reduceEqDiff,Nat.reduceAdd]
 exact(((e0 _ _).trans hE1).trans (((Ext.refl h1).new _).put (Nat.le_refl _) _)).trans hE2
theorem cless_ok {h:IH} (x y:Nat):WV Proofs.Tryd.prog (.func (.func 49) #[] #[]) [K64 x,K64 y] h fun r h'=>h'=h∧r=.bool (decide (x<y)):=by
 refine enter (nt:=17) (rs:=[.tmp 4]) Proofs.Tryd.func49 rfl rfl rfl (by simp) ?_
 simp -dsimp (disch:=omega) only[wpS,Nat.reduceEqDiff,Nat.reduceAdd]
 refine call (isNaN_u _) ?_
 rintro _ _ ⟨rfl,rfl⟩
 simp -dsimp (disch:=omega) only[wpS,wpT,Nat.reduceEqDiff]
 simp[Int.ofNat_lt]
def Rises (l:List Nat):Prop:=l.Pairwise (· < ·)
theorem bsearch_ok {h:IH} {v:Value} {l:List Nat} (hv:SlOf h 1 v l.length (l.map fun s=>K64 s)) (hl:Rises l) (hlen:l.length≤1000000) (x:Nat) :
  WV Proofs.Tryd.prog (.func (.func 22) #[] #[]) [v,K64 x] h fun r h'=>h'=h ∧ ∃i:Nat,r=.tuple #[KI i,.bool (decide (x∈l))]:=by
 have hv:=hv.now
 refine enter (nt:=54) (rs:=[.tmp 4,.tmp 5]) Proofs.Tryd.func22 rfl rfl rfl (by simp) ?_
 simp -dsimp (disch:=omega) only[wpS,Nat.reduceEqDiff,Nat.reduceAdd,hv.len sl38]
 refine loop (fun m fr h1=>h1=h ∧ ∃i j:Nat,j - i=m∧i≤j∧j≤l.length∧(∀a,a<i → ∀y,l[a]?=some y→y<x)∧(∀a,j≤a → ∀y,l[a]?=some y→x≤y)∧fget fr 0=some v∧fget fr 1=some (K64 x)∧fget fr 6=some (KI l.length)∧fget fr 7=some (KI i)∧fget fr 8=some (KI j)) l.length
  ?_ ?_
 ·refine⟨rfl,0,l.length,rfl,by omega,Nat.le_refl _,?_,?_,by simp,by simp,by simp,by simp,by simp⟩
  ·intro a ha;omega
  ·intro a ha y hy;rw[List.getElem?_eq_none ha] at hy;cases hy
 rintro m fr h1 ⟨rfl,i,j,hm,hij,hjl,hlo,hhi,f0,f1,f6,f7,f8⟩
 simp -dsimp (disch:=omega) only[wpS,Nat.reduceEqDiff,f7,f8]
 refine bq_intro ?_ ?_<;>intro hc<;>simp only[decide_eq_true_eq,decide_eq_false_iff_not] at hc
 ·have hsh:((nshr ((i:Int)+(j:Int)).toNat 1:Nat):Int)=(((i+j) / 2:Nat):Int):=by
   rw[show((i:Int)+(j:Int)).toNat=i+j by omega];simp[nshr,Nat.shiftRight_eq_div_pow]
  obtain⟨y,hy⟩ : ∃y,l[(i+j) / 2]?=some y:=⟨l[(i+j) / 2]'(by omega),List.getElem?_eq_getElem (by omega)⟩
  have i1:=hv.idx (P:=Proofs.Tryd.prog) es38 (k:=.i64) (j:=(i+j) / 2) (by omega)
  have l1:=hv.ld (P:=Proofs.Tryd.prog) (t:=47) (c:=(i+j) / 2) (by simp;omega) ag47
  rw[Nat.mul_one] at i1
  rw[List.getElem?_map,hy] at l1
  simp only[Option.map_some] at l1
  have mono : ∀a b y z,a<b→l[a]?=some y→l[b]?=some z→y<z:=fun a b y z hab ha hb=>by
   obtain⟨ha1,ha2⟩:=List.getElem?_eq_some_iff.1 ha
   obtain⟨hb1,hb2⟩:=List.getElem?_eq_some_iff.1 hb
   have:=(List.pairwise_iff_getElem.1 hl) a b ha1 hb1 hab
   rw[ha2,hb2] at this;exact this
  simp -dsimp (disch:=omega) only[wpS,wpT,Nat.reduceEqDiff,cv3_105,cv105_3,f0,f1,f7,f8,hsh,i1,l1]
  refine call (cless_ok y x) ?_
  rintro _ _ ⟨rfl,rfl⟩
  simp -dsimp (disch:=omega) only[wpS,Nat.reduceEqDiff]
  refine bq_intro ?_ ?_<;>intro hlt
  ·simp only[decide_eq_true_eq] at hlt
   simp -dsimp (disch:=omega) only[wpS,Nat.reduceEqDiff]
   refine⟨j - ((i+j) / 2+1),by omega,rfl,(i+j) / 2+1,j,rfl,by omega,hjl,fun a ha z hz=>?_,hhi,by simp[f0],by simp[f1],by simp[f6],by simp,by simp[f8]⟩
   by_cases ham:a=(i+j) / 2
   ·subst ham;rw[hy] at hz;cases hz;exact hlt
   ·exact Nat.lt_trans (mono a _ z y (by omega) hz hy) hlt
  ·simp only[decide_eq_false_iff_not] at hlt
   simp -dsimp (disch:=omega) only[wpS,Nat.reduceEqDiff]
   refine⟨(i+j) / 2 - i,by omega,rfl,i,(i+j) / 2,rfl,by omega,by omega,hlo,fun a ha z hz=>?_,by simp[f0],by simp[f1],by simp[f6],by simp[f7],by simp⟩
   by_cases ham:a=(i+j) / 2
   ·subst ham;rw[hy] at hz;cases hz;omega
   ·have:=mono _ a y z (by omega) hy hz;omega
 ·obtain rfl:i=j:=by omega
  by_cases hil:i<l.length
  ·obtain⟨y,hy⟩ : ∃y,l[i]?=some y:=⟨l[i]'(by omega),List.getElem?_eq_getElem (by omega)⟩
   have i1:=hv.idx (P:=Proofs.Tryd.prog) es38 (k:=.i64) (j:=i) (by omega)
   have l1:=hv.ld (P:=Proofs.Tryd.prog) (t:=47) (c:=i) (by simp;omega) ag47
   rw[Nat.mul_one] at i1
   rw[List.getElem?_map,hy] at l1
   simp only[Option.map_some] at l1
   by_cases hyx:y=x
   ·subst hyx
    have e1:((y:Int) == (y:Int))=true:=by simp
    simp -dsimp (disch:=omega) only[wpS,wpT,Nat.reduceEqDiff,f0,f1,f6,f7,i1,l1,e1]
    refine⟨i,?_⟩
    rw[decide_eq_true (List.mem_of_getElem? hy)]
   ·have e1:((y:Int) == (x:Int))=false:=by simp;omega
    simp -dsimp (disch:=omega) only[wpS,wpT,Nat.reduceEqDiff,f0,f1,f6,f7,i1,l1,e1]
    refine call (sisNaN_u _) ?_
    rintro _ _ ⟨rfl,rfl⟩
    simp -dsimp (disch:=omega) only[wpS,wpT,Nat.reduceEqDiff]
    refine⟨i,?_⟩
    rw[decide_eq_false]
    intro hx
    obtain⟨a,ha⟩:=List.getElem?_of_mem hx
    by_cases hai:a<i
    ·have:=hlo a hai x ha;omega
    ·by_cases hai2:a=i
     ·subst hai2;rw[hy] at ha;cases ha;exact hyx rfl
     ·have h1:=hhi i (Nat.le_refl _) y hy
      obtain⟨ha1,ha2⟩:=List.getElem?_eq_some_iff.1 ha
      obtain⟨hb1,hb2⟩:=List.getElem?_eq_some_iff.1 hy
      have:=(List.pairwise_iff_getElem.1 hl) i a hb1 ha1 (by omega)
      omega
  ·simp -dsimp (disch:=omega) only[wpS,wpT,Nat.reduceEqDiff,f6,f7]
   refine⟨i,?_⟩
   rw[decide_eq_false]
   intro hx
   obtain⟨a,ha⟩:=List.getElem?_of_mem hx
   have:=hlo a (by have:=(List.getElem?_eq_some_iff.1 ha).1;omega) x ha
   omega
theorem rises_dist (F:Nat→Bool) (k:Nat):Rises (distL F k):=List.Pairwise.filter _ (List.pairwise_lt_range)
end Go.Id

/-! Counting plans: the districts of a given graph, computed. -/
namespace Go.Id
open Go
def fitD (n:Nat) (E:List (Nat×Nat)) (ws:List Int) (lo hi:Int) (s:Nat):Option Bool :=
 (connC (adjOf E) n s).map fun b=>decide (0<s) && (decide (lo≤weightTo ws s ws.length) && (decide (weightTo ws s ws.length≤hi) && b))
theorem fitD_fits {n:Nat} {E:List (Nat×Nat)} {ws:List Int} {lo hi:Int} {s:Nat} (hs:s<2 ^ n) {b:Bool} (h:fitD n E ws lo hi s=some b):fitsB E ws lo hi s=b:=by
 unfold fitD at h
 rw[Option.map_eq_some_iff] at h
 obtain⟨c,h1,h2⟩:=h
 have hc:=connC_conn hs h1
 rw[←h2,Bool.eq_iff_iff]
 unfold fitsB
 simp only[decide_eq_true_eq,Bool.and_eq_true]
 rw[hc]
def tabOK (n:Nat) (E:List (Nat×Nat)) (ws:List Int) (lo hi:Int) (T:Nat):Bool:=(List.range (2 ^ n)).all fun s=>fitD n E ws lo hi s == some (T.testBit s)
theorem tab {n:Nat} {E:List (Nat×Nat)} {ws:List Int} {lo hi:Int} {T:Nat} (h:tabOK n E ws lo hi T=true) : ∀s,s<2 ^ n→fitsB E ws lo hi s=T.testBit s:=by
 intro s hs
 have:=List.all_eq_true.1 h s (by simpa using hs)
 exact fitD_fits hs (by simpa using this)
theorem totalP_tab {n:Nat} {E:List (Nat×Nat)} {ws:List Int} {lo hi:Int} {k T:Nat} (h:tabOK n E ws lo hi T=true):totalP n E ws lo hi k=after (fun s=>T.testBit s) [] (2 ^ n - 1) k:=by
 have:0<2 ^ n:=Nat.pow_pos (by omega)
 exact after_congr (tab h) [] _ k (fun c hc=>by cases hc) (by omega)
theorem plan_tab {n:Nat} {E:List (Nat×Nat)} {ws:List Int} {lo hi:Int} {k T:Nat} (h:tabOK n E ws lo hi T=true) (i:Nat):planAt (fitsB E ws lo hi) n k n 0 [] i=planAt (fun s=>T.testBit s) n k n 0 [] i :=
 planAt_congr (tab h) k n 0 [] i (by omega) fun c hc=>by cases hc
theorem plansP_tab {n:Nat} {E:List (Nat×Nat)} {ws:List Int} {lo hi:Int} {k T:Nat} (h:tabOK n E ws lo hi T=true):plansP n E ws lo hi k=(List.range (after (fun s=>T.testBit s) [] (2 ^ n - 1) k)).map fun i=>planAt (fun s=>T.testBit s) n k n 0 [] i:=by
 unfold plansP
 rw[totalP_tab h]
 exact List.map_congr_left fun i _=>plan_tab h i
theorem distL_tab {n:Nat} {E:List (Nat×Nat)} {ws:List Int} {lo hi:Int} {T:Nat} (h:tabOK n E ws lo hi T=true):distL (fitsB E ws lo hi) (2 ^ n)=distL (fun s=>T.testBit s) (2 ^ n) :=
 List.filter_congr fun s hs=>tab h s (by simpa using hs)
theorem idxGo_congr {F G:Nat→Bool} {n:Nat} (hFG : ∀s,s<2 ^ n→F s=G s) (k:Nat) : ∀(l:List Int) (node:Nat) (cs:List Nat) (b:Nat),node+l.length≤n→(∀c∈cs,c<2 ^ n)→idxGo F n k node cs b l=idxGo G n k node cs b l
 | [],_,_,_,_,_=>rfl
 | c :: l,node,cs,b,hl,hc=>by
  simp only[List.length_cons] at hl
  rw[idxGo,idxGo]
  split
  ·rw[sumTo_congr fun x _=>after_congr hFG _ _ _ (lab_mem (by omega) hc) (above_lt n node)]
   exact idxGo_congr hFG k l _ _ _ (by omega) (lab_mem (by omega) hc)
  ·rfl
theorem idxGo_mem {F:Nat→Bool} {n k:Nat} : ∀(l:List Int) (node:Nat) (cs:List Nat) (b:Nat) {b2:Nat} {cs2:List Nat},node+l.length≤n→(∀c∈cs,c<2 ^ n)→idxGo F n k node cs b l=some (b2,cs2) → ∀c∈cs2,c<2 ^ n
 | [],_,_,_,_,_,_,hc,h=>by
  rw[idxGo] at h;cases h;exact hc
 | c :: l,node,cs,b,b2,cs2,hl,hc,h=>by
  simp only[List.length_cons] at hl
  rw[idxGo] at h
  split at h
  ·exact idxGo_mem l _ _ _ (by omega) (lab_mem (by omega) hc) h
  ·cases h
theorem idxV_tab {n:Nat} {E:List (Nat×Nat)} {ws:List Int} {lo hi:Int} {k T:Nat} (h:tabOK n E ws lo hi T=true) (p:List Int):idxV (fitsB E ws lo hi) n k p=idxV (fun s=>T.testBit s) n k p:=by
 unfold idxV
 split
 ·rename_i hp
  rw[idxGo_congr (tab h) k p 0 [] 0 (by omega) fun c hc=>by cases hc]
  cases hg:idxGo (fun s=>T.testBit s) n k 0 [] 0 p with
  | none=>rfl
  | some x =>
   obtain⟨b,cs⟩:=x
   have hm:=idxGo_mem p 0 [] 0 (by omega) (fun c hc=>by cases hc) hg
   simp only
   rw[after_congr (tab h) cs 0 k hm (Nat.pow_pos (by omega))]
 ·rfl
abbrev pathE:List (Nat×Nat):=[(0,1),(1,2),(2,3)]
abbrev cycE:List (Nat×Nat):=[(0,1),(0,3),(1,2),(2,3)]
abbrev one4:List Int:=[1,1,1,1]
theorem path22:tabOK 4 pathE one4 2 2 4168=true:=by decide +kernel
theorem path13:tabOK 4 pathE one4 1 3 20958=true:=by decide +kernel
theorem cyc13:tabOK 4 cycE one4 1 3 31710=true:=by decide +kernel
theorem cyc22:tabOK 4 cycE one4 2 2 4680=true:=by decide +kernel
theorem dist_path22:distL (fitsB pathE one4 2 2) (2 ^ 4) = [3,6,12]:=by rw[distL_tab path22];decide +kernel
theorem total_cyc13:totalP 4 cycE one4 1 3 2=6:=by rw[totalP_tab cyc13];decide +kernel
theorem plan_cyc13:planAt (fitsB cycE one4 1 3) 4 2 4 0 [] 0 = [0,0,0,1]:=by rw[plan_tab cyc13];decide +kernel
theorem total_path22:totalP 4 pathE one4 2 2 2=1:=by rw[totalP_tab path22];decide +kernel
theorem plans_path13:plansP 4 pathE one4 1 3 2 = [[0,0,0,1],[0,0,1,1],[0,1,1,1]]:=by rw[plansP_tab path13];decide +kernel
theorem plans_cyc22:plansP 4 cycE one4 2 2 2 = [[0,0,1,1],[0,1,1,0]]:=by rw[plansP_tab cyc22];decide +kernel
theorem total_path13:totalP 4 pathE one4 1 3 2=3:=by rw[totalP_tab path13];decide +kernel
theorem total_cyc22:totalP 4 cycE one4 2 2 2=2:=by rw[totalP_tab cyc22];decide +kernel
theorem idxV_of {F:Nat→Bool} {n k:Nat} {p:List Int} {b:Nat} {cs:List Nat} (hp:p.length=n) (h:idxGo F n k 0 [] 0 p=some (b,cs)) (h1:after F cs 0 k=1):idxV F n k p=.tuple #[wideV b,KI 0]:=by
 rw[idxV,if_pos hp,h];simp[h1]
theorem idxV_no {F:Nat→Bool} {n k:Nat} {p:List Int} (h:idxGo F n k 0 [] 0 p=none):idxV F n k p=.tuple #[wdV 0,KI 2]:=by
 rw[idxV];split
 ·rw[h]
 ·rfl
theorem idx_cyc13:idxV (fitsB cycE one4 1 3) 4 2 [0,1,1,0]=.tuple #[wideV 4,KI 0]:=by
 rw[idxV_tab cyc13]
 exact idxV_of (b:=4) (cs:=[9,6]) rfl (by decide +kernel) (by decide +kernel)
theorem idx_path13:idxV (fitsB pathE one4 1 3) 4 2 [1,1,0,0]=.tuple #[wdV 0,KI 2]:=by
 rw[idxV_tab path13]
 exact idxV_no (by decide +kernel)
theorem ok_path (ws:List Int) (lo hi:Int) (k:Nat) (h1:ws.length=4) (h2 : ∀w∈ws,0≤w∧w≤1000000000) (h3:1≤k∧k≤8∧0≤lo∧lo≤hi):enErr (4:Nat) (castE pathE) ws lo hi k=0:=by
 have hg:graphErr (4:Nat) (castE pathE)=0:=by decide +kernel
 rw[enErr,if_pos hg,if_pos (by omega),if_pos ⟨by omega,h2,by omega⟩]
theorem ok_cyc (ws:List Int) (lo hi:Int) (k:Nat) (h1:ws.length=4) (h2 : ∀w∈ws,0≤w∧w≤1000000000) (h3:1≤k∧k≤8∧0≤lo∧lo≤hi):enErr (4:Nat) (castE cycE) ws lo hi k=0:=by
 have hg:graphErr (4:Nat) (castE cycE)=0:=by decide +kernel
 rw[enErr,if_pos hg,if_pos (by omega),if_pos ⟨by omega,h2,by omega⟩]
theorem one4_ok : ∀w∈one4,0≤w∧w≤1000000000:=by decide
end Go.Id

/-! Plans by number: their labels, classes and places; they rise. -/
namespace Go.Id
open Go
theorem nclr_zero (a:Nat):nclr 0 a=0:=Nat.eq_of_testBit_eq fun j=>by rw[testBit_nclr];simp
theorem after_done (F:Nat→Bool) : ∀(cs:List Nat) (k:Nat),after F cs 0 k=if cs.length=k ∧ ∀c∈cs,F c=true then 1 else 0
 | [],k=>by
  rw[after_nil]
  cases k with
  | zero=>simp[ways]
  | succ k=>simp[ways]
 | c :: cs,k=>by
  rw[after_cons,sumFrom_eq,if_pos rfl,Nat.or_zero,nclr_zero,after_done F cs (k - 1)]
  by_cases h1:cs.length+1≤k
  ·rw[if_pos h1]
   by_cases h2:F c=true
   ·rw[if_pos h2,Nat.add_zero]
    by_cases h3:cs.length=k - 1 ∧ ∀x∈cs,F x=true
    ·rw[if_pos h3,if_pos ⟨by simp;omega,by simpa [h2] using h3.2⟩]
    ·rw[if_neg h3,if_neg]
     rintro⟨h4,h5⟩
     exact h3 ⟨by simp at h4;omega,fun x hx=>h5 x (by simp[hx])⟩
   ·rw[if_neg h2,if_neg]
    rintro⟨_,h5⟩
    exact h2 (h5 c (by simp))
  ·rw[if_neg h1,if_neg]
   rintro⟨h4,_⟩
   simp at h4
   omega
def csF:Nat→List Nat→List Nat→List Nat
 | _,cs,[]=>cs
 | node,cs,l :: p=>csF (node+1) (lab cs node l) p
def OkL:Nat→List Nat→List Nat→Prop
 | _,_,[]=>True
 | node,cs,l :: p=>l≤cs.length∧OkL (node+1) (lab cs node l) p
theorem plan_facts (F:Nat→Bool) {n:Nat} (hn:n≤64) (k:Nat) : ∀(m node:Nat) (cs:List Nat) (i b:Nat),node+m=n→i<after F cs (2 ^ n - 2 ^ node) k →
  (planAt F n k m node cs i).length=m∧OkL node cs (planAt F n k m node cs i)∧after F (csF node cs (planAt F n k m node cs i)) 0 k=1 ∧
   idxGo F n k node cs b ((planAt F n k m node cs i).map fun(l:Nat)=>(l:Int))=some (b+i,csF node cs (planAt F n k m node cs i))
 | 0,node,cs,i,b,hm,hi=>by
  obtain rfl:node=n:=by omega
  rw[Nat.sub_self] at hi
  have h1:=after_done F cs k
  have h2:after F cs 0 k=1:=by
   rw[h1] at hi ⊢
   split at hi
   ·rename_i h;rw[if_pos h]
   ·omega
  rw[h2] at hi
  obtain rfl:i=0:=by omega
  exact⟨rfl,trivial,h2,rfl⟩
 | m+1,node,cs,i,b,hm,hi=>by
  have hnode:node<n:=by omega
  rw[after_labels F hn hnode cs k] at hi
  obtain⟨l,j,h1,h2,h3,h4,h5⟩:=findLab_some (fun l=>after F (lab cs node l) (above n node) k) (cs.length+1) 0 i (by simpa using hi)
  have e0:(fun x=>after F (lab cs node (0+x)) (above n node) k)=fun x=>after F (lab cs node x) (above n node) k:=by funext x;rw[Nat.zero_add]
  simp only[Nat.zero_add,Nat.sub_zero] at h3 h5
  have ha:above n node=2 ^ n - 2 ^ (node+1):=rfl
  obtain⟨q1,q2,q3,q4⟩:=plan_facts F hn k m (node+1) (lab cs node l) j (b+sumTo (fun l=>after F (lab cs node l) (above n node) k) l) (by omega) (by rw[←ha];exact h4)
  rw[planAt,h1]
  simp only[List.map_cons,List.length_cons,csF,OkL,idxGo]
  refine⟨by rw[q1],⟨by omega,q2⟩,q3,?_⟩
  rw[if_pos ⟨by omega,by omega⟩,Int.toNat_natCast,q4,h5]
  congr 2
  omega
theorem sumTo_mono (g:Nat→Nat) {a b:Nat} (h:a≤b):sumTo g a≤sumTo g b:=by
 obtain⟨d,rfl⟩:=Nat.exists_eq_add_of_le h
 rw[sumTo_add_len];omega
theorem plan_rises (F:Nat→Bool) {n:Nat} (hn:n≤64) (k:Nat) : ∀(m node:Nat) (cs:List Nat) (i j:Nat),node+m=n→i<j→j<after F cs (2 ^ n - 2 ^ node) k →
  cmpL ((planAt F n k m node cs i).map fun(l:Nat)=>(l:Int)) ((planAt F n k m node cs j).map fun(l:Nat)=>(l:Int)) = -1
 | 0,node,cs,i,j,hm,hij,hj=>by
  obtain rfl:node=n:=by omega
  rw[Nat.sub_self,after_done] at hj
  split at hj<;>omega
 | m+1,node,cs,i,j,hm,hij,hj=>by
  have hnode:node<n:=by omega
  have hi:i<after F cs (2 ^ n - 2 ^ node) k:=by omega
  rw[after_labels F hn hnode cs k] at hi hj
  obtain⟨l,i',h1,h2,h3,h4,h5⟩:=findLab_some (fun l=>after F (lab cs node l) (above n node) k) (cs.length+1) 0 i (by simpa using hi)
  obtain⟨l',j',g1,g2,g3,g4,g5⟩:=findLab_some (fun l=>after F (lab cs node l) (above n node) k) (cs.length+1) 0 j (by simpa using hj)
  simp only[Nat.zero_add,Nat.sub_zero] at h3 h5 g3 g5
  rw[planAt,h1,planAt,g1]
  simp only[List.map_cons,cmpL]
  rcases Nat.lt_trichotomy l l' with hl|hl|hl
  ·rw[if_pos (by omega)]
  ·subst hl
   rw[if_neg (by omega),if_neg (by omega)]
   exact plan_rises F hn k m (node+1) (lab cs node l) i' j' (by omega) (by omega) (by rw[show 2 ^ n - 2 ^ (node+1)=above n node from rfl];exact g4)
  ·have h6:=sumTo_mono (fun l=>after F (lab cs node l) (above n node) k) (show l'+1≤l by omega)
   rw[sumTo] at h6
   omega
theorem plan_all (F:Nat→Bool) {n:Nat} (hn:n≤64) {k i:Nat} (hi:i<after F [] (2 ^ n - 1) k) :
  (planAt F n k n 0 [] i).length=n∧OkL 0 [] (planAt F n k n 0 [] i)∧(csF 0 [] (planAt F n k n 0 [] i)).length=k∧(∀c∈csF 0 [] (planAt F n k n 0 [] i),F c=true) ∧
   idxV F n k ((planAt F n k n 0 [] i).map fun(l:Nat)=>(l:Int))=.tuple #[wideV i,KI 0]:=by
 obtain⟨h1,h2,h3,h4⟩:=plan_facts F hn k n 0 [] i 0 (by omega) (by simpa using hi)
 have h5:=after_done F (csF 0 [] (planAt F n k n 0 [] i)) k
 rw[h3] at h5
 split at h5
 ·rename_i h
  refine⟨h1,h2,h.1,h.2,?_⟩
  rw[idxV_of (by simpa using h1) h4 h3,Nat.zero_add]
 ·omega
end Go.Id

/-! Counting plans: where a set is a district by its size alone. -/
namespace Go.Id
open Go
end Go.Id

/-! Counting plans of a part: sets of the part's nodes, numbered anew. -/
namespace Go.Id
open Go
end Go.Id

/-! Counting plans: complete graphs, and graphs without edges. -/
namespace Go.Id
open Go
end Go.Id

/-! Counting plans of a part: the induced graph's districts. -/
namespace Go.Id
open Go
end Go.Id

/-! The induced graph is a graph. -/
namespace Go.Id
open Go
end Go.Id

/-! The places of a part's nodes, as a map. -/
namespace Go.Id
open Go
theorem kn_inj {a b:Nat} (h:KN a=KN b):a=b:=by
 have:(a:Int)=(b:Int):=by injection h
 omega
end Go.Id

/-! A plan's districts, as a map. -/
namespace Go.Id
open Go
def csM:Nat→List Nat→MapL
 | _,[] => []
 | s,c :: cs=>(KN s,K64 c) :: csM (s+1) cs
theorem csM_at : ∀(s:Nat) (cs:List Nat) (i:Nat),(csM s cs)[i]?=(cs[i]?).map fun c=>(KN (s+i),K64 c)
 | _,[],i=>by simp[csM]
 | s,c :: cs,0=>by simp[csM]
 | s,c :: cs,i+1=>by
  rw[csM,List.getElem?_cons_succ,csM_at (s+1) cs i,List.getElem?_cons_succ,show s+1+i=s+(i+1) by omega]
theorem csM_key {s:Nat} {cs:List Nat} {e:Value×Value} (h:e∈csM s cs) : ∃i c,e=(KN (s+i),K64 c)∧cs[i]?=some c:=by
 obtain⟨i,hi⟩:=List.mem_iff_getElem?.1 h
 rw[csM_at] at hi
 obtain⟨c,h1,h2⟩:=Option.map_eq_some_iff.1 hi
 exact⟨i,c,h2.symm,h1⟩
theorem csM_app : ∀(s:Nat) (cs:List Nat) (c:Nat),csM s (cs ++ [c])=csM s cs ++ [(KN (s+cs.length),K64 c)]
 | s,[],c=>rfl
 | s,d :: cs,c=>by
  rw[List.cons_append,csM,csM_app (s+1) cs c,csM,List.cons_append,List.length_cons,show s+1+cs.length=s+(cs.length+1) by omega]
theorem csM_set : ∀(s:Nat) (cs:List Nat) (i c:Nat),csM s (cs.set i c)=(csM s cs).set i (KN (s+i),K64 c)
 | s,[],i,c=>by simp[csM]
 | s,d :: cs,0,c=>by simp[csM]
 | s,d :: cs,i+1,c=>by
  rw[List.set_cons_succ,csM,csM_set (s+1) cs i c,csM,List.set_cons_succ,show s+1+i=s+(i+1) by omega]
theorem csM_place : ∀(s:Nat) (cs:List Nat) (l:Nat),place (csM s cs) (KN (s+l))=if l<cs.length then some l else none
 | s,[],l=>by simp[csM,place]
 | s,c :: cs,0=>by simp[csM,place]
 | s,c :: cs,l+1=>by
  rw[csM,place,if_neg (fun h=>by have:=kn_inj h;omega),show s+(l+1)=s+1+l by omega,csM_place (s+1) cs l]
  by_cases h:l<cs.length
  ·rw[if_pos h,if_pos (by simp;omega)];rfl
  ·rw[if_neg h,if_neg (by simp;omega)];rfl
theorem csM_asc (cs:List Nat) (l:Nat):(asc (csM 0 cs) (KN l)).getD (K64 0)=K64 (cs.getD l 0):=by
 have h:=csM_place 0 cs l
 rw[Nat.zero_add] at h
 by_cases hl:l<cs.length
 ·rw[if_pos hl] at h
  obtain⟨v,h1,h2⟩:=place_some h
  rw[h2,Option.getD_some]
  rw[csM_at,List.getElem?_eq_getElem hl] at h1
  simp only[Option.map_some,Option.some.injEq,Prod.mk.injEq] at h1
  rw[←h1.2,List.getD_eq_getElem?_getD,List.getElem?_eq_getElem hl];rfl
 ·rw[if_neg hl] at h
  rw[place_none h,List.getD_eq_getElem?_getD,List.getElem?_eq_none (by omega)];rfl
theorem csM_upd {cs:List Nat} {l:Nat} (hl:l≤cs.length) (node:Nat):upd (csM 0 cs) (KN l) (K64 (cs.getD l 0 ||| 2 ^ node))=csM 0 (lab cs node l):=by
 have h:=csM_place 0 cs l
 rw[Nat.zero_add] at h
 unfold upd lab
 rw[h]
 by_cases h1:l<cs.length
 ·rw[if_pos h1,if_neg (by omega),csM_set,Nat.zero_add]
 ·obtain rfl:l=cs.length:=by omega
  rw[if_neg h1,if_pos rfl,csM_app,Nat.zero_add,List.getD_eq_getElem?_getD,List.getElem?_eq_none (Nat.le_refl _)]
  simp
theorem okL_at : ∀(p:List Nat) (node:Nat) (cs:List Nat),OkL node cs p → ∀(i l:Nat),p[i]?=some l→l≤(csF node cs (p.take i)).length∧csF node cs (p.take (i+1))=lab (csF node cs (p.take i)) (node+i) l
 | [],_,_,_,i,l,hi=>by simp at hi
 | a :: p,node,cs,h,0,l,hi=>by
  simp at hi;subst hi
  exact⟨h.1,by simp[csF]⟩
 | a :: p,node,cs,h,i+1,l,hi=>by
  obtain⟨h1,h2⟩:=okL_at p (node+1) (lab cs node a) h.2 i l (by simpa using hi)
  refine⟨by simpa [csF] using h1,?_⟩
  have e:node+1+i=node+(i+1):=by omega
  rw[List.take_succ_cons,csF,h2,e,List.take_succ_cons,csF]
theorem csF_len (p:List Nat) (node:Nat) (cs:List Nat):(csF node cs p).length≤cs.length+p.length:=by
 induction p generalizing node cs with
 | nil=>simp[csF]
 | cons l p ih =>
  rw[csF,List.length_cons]
  have:=ih (node+1) (lab cs node l)
  rw[lab_len] at this
  split at this<;>omega
theorem csF_lt {n:Nat} : ∀(p:List Nat) (node:Nat) (cs:List Nat),node+p.length≤n→(∀c∈cs,c<2 ^ n) → ∀c∈csF node cs p,c<2 ^ n
 | [],_,_,_,hc=>hc
 | l :: p,node,cs,hn,hc=>csF_lt p (node+1) (lab cs node l) (by simp at hn;omega) (lab_mem (by simp at hn;omega) hc)
end Go.Id

/-! The greater and the lesser of two integers. -/
namespace Go.Id
open Go
end Go.Id

/-! Loops over functions, whose rounds may lay their variable into memory and may end early. -/
namespace Go.Id
open Go
end Go.Id

/-! Weakest preconditions over the ideal machine: appends to slices without room; lengths and parts of slices in regions whose order is open. -/
namespace Go.Id
open Go
end Go.Id

/-! Weakest preconditions over the ideal machine: loops over maps. -/
namespace Go.Id
open Go
def rangeV (P:Program) (h:IH) (t:TypeId):Value→Option (Value×IH)
 | .map (some k)=>match P.underlying t with
  | some (.map _ _)=>(mapOf h k).map fun es=>(ptr (2*h.n) 0,h.new (.iter k es.length [] es.length))
  | _=>none
 | _=>none
def entryV (h:IH):Value→Option Value
 | .pointer (some ⟨b,0,none⟩)=>bif b % 2 == 1 then none else match h.ext.get (b / 2) with
  | some (.iter k _ seen last)=>match mapOf h k,seen.getLast? with
   | some es,some i=>bif es.length == last then (es[i]?).map fun e=>.tuple #[e.1,e.2] else none
   | _,_=>none
  | _=>none
 | _=>none
theorem d_range {P:Program} {fr:Fr} {h:IH} {K:Value→IH→Prop} {u:Nx K} (t:TypeId) (x:Operand):Do (wpOp P (.range t x) fr h) K u=Do (Ex (opd fr x)) (fun m=>Do (Ex (rangeV P h t m)) (fun r=>K r.1 r.2) nx) nx:=by
 show Ex (iop P fr (.range t x) h) _=Ex (opd fr x) fun m=>Ex (rangeV P h t m) _
 simp only[iop]
 cases opd fr x with
 | none=>cases P.underlying t with
  | none=>simp
  | some d=>cases d<;>simp
 | some m =>
  rw[Ex_some]
  congr 1
  unfold rangeV
  cases hu:P.underlying t with
  | none=>cases m with
   | map r=>cases r<;>rfl
   | _=>rfl
  | some d=>cases d<;>(cases m with
   | map r=>cases r<;>rfl
   | _=>rfl)
theorem iop_entry {P:Program} {fr:Fr} {h:IH} (x:Operand):iop P fr (.entry x) h=(opd fr x).bind fun m=>(entryV h m).map (·,h):=by
 simp only[iop]
 cases opd fr x with
 | none=>rfl
 | some m =>
  cases m with
  | pointer a=>cases a with
   | none=>rfl
   | some a =>
    obtain⟨b,o,s⟩:=a
    cases o with
    | succ o=>cases s<;>rfl
    | zero=>cases s with
     | some s=>rfl
     | none =>
      simp only[entryV,Option.bind_some]
      cases hb:(b % 2 == 1) with
      | true=>rfl
      | false =>
       simp only[cond_false]
       cases h.ext.get (b / 2) with
       | none=>rfl
       | some ob=>cases ob with
        | iter k s seen last =>
         simp only
         cases mapOf h k with
         | none=>cases seen.getLast?<;>rfl
         | some es=>cases seen.getLast? with
          | none=>rfl
          | some i=>simp only[cond_eq_ite];split<;>simp<;>rfl
        | _=>rfl
  | _=>rfl
theorem d_entry {P:Program} {fr:Fr} {h:IH} {K:Value→IH→Prop} {u:Nx K} (x:Operand):Do (wpOp P (.entry x) fr h) K u=Do (Ex (opd fr x)) (fun p=>Do (Ex (entryV h p)) (fun v=>K v h) nx) nx:=by
 show Ex (iop P fr (.entry x) h) _=Ex (opd fr x) fun m=>Ex (entryV h m) _
 rw[iop_entry]
 cases opd fr x with
 | none=>simp
 | some m=>simp
theorem rangeV_eq {P:Program} {h:IH} {t kt et:TypeId} {k:Nat} {es:List (Value×Value)} (hu:P.underlying t=some (.map kt et)) (hk:mapOf h k=some es):rangeV P h t (.map (some k))=some (ptr (2*h.n) 0,h.new (.iter k es.length [] es.length)):=by
 simp[rangeV,hu,hk]
theorem entryV_eq {h:IH} {kb k i:Nat} {es:List (Value×Value)} {s:List Nat} {x:Value×Value} (hg:h.ext.get kb=some (.iter k es.length (s ++ [i]) es.length)) (hk:mapOf h k=some es) (hx:es[i]?=some x):entryV h (ptr (2*kb) 0)=some (.tuple #[x.1,x.2]):=by
 have h2:2*kb / 2=kb:=by omega
 simp[entryV,ptr,h2,hg,hk,hx]
theorem uniform1 {p:Nat→Nat→Prop} : ∀(s:List Nat),(∀a∈s,∃N,∀n,N≤n→p n a) → ∃N,∀n,N≤n → ∀a∈s,p n a
 | [],_=>⟨0,fun _ _ a ha=>by cases ha⟩
 | b :: s,h=>by
  obtain⟨N,hN⟩:=h b (by simp)
  obtain⟨M,hM⟩:=uniform1 s (fun a ha=>h a (by simp[ha]))
  refine⟨max N M,fun n hn a ha=>?_⟩
  rcases List.mem_cons.1 ha with rfl|ha
  ·exact hN n (by omega)
  ·exact hM n (by omega) a ha
theorem uniform {p:Nat→List Nat→Prop} : ∀(q:Nat) (s:List Nat),s.length=q → ∀{p:Nat→List Nat→Prop},(∀l:List Nat,l.Perm s → ∃N,∀n,N≤n→p n l) → ∃N,∀n,N≤n → ∀l:List Nat,l.Perm s→p n l
 | 0,s,hq,p,h=>by
  obtain rfl:s = []:=List.length_eq_zero_iff.1 hq
  obtain⟨N,hN⟩:=h [] (List.Perm.refl _)
  refine⟨N,fun n hn l hl=>?_⟩
  obtain rfl:=List.Perm.eq_nil hl
  exact hN n hn
 | q+1,s,hq,p,h=>by
  have h1 : ∀a∈s,∃N,∀n,N≤n → ∀l:List Nat,l.Perm (s.erase a)→p n (a :: l):=fun a ha =>
   uniform q (s.erase a) (by rw[List.length_erase_of_mem ha,hq];rfl) (p:=fun n l=>p n (a :: l)) (fun l hl=>h (a :: l) ((hl.cons a).trans (List.perm_cons_erase ha).symm))
  obtain⟨N,hN⟩:=uniform1 (p:=fun n a => ∀l:List Nat,l.Perm (s.erase a)→p n (a :: l)) s h1
  refine⟨N,fun n hn l hl=>?_⟩
  cases l with
  | nil=>have:=hl.length_eq;simp[hq] at this
  | cons a l =>
   have ha:a∈s:=hl.subset (by simp)
   exact hN n hn a ha l (List.Perm.cons_inv (hl.trans (List.perm_cons_erase ha)))
theorem fget_filterMap_of {g:Nat→Option (Nat×Value)} (hg : ∀s x,g s=some x→x.1=s) {t:Nat} {v:Value} (ht:g t=some (t,v)) : ∀(l:List Nat),t∈l→fget (l.filterMap g) t=some v
 | [],h=>by cases h
 | a :: l,h=>by
  cases ha:g a with
  | none =>
   rw[List.filterMap_cons_none ha]
   refine fget_filterMap_of hg ht l ?_
   rcases List.mem_cons.1 h with rfl|h
   ·rw[ht] at ha;cases ha
   ·exact h
  | some x =>
   obtain⟨s,u⟩:=x
   obtain rfl:s=a:=hg a _ ha
   rw[List.filterMap_cons_some ha]
   simp only[fget,cond_eq_ite,beq_iff_eq]
   by_cases e:s=t
   ·subst e;rw[ht] at ha;cases ha;simp
   ·rw[if_neg e]
    rcases List.mem_cons.1 h with rfl|h
    ·exact absurd rfl e
    ·exact fget_filterMap_of hg ht l h
theorem common_of {nt n:Nat} {R:List Nat→Out} {e:IExit} {h':IH} {T:Fr→Prop} (hall : ∀l:List Nat,l.Perm (List.range n) → ∃fr,R l=some (e,fr,h')∧T fr) :
  ∃F,common nt n R=some (e,F,h') ∧ ∀t v,t<nt→(∀fr,T fr→fget fr t=some v)→fget F t=some v:=by
 have c : ∃o:IExit×IH,∀l:List Nat,l.Perm (List.range n) → ∃fr,R l=some (o.1,fr,o.2):=⟨(e,h'),fun l hl=>let ⟨fr,a,_⟩:=hall l hl;⟨fr,a⟩⟩
 have hc:c.choose=(e,h'):=by
  obtain⟨fr,a,_⟩:=hall _ (List.Perm.refl _)
  obtain⟨fr2,b⟩:=c.choose_spec _ (List.Perm.refl _)
  rw[a] at b
  cases hx:c.choose with
  | mk x y=>rw[hx] at b;cases b;rfl
 unfold common
 rw[dif_pos c]
 refine⟨_,by rw[hc],fun t v ht hv=>?_⟩
 refine fget_filterMap_of ?_ ?_ _ (List.mem_range.2 ht)
 ·intro s x hx
  split at hx
  ·cases hx;rfl
  ·cases hx
 ·have d : ∃v,∀l:List Nat,l.Perm (List.range n) → ∀e fr h,R l=some (e,fr,h)→fget fr t=some v:=⟨v,fun l hl e1 fr1 h1 hx=>by
   obtain⟨fr2,a,b⟩:=hall l hl
   rw[a] at hx;cases hx
   exact hv _ b⟩
  rw[dif_pos d]
  obtain⟨fr,a,b⟩:=hall _ (List.Perm.refl _)
  have h1:=d.choose_spec _ (List.Perm.refl _) _ _ _ a
  rw[hv fr b] at h1
  rw[←Option.some.inj h1]
theorem mapLoop_tm {P:Program} {fn:FuncId} {nt:Nat} {rd:Option Nat} {b:Code} {id it nx more:Nat} {rest:Code} (hp:headOf b=some (id,it,nx,more,rest)) {fr:Fr} {h:IH} {kb k:Nat} {es:List (Value×Value)} {q0:Nat} {q1:List Nat} {q2:Nat}
  (f:fget fr it=some (ptr (2*kb) 0)) (g:h.ext.get kb=some (.iter k q0 q1 q2)) (hk:mapOf h k=some es) {e:IExit} {h':IH} {T:Fr→Prop}
  (hall : ∀l:List Nat,l.Perm (List.range es.length) → ∃frl hl,(∃N,∀n,N≤n→mapRounds (evC (E0 P) (callV (E0 P) n) fn nt rd n rest) (fun fr=>fr) nt it nx more kb k es l [] fr h=some (e,frl,hl)) ∧
   (∃k0 a0 b0 c0,hl.ext.get kb=some (.iter k0 a0 b0 c0)) ∧ { hl with ext:=hl.ext.set kb .dead }=h'∧T frl)
  {Q:IExit→Fr→IH→Prop} (hQ : ∀F,(∀t v,t<nt→(∀fr,T fr→fget fr t=some v)→fget F t=some v)→Q e F h'):WLoop P fn nt rd b fr h Q:=by
 have h0:2*kb / 2=kb:=by omega
 have hev : ∀n,evC (E0 P) (callV (E0 P) n) fn nt rd n (.loop b) fr h=common nt es.length fun l=>open Classical in if l.Perm (List.range es.length) then killIter kb (mapRounds (evC (E0 P) (callV (E0 P) n) fn nt rd n rest) (fun fr=>fr) nt it nx more kb k es l [] fr h) else none:=by
  intro n
  rw[evC_loop,hp]
  simp only
  unfold mapLoop
  have hh:headFr (E0 P) fn id=fun fr=>fr:=by funext x;rfl
  rw[hh]
  simp only[f,ptr]
  rw[h0,g]
  simp only[hk]
  simp
 have hone : ∀l:List Nat,l.Perm (List.range es.length) → ∃o:Out,(∃fr1,o=some (e,fr1,h')∧T fr1) ∧ ∃N,∀n,N≤n→killIter kb (mapRounds (evC (E0 P) (callV (E0 P) n) fn nt rd n rest) (fun fr=>fr) nt it nx more kb k es l [] fr h)=o:=by
  intro l hl
  obtain⟨frl,hl1,⟨N,hN⟩,⟨k0,a0,b0,c0,hit⟩,hh,ht⟩:=hall l hl
  refine⟨some (e,frl,h'),⟨frl,rfl,ht⟩,N,fun n hn=>?_⟩
  rw[hN n hn]
  simp[killIter,hit,hh]
 obtain⟨R,hR⟩:=Classical.axiomOfChoice (r:=fun(l:List Nat) (o:Out)=>l.Perm (List.range es.length)→(∃fr1,o=some (e,fr1,h')∧T fr1) ∧ ∃N,∀n,N≤n→killIter kb (mapRounds (evC (E0 P) (callV (E0 P) n) fn nt rd n rest) (fun fr=>fr) nt it nx more kb k es l [] fr h)=o) (fun l=>by
  by_cases hl:l.Perm (List.range es.length)
  ·obtain⟨o,ho⟩:=hone l hl;exact⟨o,fun _=>ho⟩
  ·exact⟨none,fun h=>absurd h hl⟩)
 obtain⟨N,hN⟩:=uniform _ (List.range es.length) rfl (p:=fun n l=>killIter kb (mapRounds (evC (E0 P) (callV (E0 P) n) fn nt rd n rest) (fun fr=>fr) nt it nx more kb k es l [] fr h)=R l) (fun l hl=>(hR l hl).2)
 obtain⟨F,hF,hT⟩:=common_of (nt:=nt) (n:=es.length) (R:=fun l=>open Classical in if l.Perm (List.range es.length) then R l else none) (e:=e) (h':=h') (T:=T) (fun l hl=>by
  obtain⟨fr1,a,b⟩:=(hR l hl).1
  exact⟨fr1,by rw[if_pos hl,a],b⟩)
 refine⟨(e,F,h'),⟨N,fun n hn=>?_⟩,hQ F hT⟩
 show evC (E0 P) (callV (E0 P) n) fn nt rd n (.loop b) fr h=_
 rw[hev n,←hF]
 congr 1
 funext l
 split
 ·rename_i hl;exact hN n hn l hl
 ·rfl
theorem Tr.set_get {α:Type} : ∀(t:Tr α) (n:Nat) (x:α),t.get n=some x→t.set n x=t
 | .leaf,n,x,h=>by simp[Tr.get] at h
 | .node l v r,n,x,h=>by
  simp only[Tr.get,cond_eq_ite] at h
  simp only[Tr.set,cond_eq_ite]
  split
  ·rename_i h0;rw[if_pos h0] at h;rw[h]
  ·rename_i h0
   rw[if_neg h0] at h
   split
   ·rename_i h1;rw[if_pos h1] at h;rw[Tr.set_get l _ x h]
   ·rename_i h1;rw[if_neg h1] at h;rw[Tr.set_get r _ x h]
theorem Tr.set_set {α:Type} : ∀(t:Tr α) (n:Nat) (x y z:α),t.get n=some z→(t.set n x).set n y=t.set n y
 | .leaf,n,x,y,z,h=>by simp[Tr.get] at h
 | .node l v r,n,x,y,z,h=>by
  simp only[Tr.get,cond_eq_ite] at h
  by_cases h0:(n == 0)=true
  ·simp[Tr.set,h0]
  ·rw[if_neg h0] at h
   by_cases h1:(n % 2 == 1)=true
   ·rw[if_pos h1] at h
    simp[Tr.set,h0,h1,Tr.set_set l _ x y z h]
   ·rw[if_neg h1] at h
    simp[Tr.set,h0,h1,Tr.set_set r _ x y z h]
def atS (h:IH) (kb k:Nat) (es:List (Value×Value)) (s:List Nat):IH:={ h with ext:=h.ext.set kb (.iter k es.length s es.length) }
theorem atS_get (h:IH) (kb k:Nat) (es:List (Value×Value)) (s:List Nat) (j:Nat):(atS h kb k es s).ext.get j=if j=kb then some (.iter k es.length s es.length) else h.ext.get j:=Tr.get_set _ _ _ _
def roundK (I:Fr→Prop) (h1:IH) (e:IExit) (fr:Fr) (h:IH):Prop:=match e with
 | .normal=>h=h1∧I fr
 | _=>False
def overK (e0:IExit) (I:Fr→Prop) (h1:IH) (e:IExit) (fr:Fr) (h:IH):Prop:=e=e0∧h=h1∧I fr
theorem roundK_normal (I:Fr→Prop) (h1:IH) (fr:Fr) (h:IH):roundK I h1 .normal fr h=(h=h1∧I fr):=rfl
theorem overK_eq (e0:IExit) (I:Fr→Prop) (h1:IH) (e:IExit) (fr:Fr) (h:IH):overK e0 I h1 e fr h=(e=e0∧h=h1∧I fr):=rfl
theorem mapLoopA {P:Program} {fn:FuncId} {nt:Nat} {rd:Option Nat} {b:Code} {Q:IExit→Fr→IH→Prop} (I:Fr→Prop) (e:IExit) {id it nx more:Nat} {rest:Code} {fr:Fr} {h:IH} {kb k:Nat} {es:List (Value×Value)}
  (g:h.ext.get kb=some (.iter k es.length [] es.length)) (hk:mapOf h k=some es) (i0:I fr) (hI : ∀fr,I fr→fget fr it=some (ptr (2*kb) 0))
  (step : ∀(i:Nat) (x:Value×Value) (fr:Fr) (s:List Nat),es[i]?=some x→I fr→Do (wpC P fn nt rd rest ((more,.bool true) :: (nx,.tuple #[.bool true,x.1,x.2]) :: fr) (atS h kb k es (s ++ [i]))) (roundK I (atS h kb k es (s ++ [i]))) Id.nx)
  (over : ∀(fr:Fr) (s:List Nat),I fr→Do (wpC P fn nt rd rest ((more,.bool false) :: (nx,.tuple #[.bool false]) :: fr) (atS h kb k es s)) (overK e I (atS h kb k es s)) Id.nx)
  (hQ : ∀F,(∀t v,t<nt→(∀fr,I fr→fget fr t=some v)→fget F t=some v)→Q e F { h with ext:=h.ext.set kb .dead })
  (hp:headOf b=some (id,it,nx,more,rest):=by rfl) (hnx:nx<nt:=by decide) (hmo:more<nt:=by decide) (hen:e≠.normal:=by simp):Do (WLoop P fn nt rd b fr h) Q Id.nx:=by
 have hkk:k / 2≠kb:=by
  intro hc
  unfold mapOf at hk
  rw[hc,g] at hk
  simp only[cond_eq_ite] at hk
  split at hk<;>cases hk
 have hmap : ∀s,mapOf (atS h kb k es s) k=some es:=by
  intro s
  unfold mapOf at hk ⊢
  rw[atS_get,if_neg hkk]
  exact hk
 have h00:atS h kb k es []=h:=by
  unfold atS
  rw[Tr.set_get _ _ _ g]
 have hss : ∀s s',{ atS h kb k es s with ext:=(atS h kb k es s).ext.set kb (.iter k es.length s' es.length) }=atS h kb k es s':=by
  intro s s'
  unfold atS
  simp only
  rw[Tr.set_set _ _ _ _ _ g]
 have hput : ∀(v:Value) (bb:Bool) (fr:Fr),putNext nt nx more v bb fr=some ((more,.bool bb) :: (nx,v) :: fr):=by
  intro v bb fr
  have h1:Nat.blt nx nt=true:=by rw[Nat.blt,Nat.ble_eq];exact hnx
  have h2:Nat.blt more nt=true:=by rw[Nat.blt,Nat.ble_eq];exact hmo
  simp[putNext,fput,h1,h2]
 have rounds : ∀(l s:List Nat) (fr:Fr),(∀i∈l,i<es.length)→I fr → ∃frl,(∃N,∀n,N≤n→mapRounds (evC (E0 P) (callV (E0 P) n) fn nt rd n rest) (fun fr=>fr) nt it nx more kb k es l s fr (atS h kb k es s)=some (e,frl,atS h kb k es (s ++ l)))∧I frl:=by
  intro l
  induction l with
  | nil =>
   intro s fr _ hi
   have hok:iterOK fr (atS h kb k es s) it kb k es s:=⟨hI fr hi,by rw[atS_get,if_pos rfl],hmap s⟩
   obtain⟨⟨e1,fr1,h1⟩,⟨N,hN⟩,rfl,hh,hi1⟩:=wpC_sound (over fr s hi)
   simp only at hh hi1 hN hen
   refine⟨fr1,⟨N,fun n hn=>?_⟩,hi1⟩
   rw[mapRounds,if_pos hok,hput]
   simp only[hN n hn,List.append_nil]
   cases e1 with
   | normal=>exact absurd rfl hen
   | exit j=>simp[hh]
   | ret=>simp[hh]
  | cons i l ihl =>
   intro s fr hl hi
   have hok:iterOK fr (atS h kb k es s) it kb k es s:=⟨hI fr hi,by rw[atS_get,if_pos rfl],hmap s⟩
   obtain⟨x,hx⟩ : ∃x,es[i]?=some x:=⟨_,List.getElem?_eq_getElem (hl i (by simp))⟩
   obtain⟨⟨e1,fr1,h1⟩,⟨N,hN⟩,hr⟩:=wpC_sound (step i x fr s hx hi)
   cases e1 with
   | exit j=>exact hr.elim
   | ret=>exact hr.elim
   | normal =>
    obtain⟨hh,hi1⟩:=hr
    simp only at hh hi1 hN
    subst hh
    obtain⟨frl,⟨M,hM⟩,hi2⟩:=ihl (s ++ [i]) fr1 (fun j hj=>hl j (by simp[hj])) hi1
    refine⟨frl,⟨max N M,fun n hn=>?_⟩,hi2⟩
    rw[mapRounds,if_pos hok,hx]
    simp only[hput,hss,hN n (by omega)]
    rw[hM n (by omega),List.append_assoc]
    rfl
 refine mapLoop_tm (T:=I) hp (hI fr i0) g hk (e:=e) (h':={ h with ext:=h.ext.set kb .dead }) (fun l hl=>?_) hQ
 obtain⟨frl,⟨N,hN⟩,hi1⟩:=rounds l [] fr (fun i hi=>by simpa using hl.subset hi) i0
 rw[h00] at hN
 refine⟨frl,atS h kb k es ([] ++ l),⟨N,hN⟩,⟨k,_,_,_,by rw[atS_get,if_pos rfl]⟩,?_,hi1⟩
 unfold atS
 simp only
 rw[Tr.set_set _ _ _ _ _ g]
end Go.Id

/-! Contracts: the districts of a plan as a map; lists that rise; plans compared; lists that contain. -/
namespace Go.Id
open Go
theorem compareP_ok {h:IH} {v w:Value} {a b:List Int} (ha:SlNow h 1 v a.length (a.map KI)) (hb:SlNow h 1 w b.length (b.map KI)) (hl:a.length=b.length) (la:a.length≤1000000000) :
  WV Proofs.Tryd.prog (.func (.func 21) #[] #[]) [v,w] h fun r h'=>h'=h∧r=KI (cmpL a b):=by
 refine enter (nt:=36) (rs:=[.tmp 4]) Proofs.Tryd.func21 rfl rfl rfl (by simp) ?_
 simp -dsimp (disch:=omega) only[wpS,Nat.reduceEqDiff,Nat.reduceAdd,ha.len sl44]
 refine loop (fun m fr h1=>h1=h ∧ ∃i:Nat,i+m=a.length∧fget fr 0=some v∧fget fr 1=some w∧fget fr 9=some v∧fget fr 10=some (KI a.length)∧fget fr 11=some (KI i)∧cmpL a b=cmpL (a.drop i) (b.drop i)) a.length ⟨rfl,0,by simp,by simp,by simp,by simp,by simp,by simp,by simp⟩ ?_
 rintro m fr h1 ⟨rfl,i,him,f0,f1,f9,f10,f11,hz⟩
 simp -dsimp (disch:=omega) only[wpS,f10,f11]
 refine bq_intro ?_ ?_<;>intro hc2<;>simp only[decide_eq_true_eq,decide_eq_false_iff_not] at hc2
 ·have hi:i<a.length:=by omega
  obtain⟨x,hx⟩ : ∃x,a[i]?=some x:=⟨a[i],List.getElem?_eq_getElem hi⟩
  obtain⟨y,hy⟩ : ∃y,b[i]?=some y:=⟨b[i]'(by omega),List.getElem?_eq_getElem (by omega)⟩
  simp -dsimp (disch:=omega) only[wpS,wpT,Nat.reduceEqDiff,f1,f9,f11,hb.len sl44,ha.idx es44 hi,ha.ld (P:=Proofs.Tryd.prog) (t:=3) (c:=i) (by simpa using hi) ag3,hb.idx es44 (show i<b.length by omega),hb.ld (P:=Proofs.Tryd.prog) (t:=3) (c:=i) (by simp;omega) ag3,List.getElem?_map,hx,hy]
  refine call (cmp_i x y) ?_
  rintro _ _ ⟨rfl,rfl⟩
  have ea:a.drop i=x :: a.drop (i+1):=by
   have h1:=List.getElem?_eq_some_iff.1 hx
   rw[←h1.2,List.getElem_cons_drop_succ_eq_drop]
  have eb:b.drop i=y :: b.drop (i+1):=by
   have h1:=List.getElem?_eq_some_iff.1 hy
   rw[←h1.2,List.getElem_cons_drop_succ_eq_drop]
  rw[ea,eb,cmpL] at hz
  by_cases c1:x<y
  ·rw[if_pos c1] at hz
   simp -dsimp (disch:=omega) only[wpS,wpT,Nat.reduceEqDiff,if_pos c1]
   rw[hz]
  ·by_cases c2:y<x
   ·rw[if_neg c1,if_pos c2] at hz
    simp -dsimp (disch:=omega) only[wpS,wpT,Nat.reduceEqDiff,if_pos c2,if_neg c1]
    rw[hz]
   ·rw[if_neg c1,if_neg c2] at hz
    simp -dsimp (disch:=omega) only[wpS,wpT,Nat.reduceEqDiff,if_neg c2,if_neg c1,f11]
    exact⟨m - 1,by omega,rfl,i+1,by omega,by simp[f0],by simp[f1],by simp[f9],by simp[f10],by simp,hz⟩
 ·simp -dsimp (disch:=omega) only[wpS,wpT,Nat.reduceEqDiff,f0,f1,ha.len sl44,hb.len sl44]
  rw[hz,List.drop_of_length_le (by omega),List.drop_of_length_le (by omega)];rfl
theorem mapTd:MapT Proofs.Tryd.prog 45 3 (K64 0):=⟨47,u45,by kernel_rfl,rfl⟩
theorem csM_int {cs:List Nat} : ∀e∈csM 0 cs,∃a,e.1=.int .i64 a:=fun e he=>by obtain⟨i,c,rfl,_⟩:=csM_key he;exact⟨_,rfl⟩
theorem mdist_ok {h:IH} {v:Value} {p:List Nat} (hv:SlOf h 1 v p.length (i64s p)) (hp:OkL 0 [] p) (hl:p.length≤64) :
  WV Proofs.Tryd.prog (.func (.func 12) #[] #[]) [v] h fun r h'=>Ext h h'∧r=.map (some (2*h.n))∧h.n<h'.n∧h'.ext.get h.n=some (.map (csM 0 (csF 0 [] p))):=by
 have H0:Ext h (h.new (.map [])):=(Ext.refl h).new _
 have hv0:=hv.keep H0.keep
 refine enter (nt:=22) (rs:=[.tmp 2]) Proofs.Tryd.func12 rfl rfl rfl (by simp) ?_
 simp -dsimp (maxSteps:=1000000) (disch:=first|omega|(simp only[new_n,put_n];omega)|decide +kernel|(repeat first|rw[new_n]|rw[put_n])) only[wpS,Nat.reduceEqDiff,hv0.len sl44]
 refine loop (fun m fr g => ∃i:Nat,i+m=p.length∧Ext h g∧h.n<g.n∧g.ext.get h.n=some (.map (csM 0 (csF 0 [] (p.take i))))∧fget fr 3=some (.map (some (2*h.n)))∧fget fr 7=some v∧fget fr 8=some (KN p.length)∧fget fr 9=some (KN i)) p.length
  ⟨0,by omega,H0,by simp,by simp only[List.take_zero,csF,csM];simp (disch:=first|omega|(simp only[new_n,put_n];omega)|(repeat first|rw[new_n]|rw[put_n])) only[get_new_same],by simp,by simp,by simp,by simp⟩ ?_
 rintro m fr g ⟨i,him,E,gn,gm,f3,f7,f8,f9⟩
 simp -dsimp (maxSteps:=1000000) (disch:=first|omega|(simp only[new_n,put_n];omega)|decide +kernel|(repeat first|rw[new_n]|rw[put_n])) only[wpS,f8,f9]
 refine bq_intro ?_ ?_<;>intro hc<;>simp only[decide_eq_true_eq,decide_eq_false_iff_not] at hc
 ·have hi:i<p.length:=by omega
  obtain⟨l,hpl⟩ : ∃l,p[i]?=some l:=⟨_,List.getElem?_eq_getElem hi⟩
  obtain⟨h1,h2⟩:=okL_at p 0 [] hp i l hpl
  rw[Nat.zero_add] at h2
  have ld:=hv.ld E.keep (P:=Proofs.Tryd.prog) (t:=3) (c:=i) (by rw[i64s_len];exact hi) ag3
  rw[show(i64s p)[i]?=some (KI (l:Int)) by rw[i64s,List.getElem?_map,hpl];rfl] at ld
  have lk:=lookup_eq1 mapTd (keyT_int u3) gm (k:=KN l) ⟨_,rfl⟩ csM_int
  rw[csM_asc] at lk
  have hu:=mapUpdate_eq mapTd (keyT_int u3) gm (k:=KN l) ⟨_,rfl⟩ csM_int (K64 ((csF 0 [] (p.take i)).getD l 0 ||| 2 ^ i))
  rw[csM_upd h1,←h2] at hu
  have hcl : ∀c∈csF 0 [] (p.take i),c<2 ^ 64:=csF_lt (n:=64) (p.take i) 0 [] (by rw[List.length_take];omega) (fun c hc=>by cases hc)
  have hget:(csF 0 [] (p.take i)).getD l 0<18446744073709551616:=by
   rw[List.getD_eq_getElem?_getD]
   cases hx:(csF 0 [] (p.take i))[l]? with
   | none=>simp
   | some c=>exact hcl c (List.mem_of_getElem? hx)
  have hpw:2 ^ i<18446744073709551616:=Nat.pow_lt_pow_right (n:=64) (by omega) (by omega)
  generalize hd:(csF 0 [] (p.take i)).getD l 0=d at *
  generalize hw:2 ^ i=w at *
  simp -dsimp (maxSteps:=1000000) (disch:=first|omega|(simp only[new_n,put_n];omega)|decide +kernel|(repeat first|rw[new_n]|rw[put_n])) only[wpS,wpT,Nat.reduceEqDiff,f3,f7,f9,hv.idx es44 hi,ld,lk,hw,hu]
  exact⟨m - 1,by omega,i+1,by omega,E.put (by omega) _,by simpa using gn,get_put_same _ _ rfl,by simp[f3],by simp[f7],by simp[f8],by simp⟩
 ·obtain rfl:i=p.length:=by omega
  rw[List.take_length] at gm
  simp -dsimp (maxSteps:=1000000) (disch:=first|omega|(simp only[new_n,put_n];omega)|decide +kernel|(repeat first|rw[new_n]|rw[put_n])) only[wpS,wpT,Nat.reduceEqDiff,f3]
  exact⟨E,gn,gm⟩
theorem issorted_ok {h:IH} {v:Value} {l:List Nat} (hv:SlOf h 1 v l.length (l.map fun s=>K64 s)) (hl:Rises l) (hlen:l.length≤1000000) :
  WV Proofs.Tryd.prog (.func (.func 20) #[] #[]) [v] h fun r h'=>h'=h∧r=.bool true:=by
 have hv:=hv.now
 refine enter (nt:=21) (rs:=[.tmp 2]) Proofs.Tryd.func20 rfl rfl rfl (by simp) ?_
 simp -dsimp (maxSteps:=1000000) (disch:=first|omega|(simp only[new_n,put_n];omega)|decide +kernel|(repeat first|rw[new_n]|rw[put_n])) only[wpS,wpT,Nat.reduceEqDiff,hv.len sl38]
 refine loop (fun m fr g=>g=h ∧ ∃i:Int,i<l.length ∧ -1≤i∧i.toNat=m∧fget fr 0=some v∧fget fr 3=some (KI i)) (l.length - 1)
  ⟨rfl,(l.length:Int) - 1,by omega,by omega,by omega,by simp,by simp⟩ ?_
 rintro m fr g ⟨rfl,i,hi,hi2,him,f0,f3⟩
 simp -dsimp (maxSteps:=1000000) (disch:=first|omega|(simp only[new_n,put_n];omega)|decide +kernel|(repeat first|rw[new_n]|rw[put_n])) only[wpS,wpT,Nat.reduceEqDiff,f3]
 refine bq_intro ?_ ?_<;>intro hc<;>simp only[decide_eq_true_eq,decide_eq_false_iff_not] at hc
 ·obtain⟨j,rfl⟩ : ∃j:Nat,i=((j+1:Nat):Int):=⟨i.toNat - 1,by omega⟩
  have e1:((j+1:Nat):Int) - 1=(j:Int):=by omega
  have hj:j+1<l.length:=by omega
  obtain⟨x,hx⟩ : ∃x,l[j+1]?=some x:=⟨_,List.getElem?_eq_getElem hj⟩
  obtain⟨y,hy⟩ : ∃y,l[j]?=some y:=⟨_,List.getElem?_eq_getElem (by omega)⟩
  have hxy:y<x:=by
   obtain⟨ha1,ha2⟩:=List.getElem?_eq_some_iff.1 hy
   obtain⟨hb1,hb2⟩:=List.getElem?_eq_some_iff.1 hx
   have:=(List.pairwise_iff_getElem.1 hl) j (j+1) ha1 hb1 (by omega)
   rw[ha2,hb2] at this;exact this
  have i1:=hv.idx (P:=Proofs.Tryd.prog) es38 (k:=.i64) (j:=j+1) hj
  have i2:=hv.idx (P:=Proofs.Tryd.prog) es38 (k:=.i64) (j:=j) (by omega)
  have l1:=hv.ld (P:=Proofs.Tryd.prog) (t:=47) (c:=j+1) (by simpa using hj) ag47
  have l2:=hv.ld (P:=Proofs.Tryd.prog) (t:=47) (c:=j) (by simp;omega) ag47
  rw[Nat.mul_one] at i1 i2
  rw[List.getElem?_map,hx] at l1
  rw[List.getElem?_map,hy] at l2
  simp only[Option.map_some] at l1 l2
  simp -dsimp (maxSteps:=1000000) (disch:=first|omega|(simp only[new_n,put_n];omega)|decide +kernel|(repeat first|rw[new_n]|rw[put_n])) only[wpS,wpT,Nat.reduceEqDiff,f0,f3,e1,i1,i2,l1,l2]
  refine call (cless_ok x y) ?_
  rintro _ _ ⟨rfl,rfl⟩
  have hn:decide (x<y)=false:=by simp;omega
  simp -dsimp (maxSteps:=1000000) (disch:=first|omega|(simp only[new_n,put_n];omega)|decide +kernel|(repeat first|rw[new_n]|rw[put_n])) only[wpS,wpT,Nat.reduceEqDiff,hn,f3,e1]
  exact⟨j,by omega,rfl,j,by omega,by omega,by omega,by simp[f0],by simp⟩
 ·simp -dsimp (maxSteps:=1000000) (disch:=first|omega|(simp only[new_n,put_n];omega)|decide +kernel|(repeat first|rw[new_n]|rw[put_n])) only[wpS,wpT]
end Go.Id
