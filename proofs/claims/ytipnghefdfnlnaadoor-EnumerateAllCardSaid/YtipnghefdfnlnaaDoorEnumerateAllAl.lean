/-
  Contracts: the examples' parts: path, cycle, ones; two lists of plans compared. Contracts: counts, lists; the search of a number in a rising list. Counting plans: the districts of a given graph, computed. Plans by number: their labels, classes and places; they rise. Counting plans: where a set is a district by its size alone. Counting plans: complete graphs, and graphs without edges. All plans by trying all labels. Counting plans of a part: sets of the part's nodes, numbered anew. Counting plans of a part: the induced graph's districts. The induced graph is a graph. The places of a part's nodes, as a map. A plan's districts, as a map. The greater and the lesser of two integers. Loops over functions, whose rounds may lay their variable into memory and may end early. Weakest preconditions over the ideal machine: appends to slices without room; lengths and parts of slices in regions whose order is open. Weakest preconditions over the ideal machine: loops over maps. Weakest preconditions over the ideal machine: two lists that grow side by side.
-/
import Derived.Test.YtipnghefdfnlnaaDoorEnumerateAllAk
import Derived.Test.YtipnghefdfnlnaaDoorEnumerateAllAj
import Derived.Test.YtipnghefdfnlnaaDoorEnumerateAllAh
set_option linter.unusedVariables false
set_option linter.unusedSimpArgs false
set_option linter.defProp false
set_option linter.deprecated false
/-! Contracts: the examples' parts: path, cycle, ones; two lists of plans compared. -/
namespace Go.Id
open Go
theorem path_ok {h:IH}:WV Proofs.Tryd.prog (.func (.func 38) #[] #[]) [] h fun r h'=>Ext h h' ∧ ∃v,r=.agg #[KI ((4:Nat):Int),v]∧SlOf h' 2 v 3 (eCells (castE [(0,1),(1,2),(2,3)])):=by
 refine enter (nt:=6) (rs:=[.cell 0 32]) Proofs.Tryd.func38 rfl rfl rfl (by simp) ?_
 simp -dsimp (maxSteps:=1000000) (disch:=first|omega|(simp only[new_n,put_n];omega)|decide +kernel|(repeat first|rw[new_n]|rw[put_n])) only[wpS,wpT,Nat.reduceEqDiff,Nat.reduceLeDiff,Nat.reduceAdd,Nat.reduceMul,zc32,bv54,pl54_0,pl54_1,bs30,bv32,pl32_0,pl32_1,st32,ld32]
 refine⟨(((Ext.refl h).new _).new _).put (by omega) _,_,rfl,sl_block (k:=h.n+1) (f:=none) ?_ (by simp only[new_n,put_n];omega) (by decide) rfl (by decide) (by decide)⟩
 simp (disch:=first|omega|(simp only[new_n,put_n];omega)|(repeat first|rw[new_n]|rw[put_n])) only[get_new_same,get_put_old]
 rfl
theorem cycle_ok {h:IH}:WV Proofs.Tryd.prog (.func (.func 39) #[] #[]) [] h fun r h'=>Ext h h' ∧ ∃v,r=.agg #[KI ((4:Nat):Int),v]∧SlOf h' 2 v 4 (eCells (castE [(0,1),(0,3),(1,2),(2,3)])):=by
 refine enter (nt:=7) (rs:=[.cell 0 32]) Proofs.Tryd.func39 rfl rfl rfl (by simp) ?_
 simp -dsimp (maxSteps:=1000000) (disch:=first|omega|(simp only[new_n,put_n];omega)|decide +kernel|(repeat first|rw[new_n]|rw[put_n])) only[wpS,wpT,Nat.reduceEqDiff,Nat.reduceLeDiff,Nat.reduceAdd,Nat.reduceMul,zc32,bv54,pl54_0,pl54_1,bs30,bv32,pl32_0,pl32_1,st32,ld32]
 refine⟨(((Ext.refl h).new _).new _).put (by omega) _,_,rfl,sl_block (k:=h.n+1) (f:=none) ?_ (by simp only[new_n,put_n];omega) (by decide) rfl (by decide) (by decide)⟩
 simp (disch:=first|omega|(simp only[new_n,put_n];omega)|(repeat first|rw[new_n]|rw[put_n])) only[get_new_same,get_put_old]
 rfl
theorem ones_ok {h:IH} (n:Nat) (lo hi d:Int) (hn:n≤1000):WV Proofs.Tryd.prog (.func (.func 40) #[] #[]) [KI n,KI lo,KI hi,KI d] h fun r h'=>Ext h h' ∧ ∃w,r=.agg #[w,KI lo,KI hi,KI d]∧SlOf h' 1 w n (List.replicate n (KI 1)):=by
 refine enter (nt:=16) (rs:=[.cell 8 35]) Proofs.Tryd.func40 rfl rfl rfl (by simp) ?_
 simp -dsimp (disch:=omega) only[wpS,wpT,Nat.reduceEqDiff,Nat.reduceLeDiff,Nat.reduceAdd,zc35,bs33]
 have e0 : ∀o1 o2,Ext h ((h.new o1).new o2):=fun o1 o2=>((Ext.refl h).new _).new _
 refine call (repeat_ok 1 (sl_block (k:=h.n+1) (f:=none) (cs:=[KI 1]) ?_ (by simp only[new_n];omega) (by decide) rfl (by decide) (by decide)) n (by omega)) ?_
 ·simp (disch:=first|omega|(simp only[new_n,put_n];omega)|(repeat first|rw[new_n]|rw[put_n])) only[get_new_same]
 rintro r h1 ⟨hE1,hs⟩
 have hg:h1.ext.get h.n=some (.cells [.slice none 0 0,.int .i64 0,.int .i64 0,.int .i64 0] 0 none):=by
  rw[hE1.get _ (by simp only[new_n];omega)];simp (disch:=first|omega|(simp only[new_n,put_n];omega)|(repeat first|rw[new_n]|rw[put_n])) only[get_new_same,get_new_old]
 simp -dsimp (disch:=omega) only[wpS,wpT,Nat.reduceEqDiff,Nat.reduceLeDiff,Nat.reduceAdd,bv35,pl35_0,pl35_1,pl35_2,pl35_3,st35,ld35,hg,hs.cells,hs.cok]
 refine⟨((e0 _ _).trans hE1).put (by omega) _,r,rfl,hs.keep (Keep.put (Keep.refl _) hg _)⟩
theorem samePlan_ok {h:IH} {v w:Value} {a b:List Int} (ha:SlOf h 1 v a.length (a.map KI)) (hb:SlOf h 1 w b.length (b.map KI)) (la:a.length≤1000000000) :
  WV Proofs.Tryd.prog (.func (.func 36) #[] #[]) [v,w] h fun r h'=>h'=h∧r=.bool (decide (a=b)):=by
 have hln:a.length=b.length∨a.length≠b.length:=by omega
 have ha:=ha.now
 have hb:=hb.now
 refine enter (nt:=26) (rs:=[.tmp 4]) Proofs.Tryd.func36 rfl rfl rfl (by simp) ?_
 simp -dsimp (maxSteps:=1000000) (disch:=first|omega|(simp only[new_n,put_n];omega)|decide +kernel|(repeat first|rw[new_n]|rw[put_n])) only[wpS,Nat.reduceEqDiff,Nat.reduceAdd,ha.len sl44,hb.len sl44]
 refine bq_intro ?_ ?_<;>intro hc<;>simp only[bne_iff_ne,bne_eq_false_iff_eq,ne_eq] at hc
 ·simp -dsimp (maxSteps:=1000000) (disch:=first|omega|(simp only[new_n,put_n];omega)|decide +kernel|(repeat first|rw[new_n]|rw[put_n])) only[wpS,wpT,Nat.reduceEqDiff]
  rw[decide_eq_false]
  rintro rfl;exact hc rfl
 ·have hl:a.length=b.length:=by omega
  simp -dsimp (maxSteps:=1000000) (disch:=first|omega|(simp only[new_n,put_n];omega)|decide +kernel|(repeat first|rw[new_n]|rw[put_n])) only[wpS,wpT]
  refine loop (fun m fr h1=>h1=h ∧ ∃i:Nat,i+m=a.length∧fget fr 0=some v∧fget fr 1=some w∧fget fr 5=some (KI i) ∧ ∀j,j<i→a[j]?=b[j]?) a.length ⟨rfl,0,by simp,by simp,by simp,by simp,by simp⟩ ?_
  rintro m fr h1 ⟨rfl,i,him,f0,f1,f5,hz⟩
  simp -dsimp (maxSteps:=1000000) (disch:=first|omega|(simp only[new_n,put_n];omega)|decide +kernel|(repeat first|rw[new_n]|rw[put_n])) only[wpS,Nat.reduceEqDiff,f0,f5,ha.len sl44]
  refine bq_intro ?_ ?_<;>intro hc2<;>simp only[decide_eq_true_eq,decide_eq_false_iff_not] at hc2
  ·have hi:i<a.length:=by omega
   obtain⟨x,hx⟩ : ∃x,a[i]?=some x:=⟨a[i],List.getElem?_eq_getElem hi⟩
   obtain⟨y,hy⟩ : ∃y,b[i]?=some y:=⟨b[i]'(by omega),List.getElem?_eq_getElem (by omega)⟩
   have i1:=ha.idx (P:=Proofs.Tryd.prog) es44 (k:=.i64) hi
   have i2:=hb.idx (P:=Proofs.Tryd.prog) es44 (k:=.i64) (show i<b.length by omega)
   have l1:=ha.ld (P:=Proofs.Tryd.prog) (t:=3) (c:=i) (by simpa using hi) ag3
   have l2:=hb.ld (P:=Proofs.Tryd.prog) (t:=3) (c:=i) (by simp;omega) ag3
   rw[Nat.mul_one] at i1 i2
   rw[List.getElem?_map,hx] at l1
   rw[List.getElem?_map,hy] at l2
   simp only[Option.map_some] at l1 l2
   simp -dsimp (maxSteps:=1000000) (disch:=first|omega|(simp only[new_n,put_n];omega)|decide +kernel|(repeat first|rw[new_n]|rw[put_n])) only[wpS,wpT,Nat.reduceEqDiff,f0,f1,f5,i1,i2,l1,l2]
   refine bq_intro ?_ ?_<;>intro hc3<;>simp only[bne_iff_ne,bne_eq_false_iff_eq,ne_eq] at hc3
   ·simp -dsimp (maxSteps:=1000000) (disch:=first|omega|(simp only[new_n,put_n];omega)|decide +kernel|(repeat first|rw[new_n]|rw[put_n])) only[wpS,wpT,Nat.reduceEqDiff]
    rw[decide_eq_false]
    rintro rfl
    rw[hx] at hy;cases hy;exact hc3 rfl
   ·simp -dsimp (maxSteps:=1000000) (disch:=first|omega|(simp only[new_n,put_n];omega)|decide +kernel|(repeat first|rw[new_n]|rw[put_n])) only[wpS,wpT,Nat.reduceEqDiff,f5]
    refine⟨m - 1,by omega,rfl,i+1,by omega,by simp[f0],by simp[f1],by simp,fun j hj=>?_⟩
    by_cases hji:j=i
    ·subst hji;rw[hx,hy,hc3]
    ·exact hz j (by omega)
  ·simp -dsimp (maxSteps:=1000000) (disch:=first|omega|(simp only[new_n,put_n];omega)|decide +kernel|(repeat first|rw[new_n]|rw[put_n])) only[wpS,wpT]
   rw[decide_eq_true]
   apply List.ext_getElem?
   intro j
   by_cases hj:j<i
   ·exact hz j hj
   ·rw[List.getElem?_eq_none (by omega),List.getElem?_eq_none (by omega)]
theorem i64s_int (p:List Nat):i64s p=(p.map fun(l:Nat)=>(l:Int)).map KI:=by simp[i64s]
theorem natInt_inj {p q:List Nat} (h:(p.map fun(l:Nat)=>(l:Int))=q.map fun(l:Nat)=>(l:Int)):p=q:=List.map_inj_right (fun _ _ h=>Int.ofNat.inj h) |>.1 h
theorem samePlanN_ok {h:IH} {v w:Value} {a b:List Nat} (ha:SlOf h 1 v a.length (i64s a)) (hb:SlOf h 1 w b.length (i64s b)) (la:a.length≤1000000000) :
  WV Proofs.Tryd.prog (.func (.func 36) #[] #[]) [v,w] h fun r h'=>h'=h∧r=.bool (decide (a=b)):=by
 refine WV.mono (samePlan_ok (a:=a.map fun(l:Nat)=>(l:Int)) (b:=b.map fun(l:Nat)=>(l:Int)) (by rw[List.length_map,←i64s_int];exact ha) (by rw[List.length_map,←i64s_int];exact hb) (by simpa using la)) ?_
 rintro r h' ⟨rfl,rfl⟩
 refine⟨rfl,?_⟩
 have:((a.map fun(l:Nat)=>(l:Int))=b.map fun(l:Nat)=>(l:Int))↔a=b:=⟨natInt_inj,fun h=>by rw[h]⟩
 simp only[this]
theorem samePlans_ok {h:IH} {v w:Value} {ps qs:List (List Nat)} (ha:PlansAt h v ps) (hb:PlansAt h w qs) (la:ps.length≤1000000000) (lp : ∀p∈ps,p.length≤1000000000) :
  WV Proofs.Tryd.prog (.func (.func 33) #[] #[]) [v,w] h fun r h'=>h'=h∧r=.bool (decide (ps=qs)):=by
 obtain⟨vs,ha,hva⟩:=ha
 obtain⟨us,hb,hub⟩:=hb
 have hln:ps.length=qs.length∨ps.length≠qs.length:=by omega
 have la2:=ha.2.1
 have lb2:=hb.2.1
 have ha:=ha.now
 have hb:=hb.now
 refine enter (nt:=27) (rs:=[.tmp 4]) Proofs.Tryd.func33 rfl rfl rfl (by simp) ?_
 simp -dsimp (maxSteps:=1000000) (disch:=first|omega|(simp only[new_n,put_n];omega)|decide +kernel|(repeat first|rw[new_n]|rw[put_n])) only[wpS,Nat.reduceEqDiff,Nat.reduceAdd,ha.len sl42,hb.len sl42]
 refine bq_intro ?_ ?_<;>intro hc<;>simp only[bne_iff_ne,bne_eq_false_iff_eq,ne_eq] at hc
 ·simp -dsimp (maxSteps:=1000000) (disch:=first|omega|(simp only[new_n,put_n];omega)|decide +kernel|(repeat first|rw[new_n]|rw[put_n])) only[wpS,wpT,Nat.reduceEqDiff]
  rw[decide_eq_false]
  rintro rfl;exact hc rfl
 ·have hl:ps.length=qs.length:=by omega
  simp -dsimp (maxSteps:=1000000) (disch:=first|omega|(simp only[new_n,put_n];omega)|decide +kernel|(repeat first|rw[new_n]|rw[put_n])) only[wpS,wpT]
  refine loop (fun m fr h1=>h1=h ∧ ∃i:Nat,i+m=ps.length∧fget fr 0=some v∧fget fr 1=some w∧fget fr 5=some (KI i) ∧ ∀j,j<i→ps[j]?=qs[j]?) ps.length ⟨rfl,0,by simp,by simp,by simp,by simp,by simp⟩ ?_
  rintro m fr h1 ⟨rfl,i,him,f0,f1,f5,hz⟩
  simp -dsimp (maxSteps:=1000000) (disch:=first|omega|(simp only[new_n,put_n];omega)|decide +kernel|(repeat first|rw[new_n]|rw[put_n])) only[wpS,Nat.reduceEqDiff,f0,f5,ha.len sl42]
  refine bq_intro ?_ ?_<;>intro hc2<;>simp only[decide_eq_true_eq,decide_eq_false_iff_not] at hc2
  ·have hi:i<ps.length:=by omega
   obtain⟨x,hx⟩ : ∃x,ps[i]?=some x:=⟨ps[i],List.getElem?_eq_getElem hi⟩
   obtain⟨y,hy⟩ : ∃y,qs[i]?=some y:=⟨qs[i]'(by omega),List.getElem?_eq_getElem (by omega)⟩
   obtain⟨vx,hvx,hsx⟩:=hva i x hx
   obtain⟨vy,hvy,hsy⟩:=hub i y hy
   have i1:=ha.idx (P:=Proofs.Tryd.prog) es42 (k:=.i64) hi
   have i2:=hb.idx (P:=Proofs.Tryd.prog) es42 (k:=.i64) (show i<qs.length by omega)
   have l1:=ha.ld (P:=Proofs.Tryd.prog) (t:=44) (c:=i) (by omega) ag44
   have l2:=hb.ld (P:=Proofs.Tryd.prog) (t:=44) (c:=i) (by omega) ag44
   rw[Nat.mul_one] at i1 i2
   rw[hvx] at l1
   rw[hvy] at l2
   simp -dsimp (maxSteps:=1000000) (disch:=first|omega|(simp only[new_n,put_n];omega)|decide +kernel|(repeat first|rw[new_n]|rw[put_n])) only[wpS,wpT,Nat.reduceEqDiff,f0,f1,f5,i1,i2,l1,l2]
   refine call (samePlanN_ok hsx hsy (lp x (List.mem_of_getElem? hx))) ?_
   rintro _ _ ⟨rfl,rfl⟩
   simp -dsimp (maxSteps:=1000000) (disch:=first|omega|(simp only[new_n,put_n];omega)|decide +kernel|(repeat first|rw[new_n]|rw[put_n])) only[wpS,Nat.reduceEqDiff]
   refine bq_intro ?_ ?_<;>intro hc3<;>simp only[decide_eq_true_eq,decide_eq_false_iff_not,Bool.not_eq_true',Bool.not_eq_false'] at hc3
   ·simp -dsimp (maxSteps:=1000000) (disch:=first|omega|(simp only[new_n,put_n];omega)|decide +kernel|(repeat first|rw[new_n]|rw[put_n])) only[wpS,wpT,Nat.reduceEqDiff]
    rw[decide_eq_false]
    rintro rfl
    rw[hx] at hy;cases hy;exact hc3 rfl
   ·simp -dsimp (maxSteps:=1000000) (disch:=first|omega|(simp only[new_n,put_n];omega)|decide +kernel|(repeat first|rw[new_n]|rw[put_n])) only[wpS,Nat.reduceEqDiff,f5]
    refine⟨m - 1,by omega,rfl,i+1,by omega,by simp[f0],by simp[f1],by simp,fun j hj=>?_⟩
    by_cases hji:j=i
    ·subst hji;rw[hx,hy,hc3]
    ·exact hz j (by omega)
  ·simp -dsimp (maxSteps:=1000000) (disch:=first|omega|(simp only[new_n,put_n];omega)|decide +kernel|(repeat first|rw[new_n]|rw[put_n])) only[wpS,wpT]
   rw[decide_eq_true]
   apply List.ext_getElem?
   intro j
   by_cases hj:j<i
   ·exact hz j hj
   ·rw[List.getElem?_eq_none (by omega),List.getElem?_eq_none (by omega)]
end Go.Id

/-! Contracts: counts, lists; the search of a number in a rising list. -/
namespace Go.Id
open Go
theorem wideN_inj {a b:Int} (ha:In64 a) (hb:In64 b):wideN a=wideN b↔a=b:=by
 have hh:=H8_big
 have hw:=W8_two
 have h1:InW a:=by unfold InW;omega
 have h2:InW b:=by unfold InW;omega
 constructor
 ·intro h
  rw[←wdI_wideN h1,←wdI_wideN h2,h]
 ·rintro rfl;rfl
theorem inW_of64 {a:Int} (ha:In64 a):InW a:=by
 have hh:=H8_big
 unfold InW;omega
theorem wideN_small {a:Int} (ha:In64 a):wideN a<W8:=wideN_lt (inW_of64 ha)
theorem totalP_small {n:Nat} {E:List (Nat×Nat)} {ws:List Int} {lo hi:Int} {k:Nat} (hok:enErr n (castE E) ws lo hi k=0):totalP n E ws lo hi k≤68719476736:=by
 obtain⟨hG,hn0,hn12,hV,hlen,hwl,hws,hd1,hd2,hlo,hlohi⟩:=enErr_ok hok
 have hp0:0<2 ^ n:=Nat.pow_pos (by omega)
 exact after_small _ [] hn12 (by omega) (by omega)
theorem counts_ok {h:IH} (hB:BaseT h) {n:Nat} {E:List (Nat×Nat)} {v w:Value} {ws:List Int} {lo hi:Int} {k:Nat} (a:ArgsAt h n E v w ws lo hi k) (want:Int) (hwant:In64 want) :
  WV Proofs.Tryd.prog (.func (.func 19) #[] #[]) [.agg #[KI n,v],.agg #[w,KI lo,KI hi,KI k],KI want] h fun r h'=>Ext h h'∧r=.bool (decide ((totalP n E ws lo hi k:Int)=want)):=by
 have hts:=totalP_small a.ok
 refine enter (nt:=23) (rs:=[.tmp 6]) Proofs.Tryd.func19 rfl rfl rfl (by simp) ?_
 simp -dsimp (maxSteps:=1000000) (disch:=first|omega|(simp only[new_n,put_n];omega)|decide +kernel|(repeat first|rw[new_n]|rw[put_n])) only[wpS,wpT,Nat.reduceEqDiff,Nat.reduceLeDiff,Nat.reduceAdd,ld32,ld35]
 have e0 : ∀o1 o2,Ext h ((h.new o1).new o2):=fun o1 o2=>((Ext.refl h).new _).new _
 have a0:=a.keep (e0 (.cells [KI n,v] 0 none) (.cells [w,KI lo,KI hi,KI k] 0 none)).keep
 refine call (count_ok (hB.ext (e0 _ _)) a0) ?_
 rintro _ h1 ⟨hE1,rfl⟩
 have hspl : ∀n,IH.splice [.int .u64 0,.int .u64 0,.int .u64 0,.int .u64 0,.int .u64 0,.int .u64 0,.int .u64 0,.int .u64 0] 0 (wdC n)=wdC n:=fun n=>splice_all (by rw[wdC_len];rfl)
 simp -dsimp (maxSteps:=1000000) (disch:=first|omega|(simp only[new_n,put_n];omega)|decide +kernel|(repeat first|rw[new_n]|rw[put_n])) only[wpS,wpT,Nat.reduceEqDiff,Nat.reduceLeDiff,Nat.reduceAdd,zc58,st58,wdV_form,wdC_len,wdC_all,hspl]
 refine drawn [(3,[9])] (by kernel_rfl) (by kernel_rfl) rfl ?_
 simp -dsimp (maxSteps:=1000000) (disch:=first|omega|(simp only[new_n,put_n];omega)|decide +kernel|(repeat first|rw[new_n]|rw[put_n])) only[wpS,wpT,Nat.reduceEqDiff,Nat.reduceLeDiff,ld58,wdC_len,wd_take]
 refine call (refOf_ok want hwant) ?_
 rintro _ h2 ⟨hE2,rfl⟩
 have hT64:In64 (totalP n E ws lo hi k:Int):=⟨by omega,by omega⟩
 have hq : ∀ox oy,binop Proofs.Tryd.prog .eql 58 ox oy (.agg (wdC (wideN (totalP n E ws lo hi k))).toArray) (wideV want)=some (.bool (decide ((totalP n E ws lo hi k:Int)=want))):=fun ox oy=>by
  have:=wd_eql (wideN_small hT64) (wideN_small hwant) ox oy
  simp only[wideN_inj hT64 hwant] at this
  exact this
 have hg2:h2.row (2*h1.n)=some (wdC (wideN (totalP n E ws lo hi k))):=by
  rw[hE2.row (.inr (by simp only[new_n,put_n];omega)),row_even];simp only[IH.cells];simp (disch:=first|omega|(simp only[new_n,put_n];omega)|(repeat first|rw[new_n]|rw[put_n])) only[get_put_same]
 simp -dsimp (maxSteps:=1000000) (disch:=first|omega|(simp only[new_n,put_n];omega)|decide +kernel|(repeat first|rw[new_n]|rw[put_n])) only[wpS,wpT,Nat.reduceEqDiff,hq]
 refine⟨wpSteady_one rfl rfl rfl rfl (steady_load (av:=ptr (2*h1.n) 0) (v:=wideV (totalP n E ws lo hi k)) rfl ?_ ?_),?_⟩
 ·simp -dsimp (maxSteps:=1000000) (disch:=first|omega|(simp only[new_n,put_n];omega)|decide +kernel|(repeat first|rw[new_n]|rw[put_n])) only[wpS,Nat.reduceLeDiff,ld58,wdC_len,wd_take]
  rfl
 ·simp -dsimp (maxSteps:=1000000) (disch:=first|omega|(simp only[new_n,put_n];omega)|decide +kernel|(repeat first|rw[new_n]|rw[put_n])) only[wpS,Nat.reduceLeDiff,ld58,hg2,wdC_len,wd_take]
  rfl
 simp -dsimp (maxSteps:=1000000) (disch:=first|omega|(simp only[new_n,put_n];omega)|decide +kernel|(repeat first|rw[new_n]|rw[put_n])) only[wpS,wpT,Nat.reduceEqDiff,Nat.reduceAdd]
 exact(((e0 _ _).trans hE1).trans (((Ext.refl h1).new _).put (Nat.le_refl _) _)).trans hE2
end Go.Id

/-! Counting plans: the districts of a given graph, computed. -/
namespace Go.Id
open Go
def fitD (n:Nat) (E:List (Nat×Nat)) (ws:List Int) (lo hi:Int) (s:Nat):Option Bool :=
 (connC (adjOf E) n s).map fun b=>decide (0<s) && (decide (lo≤weightTo ws s ws.length) && (decide (weightTo ws s ws.length≤hi) && b))
theorem fitD_fits {n:Nat} {E:List (Nat×Nat)} {ws:List Int} {lo hi:Int} {s:Nat} (hs:s<2 ^ n) {b:Bool} (h:fitD n E ws lo hi s=some b):fitsB E ws lo hi s=b:=by
 unfold fitD at h
 rw[Option.map_eq_some_iff] at h
 obtain⟨c,h1,h2⟩:=h
 have hc:=connC_conn hs h1
 rw[←h2,Bool.eq_iff_iff]
 unfold fitsB
 simp only[decide_eq_true_eq,Bool.and_eq_true]
 rw[hc]
def tabOK (n:Nat) (E:List (Nat×Nat)) (ws:List Int) (lo hi:Int) (T:Nat):Bool:=(List.range (2 ^ n)).all fun s=>fitD n E ws lo hi s == some (T.testBit s)
theorem tab {n:Nat} {E:List (Nat×Nat)} {ws:List Int} {lo hi:Int} {T:Nat} (h:tabOK n E ws lo hi T=true) : ∀s,s<2 ^ n→fitsB E ws lo hi s=T.testBit s:=by
 intro s hs
 have:=List.all_eq_true.1 h s (by simpa using hs)
 exact fitD_fits hs (by simpa using this)
theorem totalP_tab {n:Nat} {E:List (Nat×Nat)} {ws:List Int} {lo hi:Int} {k T:Nat} (h:tabOK n E ws lo hi T=true):totalP n E ws lo hi k=after (fun s=>T.testBit s) [] (2 ^ n - 1) k:=by
 have:0<2 ^ n:=Nat.pow_pos (by omega)
 exact after_congr (tab h) [] _ k (fun c hc=>by cases hc) (by omega)
theorem plan_tab {n:Nat} {E:List (Nat×Nat)} {ws:List Int} {lo hi:Int} {k T:Nat} (h:tabOK n E ws lo hi T=true) (i:Nat):planAt (fitsB E ws lo hi) n k n 0 [] i=planAt (fun s=>T.testBit s) n k n 0 [] i :=
 planAt_congr (tab h) k n 0 [] i (by omega) fun c hc=>by cases hc
theorem plansP_tab {n:Nat} {E:List (Nat×Nat)} {ws:List Int} {lo hi:Int} {k T:Nat} (h:tabOK n E ws lo hi T=true):plansP n E ws lo hi k=(List.range (after (fun s=>T.testBit s) [] (2 ^ n - 1) k)).map fun i=>planAt (fun s=>T.testBit s) n k n 0 [] i:=by
 unfold plansP
 rw[totalP_tab h]
 exact List.map_congr_left fun i _=>plan_tab h i
theorem distL_tab {n:Nat} {E:List (Nat×Nat)} {ws:List Int} {lo hi:Int} {T:Nat} (h:tabOK n E ws lo hi T=true):distL (fitsB E ws lo hi) (2 ^ n)=distL (fun s=>T.testBit s) (2 ^ n) :=
 List.filter_congr fun s hs=>tab h s (by simpa using hs)
theorem idxGo_congr {F G:Nat→Bool} {n:Nat} (hFG : ∀s,s<2 ^ n→F s=G s) (k:Nat) : ∀(l:List Int) (node:Nat) (cs:List Nat) (b:Nat),node+l.length≤n→(∀c∈cs,c<2 ^ n)→idxGo F n k node cs b l=idxGo G n k node cs b l
 | [],_,_,_,_,_=>rfl
 | c :: l,node,cs,b,hl,hc=>by
  simp only[List.length_cons] at hl
  rw[idxGo,idxGo]
  split
  ·rw[sumTo_congr fun x _=>after_congr hFG _ _ _ (lab_mem (by omega) hc) (above_lt n node)]
   exact idxGo_congr hFG k l _ _ _ (by omega) (lab_mem (by omega) hc)
  ·rfl
theorem idxGo_mem {F:Nat→Bool} {n k:Nat} : ∀(l:List Int) (node:Nat) (cs:List Nat) (b:Nat) {b2:Nat} {cs2:List Nat},node+l.length≤n→(∀c∈cs,c<2 ^ n)→idxGo F n k node cs b l=some (b2,cs2) → ∀c∈cs2,c<2 ^ n
 | [],_,_,_,_,_,_,hc,h=>by
  rw[idxGo] at h;cases h;exact hc
 | c :: l,node,cs,b,b2,cs2,hl,hc,h=>by
  simp only[List.length_cons] at hl
  rw[idxGo] at h
  split at h
  ·exact idxGo_mem l _ _ _ (by omega) (lab_mem (by omega) hc) h
  ·cases h
theorem idxV_tab {n:Nat} {E:List (Nat×Nat)} {ws:List Int} {lo hi:Int} {k T:Nat} (h:tabOK n E ws lo hi T=true) (p:List Int):idxV (fitsB E ws lo hi) n k p=idxV (fun s=>T.testBit s) n k p:=by
 unfold idxV
 split
 ·rename_i hp
  rw[idxGo_congr (tab h) k p 0 [] 0 (by omega) fun c hc=>by cases hc]
  cases hg:idxGo (fun s=>T.testBit s) n k 0 [] 0 p with
  | none=>rfl
  | some x =>
   obtain⟨b,cs⟩:=x
   have hm:=idxGo_mem p 0 [] 0 (by omega) (fun c hc=>by cases hc) hg
   simp only
   rw[after_congr (tab h) cs 0 k hm (Nat.pow_pos (by omega))]
 ·rfl
abbrev pathE:List (Nat×Nat):=[(0,1),(1,2),(2,3)]
abbrev cycE:List (Nat×Nat):=[(0,1),(0,3),(1,2),(2,3)]
abbrev one4:List Int:=[1,1,1,1]
theorem path22:tabOK 4 pathE one4 2 2 4168=true:=by decide +kernel
theorem path13:tabOK 4 pathE one4 1 3 20958=true:=by decide +kernel
theorem cyc13:tabOK 4 cycE one4 1 3 31710=true:=by decide +kernel
theorem cyc22:tabOK 4 cycE one4 2 2 4680=true:=by decide +kernel
theorem dist_path22:distL (fitsB pathE one4 2 2) (2 ^ 4) = [3,6,12]:=by rw[distL_tab path22];decide +kernel
theorem total_cyc13:totalP 4 cycE one4 1 3 2=6:=by rw[totalP_tab cyc13];decide +kernel
theorem plan_cyc13:planAt (fitsB cycE one4 1 3) 4 2 4 0 [] 0 = [0,0,0,1]:=by rw[plan_tab cyc13];decide +kernel
theorem total_path22:totalP 4 pathE one4 2 2 2=1:=by rw[totalP_tab path22];decide +kernel
theorem plans_path13:plansP 4 pathE one4 1 3 2 = [[0,0,0,1],[0,0,1,1],[0,1,1,1]]:=by rw[plansP_tab path13];decide +kernel
theorem plans_cyc22:plansP 4 cycE one4 2 2 2 = [[0,0,1,1],[0,1,1,0]]:=by rw[plansP_tab cyc22];decide +kernel
theorem total_path13:totalP 4 pathE one4 1 3 2=3:=by rw[totalP_tab path13];decide +kernel
theorem total_cyc22:totalP 4 cycE one4 2 2 2=2:=by rw[totalP_tab cyc22];decide +kernel
theorem idxV_of {F:Nat→Bool} {n k:Nat} {p:List Int} {b:Nat} {cs:List Nat} (hp:p.length=n) (h:idxGo F n k 0 [] 0 p=some (b,cs)) (h1:after F cs 0 k=1):idxV F n k p=.tuple #[wideV b,KI 0]:=by
 rw[idxV,if_pos hp,h];simp[h1]
theorem idxV_no {F:Nat→Bool} {n k:Nat} {p:List Int} (h:idxGo F n k 0 [] 0 p=none):idxV F n k p=.tuple #[wdV 0,KI 2]:=by
 rw[idxV];split
 ·rw[h]
 ·rfl
theorem idx_cyc13:idxV (fitsB cycE one4 1 3) 4 2 [0,1,1,0]=.tuple #[wideV 4,KI 0]:=by
 rw[idxV_tab cyc13]
 exact idxV_of (b:=4) (cs:=[9,6]) rfl (by decide +kernel) (by decide +kernel)
theorem idx_path13:idxV (fitsB pathE one4 1 3) 4 2 [1,1,0,0]=.tuple #[wdV 0,KI 2]:=by
 rw[idxV_tab path13]
 exact idxV_no (by decide +kernel)
theorem ok_path (ws:List Int) (lo hi:Int) (k:Nat) (h1:ws.length=4) (h2 : ∀w∈ws,0≤w∧w≤1000000000) (h3:1≤k∧k≤8∧0≤lo∧lo≤hi):enErr (4:Nat) (castE pathE) ws lo hi k=0:=by
 have hg:graphErr (4:Nat) (castE pathE)=0:=by decide +kernel
 rw[enErr,if_pos hg,if_pos (by omega),if_pos ⟨by omega,h2,by omega⟩]
theorem ok_cyc (ws:List Int) (lo hi:Int) (k:Nat) (h1:ws.length=4) (h2 : ∀w∈ws,0≤w∧w≤1000000000) (h3:1≤k∧k≤8∧0≤lo∧lo≤hi):enErr (4:Nat) (castE cycE) ws lo hi k=0:=by
 have hg:graphErr (4:Nat) (castE cycE)=0:=by decide +kernel
 rw[enErr,if_pos hg,if_pos (by omega),if_pos ⟨by omega,h2,by omega⟩]
theorem one4_ok : ∀w∈one4,0≤w∧w≤1000000000:=by decide
end Go.Id

/-! Plans by number: their labels, classes and places; they rise. -/
namespace Go.Id
open Go
theorem nclr_zero (a:Nat):nclr 0 a=0:=Nat.eq_of_testBit_eq fun j=>by rw[testBit_nclr];simp
theorem after_done (F:Nat→Bool) : ∀(cs:List Nat) (k:Nat),after F cs 0 k=if cs.length=k ∧ ∀c∈cs,F c=true then 1 else 0
 | [],k=>by
  rw[after_nil]
  cases k with
  | zero=>simp[ways]
  | succ k=>simp[ways]
 | c :: cs,k=>by
  rw[after_cons,sumFrom_eq,if_pos rfl,Nat.or_zero,nclr_zero,after_done F cs (k - 1)]
  by_cases h1:cs.length+1≤k
  ·rw[if_pos h1]
   by_cases h2:F c=true
   ·rw[if_pos h2,Nat.add_zero]
    by_cases h3:cs.length=k - 1 ∧ ∀x∈cs,F x=true
    ·rw[if_pos h3,if_pos ⟨by simp;omega,by simpa [h2] using h3.2⟩]
    ·rw[if_neg h3,if_neg]
     rintro⟨h4,h5⟩
     exact h3 ⟨by simp at h4;omega,fun x hx=>h5 x (by simp[hx])⟩
   ·rw[if_neg h2,if_neg]
    rintro⟨_,h5⟩
    exact h2 (h5 c (by simp))
  ·rw[if_neg h1,if_neg]
   rintro⟨h4,_⟩
   simp at h4
   omega
def csF:Nat→List Nat→List Nat→List Nat
 | _,cs,[]=>cs
 | node,cs,l :: p=>csF (node+1) (lab cs node l) p
def OkL:Nat→List Nat→List Nat→Prop
 | _,_,[]=>True
 | node,cs,l :: p=>l≤cs.length∧OkL (node+1) (lab cs node l) p
theorem sumTo_mono (g:Nat→Nat) {a b:Nat} (h:a≤b):sumTo g a≤sumTo g b:=by
 obtain⟨d,rfl⟩:=Nat.exists_eq_add_of_le h
 rw[sumTo_add_len];omega
end Go.Id

/-! Counting plans: where a set is a district by its size alone. -/
namespace Go.Id
open Go
def pop:Nat→Nat→Nat
 | 0,_=>0
 | n+1,s=>s % 2+pop n (s / 2)
theorem pop_zero : ∀n,pop n 0=0
 | 0=>rfl
 | n+1=>by simp[pop,pop_zero n]
theorem pop_pos : ∀{n s:Nat},s<2 ^ n→s≠0→0<pop n s
 | 0,s,h,h0=>by simp at h;omega
 | n+1,s,h,h0=>by
  rw[pop]
  rcases Nat.mod_two_eq_zero_or_one s with h1|h1
  ·have:=pop_pos (n:=n) (s:=s / 2) (by rw[Nat.pow_succ] at h;omega) (by omega)
   omega
  ·omega
theorem pop_clr : ∀(n r t:Nat),t &&& r=t→pop n (nclr r t)+pop n t=pop n r
 | 0,_,_,_=>rfl
 | n+1,r,t,h=>by
  have h1:=(sub_halves t r).1 h
  have ih:=pop_clr n (r / 2) (t / 2) h1.1
  rw[pop,pop,pop,nclr_div,nclr_mod]
  rcases Nat.mod_two_eq_zero_or_one r with h2|h2<;>rcases Nat.mod_two_eq_zero_or_one t with h3|h3<;>simp[h2,h3]<;>omega
theorem pop_or : ∀(n a b:Nat),a &&& b=0→pop n (a ||| b)=pop n a+pop n b
 | 0,_,_,_=>rfl
 | n+1,a,b,h=>by
  have h1:=and_halves a b
  have h2:=or_halves a b
  rw[h] at h1
  have e1:a / 2 &&& b / 2=0:=by omega
  have e2:a % 2*(b % 2)=0:=by omega
  have e3:(a ||| b) / 2=a / 2 ||| b / 2:=Nat.or_div_two
  have e4:(a ||| b) % 2=max (a % 2) (b % 2):=by rw[←e3] at h2;omega
  rw[pop,pop,pop,e3,e4,pop_or n _ _ e1]
  rcases Nat.mod_two_eq_zero_or_one a with h3|h3<;>rcases Nat.mod_two_eq_zero_or_one b with h4|h4<;>simp[h3,h4] at e2 ⊢ <;> omega
theorem pop_two : ∀{n a:Nat},a<n→pop n (2 ^ a)=1
 | 0,_,h=>by omega
 | n+1,0,_=>by
  show 1 % 2+pop n (1 / 2)=1
  rw[show 1 / 2=0 from rfl,pop_zero]
 | n+1,a+1,h=>by
  rw[pop,show 2 ^ (a+1) % 2=0 by rw[Nat.pow_succ];omega,show 2 ^ (a+1) / 2=2 ^ a by rw[Nat.pow_succ];omega,pop_two (n:=n) (by omega)]
def cv (G:Nat→Nat):Nat→Nat
 | 0=>G 0
 | p+1=>cv G p+cv (fun j=>G (j+1)) p
theorem subS_pop : ∀(n:Nat) (G:Nat→Nat) (m:Nat),m<2 ^ n→subS (fun t=>G (pop n t)) m (2 ^ n)=cv G (pop n m)
 | 0,G,m,h=>by
  obtain rfl:m=0:=by simpa using h
  simp[subS,sumTo,pop,cv]
 | n+1,G,m,h=>by
  have h2:m / 2<2 ^ n:=by rw[Nat.pow_succ] at h;omega
  have e0 : ∀t,pop (n+1) (2*t)=pop n t:=fun t=>by rw[pop,show 2*t % 2=0 by omega,show 2*t / 2=t by omega,Nat.zero_add]
  have e1 : ∀t,pop (n+1) (2*t+1)=pop n t+1:=fun t=>by rw[pop,show(2*t+1) % 2=1 by omega,show(2*t+1) / 2=t by omega,Nat.add_comm]
  rw[Nat.pow_succ,Nat.mul_comm,subS_two,pop]
  simp only[e0,e1]
  by_cases hm:m % 2=1
  ·rw[if_pos hm,subS_add,subS_pop n G _ h2,subS_pop n (fun j=>G (j+1)) _ h2,hm,Nat.add_comm 1,cv]
  ·rw[if_neg hm,subS_pop n G _ h2,show m % 2=0 by omega,Nat.zero_add]
def dot:List Nat→(Nat→Nat)→Nat
 | [],_=>0
 | a :: l,G=>a*G 0+dot l fun j=>G (j+1)
def addL:Nat→List Nat→List Nat
 | p,[] => [p]
 | p,a :: l=>(p+a) :: addL a l
theorem dot_addL : ∀(l:List Nat) (p:Nat) (G:Nat→Nat),dot (addL p l) G=p*G 0+dot l G+dot l fun j=>G (j+1)
 | [],p,G=>by simp[addL,dot]
 | a :: l,p,G=>by
  rw[addL,dot,dot_addL l a,dot,dot,Nat.add_mul];omega
def rowC:Nat→List Nat
 | 0 => [1]
 | p+1=>addL 0 (rowC p)
theorem cv_dot : ∀(p:Nat) (G:Nat→Nat),cv G p=dot (rowC p) G
 | 0,G=>by simp[cv,rowC,dot]
 | p+1,G=>by rw[cv,rowC,dot_addL,cv_dot p G,cv_dot p fun j=>G (j+1)];omega
def wP (f:Nat→Bool):Nat→Nat→Nat
 | 0,m=>if m=0 then 1 else 0
 | _+1,0=>0
 | k+1,m+1=>dot (rowC m) fun j=>if f (j+1)=true then wP f k (m - j) else 0
theorem wP_succ (f:Nat→Bool) (k m:Nat):wP f (k+1) (m+1)=dot (rowC m) fun j=>if f (j+1)=true then wP f k (m - j) else 0:=rfl
theorem sub_disj {t r c:Nat} (h:t &&& r=t) (hd:c &&& r=0):c &&& t=0:=by
 rw[←h,Nat.and_comm t,←Nat.and_assoc,hd,Nat.zero_and]
theorem ways_pop {F:Nat→Bool} {f:Nat→Bool} {n:Nat} (hn:n≤64) (hF : ∀s,s<2 ^ n→F s=f (pop n s)) : ∀(k s:Nat),s<2 ^ n→ways F k s=wP f k (pop n s)
 | 0,s,h=>by
  rw[ways,wP]
  by_cases h0:s=0
  ·subst h0;rw[pop_zero]
  ·have:=pop_pos h h0
   rw[if_neg h0,if_neg (by omega)]
 | k+1,s,h=>by
  by_cases h0:s=0
  ·subst h0;rw[pop_zero,ways,if_pos rfl];rfl
  ·have hp64:2 ^ n≤2 ^ 64:=Nat.pow_le_pow_right (by omega) hn
   obtain⟨a,ha⟩:=low_exists (u:=s) (by omega)
   have hlow:lowM s=2 ^ a:=low_bit ha (by omega)
   have han:a<n:=by
    refine Nat.lt_of_not_le fun hh=>?_
    have:=Nat.testBit_lt_two_pow (Nat.lt_of_lt_of_le h (Nat.pow_le_pow_right (by omega) hh))
    rw[ha.1] at this;cases this
   have hlt:2 ^ a<2 ^ n:=Nat.pow_lt_pow_right (by omega) han
   have hr:nclr s (lowM s)<2 ^ n:=nclr_lt h
   have hls:lowM s &&& s=lowM s:=by rw[lowM,Nat.and_assoc,Nat.and_comm _ s,←Nat.and_assoc,Nat.and_self]
   have hpr:=pop_clr n s (lowM s) hls
   have hdis:lowM s &&& nclr s (lowM s)=0:=by
    apply Nat.eq_of_testBit_eq
    intro j
    rw[Nat.testBit_and,testBit_nclr,Nat.zero_testBit]
    cases(lowM s).testBit j<;>simp
   have hp1:pop n (lowM s)=1:=by rw[hlow,pop_two han]
   obtain⟨m,hm⟩ : ∃m,pop n s=m+1:=⟨pop n s - 1,by omega⟩
   have hrm:pop n (nclr s (lowM s))=m:=by omega
   rw[ways,if_neg h0,hm,wP_succ,←cv_dot,←hrm,←subS_pop n _ _ hr]
   simp only
   rw[sumFrom_all _ hr]
   refine subS_congr fun t ht1 ht=>?_
   have hpt:=pop_clr n _ t ht
   have hor:t ||| lowM s<2 ^ n:=Nat.or_lt_two_pow ht1 (by rw[hlow];exact hlt)
   rw[hF _ hor,Nat.or_comm,pop_or n _ _ (sub_disj ht hdis),hp1,Nat.add_comm 1,nclr_nclr,ways_pop hn hF k _ (nclr_lt hr),show pop n (nclr (nclr s (lowM s)) t)=pop n (nclr s (lowM s)) - pop n t by omega]
def aP (f:Nat→Bool):List Nat→Nat→Nat→Nat
 | [],m,k=>wP f k m
 | c :: cs,m,k=>if cs.length+1≤k then dot (rowC m) (fun j=>if f (c+j)=true then aP f cs (m - j) (k - 1) else 0) else 0
theorem after_pop {F:Nat→Bool} {f:Nat→Bool} {n:Nat} (hn:n≤64) (hF : ∀s,s<2 ^ n→F s=f (pop n s)) : ∀(cs:List Nat) (r k:Nat),r<2 ^ n→(∀c∈cs,c<2 ^ n∧c &&& r=0)→after F cs r k=aP f (cs.map (pop n)) (pop n r) k
 | [],r,k,hr,_=>ways_pop hn hF k r hr
 | c :: cs,r,k,hr,hc=>by
  rw[after_cons,List.map_cons,aP,List.length_map]
  split
  ·rw[←cv_dot,←subS_pop n _ _ hr,sumFrom_all _ hr]
   refine subS_congr fun t ht1 ht=>?_
   have hcc:=hc c (by simp)
   have hpt:=pop_clr n _ t ht
   have hd:=sub_disj ht hcc.2
   rw[hF _ (Nat.or_lt_two_pow hcc.1 ht1),pop_or n _ _ hd,after_pop hn hF cs _ _ (nclr_lt hr) fun d hd=>⟨(hc d (by simp[hd])).1,sub_disj (nclr_sub r t) (hc d (by simp[hd])).2⟩,show pop n (nclr r t)=pop n r - pop n t by omega]
  ·rfl
end Go.Id

/-! Counting plans: complete graphs, and graphs without edges. -/
namespace Go.Id
open Go
end Go.Id

/-! All plans by trying all labels. -/
namespace Go.Id
open Go
def allP (F:Nat→Bool) (k:Nat):Nat→Nat→List Nat→List (List Nat)
 | 0,_,cs=>if after F cs 0 k=1 then [[]] else []
 | m+1,node,cs=>(List.range (min (cs.length+1) k)).flatMap fun l=>(allP F k m (node+1) (lab cs node l)).map fun p=>l :: p
theorem range_sumTo (g:Nat→Nat) {α:Type} (f:Nat→α) : ∀L,(List.range (sumTo g L)).map f=(List.range L).flatMap fun l=>(List.range (g l)).map fun j=>f (sumTo g l+j)
 | 0=>rfl
 | L+1=>by
  rw[sumTo,List.range_add,List.map_append,range_sumTo g f L,List.range_succ,List.flatMap_append,List.map_map]
  simp
theorem findLab_at (g:Nat→Nat) {L l j:Nat} (hl:l<L) (hj:j<g l):findLab g L 0 (sumTo g l+j)=some (l,j):=by
 have hi:sumTo g l+j<sumTo (fun x=>g (0+x)) L:=by
  have e:(fun x=>g (0+x))=g:=funext fun x=>by rw[Nat.zero_add]
  rw[e]
  have h1:=sumTo_mono g (show l+1≤L by omega)
  rw[sumTo] at h1
  omega
 obtain⟨m,i,h1,h2,h3,h4,h5⟩:=findLab_some g L 0 _ hi
 simp only[Nat.zero_add,Nat.sub_zero] at h3 h5
 have h5:sumTo g l+j=i+sumTo g m:=h5
 rw[h1]
 rcases Nat.lt_trichotomy l m with h|h|h
 ·have h6:=sumTo_mono g (show l+1≤m by omega)
  rw[sumTo] at h6
  omega
 ·subst h
  have:i=j:=by omega
  rw[this]
 ·have h6:=sumTo_mono g (show m+1≤l by omega)
  rw[sumTo] at h6
  omega
theorem flatMap_cut {α:Type} (f:Nat→List α) {L k:Nat} (h : ∀l,k≤l→l<L→f l = []):(List.range L).flatMap f=(List.range (min L k)).flatMap f:=by
 induction L with
 | zero=>simp
 | succ L ih =>
  rw[List.range_succ,List.flatMap_append,ih (fun l h1 h2=>h l h1 (by omega))]
  by_cases hk:k≤L
  ·have:min (L+1) k=min L k:=by omega
   rw[this]
   simp[h L hk (by omega)]
  ·have h1:min (L+1) k=L+1:=by omega
   have h2:min L k=L:=by omega
   rw[h1,h2,List.range_succ,List.flatMap_append]
theorem allP_eq (F:Nat→Bool) {n:Nat} (hn:n≤64) (k:Nat) : ∀(m node:Nat) (cs:List Nat),node+m=n→allP F k m node cs=(List.range (after F cs (2 ^ n - 2 ^ node) k)).map fun i=>planAt F n k m node cs i
 | 0,node,cs,hm=>by
  obtain rfl:node=n:=by omega
  rw[Nat.sub_self,allP]
  have h1:=after_done F cs k
  by_cases h:after F cs 0 k=1
  ·rw[if_pos h,h];rfl
  ·have h0:after F cs 0 k=0:=by
    rw[h1] at h ⊢
    split at h
    ·omega
    ·rename_i h2;rw[if_neg h2]
   rw[if_neg h,h0];rfl
 | m+1,node,cs,hm=>by
  have hnode:node<n:=by omega
  rw[after_labels F hn hnode cs k,range_sumTo,flatMap_cut (k:=k),allP]
  ·have hc : ∀(L:Nat) (f g:Nat→List (List Nat)),(∀l,l<L→f l=g l)→(List.range L).flatMap f=(List.range L).flatMap g:=by
    intro L f g h
    induction L with
    | zero=>rfl
    | succ L ih=>rw[List.range_succ,List.flatMap_append,List.flatMap_append,ih (fun l hl=>h l (by omega))];simp[h L (by omega)]
   apply hc
   intro l hl
   rw[allP_eq F hn k m (node+1) (lab cs node l) (by omega),List.map_map]
   apply List.map_congr_left
   intro j hj
   have hj':j<after F (lab cs node l) (above n node) k:=by simpa [above] using hj
   simp only[Function.comp_apply,planAt]
   rw[findLab_at (fun l=>after F (lab cs node l) (above n node) k) (show l<cs.length+1 by omega) hj']
  ·intro l h1 h2
   have:after F (lab cs node l) (above n node) k=0:=by
    apply after_long
    rw[lab_len]
    split<;>omega
   rw[this];rfl
theorem sumSub_le {f g:Nat→Nat} (h : ∀t,f t≤g t) (m:Nat) : ∀t s,sumSub f m t s≤sumSub g m t s
 | 0,_=>Nat.le_refl _
 | t+1,s=>by
  unfold sumSub
  have:=sumSub_le h m t (s - 1 &&& m)
  have h1:=h s
  split<;>omega
theorem sumFrom_le {f g:Nat→Nat} (h : ∀t,f t≤g t) (m s:Nat):sumFrom f m s≤sumFrom g m s:=sumSub_le h m _ _
theorem ways_top (F:Nat→Bool) : ∀(k s:Nat),ways F k s≤ways (fun _=>true) k s
 | 0,s=>by unfold ways;exact Nat.le_refl _
 | k+1,s=>by
  unfold ways
  split
  ·exact Nat.le_refl _
  ·refine sumFrom_le (fun t=>?_) _ _
   simp only[if_true]
   split
   ·exact ways_top F k _
   ·exact Nat.zero_le _
theorem total6_le {F:Nat→Bool} {n k:Nat} (hn:n≤6) (hk:k≤4):after F [] (2 ^ n - 1) k≤400:=by
 have h1:after F [] (2 ^ n - 1) k≤after (fun _=>true) [] (2 ^ n - 1) k:=ways_top F k _
 have h2:=after_pop (n:=n) (f:=fun _=>true) (F:=fun _=>true) (by omega) (fun s _=>rfl) [] (2 ^ n - 1) k (by have:0<2 ^ n:=Nat.pow_pos (by omega);omega) (fun c hc=>by cases hc)
 have hp : ∀m,pop m (2 ^ m - 1)=m:=by
  intro m
  induction m with
  | zero=>rfl
  | succ m ih =>
   have hpos:0<2 ^ m:=Nat.pow_pos (by omega)
   rw[pop,Nat.pow_succ,show(2 ^ m*2 - 1) % 2=1 by omega,show(2 ^ m*2 - 1) / 2=2 ^ m - 1 by omega,ih];omega
 rw[h2,hp n] at h1
 have h3 : ∀n,n≤6 → ∀k,k≤4→aP (fun _=>true) [] n k≤400:=by decide +kernel
 exact Nat.le_trans h1 (h3 n hn k hk)
end Go.Id

/-! Counting plans of a part: sets of the part's nodes, numbered anew. -/
namespace Go.Id
open Go
end Go.Id

/-! Counting plans of a part: the induced graph's districts. -/
namespace Go.Id
open Go
end Go.Id

/-! The induced graph is a graph. -/
namespace Go.Id
open Go
end Go.Id

/-! The places of a part's nodes, as a map. -/
namespace Go.Id
open Go
theorem kn_inj {a b:Nat} (h:KN a=KN b):a=b:=by
 have:(a:Int)=(b:Int):=by injection h
 omega
end Go.Id

/-! A plan's districts, as a map. -/
namespace Go.Id
open Go
def csM:Nat→List Nat→MapL
 | _,[] => []
 | s,c :: cs=>(KN s,K64 c) :: csM (s+1) cs
theorem csM_len : ∀(s:Nat) (cs:List Nat),(csM s cs).length=cs.length
 | _,[]=>rfl
 | s,c :: cs=>by rw[csM,List.length_cons,csM_len (s+1) cs,List.length_cons]
theorem csM_at : ∀(s:Nat) (cs:List Nat) (i:Nat),(csM s cs)[i]?=(cs[i]?).map fun c=>(KN (s+i),K64 c)
 | _,[],i=>by simp[csM]
 | s,c :: cs,0=>by simp[csM]
 | s,c :: cs,i+1=>by
  rw[csM,List.getElem?_cons_succ,csM_at (s+1) cs i,List.getElem?_cons_succ,show s+1+i=s+(i+1) by omega]
theorem csM_key {s:Nat} {cs:List Nat} {e:Value×Value} (h:e∈csM s cs) : ∃i c,e=(KN (s+i),K64 c)∧cs[i]?=some c:=by
 obtain⟨i,hi⟩:=List.mem_iff_getElem?.1 h
 rw[csM_at] at hi
 obtain⟨c,h1,h2⟩:=Option.map_eq_some_iff.1 hi
 exact⟨i,c,h2.symm,h1⟩
theorem csM_app : ∀(s:Nat) (cs:List Nat) (c:Nat),csM s (cs ++ [c])=csM s cs ++ [(KN (s+cs.length),K64 c)]
 | s,[],c=>rfl
 | s,d :: cs,c=>by
  rw[List.cons_append,csM,csM_app (s+1) cs c,csM,List.cons_append,List.length_cons,show s+1+cs.length=s+(cs.length+1) by omega]
theorem csM_set : ∀(s:Nat) (cs:List Nat) (i c:Nat),csM s (cs.set i c)=(csM s cs).set i (KN (s+i),K64 c)
 | s,[],i,c=>by simp[csM]
 | s,d :: cs,0,c=>by simp[csM]
 | s,d :: cs,i+1,c=>by
  rw[List.set_cons_succ,csM,csM_set (s+1) cs i c,csM,List.set_cons_succ,show s+1+i=s+(i+1) by omega]
theorem csM_place : ∀(s:Nat) (cs:List Nat) (l:Nat),place (csM s cs) (KN (s+l))=if l<cs.length then some l else none
 | s,[],l=>by simp[csM,place]
 | s,c :: cs,0=>by simp[csM,place]
 | s,c :: cs,l+1=>by
  rw[csM,place,if_neg (fun h=>by have:=kn_inj h;omega),show s+(l+1)=s+1+l by omega,csM_place (s+1) cs l]
  by_cases h:l<cs.length
  ·rw[if_pos h,if_pos (by simp;omega)];rfl
  ·rw[if_neg h,if_neg (by simp;omega)];rfl
theorem csM_asc (cs:List Nat) (l:Nat):(asc (csM 0 cs) (KN l)).getD (K64 0)=K64 (cs.getD l 0):=by
 have h:=csM_place 0 cs l
 rw[Nat.zero_add] at h
 by_cases hl:l<cs.length
 ·rw[if_pos hl] at h
  obtain⟨v,h1,h2⟩:=place_some h
  rw[h2,Option.getD_some]
  rw[csM_at,List.getElem?_eq_getElem hl] at h1
  simp only[Option.map_some,Option.some.injEq,Prod.mk.injEq] at h1
  rw[←h1.2,List.getD_eq_getElem?_getD,List.getElem?_eq_getElem hl];rfl
 ·rw[if_neg hl] at h
  rw[place_none h,List.getD_eq_getElem?_getD,List.getElem?_eq_none (by omega)];rfl
theorem csM_upd {cs:List Nat} {l:Nat} (hl:l≤cs.length) (node:Nat):upd (csM 0 cs) (KN l) (K64 (cs.getD l 0 ||| 2 ^ node))=csM 0 (lab cs node l):=by
 have h:=csM_place 0 cs l
 rw[Nat.zero_add] at h
 unfold upd lab
 rw[h]
 by_cases h1:l<cs.length
 ·rw[if_pos h1,if_neg (by omega),csM_set,Nat.zero_add]
 ·obtain rfl:l=cs.length:=by omega
  rw[if_neg h1,if_pos rfl,csM_app,Nat.zero_add,List.getD_eq_getElem?_getD,List.getElem?_eq_none (Nat.le_refl _)]
  simp
theorem csF_app : ∀(p q:List Nat) (node:Nat) (cs:List Nat),csF node cs (p ++ q)=csF (node+p.length) (csF node cs p) q
 | [],q,node,cs=>rfl
 | l :: p,q,node,cs=>by
  rw[List.cons_append,csF,csF_app p q,csF,List.length_cons,show node+1+p.length=node+(p.length+1) by omega]
theorem okL_at : ∀(p:List Nat) (node:Nat) (cs:List Nat),OkL node cs p → ∀(i l:Nat),p[i]?=some l→l≤(csF node cs (p.take i)).length∧csF node cs (p.take (i+1))=lab (csF node cs (p.take i)) (node+i) l
 | [],_,_,_,i,l,hi=>by simp at hi
 | a :: p,node,cs,h,0,l,hi=>by
  simp at hi;subst hi
  exact⟨h.1,by simp[csF]⟩
 | a :: p,node,cs,h,i+1,l,hi=>by
  obtain⟨h1,h2⟩:=okL_at p (node+1) (lab cs node a) h.2 i l (by simpa using hi)
  refine⟨by simpa [csF] using h1,?_⟩
  have e:node+1+i=node+(i+1):=by omega
  rw[List.take_succ_cons,csF,h2,e,List.take_succ_cons,csF]
theorem csF_len (p:List Nat) (node:Nat) (cs:List Nat):(csF node cs p).length≤cs.length+p.length:=by
 induction p generalizing node cs with
 | nil=>simp[csF]
 | cons l p ih =>
  rw[csF,List.length_cons]
  have:=ih (node+1) (lab cs node l)
  rw[lab_len] at this
  split at this<;>omega
theorem csF_lt {n:Nat} : ∀(p:List Nat) (node:Nat) (cs:List Nat),node+p.length≤n→(∀c∈cs,c<2 ^ n) → ∀c∈csF node cs p,c<2 ^ n
 | [],_,_,_,hc=>hc
 | l :: p,node,cs,hn,hc=>csF_lt p (node+1) (lab cs node l) (by simp at hn;omega) (lab_mem (by simp at hn;omega) hc)
end Go.Id

/-! The greater and the lesser of two integers. -/
namespace Go.Id
open Go
end Go.Id

/-! Loops over functions, whose rounds may lay their variable into memory and may end early. -/
namespace Go.Id
open Go
end Go.Id

/-! Weakest preconditions over the ideal machine: appends to slices without room; lengths and parts of slices in regions whose order is open. -/
namespace Go.Id
open Go
end Go.Id

/-! Weakest preconditions over the ideal machine: loops over maps. -/
namespace Go.Id
open Go
def rangeV (P:Program) (h:IH) (t:TypeId):Value→Option (Value×IH)
 | .map (some k)=>match P.underlying t with
  | some (.map _ _)=>(mapOf h k).map fun es=>(ptr (2*h.n) 0,h.new (.iter k es.length [] es.length))
  | _=>none
 | _=>none
def entryV (h:IH):Value→Option Value
 | .pointer (some ⟨b,0,none⟩)=>bif b % 2 == 1 then none else match h.ext.get (b / 2) with
  | some (.iter k _ seen last)=>match mapOf h k,seen.getLast? with
   | some es,some i=>bif es.length == last then (es[i]?).map fun e=>.tuple #[e.1,e.2] else none
   | _,_=>none
  | _=>none
 | _=>none
theorem d_range {P:Program} {fr:Fr} {h:IH} {K:Value→IH→Prop} {u:Nx K} (t:TypeId) (x:Operand):Do (wpOp P (.range t x) fr h) K u=Do (Ex (opd fr x)) (fun m=>Do (Ex (rangeV P h t m)) (fun r=>K r.1 r.2) nx) nx:=by
 show Ex (iop P fr (.range t x) h) _=Ex (opd fr x) fun m=>Ex (rangeV P h t m) _
 simp only[iop]
 cases opd fr x with
 | none=>cases P.underlying t with
  | none=>simp
  | some d=>cases d<;>simp
 | some m =>
  rw[Ex_some]
  congr 1
  unfold rangeV
  cases hu:P.underlying t with
  | none=>cases m with
   | map r=>cases r<;>rfl
   | _=>rfl
  | some d=>cases d<;>(cases m with
   | map r=>cases r<;>rfl
   | _=>rfl)
theorem iop_entry {P:Program} {fr:Fr} {h:IH} (x:Operand):iop P fr (.entry x) h=(opd fr x).bind fun m=>(entryV h m).map (·,h):=by
 simp only[iop]
 cases opd fr x with
 | none=>rfl
 | some m =>
  cases m with
  | pointer a=>cases a with
   | none=>rfl
   | some a =>
    obtain⟨b,o,s⟩:=a
    cases o with
    | succ o=>cases s<;>rfl
    | zero=>cases s with
     | some s=>rfl
     | none =>
      simp only[entryV,Option.bind_some]
      cases hb:(b % 2 == 1) with
      | true=>rfl
      | false =>
       simp only[cond_false]
       cases h.ext.get (b / 2) with
       | none=>rfl
       | some ob=>cases ob with
        | iter k s seen last =>
         simp only
         cases mapOf h k with
         | none=>cases seen.getLast?<;>rfl
         | some es=>cases seen.getLast? with
          | none=>rfl
          | some i=>simp only[cond_eq_ite];split<;>simp<;>rfl
        | _=>rfl
  | _=>rfl
theorem d_entry {P:Program} {fr:Fr} {h:IH} {K:Value→IH→Prop} {u:Nx K} (x:Operand):Do (wpOp P (.entry x) fr h) K u=Do (Ex (opd fr x)) (fun p=>Do (Ex (entryV h p)) (fun v=>K v h) nx) nx:=by
 show Ex (iop P fr (.entry x) h) _=Ex (opd fr x) fun m=>Ex (entryV h m) _
 rw[iop_entry]
 cases opd fr x with
 | none=>simp
 | some m=>simp
theorem rangeV_eq {P:Program} {h:IH} {t kt et:TypeId} {k:Nat} {es:List (Value×Value)} (hu:P.underlying t=some (.map kt et)) (hk:mapOf h k=some es):rangeV P h t (.map (some k))=some (ptr (2*h.n) 0,h.new (.iter k es.length [] es.length)):=by
 simp[rangeV,hu,hk]
theorem entryV_eq {h:IH} {kb k i:Nat} {es:List (Value×Value)} {s:List Nat} {x:Value×Value} (hg:h.ext.get kb=some (.iter k es.length (s ++ [i]) es.length)) (hk:mapOf h k=some es) (hx:es[i]?=some x):entryV h (ptr (2*kb) 0)=some (.tuple #[x.1,x.2]):=by
 have h2:2*kb / 2=kb:=by omega
 simp[entryV,ptr,h2,hg,hk,hx]
theorem uniform1 {p:Nat→Nat→Prop} : ∀(s:List Nat),(∀a∈s,∃N,∀n,N≤n→p n a) → ∃N,∀n,N≤n → ∀a∈s,p n a
 | [],_=>⟨0,fun _ _ a ha=>by cases ha⟩
 | b :: s,h=>by
  obtain⟨N,hN⟩:=h b (by simp)
  obtain⟨M,hM⟩:=uniform1 s (fun a ha=>h a (by simp[ha]))
  refine⟨max N M,fun n hn a ha=>?_⟩
  rcases List.mem_cons.1 ha with rfl|ha
  ·exact hN n (by omega)
  ·exact hM n (by omega) a ha
theorem uniform {p:Nat→List Nat→Prop} : ∀(q:Nat) (s:List Nat),s.length=q → ∀{p:Nat→List Nat→Prop},(∀l:List Nat,l.Perm s → ∃N,∀n,N≤n→p n l) → ∃N,∀n,N≤n → ∀l:List Nat,l.Perm s→p n l
 | 0,s,hq,p,h=>by
  obtain rfl:s = []:=List.length_eq_zero_iff.1 hq
  obtain⟨N,hN⟩:=h [] (List.Perm.refl _)
  refine⟨N,fun n hn l hl=>?_⟩
  obtain rfl:=List.Perm.eq_nil hl
  exact hN n hn
 | q+1,s,hq,p,h=>by
  have h1 : ∀a∈s,∃N,∀n,N≤n → ∀l:List Nat,l.Perm (s.erase a)→p n (a :: l):=fun a ha =>
   uniform q (s.erase a) (by rw[List.length_erase_of_mem ha,hq];rfl) (p:=fun n l=>p n (a :: l)) (fun l hl=>h (a :: l) ((hl.cons a).trans (List.perm_cons_erase ha).symm))
  obtain⟨N,hN⟩:=uniform1 (p:=fun n a => ∀l:List Nat,l.Perm (s.erase a)→p n (a :: l)) s h1
  refine⟨N,fun n hn l hl=>?_⟩
  cases l with
  | nil=>have:=hl.length_eq;simp[hq] at this
  | cons a l =>
   have ha:a∈s:=hl.subset (by simp)
   exact hN n hn a ha l (List.Perm.cons_inv (hl.trans (List.perm_cons_erase ha)))
theorem fget_filterMap_of {g:Nat→Option (Nat×Value)} (hg : ∀s x,g s=some x→x.1=s) {t:Nat} {v:Value} (ht:g t=some (t,v)) : ∀(l:List Nat),t∈l→fget (l.filterMap g) t=some v
 | [],h=>by cases h
 | a :: l,h=>by
  cases ha:g a with
  | none =>
   rw[List.filterMap_cons_none ha]
   refine fget_filterMap_of hg ht l ?_
   rcases List.mem_cons.1 h with rfl|h
   ·rw[ht] at ha;cases ha
   ·exact h
  | some x =>
   obtain⟨s,u⟩:=x
   obtain rfl:s=a:=hg a _ ha
   rw[List.filterMap_cons_some ha]
   simp only[fget,cond_eq_ite,beq_iff_eq]
   by_cases e:s=t
   ·subst e;rw[ht] at ha;cases ha;simp
   ·rw[if_neg e]
    rcases List.mem_cons.1 h with rfl|h
    ·exact absurd rfl e
    ·exact fget_filterMap_of hg ht l h
theorem common_of {nt n:Nat} {R:List Nat→Out} {e:IExit} {h':IH} {T:Fr→Prop} (hall : ∀l:List Nat,l.Perm (List.range n) → ∃fr,R l=some (e,fr,h')∧T fr) :
  ∃F,common nt n R=some (e,F,h') ∧ ∀t v,t<nt→(∀fr,T fr→fget fr t=some v)→fget F t=some v:=by
 have c : ∃o:IExit×IH,∀l:List Nat,l.Perm (List.range n) → ∃fr,R l=some (o.1,fr,o.2):=⟨(e,h'),fun l hl=>let ⟨fr,a,_⟩:=hall l hl;⟨fr,a⟩⟩
 have hc:c.choose=(e,h'):=by
  obtain⟨fr,a,_⟩:=hall _ (List.Perm.refl _)
  obtain⟨fr2,b⟩:=c.choose_spec _ (List.Perm.refl _)
  rw[a] at b
  cases hx:c.choose with
  | mk x y=>rw[hx] at b;cases b;rfl
 unfold common
 rw[dif_pos c]
 refine⟨_,by rw[hc],fun t v ht hv=>?_⟩
 refine fget_filterMap_of ?_ ?_ _ (List.mem_range.2 ht)
 ·intro s x hx
  split at hx
  ·cases hx;rfl
  ·cases hx
 ·have d : ∃v,∀l:List Nat,l.Perm (List.range n) → ∀e fr h,R l=some (e,fr,h)→fget fr t=some v:=⟨v,fun l hl e1 fr1 h1 hx=>by
   obtain⟨fr2,a,b⟩:=hall l hl
   rw[a] at hx;cases hx
   exact hv _ b⟩
  rw[dif_pos d]
  obtain⟨fr,a,b⟩:=hall _ (List.Perm.refl _)
  have h1:=d.choose_spec _ (List.Perm.refl _) _ _ _ a
  rw[hv fr b] at h1
  rw[←Option.some.inj h1]
theorem mapLoop_tm {P:Program} {fn:FuncId} {nt:Nat} {rd:Option Nat} {b:Code} {id it nx more:Nat} {rest:Code} (hp:headOf b=some (id,it,nx,more,rest)) {fr:Fr} {h:IH} {kb k:Nat} {es:List (Value×Value)} {q0:Nat} {q1:List Nat} {q2:Nat}
  (f:fget fr it=some (ptr (2*kb) 0)) (g:h.ext.get kb=some (.iter k q0 q1 q2)) (hk:mapOf h k=some es) {e:IExit} {h':IH} {T:Fr→Prop}
  (hall : ∀l:List Nat,l.Perm (List.range es.length) → ∃frl hl,(∃N,∀n,N≤n→mapRounds (evC (E0 P) (callV (E0 P) n) fn nt rd n rest) (fun fr=>fr) nt it nx more kb k es l [] fr h=some (e,frl,hl)) ∧
   (∃k0 a0 b0 c0,hl.ext.get kb=some (.iter k0 a0 b0 c0)) ∧ { hl with ext:=hl.ext.set kb .dead }=h'∧T frl)
  {Q:IExit→Fr→IH→Prop} (hQ : ∀F,(∀t v,t<nt→(∀fr,T fr→fget fr t=some v)→fget F t=some v)→Q e F h'):WLoop P fn nt rd b fr h Q:=by
 have h0:2*kb / 2=kb:=by omega
 have hev : ∀n,evC (E0 P) (callV (E0 P) n) fn nt rd n (.loop b) fr h=common nt es.length fun l=>open Classical in if l.Perm (List.range es.length) then killIter kb (mapRounds (evC (E0 P) (callV (E0 P) n) fn nt rd n rest) (fun fr=>fr) nt it nx more kb k es l [] fr h) else none:=by
  intro n
  rw[evC_loop,hp]
  simp only
  unfold mapLoop
  have hh:headFr (E0 P) fn id=fun fr=>fr:=by funext x;rfl
  rw[hh]
  simp only[f,ptr]
  rw[h0,g]
  simp only[hk]
  simp
 have hone : ∀l:List Nat,l.Perm (List.range es.length) → ∃o:Out,(∃fr1,o=some (e,fr1,h')∧T fr1) ∧ ∃N,∀n,N≤n→killIter kb (mapRounds (evC (E0 P) (callV (E0 P) n) fn nt rd n rest) (fun fr=>fr) nt it nx more kb k es l [] fr h)=o:=by
  intro l hl
  obtain⟨frl,hl1,⟨N,hN⟩,⟨k0,a0,b0,c0,hit⟩,hh,ht⟩:=hall l hl
  refine⟨some (e,frl,h'),⟨frl,rfl,ht⟩,N,fun n hn=>?_⟩
  rw[hN n hn]
  simp[killIter,hit,hh]
 obtain⟨R,hR⟩:=Classical.axiomOfChoice (r:=fun(l:List Nat) (o:Out)=>l.Perm (List.range es.length)→(∃fr1,o=some (e,fr1,h')∧T fr1) ∧ ∃N,∀n,N≤n→killIter kb (mapRounds (evC (E0 P) (callV (E0 P) n) fn nt rd n rest) (fun fr=>fr) nt it nx more kb k es l [] fr h)=o) (fun l=>by
  by_cases hl:l.Perm (List.range es.length)
  ·obtain⟨o,ho⟩:=hone l hl;exact⟨o,fun _=>ho⟩
  ·exact⟨none,fun h=>absurd h hl⟩)
 obtain⟨N,hN⟩:=uniform _ (List.range es.length) rfl (p:=fun n l=>killIter kb (mapRounds (evC (E0 P) (callV (E0 P) n) fn nt rd n rest) (fun fr=>fr) nt it nx more kb k es l [] fr h)=R l) (fun l hl=>(hR l hl).2)
 obtain⟨F,hF,hT⟩:=common_of (nt:=nt) (n:=es.length) (R:=fun l=>open Classical in if l.Perm (List.range es.length) then R l else none) (e:=e) (h':=h') (T:=T) (fun l hl=>by
  obtain⟨fr1,a,b⟩:=(hR l hl).1
  exact⟨fr1,by rw[if_pos hl,a],b⟩)
 refine⟨(e,F,h'),⟨N,fun n hn=>?_⟩,hQ F hT⟩
 show evC (E0 P) (callV (E0 P) n) fn nt rd n (.loop b) fr h=_
 rw[hev n,←hF]
 congr 1
 funext l
 split
 ·rename_i hl;exact hN n hn l hl
 ·rfl
theorem Tr.set_get {α:Type} : ∀(t:Tr α) (n:Nat) (x:α),t.get n=some x→t.set n x=t
 | .leaf,n,x,h=>by simp[Tr.get] at h
 | .node l v r,n,x,h=>by
  simp only[Tr.get,cond_eq_ite] at h
  simp only[Tr.set,cond_eq_ite]
  split
  ·rename_i h0;rw[if_pos h0] at h;rw[h]
  ·rename_i h0
   rw[if_neg h0] at h
   split
   ·rename_i h1;rw[if_pos h1] at h;rw[Tr.set_get l _ x h]
   ·rename_i h1;rw[if_neg h1] at h;rw[Tr.set_get r _ x h]
theorem Tr.set_set {α:Type} : ∀(t:Tr α) (n:Nat) (x y z:α),t.get n=some z→(t.set n x).set n y=t.set n y
 | .leaf,n,x,y,z,h=>by simp[Tr.get] at h
 | .node l v r,n,x,y,z,h=>by
  simp only[Tr.get,cond_eq_ite] at h
  by_cases h0:(n == 0)=true
  ·simp[Tr.set,h0]
  ·rw[if_neg h0] at h
   by_cases h1:(n % 2 == 1)=true
   ·rw[if_pos h1] at h
    simp[Tr.set,h0,h1,Tr.set_set l _ x y z h]
   ·rw[if_neg h1] at h
    simp[Tr.set,h0,h1,Tr.set_set r _ x y z h]
def atS (h:IH) (kb k:Nat) (es:List (Value×Value)) (s:List Nat):IH:={ h with ext:=h.ext.set kb (.iter k es.length s es.length) }
theorem atS_get (h:IH) (kb k:Nat) (es:List (Value×Value)) (s:List Nat) (j:Nat):(atS h kb k es s).ext.get j=if j=kb then some (.iter k es.length s es.length) else h.ext.get j:=Tr.get_set _ _ _ _
def roundK (I:Fr→Prop) (h1:IH) (e:IExit) (fr:Fr) (h:IH):Prop:=match e with
 | .normal=>h=h1∧I fr
 | _=>False
def overK (e0:IExit) (I:Fr→Prop) (h1:IH) (e:IExit) (fr:Fr) (h:IH):Prop:=e=e0∧h=h1∧I fr
theorem roundK_normal (I:Fr→Prop) (h1:IH) (fr:Fr) (h:IH):roundK I h1 .normal fr h=(h=h1∧I fr):=rfl
theorem overK_eq (e0:IExit) (I:Fr→Prop) (h1:IH) (e:IExit) (fr:Fr) (h:IH):overK e0 I h1 e fr h=(e=e0∧h=h1∧I fr):=rfl
theorem mapLoopA {P:Program} {fn:FuncId} {nt:Nat} {rd:Option Nat} {b:Code} {Q:IExit→Fr→IH→Prop} (I:Fr→Prop) (e:IExit) {id it nx more:Nat} {rest:Code} {fr:Fr} {h:IH} {kb k:Nat} {es:List (Value×Value)}
  (g:h.ext.get kb=some (.iter k es.length [] es.length)) (hk:mapOf h k=some es) (i0:I fr) (hI : ∀fr,I fr→fget fr it=some (ptr (2*kb) 0))
  (step : ∀(i:Nat) (x:Value×Value) (fr:Fr) (s:List Nat),es[i]?=some x→I fr→Do (wpC P fn nt rd rest ((more,.bool true) :: (nx,.tuple #[.bool true,x.1,x.2]) :: fr) (atS h kb k es (s ++ [i]))) (roundK I (atS h kb k es (s ++ [i]))) Id.nx)
  (over : ∀(fr:Fr) (s:List Nat),I fr→Do (wpC P fn nt rd rest ((more,.bool false) :: (nx,.tuple #[.bool false]) :: fr) (atS h kb k es s)) (overK e I (atS h kb k es s)) Id.nx)
  (hQ : ∀F,(∀t v,t<nt→(∀fr,I fr→fget fr t=some v)→fget F t=some v)→Q e F { h with ext:=h.ext.set kb .dead })
  (hp:headOf b=some (id,it,nx,more,rest):=by rfl) (hnx:nx<nt:=by decide) (hmo:more<nt:=by decide) (hen:e≠.normal:=by simp):Do (WLoop P fn nt rd b fr h) Q Id.nx:=by
 have hkk:k / 2≠kb:=by
  intro hc
  unfold mapOf at hk
  rw[hc,g] at hk
  simp only[cond_eq_ite] at hk
  split at hk<;>cases hk
 have hmap : ∀s,mapOf (atS h kb k es s) k=some es:=by
  intro s
  unfold mapOf at hk ⊢
  rw[atS_get,if_neg hkk]
  exact hk
 have h00:atS h kb k es []=h:=by
  unfold atS
  rw[Tr.set_get _ _ _ g]
 have hss : ∀s s',{ atS h kb k es s with ext:=(atS h kb k es s).ext.set kb (.iter k es.length s' es.length) }=atS h kb k es s':=by
  intro s s'
  unfold atS
  simp only
  rw[Tr.set_set _ _ _ _ _ g]
 have hput : ∀(v:Value) (bb:Bool) (fr:Fr),putNext nt nx more v bb fr=some ((more,.bool bb) :: (nx,v) :: fr):=by
  intro v bb fr
  have h1:Nat.blt nx nt=true:=by rw[Nat.blt,Nat.ble_eq];exact hnx
  have h2:Nat.blt more nt=true:=by rw[Nat.blt,Nat.ble_eq];exact hmo
  simp[putNext,fput,h1,h2]
 have rounds : ∀(l s:List Nat) (fr:Fr),(∀i∈l,i<es.length)→I fr → ∃frl,(∃N,∀n,N≤n→mapRounds (evC (E0 P) (callV (E0 P) n) fn nt rd n rest) (fun fr=>fr) nt it nx more kb k es l s fr (atS h kb k es s)=some (e,frl,atS h kb k es (s ++ l)))∧I frl:=by
  intro l
  induction l with
  | nil =>
   intro s fr _ hi
   have hok:iterOK fr (atS h kb k es s) it kb k es s:=⟨hI fr hi,by rw[atS_get,if_pos rfl],hmap s⟩
   obtain⟨⟨e1,fr1,h1⟩,⟨N,hN⟩,rfl,hh,hi1⟩:=wpC_sound (over fr s hi)
   simp only at hh hi1 hN hen
   refine⟨fr1,⟨N,fun n hn=>?_⟩,hi1⟩
   rw[mapRounds,if_pos hok,hput]
   simp only[hN n hn,List.append_nil]
   cases e1 with
   | normal=>exact absurd rfl hen
   | exit j=>simp[hh]
   | ret=>simp[hh]
  | cons i l ihl =>
   intro s fr hl hi
   have hok:iterOK fr (atS h kb k es s) it kb k es s:=⟨hI fr hi,by rw[atS_get,if_pos rfl],hmap s⟩
   obtain⟨x,hx⟩ : ∃x,es[i]?=some x:=⟨_,List.getElem?_eq_getElem (hl i (by simp))⟩
   obtain⟨⟨e1,fr1,h1⟩,⟨N,hN⟩,hr⟩:=wpC_sound (step i x fr s hx hi)
   cases e1 with
   | exit j=>exact hr.elim
   | ret=>exact hr.elim
   | normal =>
    obtain⟨hh,hi1⟩:=hr
    simp only at hh hi1 hN
    subst hh
    obtain⟨frl,⟨M,hM⟩,hi2⟩:=ihl (s ++ [i]) fr1 (fun j hj=>hl j (by simp[hj])) hi1
    refine⟨frl,⟨max N M,fun n hn=>?_⟩,hi2⟩
    rw[mapRounds,if_pos hok,hx]
    simp only[hput,hss,hN n (by omega)]
    rw[hM n (by omega),List.append_assoc]
    rfl
 refine mapLoop_tm (T:=I) hp (hI fr i0) g hk (e:=e) (h':={ h with ext:=h.ext.set kb .dead }) (fun l hl=>?_) hQ
 obtain⟨frl,⟨N,hN⟩,hi1⟩:=rounds l [] fr (fun i hi=>by simpa using hl.subset hi) i0
 rw[h00] at hN
 refine⟨frl,atS h kb k es ([] ++ l),⟨N,hN⟩,⟨k,_,_,_,by rw[atS_get,if_pos rfl]⟩,?_,hi1⟩
 unfold atS
 simp only
 rw[Tr.set_set _ _ _ _ _ g]
end Go.Id

/-! Weakest preconditions over the ideal machine: two lists that grow side by side. -/
namespace Go.Id
open Go
def AccK (h:IH) (n0 sz:Nat) (v:Value) (n:Nat) (cs:List Value) (k:Nat) (fam:Option Nat):Prop :=
 0<sz∧cs.length=n*sz∧v=.slice (some ⟨2*k,0,none⟩) n (2*n)∧0<n∧n0≤k∧k<h.n∧h.ext.get k=some (.cells cs sz fam)∧TopFam h n0 k fam
theorem AccK.acc {h:IH} {n0 sz:Nat} {v:Value} {n:Nat} {cs:List Value} {k:Nat} {fam:Option Nat} (a:AccK h n0 sz v n cs k fam):Acc h n0 sz v n cs:=⟨a.1,a.2.1,.inr ⟨k,fam,a.2.2⟩⟩
theorem AccK.other {h h':IH} {n0 sz:Nat} {v:Value} {n:Nat} {cs:List Value} {k:Nat} {fam:Option Nat} (a:AccK h n0 sz v n cs k fam) (hn:h.n≤h'.n) (he:h'.ext.get k=h.ext.get k) (hf : ∀f,fam=some f→h'.fams.get f=h.fams.get f):AccK h' n0 sz v n cs k fam:=by
 obtain⟨h1,h2,h3,h4,h5,h6,h7,h8⟩:=a
 refine⟨h1,h2,h3,h4,h5,by omega,by rw[he];exact h7,?_⟩
 cases fam with
 | none=>trivial
 | some f =>
  obtain⟨a1,a2,rest,a3,a4⟩:=h8
  exact⟨a1,by omega,rest,by rw[hf f rfl];exact a3,a4⟩
theorem AccK.app {h:IH} {n0 sz:Nat} {v:Value} {n:Nat} {cs:List Value} {kk:Nat} {fam:Option Nat} (a:AccK h n0 sz v n cs kk fam) {P:Program} {t:TypeId} {bytes:Nat} (hT:appT P t=some (sz,bytes)) {x:Value} {m:Nat} {new:List Value} (sx:SlNow h sz x m new) (hm:0<m)
  (hc:new.all cellOK=true) (hsz:(n+m)*(bytes+1)≤1099511627776) :
  ∃h' f,append P h t v x=some (.slice (some ⟨2*h.n,0,none⟩) (n+m) (2*(n+m)),h')∧AccK h' n0 sz (.slice (some ⟨2*h.n,0,none⟩) (n+m) (2*(n+m))) (n+m) (cs ++ new) h.n (some f)∧(fam=some f∨(fam=none∧f=h.n))∧h'.n=h.n+1∧h'.base=h.base ∧
   (∀j,j<h.n→j≠kk→h'.ext.get j=h.ext.get j)∧h'.ext.get kk=some (.cells cs sz (some f))∧(∀g,g<h.n→fam≠some g→h'.fams.get g=h.fams.get g):=by
 unfold appT at hT
 split at hT
 case h_2=>cases hT
 rename_i e hu
 split at hT
 case h_2=>cases hT
 rename_i zs h1 h2 h3
 simp only[cond_eq_ite] at hT
 split at hT
 case isTrue=>cases hT
 rename_i hbad
 cases hT
 have hbad':(sz == 0 || (!(Nat.ble bytes 65536) || !(zs.length == sz)))=false:=by simpa using hbad
 have hmne:(m == 0)=false:=by simp;omega
 have hln:new.length=m*sz∧firstOf h sz m x=some new∧lenOf x=some m:=by
  obtain⟨hz,hl,⟨rfl,rfl⟩|⟨b2,o2,k2,rfl,rfl|⟨row,a1,a2,a3⟩⟩⟩:=sx
  ·omega
  ·omega
  have hms : ¬m*sz=0:=by
   have:0<m*sz:=Nat.mul_pos hm hz
   omega
  refine⟨hl,?_,rfl⟩
  simp only[firstOf,cond_eq_ite,Nat.ble_eq,Nat.le_refl,if_true,beq_iff_eq,if_neg hms]
  rw[rd_of a1,if_pos a3,a2]
 obtain⟨hln,hfirst,hlx⟩:=hln
 obtain⟨hz,hl,rfl,hn,g1,g2,g3,g4⟩:=a
 have hble:Nat.ble ((n+m)*(bytes+1)) sizeMost=true:=by rw[Nat.ble_eq];exact hsz
 have hcap:Nat.ble (n+m) (2*n / 2)=false:=by
  rw[Bool.eq_false_iff];intro hh;rw[Nat.ble_eq] at hh;omega
 have hodd:(2*n % 2 == 1)=false:=by simp
 have hlen:(n == 2*n / 2 && Nat.blt 0 n && (2*kk) % 2 == 0)=true:=by
  have:2*n / 2=n:=by omega
  simp[this,Nat.blt,Nat.ble_eq];omega
 have hend:(0+n*sz == cs.length && sz == sz)=true:=by simp[hl]
 have hk2:2*kk / 2=kk:=by omega
 have body : ∀f below,(∀j∈below,n0≤j)→(n0≤f)→f<h.n+1→(∀g,g<h.n→fam≠some g→g≠f) →
   AccK (grown h kk f cs sz [] below (cs.drop 0 ++ new) sz) n0 sz (.slice (some ⟨2*h.n,0,none⟩) (n+m) (2*(n+m))) (n+m) (cs ++ new) h.n (some f)∧(grown h kk f cs sz [] below (cs.drop 0 ++ new) sz).n=h.n+1∧(grown h kk f cs sz [] below (cs.drop 0 ++ new) sz).base=h.base ∧
   (∀j,j<h.n→j≠kk→(grown h kk f cs sz [] below (cs.drop 0 ++ new) sz).ext.get j=h.ext.get j)∧(grown h kk f cs sz [] below (cs.drop 0 ++ new) sz).ext.get kk=some (.cells cs sz (some f))∧(∀g,g<h.n→fam≠some g→(grown h kk f cs sz [] below (cs.drop 0 ++ new) sz).fams.get g=h.fams.get g):=by
  intro f below hbl hf1 hf2 hf3
  have hget : ∀j,(grown h kk f cs sz [] below (cs.drop 0 ++ new) sz).ext.get j=if j=h.n then some (.cells (cs ++ new) sz (some f)) else if j=kk then some (.cells cs sz (some f)) else h.ext.get j:=by
   intro j
   simp[grown,IH.killAll,Tr.get_set]
  refine⟨⟨hz,by simp[hl,hln,Nat.add_mul],rfl,by omega,by omega,by simp[grown],by rw[hget,if_pos rfl],hf1,by simp[grown];omega,kk :: below,?_,fun j hj=>?_⟩,by simp[grown],rfl,fun j hj hne=>?_,?_,fun g hg hgf=>?_⟩
  ·simp[grown,Tr.get_set]
  ·rcases List.mem_cons.1 hj with rfl|hj
   ·exact g1
   ·exact hbl j hj
  ·rw[hget,if_neg (by omega),if_neg hne]
  ·rw[hget,if_neg (by omega),if_pos rfl]
  ·simp only[grown,Tr.get_set]
   rw[if_neg (hf3 g hg hgf)]
 cases fam with
 | none =>
  obtain⟨b1,b2,b3,b4,b5,b6⟩:=body h.n [] (fun _ h=>by cases h) (by omega) (by omega) (fun g hg _=>by omega)
  refine⟨_,h.n,?_,b1,.inr ⟨rfl,rfl⟩,b2,b3,b4,b5,b6⟩
  simp only[Id.append,hu,h1,h2,h3,hlx,hmne,hbad',hfirst,hc,hble,hcap,hodd,hlen,hk2,g3,hend,cond_true,cond_false,Bool.not_true]
 | some f =>
  obtain⟨f1,f2,rest,f3,f4⟩:=g4
  obtain⟨b1,b2,b3,b4,b5,b6⟩:=body f rest f4 f1 (by omega) (fun g hg hne e=>hne (by rw[e]))
  refine⟨_,f,?_,b1,.inl rfl,b2,b3,b4,b5,b6⟩
  have t1:(kk :: rest).takeWhile (· != kk) = []:=by simp
  have t2:((kk :: rest).dropWhile (· != kk)).drop 1=rest:=by simp
  simp only[Id.append,hu,h1,h2,h3,hlx,hmne,hbad',hfirst,hc,hble,hcap,hodd,hlen,hk2,g3,hend,f3,t1,t2,cond_true,cond_false,Bool.not_true]
def Acc2 (h:IH) (n0 sz:Nat) (v w:Value) (n:Nat) (cs ds:List Value):Prop :=
 (v=.slice none 0 0∧w=.slice none 0 0∧n=0∧cs = []∧ds = []) ∨
 ∃k fam j gam,AccK h n0 sz v n cs k fam∧AccK h n0 sz w n ds j gam∧k≠j ∧ ∀f,fam=some f→gam≠some f
theorem Acc2.sl {h:IH} {n0 sz:Nat} {v w:Value} {n:Nat} {cs ds:List Value} (hz:0<sz) (a:Acc2 h n0 sz v w n cs ds):SlOf h sz v n cs∧SlOf h sz w n ds:=by
 rcases a with⟨rfl,rfl,rfl,rfl,rfl⟩|⟨k,fam,j,gam,a,b,_⟩
 ·exact⟨SlOf.nil _ hz,SlOf.nil _ hz⟩
 ·exact⟨a.acc.sl,b.acc.sl⟩
theorem Acc2.ext {h h':IH} {n0 sz:Nat} {v w:Value} {n:Nat} {cs ds:List Value} (a:Acc2 h n0 sz v w n cs ds) (e:Ext h h'):Acc2 h' n0 sz v w n cs ds:=by
 rcases a with a|⟨k,fam,j,gam,a,b,c⟩
 ·exact .inl a
 ·have hf : ∀{k:Nat} {fam:Option Nat} {v:Value} {cs:List Value},AccK h n0 sz v n cs k fam→AccK h' n0 sz v n cs k fam:=fun a=>a.other e.n (e.get _ a.2.2.2.2.2.1) fun f hf=>e.fams f (by
   obtain⟨_,_,_,_,_,_,_,t⟩:=a
   subst hf
   exact t.2.1)
  exact .inr ⟨k,fam,j,gam,hf a,hf b,c⟩
theorem append_none {P:Program} {t:TypeId} {sz bytes:Nat} (hT:appT P t=some (sz,bytes)) (h:IH) {x:Value} {m:Nat} {new:List Value} (sx:SlNow h sz x m new) (hm:0<m) (hc:new.all cellOK=true) (hsz:m*(bytes+1)≤1099511627776) :
  append P h t (.slice none 0 0) x=some (.slice (some ⟨2*h.n,0,none⟩) m (2*m),h.new (.cells new sz none)):=by
 unfold appT at hT
 split at hT
 case h_2=>cases hT
 rename_i e hu
 split at hT
 case h_2=>cases hT
 rename_i zs h1 h2 h3
 simp only[cond_eq_ite] at hT
 split at hT
 case isTrue=>cases hT
 rename_i hbad
 cases hT
 have hbad':(sz == 0 || (!(Nat.ble bytes 65536) || !(zs.length == sz)))=false:=by simpa using hbad
 obtain⟨hz,hl,⟨rfl,rfl⟩|⟨b2,o2,k2,rfl,rfl|⟨row,a1,a2,a3⟩⟩⟩:=sx
 ·omega
 ·omega
 have hms : ¬m*sz=0:=by
  have:0<m*sz:=Nat.mul_pos hm hz
  omega
 have hmne:(m == 0)=false:=by simp;omega
 have hfirst:firstOf h sz m (.slice (some ⟨b2,o2,none⟩) m k2)=some new:=by
  simp only[firstOf,cond_eq_ite,Nat.ble_eq,Nat.le_refl,if_true,beq_iff_eq,if_neg hms]
  rw[rd_of a1,if_pos a3,a2]
 have hble:Nat.ble (m*(bytes+1)) sizeMost=true:=by rw[Nat.ble_eq];exact hsz
 simp only[Id.append,hu,h1,h2,h3,lenOf,hmne,hbad',hfirst,hc,hble,cond_true,cond_false,Bool.not_true,BEq.rfl,Bool.and_self]
end Go.Id
