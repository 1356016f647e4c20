/-
  Contracts: enumerate. The field of a graph with bounds: which sets are districts. Contracts: enumerate.Districts. Counting plans: plain numbers as sets of bits. Counting plans: sums over subsets as sums over numbers; bounds. Contracts: enumerate. The ways to divide a set. Contracts: enumerate. The ways to complete classes and to divide what is left.
-/
import Derived.Test.YtipnghefdfnlnaaDoorEnumerateAllAi
import Derived.Test.YtipnghefdfnlnaaDoorEnumerateAllAf
set_option linter.unusedVariables false
set_option linter.unusedSimpArgs false
set_option linter.defProp false
set_option linter.deprecated false
/-! Contracts: enumerate. The field of a graph with bounds: which sets are districts. -/
namespace Go.Id
open Go
structure FP where
 p:Nat
 x:Nat
 d:Nat
 c:Nat
 fb:Nat
 m:Nat
def fitC (n:Nat) (F:Nat→Bool):List Value:=(List.range (2 ^ n)).map fun s=>.bool (F s)
structure FieldAt (h:IH) (q:FP) (n:Nat) (F:Nat→Bool):Prop where
 gp:h.ext.get q.p=some (.cells [KI n,.slice (some ⟨2*q.fb,0,none⟩) (2 ^ n) (2*2 ^ n+1),.func (.func 73) #[] #[ptr (2*q.d) 0,ptr (2*q.x) 0]] 0 none)
 gx:h.ext.get q.x=some (.cells [ptr (2*q.p) 0] 0 none)
 gd:h.ext.get q.d=some (.cells [.func (.func 71) #[] #[ptr (2*q.c) 0,ptr (2*q.x) 0,ptr (2*q.d) 0]] 0 none)
 gc:h.ext.get q.c=some (.cells [.map (some (2*q.m))] 0 none)
 gf:h.ext.get q.fb=some (.cells (fitC n F) 1 none)
 lp:q.p<h.n
 lx:q.x<h.n
 ld:q.d<h.n
 lc:q.c<h.n
 lf:q.fb<h.n
 lm:q.m<h.n
 np:q.p≠q.m
 nx:q.x≠q.m
 nd:q.d≠q.m
 nc:q.c≠q.m
 nf:q.fb≠q.m
theorem FieldAt.mem {h h':IH} {q:FP} {n:Nat} {F:Nat→Bool} (f:FieldAt h q n F) (e:Mem q.m h h'):FieldAt h' q n F where
 gp:=(e.get _ f.lp f.np).trans f.gp
 gx:=(e.get _ f.lx f.nx).trans f.gx
 gd:=(e.get _ f.ld f.nd).trans f.gd
 gc:=(e.get _ f.lc f.nc).trans f.gc
 gf:=(e.get _ f.lf f.nf).trans f.gf
 lp:=Nat.lt_of_lt_of_le f.lp e.n
 lx:=Nat.lt_of_lt_of_le f.lx e.n
 ld:=Nat.lt_of_lt_of_le f.ld e.n
 lc:=Nat.lt_of_lt_of_le f.lc e.n
 lf:=Nat.lt_of_lt_of_le f.lf e.n
 lm:=Nat.lt_of_lt_of_le f.lm e.n
 np:=f.np
 nx:=f.nx
 nd:=f.nd
 nc:=f.nc
 nf:=f.nf
open Classical in
noncomputable def fitsB (E:List (Nat×Nat)) (ws:List Int) (lo hi:Int) (s:Nat):Bool:=decide (0<s∧lo≤weightTo ws s ws.length∧weightTo ws s ws.length≤hi∧Conn (adjOf E) s)
theorem enErr_ok {n:Nat} {E:List (Nat×Nat)} {ws:List Int} {lo hi d:Int} (h:enErr n (castE E) ws lo hi d=0):graphErr n (castE E)=0∧0<n∧n≤12∧EdgesOK n E∧E.length≤200∧ws.length=n∧(∀w∈ws,0≤w∧w≤1000000000)∧1≤d∧d≤8∧0≤lo∧lo≤hi:=by
 unfold enErr at h
 split at h
 ·rename_i h0
  obtain⟨m,hm,h1,h2,h3,h4⟩:=graph_ok h0
  obtain rfl:n=m:=by omega
  split at h
  ·split at h
   ·rename_i h5 h6
    exact⟨h0,h1,by omega,h3,h4,by omega,h6.2.1,by omega⟩
   ·cases h
  ·cases h
 ·cases h
theorem weight_low (ws:List Int) {s k:Nat} (hl:Low s k) : ∀n,weightTo ws s n=weightTo ws (s &&& (s - 1)) n+if k<n then ws.getD k 0 else 0
 | 0=>by simp[weightTo]
 | n+1=>by
  have ih:=weight_low ws hl n
  simp only[weightTo]
  rw[low_clear hl]
  rcases Nat.lt_trichotomy k n with h|h|h
  ·have h1:k<n+1:=by omega
   have h2 : ¬n=k:=by omega
   rw[ih]
   simp only[h,h1,h2,if_true,decide_false,Bool.not_false,Bool.and_true]
   omega
  ·subst h
   have h1 : ¬k<k:=by omega
   have h2:k<k+1:=by omega
   rw[ih,hl.1]
   simp[h1,h2]
  ·have h1 : ¬k<n+1:=by omega
   have h2 : ¬k<n:=by omega
   rw[ih,hl.2 n h]
   simp[h1,h2]
def sumC (ws:List Int) (n k:Nat):List Value:=(List.range (2 ^ n)).map fun s=>KI (if s<k then weightTo ws s n else 0)
def fitK (n k:Nat) (F:Nat→Bool):List Value:=(List.range (2 ^ n)).map fun s=>.bool (decide (s<k) && F s)
theorem sumC_len (ws:List Int) (n k:Nat):(sumC ws n k).length=2 ^ n:=by simp[sumC]
theorem fitK_len (n k:Nat) (F:Nat→Bool):(fitK n k F).length=2 ^ n:=by simp[fitK]
theorem sumC_get (ws:List Int) {n k s:Nat} (hs:s<2 ^ n) (hk:s<k):(sumC ws n k)[s]?=some (KI (weightTo ws s n)):=by simp[sumC,hs,hk]
theorem sumC_set (ws:List Int) {n k:Nat} (hk:k<2 ^ n):IH.splice (sumC ws n k) k [KI (weightTo ws k n)]=sumC ws n (k+1):=by
 rw[splice_set (by rw[sumC_len];exact hk)]
 have:=map_set (f:=fun s=>KI (if s<k then weightTo ws s n else 0)) (g:=fun s=>KI (if s<k+1 then weightTo ws s n else 0)) hk (fun i hi=>by
  have:i<k+1↔i<k:=by omega
  simp[this])
 simpa [sumC] using this
theorem fitK_set {n k:Nat} (F:Nat→Bool) (hk:k<2 ^ n):IH.splice (fitK n k F) k [.bool (F k)]=fitK n (k+1) F:=by
 rw[splice_set (by rw[fitK_len];exact hk)]
 have:=map_set (f:=fun s=>.bool (decide (s<k) && F s)) (g:=fun s=>.bool (decide (s<k+1) && F s)) hk (fun i hi=>by
  have:i<k+1↔i<k:=by omega
  simp[this])
 simpa [fitK] using this
theorem fitK_skip {n k:Nat} {F:Nat→Bool} (h:F k=false):fitK n (k+1) F=fitK n k F:=by
 apply List.map_congr_left
 intro s _
 by_cases hs:s=k
 ·subst hs;simp[h]
 ·have:s<k+1↔s<k:=by omega
  simp[this]
theorem fitK_all (n:Nat) (F:Nat→Bool):fitK n (2 ^ n) F=fitC n F:=by
 apply List.map_congr_left
 intro s hs
 rw[List.mem_range] at hs
 simp[hs]
theorem fitK_one (n:Nat) {F:Nat→Bool} (h0:F 0=false):repl (2 ^ n) [Value.bool false]=fitK n 1 F:=by
 rw[repl_one]
 apply List.ext_getElem?
 intro s
 by_cases hs:s<2 ^ n
 ·by_cases h1:s=0
  ·subst h1;simp[fitK,hs,h0]
  ·simp[fitK,hs,h1]
 ·simp[fitK,hs]
theorem weight_zero (ws:List Int) : ∀n,weightTo ws 0 n=0
 | 0=>rfl
 | n+1=>by simp[weightTo,weight_zero ws n]
theorem sumC_one (ws:List Int) (n:Nat):repl (2 ^ n) [KI 0]=sumC ws n 1:=by
 rw[repl_one]
 apply List.ext_getElem?
 intro s
 by_cases hs:s<2 ^ n
 ·by_cases h1:s=0
  ·subst h1;simp[sumC,hs,weight_zero]
  ·simp[sumC,hs,h1]
 ·simp[sumC,hs]
open Classical in
theorem fitsB_false {E:List (Nat×Nat)} {ws:List Int} {lo hi:Int} {s:Nat} (h : ¬(lo≤weightTo ws s ws.length∧weightTo ws s ws.length≤hi)):fitsB E ws lo hi s=false :=
 decide_eq_false fun x=>h ⟨x.2.1,x.2.2.1⟩
open Classical in
theorem fitsB_flood {E:List (Nat×Nat)} {ws:List Int} {lo hi:Int} {s k R:Nat} (h1:lo≤weightTo ws s ws.length) (h2:weightTo ws s ws.length≤hi) (hk:Low s k) (hF:Flood (adjOf E) s k R):fitsB E ws lo hi s=true↔R=s:=by
 unfold fitsB
 rw[decide_eq_true_eq]
 exact⟨fun x=>(hF.conn hk).1 x.2.2.2,fun x=>⟨hk.pos,h1,h2,(hF.conn hk).2 x⟩⟩
set_option maxHeartbeats 4000000 in
theorem open_ok {h:IH} (hB:BaseT h) {n:Nat} {E:List (Nat×Nat)} {v w:Value} {ws:List Int} {lo hi d:Int} (hE:SlOf h 2 v E.length (eCells (castE E)))
  (hW:SlOf h 1 w ws.length (ws.map KI)) (hhi:In64 hi) (hok:enErr n (castE E) ws lo hi d=0) :
  WV Proofs.Tryd.prog (.func (.func 42) #[] #[]) [.agg #[KI n,v],.agg #[w,KI lo,KI hi,KI d]] h fun r h'=>Ext h h' ∧ ∃q:FP,h.n≤q.m∧r=.tuple #[ptr (2*q.p) 0,KI 0]∧FieldAt h' q n (fitsB E ws lo hi)∧h'.ext.get q.m=some (.map []):=by
 obtain⟨hG,hn0,hn12,hV,hlen,hwl,hws,hd1,hd2,hlo,hlohi⟩:=enErr_ok hok
 have hl:(castE E).length=E.length:=by simp[castE]
 refine enter (nt:=155) (rs:=[.tmp 4,.tmp 5]) Proofs.Tryd.func42 rfl rfl rfl (by simp) ?_
 simp -dsimp (maxSteps:=1000000) (disch:=first|omega|(simp only[new_n,put_n];omega)|decide +kernel|(repeat first|rw[new_n]|rw[put_n])) only[wpS,wpT,Nat.reduceEqDiff,Nat.reduceLeDiff,Nat.reduceAdd,ld32,ld35]
 have e0:Ext h ((h.new (.cells [KI n,v] 0 none)).new (.cells [w,KI lo,KI hi,KI d] 0 none)):=((Ext.refl h).new _).new _
 refine call (enCheck_ok (n:=n) (E:=castE E) ⟨by omega,by omega⟩ (by rw[hl];exact hE.keep e0.keep) (by omega) (cast_in (by omega) hV) (hW.keep e0.keep) (by omega) (fun x hx=>by have:=hws x hx;exact⟨by omega,by omega⟩) ⟨by omega,by omega⟩ hhi ⟨by omega,by omega⟩) ?_
 rintro r h1 ⟨hE1,rfl⟩
 rw[hok]
 have hr0:h1.row (2*h.n)=some [KI n,v]:=by
  rw[hE1.row (by simp<;>omega),row_even];simp only[IH.cells];rw[get_new_old _ _ (by simp),get_new_same _ _ rfl]
 have hr1:h1.row (2*(h.n+1))=some [w,KI lo,KI hi,KI d]:=by
  rw[hE1.row (by simp<;>omega),row_even];simp only[IH.cells];rw[get_new_same _ _ (by simp)]
 have hE2:=e0.trans hE1
 have hn1:h.n+2≤h1.n:=by have:=hE1.n;simpa using this
 have hp12:2 ^ n≤2 ^ 12:=Nat.pow_le_pow_right (by omega) hn12
 have hp0:0<2 ^ n:=Nat.pow_pos (by omega)
 have q0:0≤((2 ^ n:Nat):Int):=Int.natCast_nonneg _
 simp -dsimp (maxSteps:=1000000) (disch:=first|omega|(simp only[new_n,put_n];omega)|decide +kernel|(repeat first|rw[new_n]|rw[put_n])) only[wpS,wpT,Nat.reduceEqDiff]
 refine drawn [(1,[9]),(3,[9])] (by kernel_rfl) (by kernel_rfl) rfl ?_
 simp -dsimp (maxSteps:=1000000) (disch:=first|omega|(simp only[new_n,put_n];omega)|decide +kernel|(repeat first|rw[new_n]|rw[put_n])) only[wpS,wpT,Nat.reduceEqDiff,Nat.reduceLeDiff,Nat.reduceAdd,fa32_0,ld3,ms92,bv95,pl95_0,pl95_1,zc89,st89,hr0]
 refine⟨wpSteady_cons (wpSteady_one rfl rfl rfl rfl (steady_load (av:=ptr (2*h.n) 0) (v:=KI n) rfl ?_ ?_)) (wpSteady_one rfl rfl rfl rfl (steady_load (av:=ptr (2*h.n) 0) (v:=KI n) rfl ?_ ?_)),?_⟩
 ·simp -dsimp (maxSteps:=1000000) (disch:=first|omega|(simp only[new_n,put_n];omega)|decide +kernel|(repeat first|rw[new_n]|rw[put_n])) only[wpS,ld3,hr0]
 ·simp -dsimp (maxSteps:=1000000) (disch:=first|omega|(simp only[new_n,put_n];omega)|decide +kernel|(repeat first|rw[new_n]|rw[put_n])) only[wpS,ld3,hr0]
 ·simp -dsimp (maxSteps:=1000000) (disch:=first|omega|(simp only[new_n,put_n];omega)|decide +kernel|(repeat first|rw[new_n]|rw[put_n])) only[wpS,ld3,hr0]
 ·simp -dsimp (maxSteps:=1000000) (disch:=first|omega|(simp only[new_n,put_n];omega)|decide +kernel|(repeat first|rw[new_n]|rw[put_n])) only[wpS,ld3,hr0]
 simp -dsimp (maxSteps:=1000000) (disch:=first|omega|(simp only[new_n,put_n];omega)|decide +kernel|(repeat first|rw[new_n]|rw[put_n])) only[wpS,wpT,Nat.reduceEqDiff,Nat.reduceAdd,fa32_0,ld3,ms38,fa32_1,ld30,hr0,hE.len sl30]
 have hF1:Ext h1 (((h1.new (.cells (repl (2 ^ n) [.bool false]) 1 none)).new (.cells [KI n,.slice (some ⟨2*h1.n,0,none⟩) (2 ^ n) (2*2 ^ n+1),.nilFunc] 0 none)).new (.cells [.pointer none] 0 none) |>.put (h1.n+1+1) (.cells [ptr (2*(h1.n+1)) 0] 0 none)):=((((Ext.refl h1).new _).new _).new _).put (by omega) _
 have hFn:(((h1.new (.cells (repl (2 ^ n) [.bool false]) 1 none)).new (.cells [KI n,.slice (some ⟨2*h1.n,0,none⟩) (2 ^ n) (2*2 ^ n+1),.nilFunc] 0 none)).new (.cells [.pointer none] 0 none) |>.put (h1.n+1+1) (.cells [ptr (2*(h1.n+1)) 0] 0 none)).n=h1.n+3:=rfl
 have hF2:(((h1.new (.cells (repl (2 ^ n) [.bool false]) 1 none)).new (.cells [KI n,.slice (some ⟨2*h1.n,0,none⟩) (2 ^ n) (2*2 ^ n+1),.nilFunc] 0 none)).new (.cells [.pointer none] 0 none) |>.put (h1.n+1+1) (.cells [ptr (2*(h1.n+1)) 0] 0 none)).ext.get h1.n=some (.cells (repl (2 ^ n) [.bool false]) 1 none):=by
  rw[get_put_old _ _ (by omega),get_new_old _ _ (by simp;omega),get_new_old _ _ (by simp),get_new_same _ _ rfl]
 have hF3:(((h1.new (.cells (repl (2 ^ n) [.bool false]) 1 none)).new (.cells [KI n,.slice (some ⟨2*h1.n,0,none⟩) (2 ^ n) (2*2 ^ n+1),.nilFunc] 0 none)).new (.cells [.pointer none] 0 none) |>.put (h1.n+1+1) (.cells [ptr (2*(h1.n+1)) 0] 0 none)).ext.get (h1.n+1)=some (.cells [KI n,.slice (some ⟨2*h1.n,0,none⟩) (2 ^ n) (2*2 ^ n+1),.nilFunc] 0 none):=by
  rw[get_put_old _ _ (by omega),get_new_old _ _ (by simp),get_new_same _ _ (by simp)]
 have hF4:(((h1.new (.cells (repl (2 ^ n) [.bool false]) 1 none)).new (.cells [KI n,.slice (some ⟨2*h1.n,0,none⟩) (2 ^ n) (2*2 ^ n+1),.nilFunc] 0 none)).new (.cells [.pointer none] 0 none) |>.put (h1.n+1+1) (.cells [ptr (2*(h1.n+1)) 0] 0 none)).ext.get (h1.n+2)=some (.cells [ptr (2*(h1.n+1)) 0] 0 none):=get_put_same _ _ rfl
 generalize (((h1.new (.cells (repl (2 ^ n) [.bool false]) 1 none)).new (.cells [KI n,.slice (some ⟨2*h1.n,0,none⟩) (2 ^ n) (2*2 ^ n+1),.nilFunc] 0 none)).new (.cells [.pointer none] 0 none) |>.put (h1.n+1+1) (.cells [ptr (2*(h1.n+1)) 0] 0 none))=hF at *
 have hb : ∀k i,adjOf (E.take k) i<2 ^ 64:=fun k i=>adjOf_lt (by omega) (fun x hx=>hV x (List.mem_of_mem_take hx)) i 0 (by omega)
 have hE3:Ext h hF:=hE2.trans hF1
 refine loop (fun m fr hh => ∃i:Nat,i+m=E.length∧Ext hF hh∧h1.n+3<hh.n∧hh.ext.get (h1.n+3)=some (.cells (adjC (E.take i) n) 1 none)∧fget fr 2=some (ptr (2*h.n) 0)∧fget fr 3=some (ptr (2*(h.n+1)) 0)∧fget fr 7=some (ptr (2*(h1.n+2)) 0)∧fget fr 8=some (.slice (some ⟨2*(h1.n+3),0,none⟩) n (2*n+1))∧fget fr 38=some v∧fget fr 39=some (KI E.length)∧fget fr 40=some (KI i)) E.length
  ⟨0,by simp,(Ext.refl hF).new _,by simp;omega,?_,by simp,by simp,by simp,by simp[],by simp,by simp,by simp⟩ ?_
 ·rw[get_new_same _ _ (by omega),repl_one]
  simp[adjC,adjOf]
  apply List.ext_getElem?
  intro i
  by_cases hi:i<n<;>simp[hi]
 rintro m fr hh ⟨i,him,hEh,hbn,hg,f2,f3,f7,f8,f38,f39,f40⟩
 simp -dsimp (maxSteps:=1000000) (disch:=first|omega|(simp only[new_n,put_n];omega)|decide +kernel|(repeat first|rw[new_n]|rw[put_n])) only[wpS,f39,f40]
 refine bq_intro ?_ ?_<;>intro hc2<;>simp only[decide_eq_true_eq,decide_eq_false_iff_not] at hc2
 ·have hi:i<E.length:=by omega
  obtain⟨x,hx⟩ : ∃x,E[i]?=some x:=⟨E[i],List.getElem?_eq_getElem hi⟩
  have hxV:=hV x (List.mem_of_getElem? hx)
  have hx2:(castE E)[i]?=some ((x.1:Int),(x.2:Int)):=by simp[castE,hx]
  have facts1:=hE.idx (P:=Proofs.Tryd.prog) es30 (k:=.i64) hi
  have facts2:=hE.ldAgg (hE3.trans hEh).keep (P:=Proofs.Tryd.prog) (t:=54) (c:=i*2) (m:=2) (by rw[eCells_len];simp[castE];omega) (by omega) ag54 sz54
  rw[eCells_at hx2] at facts2
  have hr:hh.row (2*(h1.n+3))=some (adjC (E.take i) n):=by rw[row_even];simp[IH.cells,hg]
  have hb1:=hb i x.1
  have hb2:=hb i x.2
  have p1:2 ^ x.1<2 ^ 64:=Nat.pow_lt_pow_right (by omega) (by omega)
  have p2:2 ^ x.2<2 ^ 64:=Nat.pow_lt_pow_right (by omega) (by omega)
  have hne:x.2≠x.1:=by omega
  have q1:0≤((2 ^ x.1:Nat):Int):=Int.natCast_nonneg _
  have q2:0≤((2 ^ x.2:Nat):Int):=Int.natCast_nonneg _
  simp -dsimp (maxSteps:=1000000) (disch:=first|omega|(simp only[new_n,put_n];omega)|decide +kernel|(repeat first|rw[new_n]|rw[put_n])) only[wpS,wpT,Nat.reduceEqDiff,Nat.reduceLeDiff,Nat.reduceAdd,ld3,zc54,st54,ar54,es38,ld47,st47,f8,f38,f40,facts1,facts2,idx02,idx12,hr,hg,adjC_get,midC_get _ hxV.2 hne,mid_set,adj_set hx hxV.2 hxV.1,adjC_len,midC_len]
  have hhn:=hEh.n
  exact⟨m - 1,by omega,i+1,by omega,(((hEh.new _).put (by omega) _).put (by omega) _).put (by omega) _,by simp;omega,get_put_same _ _ rfl,by simp[f2],by simp[f3],by simp[f7],by simp[f8],by simp[f38],by simp[f39],by simp⟩
 ·rw[List.take_of_length_le (by omega)] at hg
  have hhr0:hh.row (2*h.n)=some [KI n,v]:=by rw[(hF1.trans hEh).row (.inr (by omega))];exact hr0
  have hhr1:hh.row (2*(h.n+1))=some [w,KI lo,KI hi,KI d]:=by rw[(hF1.trans hEh).row (.inr (by omega))];exact hr1
  simp -dsimp (maxSteps:=1000000) (disch:=first|omega|(simp only[new_n,put_n];omega)|decide +kernel|(repeat first|rw[new_n]|rw[put_n])) only[wpS,wpT,Nat.reduceEqDiff,Nat.reduceLeDiff,fa32_0,ld3,ms33,zc124,st124,zc125,f2,hhr0]
  have hhn:=hEh.n
  have hw64 : ∀s,0≤weightTo ws s n∧weightTo ws s n≤n*1000000000:=fun s=>weightTo_bd ws s hws n
  have hF0:fitsB E ws lo hi 0=false:=by simp[fitsB]
  generalize hFd:fitsB E ws lo hi=F at *
  generalize hAd:adjOf E=adj at *
  have hsbn : ∃sb,sb=hh.n:=⟨_,rfl⟩
  obtain⟨sb,hsb⟩:=hsbn
  refine loop (fun m fr h4 => ∃set:Nat,1≤set∧set+m=2 ^ n∧Ext h1 h4∧sb<h4.n∧h4.ext.get h1.n=some (.cells (fitK n set F) 1 none)∧h4.ext.get (h1.n+1)=some (.cells [KI n,.slice (some ⟨2*h1.n,0,none⟩) (2 ^ n) (2*2 ^ n+1),.nilFunc] 0 none)∧h4.ext.get (h1.n+2)=some (.cells [ptr (2*(h1.n+1)) 0] 0 none) ∧
   h4.ext.get (h1.n+3)=some (.cells (adjC E n) 1 none)∧h4.ext.get sb=some (.cells (sumC ws n set) 1 none)∧fget fr 2=some (ptr (2*h.n) 0)∧fget fr 3=some (ptr (2*(h.n+1)) 0)∧fget fr 7=some (ptr (2*(h1.n+2)) 0)∧fget fr 8=some (.slice (some ⟨2*(h1.n+3),0,none⟩) n (2*n+1)) ∧
   fget fr 11=some (.slice (some ⟨2*sb,0,none⟩) (2 ^ n) (2*2 ^ n+1))∧fget fr 12=some (KI set)) (2 ^ n - 1)
   ⟨1,by omega,by omega,(hF1.trans hEh).new _,by simp[hsb],?_,?_,?_,?_,?_,by simp[f2],by simp[f3],by simp[f7],by simp[f8],by simp[hsb],by simp⟩ ?_
  ·rw[get_new_old _ _ (by omega),hEh.get _ (by omega),hF2,fitK_one n hF0]
  ·rw[get_new_old _ _ (by omega),hEh.get _ (by omega),hF3]
  ·rw[get_new_old _ _ (by omega),hEh.get _ (by omega),hF4]
  ·rw[get_new_old _ _ (by omega),hg]
  ·rw[get_new_same _ _ hsb,sumC_one]
  rintro m fr h4 ⟨set,hs1,hsm,hE4,hsb4,g0,g1,g2,g3,gs,f2,f3,f7,f8,f11,f12⟩
  have r0:h4.row (2*h.n)=some [KI n,v]:=by rw[hE4.row (.inr (by omega))];exact hr0
  have r1:h4.row (2*(h.n+1))=some [w,KI lo,KI hi,KI d]:=by rw[hE4.row (.inr (by omega))];exact hr1
  simp -dsimp (maxSteps:=1000000) (disch:=first|omega|(simp only[new_n,put_n];omega)|decide +kernel|(repeat first|rw[new_n]|rw[put_n])) only[wpS,wpT,Nat.reduceEqDiff,Nat.reduceLeDiff,fa32_0,ld3,zc124,st124,zc125,f2,f12,r0]
  refine bq_intro ?_ ?_<;>intro hc3<;>simp only[decide_eq_true_eq,decide_eq_false_iff_not] at hc3
  ·have hset:set<2 ^ n:=by omega
   have eu:IntKind.u64.wrap (set:Int)=set:=by rw[wrapU];omega
   simp -dsimp (maxSteps:=1000000) (disch:=first|omega|(simp only[new_n,put_n];omega)|decide +kernel|(repeat first|rw[new_n]|rw[put_n])) only[wpS,wpT,Nat.reduceEqDiff,Nat.reduceLeDiff,cv3_105,zc124,st124,zc125,f12,eu]
   refine call (tz_ok (hB.ext (hE2.trans hE4)) set (by omega) (by omega)) ?_
   rintro _ h5 ⟨rfl,k,rfl,hlow,hk⟩
   have hkn:k<n:=by
    apply Classical.byContradiction;intro hh
    have h2:set<2 ^ k:=Nat.lt_of_lt_of_le hset (Nat.pow_le_pow_right (by omega) (by omega))
    have:=hlow.1
    rw[Nat.testBit_lt_two_pow h2] at this;cases this
   obtain⟨wk,hwk⟩ : ∃x,ws[k]?=some x:=⟨ws[k],List.getElem?_eq_getElem (by omega)⟩
   have hwk2:=hws wk (List.mem_of_getElem? hwk)
   have hle:set &&& (set - 1)≤set - 1:=Nat.and_le_right
   have hwl2:weightTo ws set n=weightTo ws (set &&& (set - 1)) n+wk:=by
    rw[weight_low ws hlow n,if_pos hkn];simp[hwk]
   have b1:=hw64 (set &&& (set - 1))
   have b2:=hw64 set
   have eset:((set:Int) - 1).toNat=set - 1:=by omega
   have rs:h5.row (2*sb)=some (sumC ws n set):=by rw[row_even];simp[IH.cells,gs]
   have ss:=sumC_get ws (n:=n) (k:=set) (s:=set &&& (set - 1)) (by omega) (by omega)
   have wi:=hW.idx (P:=Proofs.Tryd.prog) es33 (k:=.i64) (show k<ws.length by omega)
   have wld:=hW.ld (hE2.trans hE4).keep (P:=Proofs.Tryd.prog) (t:=3) (c:=k) (by simp;omega) ag3
   rw[List.getElem?_map,hwk] at wld
   simp -dsimp (maxSteps:=1000000) (disch:=first|omega|(simp only[new_n,put_n];omega)|decide +kernel|(repeat first|rw[new_n]|rw[put_n])) only[wpS,wpT,Nat.reduceEqDiff,Nat.reduceLeDiff,ld3,es33,fa35_0,ld33,st3,zc124,st124,zc125,f3,f11,f12,r1,rs,eset,ss,wi,wld,gs,←hwl2,sumC_set ws hset,sumC_len]
   have ss2:=sumC_get ws (n:=n) (k:=set+1) (s:=set) hset (by omega)
   have pE:Ext h1 (h5.put sb (.cells (sumC ws n (set+1)) 1 none)):=hE4.put (by omega) _
   have pn:(h5.put sb (.cells (sumC ws n (set+1)) 1 none)).n=h5.n:=rfl
   have pr0:(h5.put sb (.cells (sumC ws n (set+1)) 1 none)).row (2*h.n)=some [KI n,v]:=by rw[pE.row (.inr (by omega))];exact hr0
   have pr1:(h5.put sb (.cells (sumC ws n (set+1)) 1 none)).row (2*(h.n+1))=some [w,KI lo,KI hi,KI d]:=by rw[pE.row (.inr (by omega))];exact hr1
   have p0:(h5.put sb (.cells (sumC ws n (set+1)) 1 none)).ext.get h1.n=some (.cells (fitK n set F) 1 none):=by rw[get_put_old _ _ (by omega)];exact g0
   have p1:(h5.put sb (.cells (sumC ws n (set+1)) 1 none)).ext.get (h1.n+1)=some (.cells [KI n,.slice (some ⟨2*h1.n,0,none⟩) (2 ^ n) (2*2 ^ n+1),.nilFunc] 0 none):=by rw[get_put_old _ _ (by omega)];exact g1
   have p2:(h5.put sb (.cells (sumC ws n (set+1)) 1 none)).ext.get (h1.n+2)=some (.cells [ptr (2*(h1.n+1)) 0] 0 none):=by rw[get_put_old _ _ (by omega)];exact g2
   have p3:(h5.put sb (.cells (sumC ws n (set+1)) 1 none)).ext.get (h1.n+3)=some (.cells (adjC E n) 1 none):=by rw[get_put_old _ _ (by omega)];exact g3
   have ps:(h5.put sb (.cells (sumC ws n (set+1)) 1 none)).ext.get sb=some (.cells (sumC ws n (set+1)) 1 none):=get_put_same _ _ rfl
   have prs:(h5.put sb (.cells (sumC ws n (set+1)) 1 none)).row (2*sb)=some (sumC ws n (set+1)):=by rw[row_even];simp only[IH.cells];rw[ps]
   clear g0 g1 g2 g3 gs r0 r1 rs
   generalize h5.put sb (.cells (sumC ws n (set+1)) 1 none)=h6 at *
   have skip:F set=false→h6.ext.get h1.n=some (.cells (fitK n (set+1) F) 1 none):=fun hf=>by rw[fitK_skip hf];exact p0
   by_cases d1:weightTo ws set n<lo
   ·have hf:F set=false:=by rw[←hFd];exact fitsB_false (by rw[hwl];omega)
    simp -dsimp (maxSteps:=1000000) (disch:=first|omega|(simp only[new_n,put_n];omega)|decide +kernel|(repeat first|rw[new_n]|rw[put_n])) only[wpS,wpT,Nat.reduceEqDiff,Nat.reduceLeDiff,ld3,fa35_1,zc124,st124,zc125,f3,f12,pr1,ss2]
    exact⟨m - 1,by omega,set+1,by omega,by omega,pE,by omega,skip hf,p1,p2,p3,ps,by simp[f2],by simp[f3],by simp[f7],by simp[f8],by simp[f11],by simp⟩
   by_cases d2:hi<weightTo ws set n
   ·have hf:F set=false:=by rw[←hFd];exact fitsB_false (by rw[hwl];omega)
    simp -dsimp (maxSteps:=1000000) (disch:=first|omega|(simp only[new_n,put_n];omega)|decide +kernel|(repeat first|rw[new_n]|rw[put_n])) only[wpS,wpT,Nat.reduceEqDiff,Nat.reduceLeDiff,ld3,es33,fa35_1,fa35_2,zc124,st124,zc125,f3,f11,f12,pr1,prs,ss2]
    exact⟨m - 1,by omega,set+1,by omega,by omega,pE,by omega,skip hf,p1,p2,p3,ps,by simp[f2],by simp[f3],by simp[f7],by simp[f8],by simp[f11],by simp⟩
   simp -dsimp (maxSteps:=1000000) (disch:=first|omega|(simp only[new_n,put_n];omega)|decide +kernel|(repeat first|rw[new_n]|rw[put_n])) only[wpS,wpT,Nat.reduceEqDiff,Nat.reduceLeDiff,ld3,es33,fa35_1,fa35_2,zc124,st124,zc125,f3,f11,f12,pr1,prs,ss2]
   have hset64:set<18446744073709551616:=by omega
   refine loop (fun m2 fr h7=>h7=h6 ∧ ∃R f:Nat,m2=(2 ^ n - R)*2 ^ n+f∧Front adj set k R f∧fget fr 2=some (ptr (2*h.n) 0)∧fget fr 3=some (ptr (2*(h.n+1)) 0)∧fget fr 7=some (ptr (2*(h1.n+2)) 0)∧fget fr 8=some (.slice (some ⟨2*(h1.n+3),0,none⟩) n (2*n+1)) ∧
    fget fr 11=some (.slice (some ⟨2*sb,0,none⟩) (2 ^ n) (2*2 ^ n+1))∧fget fr 12=some (KI set)∧fget fr 14=some (K64 R)∧fget fr 15=some (K64 f)) ((2 ^ n - 2 ^ k)*2 ^ n+2 ^ k)
    ⟨rfl,2 ^ k,2 ^ k,rfl,Front.start hlow.1,by simp[f2],by simp[f3],by simp[f7],by simp[f8],by simp[f11],by simp[f12],by simp,by simp⟩ ?_
   clear f2 f3 f7 f8 f11 f12
   rintro m2 fr h7 ⟨rfl,R,f,rfl,hFr,f2,f3,f7,f8,f11,f12,f14,f15⟩
   have hRle:=hFr.part.sub.le
   have hfle:=hFr.sub.le
   simp -dsimp (maxSteps:=1000000) (disch:=first|omega|(simp only[new_n,put_n];omega)|decide +kernel|(repeat first|rw[new_n]|rw[put_n])) only[wpS,wpT,Nat.reduceEqDiff,Nat.reduceLeDiff,zc124,st124,zc125,f15]
   refine bq_intro ?_ ?_<;>intro hc4
   ·simp at hc4
    simp -dsimp (maxSteps:=1000000) (disch:=first|omega|(simp only[new_n,put_n];omega)|decide +kernel|(repeat first|rw[new_n]|rw[put_n])) only[wpS,wpT,Nat.reduceEqDiff,Nat.reduceLeDiff,zc124,st124,zc125,f15]
    refine call (tz64_ok (hB.ext (hE2.trans pE)) f (by omega) (by omega)) ?_
    rintro _ h8 ⟨rfl,i,rfl,hlf,hi64⟩
    have hin:i<n:=by
     have h1:=hFr.part.sub i (hFr.sub i hlf.1)
     apply Classical.byContradiction;intro hh
     have h2:set<2 ^ i:=Nat.lt_of_lt_of_le hset (Nat.pow_le_pow_right (by omega) (by omega))
     rw[Nat.testBit_lt_two_pow h2] at h1;cases h1
    have prA:h8.row (2*(h1.n+3))=some (adjC E n):=by rw[row_even];simp[IH.cells,p3]
    have ab:(adjC E n)[i]?=some (K64 (adj i)):=by rw[adjC_get E hin,hAd]
    have hai:adj i<18446744073709551616:=by rw[←hAd];exact adjOf_lt (by omega) hV i 0 (by omega)
    have ef:((f:Int) - 1).toNat=f - 1:=by omega
    have ef2:f &&& (f - 1)≤f - 1:=Nat.and_le_right
    have ea:adj i &&& set≤set:=Nat.and_le_right
    have hmore:nclr (adj i &&& set) R<2 ^ n:=Nat.lt_of_le_of_lt (show nclr (adj i &&& set) R≤adj i &&& set from Sub.le fun j hj=>by rw[testBit_nclr] at hj;simp at hj ⊢;exact hj.1) (by omega)
    have eR:R ||| nclr (adj i &&& set) R<2 ^ n:=Nat.or_lt_two_pow (by omega) hmore
    have ef3:(f &&& (f - 1)) ||| nclr (adj i &&& set) R<2 ^ n:=Nat.or_lt_two_pow (by omega) hmore
    simp -dsimp (maxSteps:=1000000) (disch:=first|omega|(simp only[new_n,put_n];omega)|decide +kernel|(repeat first|rw[new_n]|rw[put_n])) only[wpS,wpT,Nat.reduceEqDiff,Nat.reduceLeDiff,es38,ld47,cv3_47,zc124,st124,zc125,f8,f12,f14,f15,prA,ab,ef]
    have hst:=hFr.step (R2:=R ||| nclr (adj i &&& set) R) (f2:=(f &&& (f - 1)) ||| nclr (adj i &&& set) R) hlf (fun j=>by rw[Nat.testBit_or,testBit_nclr,Nat.testBit_and]) (fun j=>by rw[Nat.testBit_or,testBit_nclr,Nat.testBit_and (x:=adj i)])
    refine⟨_,metric_lt (R2:=R ||| nclr (adj i &&& set) R) (f2:=(f &&& (f - 1)) ||| nclr (adj i &&& set) R) (by omega) ef3 ?_,rfl,_,_,rfl,hst,by simp[f2],by simp[f3],by simp[f7],by simp[f8],by simp[f11],by simp[f12],by simp,by simp⟩
    by_cases hm0:nclr (adj i &&& set) R=0
    ·right
     rw[hm0]
     simp;omega
    ·left
     have h1:Sub R (R ||| nclr (adj i &&& set) R):=fun j hj=>by rw[Nat.testBit_or,hj];rfl
     have h2:=h1.le
     have h3:R≠R ||| nclr (adj i &&& set) R:=by
      intro hh
      apply hm0
      apply Nat.eq_of_testBit_eq
      intro j
      have h4:(nclr (adj i &&& set) R).testBit j=true→R.testBit j=true:=fun h5=>by
       rw[hh,Nat.testBit_or,h5];simp
      rw[testBit_nclr] at h4 ⊢
      cases hRj:R.testBit j
      ·rw[hRj] at h4
       simp at h4 ⊢
       exact h4
      ·simp
     omega
   ·simp at hc4
    subst hc4
    have hfl:=hFr.flood
    have hFs:F set=(decide (R=set)):=by
     rw[Bool.eq_iff_iff,decide_eq_true_eq,←hFd]
     rw[←hAd] at hfl
     exact fitsB_flood (by rw[hwl];omega) (by rw[hwl];omega) hlow hfl
    have eR:((R:Int) == (set:Int))=F set:=by
     rw[hFs,Bool.eq_iff_iff,beq_iff_eq,decide_eq_true_eq];omega
    have pr2:h7.row (2*(h1.n+2))=some [ptr (2*(h1.n+1)) 0]:=by rw[row_even];simp[IH.cells,p2]
    have pr3:h7.row (2*(h1.n+1))=some [KI n,.slice (some ⟨2*h1.n,0,none⟩) (2 ^ n) (2*2 ^ n+1),.nilFunc]:=by rw[row_even];simp[IH.cells,p1]
    simp -dsimp (maxSteps:=1000000) (disch:=first|omega|(simp only[new_n,put_n];omega)|decide +kernel|(repeat first|rw[new_n]|rw[put_n])) only[wpS,wpT,Nat.reduceEqDiff,Nat.reduceLeDiff,ld89,fa95_1,ld92,zc124,st124,zc125,f7,pr2]
    simp -dsimp (maxSteps:=1000000) (disch:=first|omega|(simp only[new_n,put_n];omega)|decide +kernel|(repeat first|rw[new_n]|rw[put_n])) only[wpS,wpT,Nat.reduceEqDiff,Nat.reduceLeDiff,cv3_47,es92,st4,zc124,st124,zc125,f12,f14,pr3,p0,eu,eR,fitK_set F hset,fitK_len]
    exact⟨m - 1,by omega,set+1,by omega,by omega,pE.put (Nat.le_refl _) _,by simp;omega,get_put_same _ _ rfl,by rw[get_put_old _ _ (by omega)];exact p1,by rw[get_put_old _ _ (by omega)];exact p2,by rw[get_put_old _ _ (by omega)];exact p3,by rw[get_put_old _ _ (by omega)];exact ps,by simp[f2],by simp[f3],by simp[f7],by simp[f8],by simp[f11],by simp⟩
  ·obtain rfl:set=2 ^ n:=by omega
   rw[fitK_all] at g0
   have pr2:h4.row (2*(h1.n+2))=some [ptr (2*(h1.n+1)) 0]:=by rw[row_even];simp[IH.cells,g2]
   have pr3:h4.row (2*(h1.n+1))=some [KI n,.slice (some ⟨2*h1.n,0,none⟩) (2 ^ n) (2*2 ^ n+1),.nilFunc]:=by rw[row_even];simp[IH.cells,g1]
   simp -dsimp (maxSteps:=1000000) (disch:=first|omega|(simp only[new_n,put_n];omega)|decide +kernel|(repeat first|rw[new_n]|rw[put_n])) only[wpS,wpT,Nat.reduceEqDiff,Nat.reduceLeDiff,Nat.reduceAdd,ld89,zc124,st124,zc125,st125,fa95_2,st93,f7,pr2,g1]
   have hh4:h1.n+3<h4.n:=by omega
   refine⟨((((((hE2.trans hE4).new _).new _).put (by omega) _).new _).put (by omega) _).put (by omega) _,⟨h1.n+1,h1.n+2,h4.n+2,h4.n+1,h1.n,h4.n⟩,by simp only;omega,rfl,⟨?_,?_,?_,?_,?_,?_,?_,?_,?_,?_,?_,?_,?_,?_,?_,?_⟩,?_⟩
   ·exact get_put_same _ _ rfl
   ·rw[get_put_old _ _ (by simp only;omega),get_put_old _ _ (by simp only;omega),get_new_old _ _ (by simp only[new_n,put_n];omega),get_put_old _ _ (by simp only;omega),get_new_old _ _ (by simp only[new_n];omega),get_new_old _ _ (by simp only;omega)];exact g2
   ·rw[get_put_old _ _ (by simp only;omega)];exact get_put_same _ _ rfl
   ·rw[get_put_old _ _ (by simp only;omega),get_put_old _ _ (by simp only;omega),get_new_old _ _ (by simp)];exact get_put_same _ _ rfl
   ·rw[get_put_old _ _ (by simp only;omega),get_put_old _ _ (by simp only;omega),get_new_old _ _ (by simp only[new_n,put_n];omega),get_put_old _ _ (by simp only;omega),get_new_old _ _ (by simp only[new_n];omega),get_new_old _ _ (by simp only;omega)];exact g0
   all_goals first|(simp only[new_n,put_n];omega)|skip
   rw[get_put_old _ _ (by simp only;omega),get_put_old _ _ (by simp only;omega),get_new_old _ _ (by simp only[new_n,put_n];omega),get_put_old _ _ (by simp only;omega),get_new_old _ _ (by simp only[new_n];omega)]
   exact get_new_same _ _ rfl
end Go.Id

/-! Contracts: enumerate.Districts. -/
namespace Go.Id
open Go
def distL (F:Nat→Bool) (k:Nat):List Nat:=(List.range k).filter F
theorem distL_succ (F:Nat→Bool) (k:Nat):distL F (k+1)=if F k=true then distL F k ++ [k] else distL F k:=by
 unfold distL
 rw[List.range_succ,List.filter_append]
 cases h:F k<;>simp[h]
theorem distL_len (F:Nat→Bool) (k:Nat):(distL F k).length≤k:=by
 unfold distL
 have:=List.length_filter_le F (List.range k)
 simpa using this
theorem districts_ok {h:IH} (hB:BaseT h) {n:Nat} {E:List (Nat×Nat)} {v w:Value} {ws:List Int} {lo hi d:Int} (hE:SlOf h 2 v E.length (eCells (castE E)))
  (hW:SlOf h 1 w ws.length (ws.map KI)) (hhi:In64 hi) (hok:enErr n (castE E) ws lo hi d=0) :
  WV Proofs.Tryd.prog (.func (.func 10) #[] #[]) [.agg #[KI n,v],.agg #[w,KI lo,KI hi,KI d]] h fun r h'=>Ext h h' ∧ ∃x,r=.tuple #[x,KI 0]∧SlOf h' 1 x (distL (fitsB E ws lo hi) (2 ^ n)).length ((distL (fitsB E ws lo hi) (2 ^ n)).map fun s=>K64 s):=by
 have hn12:=(enErr_ok hok).2.2.1
 refine enter (nt:=38) (rs:=[.tmp 4,.tmp 5]) Proofs.Tryd.func10 rfl rfl rfl (by simp) ?_
 simp -dsimp (maxSteps:=1000000) (disch:=first|omega|(simp only[new_n,put_n];omega)|decide +kernel|(repeat first|rw[new_n]|rw[put_n])) only[wpS,wpT,Nat.reduceEqDiff,Nat.reduceLeDiff,Nat.reduceAdd,ld32,ld35]
 have e0:Ext h ((h.new (.cells [KI n,v] 0 none)).new (.cells [w,KI lo,KI hi,KI d] 0 none)):=((Ext.refl h).new _).new _
 refine call (open_ok (hB.ext e0) (hE.keep e0.keep) (hW.keep e0.keep) hhi hok) ?_
 rintro r h1 ⟨hE1,q,hqm,rfl,hF,hm⟩
 have hp12:2 ^ n≤2 ^ 12:=Nat.pow_le_pow_right (by omega) hn12
 have q0:0≤((2 ^ n:Nat):Int):=Int.natCast_nonneg _
 have gp:=hF.gp
 have rp:h1.row (2*q.p)=some [KI n,.slice (some ⟨2*q.fb,0,none⟩) (2 ^ n) (2*2 ^ n+1),.func (.func 73) #[] #[ptr (2*q.d) 0,ptr (2*q.x) 0]]:=by rw[row_even];simp only[IH.cells,gp]
 have lf:=hF.lf
 have rf:h1.row (2*q.fb)=some (fitC n (fitsB E ws lo hi)):=by rw[row_even];simp only[IH.cells,hF.gf]
 have hE2:=e0.trans hE1
 generalize fitsB E ws lo hi=F at *
 simp -dsimp (maxSteps:=1000000) (disch:=first|omega|(simp only[new_n,put_n];omega)|decide +kernel|(repeat first|rw[new_n]|rw[put_n])) only[wpS,wpT,Nat.reduceEqDiff,fa95_1,ld92]
 simp -dsimp (maxSteps:=1000000) (disch:=first|omega|(simp only[new_n,put_n];omega)|decide +kernel|(repeat first|rw[new_n]|rw[put_n])) only[wpS,Nat.reduceEqDiff,ln92,rp]
 refine loop (fun m fr h2 => ∃(k:Nat) (out:Value),k+m=2 ^ n∧Ext h1 h2∧Acc h2 h1.n 1 out (distL F k).length ((distL F k).map fun s=>K64 s)∧fget fr 8=some out∧fget fr 23=some (.slice (some ⟨2*q.fb,0,none⟩) (2 ^ n) (2*2 ^ n+1))∧fget fr 24=some (KI ((2 ^ n:Nat):Int))∧fget fr 25=some (KI k)) (2 ^ n)
  ⟨0,.slice none 0 0,by omega,Ext.refl _,Acc.nil _ _ (by omega),by simp,by simp,by simp,by simp⟩ ?_
 rintro m fr h2 ⟨k,out,hkm,hE3,hA,f8,f23,f24,f25⟩
 simp -dsimp (maxSteps:=1000000) (disch:=first|omega|(simp only[new_n,put_n];omega)|decide +kernel|(repeat first|rw[new_n]|rw[put_n])) only[wpS,f24,f25]
 refine bq_intro ?_ ?_<;>intro hc<;>simp only[decide_eq_true_eq,decide_eq_false_iff_not] at hc
 ·have hk:k<2 ^ n:=by omega
  have rf2:h2.row (2*q.fb)=some (fitC n F):=by rw[hE3.row (.inr (by omega))];exact rf
  have gk:(fitC n F)[k]?=some (.bool (F k)):=by simp[fitC,hk]
  have hll:=distL_len F k
  have eu:IntKind.u64.wrap (k:Int)=k:=by rw[wrapU];omega
  simp -dsimp (maxSteps:=1000000) (disch:=first|omega|(simp only[new_n,put_n];omega)|decide +kernel|(repeat first|rw[new_n]|rw[put_n])) only[wpS,wpT,Nat.reduceEqDiff,es92,ld4,f23,f25,rf2,gk]
  refine bq_intro ?_ ?_<;>intro hFk
  ·obtain⟨out',h',hap,hA',hG,hE'⟩:=hA.app1 (P:=Proofs.Tryd.prog) (t:=38) ap38 (x:=K64 k) rfl (by omega) hE3.n hE3 (Nat.le_refl _)
   simp -dsimp (maxSteps:=1000000) (disch:=first|omega|(simp only[new_n,put_n];omega)|decide +kernel|(repeat first|rw[new_n]|rw[put_n])) only[wpS,wpT,Nat.reduceEqDiff,Nat.reduceLeDiff,Nat.reduceAdd,cv3_47,bs38,ba38_38,f8,f25,eu,hap]
   refine⟨m - 1,by omega,k+1,out',by omega,hE',?_,by simp,by simp[f23],by simp[f24],by simp⟩
   rw[distL_succ,if_pos hFk]
   simpa using hA'
  ·simp -dsimp (maxSteps:=1000000) (disch:=first|omega|(simp only[new_n,put_n];omega)|decide +kernel|(repeat first|rw[new_n]|rw[put_n])) only[wpS,Nat.reduceEqDiff,f25]
   refine⟨m - 1,by omega,k+1,out,by omega,hE3,?_,by simp[f8],by simp[f23],by simp[f24],by simp⟩
   rw[distL_succ,hFk]
   exact hA
 ·obtain rfl:k=2 ^ n:=by omega
  simp -dsimp (maxSteps:=1000000) (disch:=first|omega|(simp only[new_n,put_n];omega)|decide +kernel|(repeat first|rw[new_n]|rw[put_n])) only[wpS,wpT,Nat.reduceEqDiff,f8]
  exact⟨hE2.trans hE3,out,rfl,hA.sl⟩
end Go.Id

/-! Counting plans: plain numbers as sets of bits. -/
namespace Go.Id
def sumSub (f:Nat→Nat) (m:Nat):Nat→Nat→Nat
 | 0,_=>0
 | t+1,s=>f s+if s=0 then 0 else sumSub f m t (s - 1 &&& m)
theorem sumSub_fuel (f:Nat→Nat) (m:Nat) : ∀(t u s:Nat),s<t→s<u→sumSub f m t s=sumSub f m u s
 | 0,_,_,h,_=>by omega
 | _+1,0,_,_,h=>by omega
 | t+1,u+1,s,h,k=>by
  simp only[sumSub]
  by_cases hs:s=0
  ·simp[hs]
  ·rw[if_neg hs,if_neg hs]
   have:s - 1 &&& m≤s - 1:=Nat.and_le_left
   rw[sumSub_fuel f m t u _ (by omega) (by omega)]
def sumFrom (f:Nat→Nat) (m s:Nat):Nat:=sumSub f m (s+1) s
theorem sumFrom_eq (f:Nat→Nat) (m s:Nat):sumFrom f m s=f s+if s=0 then 0 else sumFrom f m (s - 1 &&& m):=by
 unfold sumFrom
 rw[sumSub]
 by_cases hs:s=0
 ·simp[hs]
 ·rw[if_neg hs,if_neg hs]
  have:s - 1 &&& m≤s - 1:=Nat.and_le_left
  rw[sumSub_fuel f m s ((s - 1 &&& m)+1) (s - 1 &&& m) (by omega) (by omega)]
def lowM (s:Nat):Nat:=s &&& (18446744073709551616 - s)
def ways (F:Nat→Bool):Nat→Nat→Nat
 | 0,s=>if s=0 then 1 else 0
 | k+1,s=>if s=0 then 0 else
   let r:=nclr s (lowM s)
   sumFrom (fun t=>if F (t ||| lowM s)=true then ways F k (nclr (nclr s t) (lowM s)) else 0) r r
def after (F:Nat→Bool):List Nat→Nat→Nat→Nat
 | [],rest,k=>ways F k rest
 | c :: cs,rest,k=>if cs.length+1≤k then sumFrom (fun t=>if F (c ||| t)=true then after F cs (nclr rest t) (k - 1) else 0) rest rest else 0
end Go.Id

/-! Counting plans: sums over subsets as sums over numbers; bounds. -/
namespace Go.Id
def sumTo (f:Nat→Nat):Nat→Nat
 | 0=>0
 | n+1=>sumTo f n+f n
theorem sumTo_le {f g:Nat→Nat} : ∀{n:Nat},(∀i,i<n→f i≤g i)→sumTo f n≤sumTo g n
 | 0,_=>Nat.le_refl _
 | n+1,h=>Nat.add_le_add (sumTo_le fun i hi=>h i (by omega)) (h n (by omega))
theorem sumTo_congr {f g:Nat→Nat} : ∀{n:Nat},(∀i,i<n→f i=g i)→sumTo f n=sumTo g n
 | 0,_=>rfl
 | n+1,h=>by rw[sumTo,sumTo,sumTo_congr fun i hi=>h i (by omega),h n (by omega)]
theorem sumTo_cut {f:Nat→Nat} {a:Nat} : ∀{b:Nat},a≤b→(∀i,a≤i→i<b→f i=0)→sumTo f b=sumTo f a
 | 0,h,_=>by rw[show a=0 by omega]
 | b+1,h,k=>by
  by_cases hab:a=b+1
  ·rw[hab]
  ·rw[sumTo,k b (by omega) (by omega),sumTo_cut (by omega) fun i h1 h2=>k i h1 (by omega)];rfl
theorem sumTo_two (f:Nat→Nat) : ∀n,sumTo f (2*n)=sumTo (fun i=>f (2*i)+f (2*i+1)) n
 | 0=>rfl
 | n+1=>by
  rw[show 2*(n+1)=2*n+1+1 by omega,sumTo,sumTo,sumTo_two f n,sumTo,Nat.add_assoc]
theorem sumTo_mul (c:Nat) (f:Nat→Nat) : ∀n,sumTo (fun i=>c*f i) n=c*sumTo f n
 | 0=>rfl
 | n+1=>by rw[sumTo,sumTo,sumTo_mul c f n,Nat.mul_add]
theorem sumTo_add (f g:Nat→Nat) : ∀n,sumTo (fun i=>f i+g i) n=sumTo f n+sumTo g n
 | 0=>rfl
 | n+1=>by rw[sumTo,sumTo,sumTo,sumTo_add f g n];omega
theorem and_halves (a b:Nat):a &&& b=2*(a / 2 &&& b / 2)+a % 2*(b % 2):=by
 have h1:(a &&& b) / 2=a / 2 &&& b / 2:=Nat.and_div_two
 have h2:(a &&& b) % 2=a % 2*(b % 2):=by
  have:=Nat.and_mod_two_pow (a:=a) (b:=b) (n:=1)
  rw[Nat.pow_one] at this
  rw[this]
  rcases Nat.mod_two_eq_zero_or_one a with h|h<;>rcases Nat.mod_two_eq_zero_or_one b with k|k<;>rw[h,k]<;>rfl
 omega
theorem sub_halves (t m:Nat):t &&& m=t↔t / 2 &&& m / 2=t / 2∧t % 2≤m % 2:=by
 have h:=and_halves t m
 rcases Nat.mod_two_eq_zero_or_one t with h1|h1<;>rcases Nat.mod_two_eq_zero_or_one m with h2|h2<;>simp only[h1,h2] at h ⊢ <;> omega
theorem sub_pred : ∀(s m t:Nat),s &&& m=s→t &&& m=t→t<s→t≤s - 1 &&& m:=by
 intro s
 induction s using Nat.strongRecOn with
 | _ s ih =>
  intro m t hs ht hlt
  have h1:=(sub_halves s m).1 hs
  have h2:=(sub_halves t m).1 ht
  have h3:=and_halves (s - 1) m
  rcases Nat.mod_two_eq_zero_or_one s with h|h
  ·have e1:(s - 1) / 2=s / 2 - 1:=by omega
   have e2:(s - 1) % 2=1:=by omega
   rw[e1,e2] at h3
   have h4:=ih (s / 2) (by omega) (m / 2) (t / 2) h1.1 h2.1 (by omega)
   omega
  ·have e1:(s - 1) / 2=s / 2:=by omega
   have e2:(s - 1) % 2=0:=by omega
   rw[e1,e2,h1.1] at h3
   omega
def subS (f:Nat→Nat) (m N:Nat):Nat:=sumTo (fun t=>if t &&& m=t then f t else 0) N
theorem sumFrom_subS (f:Nat→Nat) (m:Nat) : ∀s,s &&& m=s→sumFrom f m s=subS f m (s+1):=by
 intro s
 induction s using Nat.strongRecOn with
 | _ s ih =>
  intro hs
  rw[sumFrom_eq,subS,sumTo,if_pos hs]
  by_cases h0:s=0
  ·subst h0;simp[sumTo]
  ·rw[if_neg h0]
   have hle:s - 1 &&& m≤s - 1:=Nat.and_le_left
   have hsub:(s - 1 &&& m) &&& m=s - 1 &&& m:=by rw[Nat.and_assoc,Nat.and_self]
   rw[ih _ (by omega) hsub,subS,Nat.add_comm]
   congr 1
   refine(sumTo_cut (by omega) fun i h1 h2=>?_).symm
   by_cases hi:i &&& m=i
   ·have:=sub_pred s m i hs hi h2;omega
   ·exact if_neg hi
theorem sumFrom_all (f:Nat→Nat) {m N:Nat} (h:m<N):sumFrom f m m=subS f m N:=by
 rw[sumFrom_subS f m m (Nat.and_self m),subS,subS]
 refine(sumTo_cut (by omega) fun i h1 h2=>if_neg fun hi=>?_).symm
 have:i &&& m≤m:=Nat.and_le_right
 omega
theorem subS_le {f g:Nat→Nat} {m N:Nat} (h : ∀t,t<N→t &&& m=t→f t≤g t):subS f m N≤subS g m N:=by
 refine sumTo_le fun i hi=>?_
 by_cases hm:i &&& m=i
 ·rw[if_pos hm,if_pos hm];exact h i hi hm
 ·rw[if_neg hm];exact Nat.zero_le _
theorem subS_congr {f g:Nat→Nat} {m N:Nat} (h : ∀t,t<N→t &&& m=t→f t=g t):subS f m N=subS g m N:=by
 refine sumTo_congr fun i hi=>?_
 by_cases hm:i &&& m=i
 ·rw[if_pos hm,if_pos hm];exact h i hi hm
 ·rw[if_neg hm,if_neg hm]
theorem subS_two (f:Nat→Nat) (m N:Nat):subS f m (2*N)=if m % 2=1 then subS (fun t=>f (2*t)+f (2*t+1)) (m / 2) N else subS (fun t=>f (2*t)) (m / 2) N:=by
 unfold subS
 rw[sumTo_two]
 have e (i:Nat):(2*i &&& m=2*i↔i &&& m / 2=i):=by
  rw[sub_halves];rw[show 2*i / 2=i by omega,show 2*i % 2=0 by omega];simp
 have e1 (i:Nat):(2*i+1 &&& m=2*i+1↔i &&& m / 2=i∧m % 2=1):=by
  rw[sub_halves];rw[show(2*i+1) / 2=i by omega,show(2*i+1) % 2=1 by omega]
  have:=Nat.mod_lt m (show 0<2 by omega)
  constructor
  ·rintro⟨a,b⟩;exact⟨a,by omega⟩
  ·rintro⟨a,b⟩;exact⟨a,by omega⟩
 split
 ·rename_i hm
  refine sumTo_congr fun i _=>?_
  simp only[e,e1,hm,and_true]
  split<;>rfl
 ·rename_i hm
  refine sumTo_congr fun i _=>?_
  simp only[e,e1,hm,and_false,if_false,Nat.add_zero]
theorem nclr_div (a b:Nat):nclr a b / 2=nclr (a / 2) (b / 2):=by
 apply Nat.eq_of_testBit_eq
 intro i
 rw[Nat.testBit_div_two,testBit_nclr,testBit_nclr,Nat.testBit_div_two,Nat.testBit_div_two]
theorem nclr_mod (a b:Nat):nclr a b % 2=if a % 2=1∧b % 2=0 then 1 else 0:=by
 have h:=testBit_nclr a b 0
 simp only[Nat.testBit_zero] at h
 rcases Nat.mod_two_eq_zero_or_one a with h1|h1<;>rcases Nat.mod_two_eq_zero_or_one b with h2|h2<;>simp[h1,h2] at h ⊢ <;> omega
def pw (c:Nat):Nat→Nat→Nat
 | 0,_=>1
 | n+1,m=>(if m % 2=1 then c else 1)*pw c n (m / 2)
theorem pw_zero (c:Nat) : ∀n,pw c n 0=1
 | 0=>rfl
 | n+1=>by simp[pw,pw_zero c n]
theorem pw_sum (c:Nat) : ∀(n m:Nat),m<2 ^ n→subS (fun t=>pw c n (nclr m t)) m (2 ^ n)=pw (c+1) n m
 | 0,m,h=>by
  obtain rfl:m=0:=by simpa using h
  rfl
 | n+1,m,h=>by
  have h2:m / 2<2 ^ n:=by rw[Nat.pow_succ] at h;omega
  rw[Nat.pow_succ,Nat.mul_comm,subS_two,pw,←pw_sum c n (m / 2) h2]
  have e0 (t:Nat):pw c (n+1) (nclr m (2*t))=(if m % 2=1 then c else 1)*pw c n (nclr (m / 2) t):=by
   rw[pw,nclr_div,nclr_mod,show 2*t / 2=t by omega,show 2*t % 2=0 by omega]
   by_cases hm:m % 2=1<;>simp[hm]
  have e1 (t:Nat):pw c (n+1) (nclr m (2*t+1))=pw c n (nclr (m / 2) t):=by
   rw[pw,nclr_div,nclr_mod,show(2*t+1) / 2=t by omega,show(2*t+1) % 2=1 by omega]
   simp
  have mul (c:Nat) (f:Nat→Nat):subS (fun t=>c*f t) (m / 2) (2 ^ n)=c*subS f (m / 2) (2 ^ n):=by
   unfold subS
   rw[←sumTo_mul]
   refine sumTo_congr fun i _=>?_
   split<;>simp
  by_cases hm:m % 2=1
  ·rw[if_pos hm,if_pos hm,←mul]
   refine subS_congr fun t _ _=>?_
   rw[e0,e1,if_pos hm,Nat.add_mul,Nat.one_mul]
  ·rw[if_neg hm,if_neg hm,←mul]
   refine subS_congr fun t _ _=>?_
   rw[e0,if_neg hm]
theorem pw_mono {c:Nat} (hc:0<c) : ∀(n:Nat) {a b:Nat},a &&& b=a→pw c n a≤pw c n b
 | 0,_,_,_=>Nat.le_refl _
 | n+1,a,b,h=>by
  have h1:=(sub_halves a b).1 h
  refine Nat.mul_le_mul ?_ (pw_mono hc n h1.1)
  split
  ·rename_i ha;rw[if_pos (by omega)];exact Nat.le_refl _
  ·split<;>omega
theorem pw_base {c d:Nat} (h:c≤d) : ∀(n m:Nat),pw c n m≤pw d n m
 | 0,_=>Nat.le_refl _
 | n+1,m=>Nat.mul_le_mul (by split<;>omega) (pw_base h n _)
theorem pw_le {c:Nat} (hc:0<c) : ∀(n m:Nat),pw c n m≤c ^ n
 | 0,_=>Nat.le_refl _
 | n+1,m=>by
  rw[pw,Nat.pow_succ,Nat.mul_comm]
  refine Nat.mul_le_mul (pw_le hc n _) ?_
  split<;>omega
theorem nclr_sub (s t:Nat):nclr s t &&& s=nclr s t:=by
 apply Nat.eq_of_testBit_eq
 intro i
 rw[Nat.testBit_and,testBit_nclr]
 cases s.testBit i<;>simp
theorem nclr_nclr (s t u:Nat):nclr (nclr s t) u=nclr (nclr s u) t:=by
 apply Nat.eq_of_testBit_eq
 intro i
 simp only[testBit_nclr]
 cases s.testBit i<;>cases t.testBit i<;>cases u.testBit i<;>rfl
theorem nclr_le (a b:Nat):nclr a b≤a:=by
 rw[←nclr_sub a b];exact Nat.and_le_right
theorem ways_le (F:Nat→Bool) (n:Nat) : ∀(k s:Nat),s<2 ^ n→ways F k s≤pw k n s
 | 0,s,_=>by
  unfold ways
  split
  ·rename_i h;subst h;rw[pw_zero];exact Nat.le_refl _
  ·exact Nat.zero_le _
 | k+1,s,h=>by
  unfold ways
  split
  ·exact Nat.zero_le _
  ·have hr:nclr s (lowM s)<2 ^ n:=nclr_lt h
   rw[sumFrom_all _ hr]
   refine Nat.le_trans (subS_le (g:=fun t=>pw k n (nclr (nclr s (lowM s)) t)) fun t _ _=>?_) ?_
   ·split
    ·rw[nclr_nclr];exact ways_le F n k _ (nclr_lt hr)
    ·exact Nat.zero_le _
   ·rw[pw_sum _ _ _ hr]
    exact pw_mono (by omega) n (nclr_sub _ _)
theorem after_le (F:Nat→Bool) (n:Nat) : ∀(cs:List Nat) (r k:Nat),r<2 ^ n→after F cs r k≤pw k n r
 | [],r,k,h=>ways_le F n k r h
 | c :: cs,r,k,h=>by
  unfold after
  split
  ·rename_i hk
   obtain⟨j,rfl⟩ : ∃j,k=j+1:=⟨k - 1,by omega⟩
   rw[sumFrom_all _ h,←pw_sum _ _ _ h]
   refine subS_le fun t _ _=>?_
   split
   ·exact after_le F n cs _ _ (nclr_lt h)
   ·exact Nat.zero_le _
  ·exact Nat.zero_le _
theorem pw_small {n k s:Nat} (hn:n≤12) (hk:k≤8):pw k n s≤68719476736 :=
 Nat.le_trans (pw_base hk n s) (Nat.le_trans (pw_le (by omega) n s) (Nat.pow_le_pow_right (n:=8) (by omega) hn))
theorem ways_small (F:Nat→Bool) {n k s:Nat} (hn:n≤12) (hk:k≤8) (hs:s<2 ^ n):ways F k s≤68719476736:=Nat.le_trans (ways_le F n k s hs) (pw_small hn hk)
theorem after_small (F:Nat→Bool) {n k s:Nat} (cs:List Nat) (hn:n≤12) (hk:k≤8) (hs:s<2 ^ n):after F cs s k≤68719476736:=Nat.le_trans (after_le F n cs s k hs) (pw_small hn hk)
end Go.Id

/-! Contracts: enumerate. The ways to divide a set. -/
namespace Go.Id
open Go
def keyV (s k:Nat):Value:=.agg #[K64 s,K64 k]
def Memo (F:Nat→Bool) (l:MapL):Prop:=∀e∈l,∃s k,s<18446744073709551616∧k<18446744073709551616∧e=(keyV s k,KI (ways F k s))
theorem memo_keys {F:Nat→Bool} {l:MapL} (h:Memo F l) : ∀e∈l,∃ys:List Int,ys.length=2∧e.1=.agg (ys.map (.int .u64)).toArray:=by
 intro e he
 obtain⟨s,k,_,_,rfl⟩:=h e he
 exact⟨[(s:Int),(k:Int)],rfl,rfl⟩
theorem asc_mem {l:MapL} {k v:Value} (h:asc l k=some v):(k,v)∈l:=by
 cases hp:place l k with
 | none=>rw[place_none hp] at h;cases h
 | some i =>
  obtain⟨w,h1,h2⟩:=place_some hp
  rw[h] at h2;cases h2
  exact List.mem_of_getElem? h1
theorem memo_asc {F:Nat→Bool} {l:MapL} (h:Memo F l) {s k:Nat} {v:Value} (ha:asc l (keyV s k)=some v):v=KI (ways F k s):=by
 obtain⟨s',k',_,_,he⟩:=h _ (asc_mem ha)
 simp only[keyV,Prod.mk.injEq,Value.agg.injEq] at he
 obtain⟨h1,rfl⟩:=he
 simp at h1
 obtain⟨h2,h3⟩:=h1
 have e1:s=s':=by omega
 have e2:k=k':=by omega
 rw[e1,e2]
theorem memo_upd {F:Nat→Bool} {l:MapL} (h:Memo F l) {s k:Nat} (hs:s<18446744073709551616) (hk:k<18446744073709551616):Memo F (upd l (keyV s k) (KI (ways F k s))):=by
 intro e he
 rcases mem_upd he with rfl|he
 ·exact⟨s,k,hs,hk,rfl⟩
 ·exact h e he
theorem uKey:Program.underlying Proofs.Tryd.prog 126=some (.array 2 47):=by kernel_rfl
theorem mapT139:MapT Proofs.Tryd.prog 124 126 (KI 0):=⟨3,u124,by kernel_rfl,rfl⟩
set_option maxHeartbeats 4000000 in
theorem divide_ok {F:Nat→Bool} {n:Nat} (hn:n≤12) {q:FP} : ∀(k:Nat) {h:IH} (_:k≤8) (_:FieldAt h q n F) {es:MapL} (_:h.ext.get q.m=some (.map es)) (_:Memo F es) (s:Nat) (_:s<2 ^ n),
  WV Proofs.Tryd.prog (.func (.func 71) #[] #[ptr (2*q.c) 0,ptr (2*q.x) 0,ptr (2*q.d) 0]) [K64 s,KI k] h fun r h'=>r=KI (ways F k s)∧Mem q.m h h' ∧ ∃es',h'.ext.get q.m=some (.map es')∧Memo F es':=by
 intro k
 induction k with
 | zero =>
  intro h _ hf es hm hM s hs
  have mE : ∀a b:IObj,Mem q.m h ((h.new a).new b):=fun a b=>(((Ext.refl h).new a).new b).mem _
  have mg : ∀a b:IObj,((h.new a).new b).ext.get q.m=some (.map es):=fun a b=>by
   have:=hf.lm
   rw[get_new_old _ _ (by simp;omega),get_new_old _ _ (by omega),hm]
  have hp12:2 ^ n≤2 ^ 12:=Nat.pow_le_pow_right (by omega) hn
  by_cases h0:s=0
  ·subst h0
   refine enter (nt:=71) (rs:=[.tmp 7]) Proofs.Tryd.func71 rfl rfl rfl (by simp) ?_
   simp -dsimp (maxSteps:=1000000) (disch:=first|omega|(simp only[new_n,put_n];omega)|decide +kernel|(repeat first|rw[new_n]|rw[put_n])) only[wpS,wpT,Nat.reduceEqDiff,Nat.reduceAdd,ld47,ld3]
   exact⟨rfl,mE _ _,es,mg _ _,hM⟩
  ·have e1:((s:Int) == 0)=false:=by simp;omega
   refine enter (nt:=71) (rs:=[.tmp 7]) Proofs.Tryd.func71 rfl rfl rfl (by simp) ?_
   simp -dsimp (maxSteps:=1000000) (disch:=first|omega|(simp only[new_n,put_n];omega)|decide +kernel|(repeat first|rw[new_n]|rw[put_n])) only[wpS,wpT,Nat.reduceEqDiff,Nat.reduceAdd,ld47,ld3,e1]
   refine⟨?_,mE _ _,es,mg _ _,hM⟩
   rw[ways,if_neg h0];rfl
 | succ k ih =>
  intro h hk8 hf es hm hM s hs
  have hp12:2 ^ n≤2 ^ 12:=Nat.pow_le_pow_right (by omega) hn
  have mE : ∀a b:IObj,Mem q.m h ((h.new a).new b):=fun a b=>(((Ext.refl h).new a).new b).mem _
  have mg : ∀a b:IObj,((h.new a).new b).ext.get q.m=some (.map es):=fun a b=>by
   have:=hf.lm
   rw[get_new_old _ _ (by simp;omega),get_new_old _ _ (by omega),hm]
  by_cases h0:s=0
  ·subst h0
   have e2:(((k+1:Nat):Int) == 0)=false:=by simp;omega
   refine enter (nt:=71) (rs:=[.tmp 7]) Proofs.Tryd.func71 rfl rfl rfl (by simp) ?_
   simp -dsimp (maxSteps:=1000000) (disch:=first|omega|(simp only[new_n,put_n];omega)|decide +kernel|(repeat first|rw[new_n]|rw[put_n])) only[wpS,wpT,Nat.reduceEqDiff,Nat.reduceAdd,ld47,ld3,e2]
   refine⟨?_,mE _ _,es,mg _ _,hM⟩
   rw[ways,if_pos rfl];rfl
  ·have e1:((s:Int) == 0)=false:=by simp;omega
   have e2:(((k+1:Nat):Int) == 0)=false:=by simp;omega
   have eu:IntKind.u64.wrap ((k+1:Nat):Int)=((k+1:Nat):Int):=by rw[wrapU];omega
   refine enter (nt:=71) (rs:=[.tmp 7]) Proofs.Tryd.func71 rfl rfl rfl (by simp) ?_
   simp -dsimp (maxSteps:=1000000) (disch:=first|omega|(simp only[new_n,put_n];omega)|decide +kernel|(repeat first|rw[new_n]|rw[put_n])) only[wpS,wpT,Nat.reduceEqDiff,Nat.reduceLeDiff,Nat.reduceAdd,ld47,ld3,cv3_47,bv126,pl126_0,pl126_1,zc126,st126,ld124,e1,e2,eu]
   have hlm:=hf.lm
   have kE:Ext h (((h.new (.cells [.int .u64 s] 0 none)).new (.cells [.int .i64 ((k+1:Nat):Int)] 0 none)).new (.cells [.int .u64 0,.int .u64 0] 0 none) |>.put (h.n+1+1) (.cells [.int .u64 s,.int .u64 ((k+1:Nat):Int)] 0 none)):=((((Ext.refl h).new _).new _).new _).put (by omega) _
   have kn:(((h.new (.cells [.int .u64 s] 0 none)).new (.cells [.int .i64 ((k+1:Nat):Int)] 0 none)).new (.cells [.int .u64 0,.int .u64 0] 0 none) |>.put (h.n+1+1) (.cells [.int .u64 s,.int .u64 ((k+1:Nat):Int)] 0 none)).n=h.n+3:=rfl
   have k0:(((h.new (.cells [.int .u64 s] 0 none)).new (.cells [.int .i64 ((k+1:Nat):Int)] 0 none)).new (.cells [.int .u64 0,.int .u64 0] 0 none) |>.put (h.n+1+1) (.cells [.int .u64 s,.int .u64 ((k+1:Nat):Int)] 0 none)).ext.get h.n=some (.cells [K64 s] 0 none):=by
    rw[get_put_old _ _ (by omega),get_new_old _ _ (by simp;omega),get_new_old _ _ (by simp),get_new_same _ _ rfl]
   have k1:(((h.new (.cells [.int .u64 s] 0 none)).new (.cells [.int .i64 ((k+1:Nat):Int)] 0 none)).new (.cells [.int .u64 0,.int .u64 0] 0 none) |>.put (h.n+1+1) (.cells [.int .u64 s,.int .u64 ((k+1:Nat):Int)] 0 none)).ext.get (h.n+1)=some (.cells [KI ((k+1:Nat):Int)] 0 none):=by
    rw[get_put_old _ _ (by omega),get_new_old _ _ (by simp),get_new_same _ _ (by simp)]
   have k2:(((h.new (.cells [.int .u64 s] 0 none)).new (.cells [.int .i64 ((k+1:Nat):Int)] 0 none)).new (.cells [.int .u64 0,.int .u64 0] 0 none) |>.put (h.n+1+1) (.cells [.int .u64 s,.int .u64 ((k+1:Nat):Int)] 0 none)).ext.get (h.n+2)=some (.cells [K64 s,K64 (k+1)] 0 none):=get_put_same _ _ rfl
   generalize (((h.new (.cells [.int .u64 s] 0 none)).new (.cells [.int .i64 ((k+1:Nat):Int)] 0 none)).new (.cells [.int .u64 0,.int .u64 0] 0 none) |>.put (h.n+1+1) (.cells [.int .u64 s,.int .u64 ((k+1:Nat):Int)] 0 none))=hK at *
   have fK:=hf.mem (kE.mem q.m)
   have mK:hK.ext.get q.m=some (.map es):=(kE.get _ hlm).trans hm
   have rc:hK.row (2*q.c)=some [.map (some (2*q.m))]:=by rw[row_even];simp only[IH.cells,fK.gc]
   have rk:hK.row (2*(h.n+2))=some [K64 s,K64 (k+1)]:=by rw[row_even];simp only[IH.cells,k2]
   have r0:hK.row (2*h.n)=some [K64 s]:=by rw[row_even];simp only[IH.cells,k0]
   have r1:hK.row (2*(h.n+1))=some [KI ((k+1:Nat):Int)]:=by rw[row_even];simp only[IH.cells,k1]
   have hlk:=lookup_eq mapT139 (keyT_arr uKey u47 sz47) mK (k:=keyV s (k+1)) ⟨[(s:Int),((k+1:Nat):Int)],rfl,rfl⟩ (memo_keys hM)
   cases hasc:asc es (keyV s (k+1)) with
   | some v =>
    rw[hasc] at hlk
    have hv:=memo_asc hM hasc
    subst hv
    have hlk':lookup Proofs.Tryd.prog hK 124 (.map (some (2*q.m))) (.agg #[K64 s,K64 (k+1)]) true=some (.tuple #[KI (ways F (k+1) s),.bool true]):=hlk
    simp -dsimp (maxSteps:=1000000) (disch:=first|omega|(simp only[new_n,put_n];omega)|decide +kernel|(repeat first|rw[new_n]|rw[put_n])) only[wpS,wpT,Nat.reduceEqDiff,Nat.reduceLeDiff,Nat.reduceAdd,ld126,rc,rk,List.drop_zero,take2,hlk']
    exact⟨kE.mem _,es,mK,hM⟩
   | none =>
    rw[hasc] at hlk
    have hlk':lookup Proofs.Tryd.prog hK 124 (.map (some (2*q.m))) (.agg #[K64 s,K64 (k+1)]) true=some (.tuple #[KI 0,.bool false]):=hlk
    simp -dsimp (maxSteps:=1000000) (disch:=first|omega|(simp only[new_n,put_n];omega)|decide +kernel|(repeat first|rw[new_n]|rw[put_n])) only[wpS,wpT,Nat.reduceEqDiff,Nat.reduceLeDiff,Nat.reduceAdd,ld126,rc,rk,List.drop_zero,take2,hlk']
    obtain⟨a,ha⟩:=low_exists (u:=s) (by omega)
    have e3:IntKind.u64.wrap (-(s:Int))=((18446744073709551616 - s:Nat):Int):=by rw[wrapU];omega
    have e4:s &&& (18446744073709551616 - s)=lowM s:=rfl
    have e5:lowM s=2 ^ a:=low_bit ha (by omega)
    have e6:lowM s≤s:=Nat.and_le_left
    refine drawn [(0,[6,7]),(1,[6,7])] (by kernel_rfl) (by kernel_rfl) rfl ?_
    simp -dsimp (maxSteps:=1000000) (disch:=first|omega|(simp only[new_n,put_n];omega)|decide +kernel|(repeat first|rw[new_n]|rw[put_n])) only[wpS,wpT,Nat.reduceEqDiff,Nat.reduceLeDiff,ld47,zc3,zc47,st3,st47,r0,e3,e4]
    refine⟨wpSteady_cons (wpSteady_two (wpSteady_one rfl rfl rfl rfl (steady_load (av:=ptr (2*h.n) 0) (v:=K64 s) rfl ?_ ?_)) (wpSteady_one rfl rfl rfl rfl (steady_load (av:=ptr (2*h.n) 0) (v:=K64 s) rfl ?_ ?_))) (wpSteady_two (wpSteady_one rfl rfl rfl rfl (steady_load (av:=ptr (2*h.n) 0) (v:=K64 s) rfl ?_ ?_)) (wpSteady_one rfl rfl rfl rfl (steady_load (av:=ptr (2*h.n) 0) (v:=K64 s) rfl ?_ ?_))),?_⟩
    iterate 8
     ·simp -dsimp (maxSteps:=1000000) (disch:=first|omega|(simp only[new_n,put_n];omega)|decide +kernel|(repeat first|rw[new_n]|rw[put_n])) only[wpS,ld47,r0]
    simp -dsimp (maxSteps:=1000000) (disch:=first|omega|(simp only[new_n,put_n];omega)|decide +kernel|(repeat first|rw[new_n]|rw[put_n])) only[wpS,wpT,Nat.reduceEqDiff,Nat.reduceAdd,ld47,r0]
    have e7:nclr s (lowM s)<2 ^ n:=Nat.lt_of_le_of_lt (Sub.le fun j hj=>by rw[testBit_nclr] at hj;simp at hj;exact hj.1) hs
    refine call (subsets_ok (nclr s (lowM s))) ?_
    rintro _ _ ⟨rfl,rfl⟩
    simp -dsimp (maxSteps:=1000000) (disch:=first|omega|(simp only[new_n,put_n];omega)|decide +kernel|(repeat first|rw[new_n]|rw[put_n])) only[wpS]
    have t0:(((((hK.new (.cells [.int .i64 0] 0 none)).new (.cells [.int .u64 0] 0 none)).put hK.n (.cells [.int .i64 0] 0 none)).put (hK.n+1) (.cells [K64 (lowM s)] 0 none)).new (.cells [K64 (nclr s (lowM s))] 0 none)).n=hK.n+3:=rfl
    have tE:Ext hK (((((hK.new (.cells [.int .i64 0] 0 none)).new (.cells [.int .u64 0] 0 none)).put hK.n (.cells [.int .i64 0] 0 none)).put (hK.n+1) (.cells [K64 (lowM s)] 0 none)).new (.cells [K64 (nclr s (lowM s))] 0 none)):=(((((Ext.refl hK).new _).new _).put (Nat.le_refl _) _).put (by omega) _).new _
    have t1:(((((hK.new (.cells [.int .i64 0] 0 none)).new (.cells [.int .u64 0] 0 none)).put hK.n (.cells [.int .i64 0] 0 none)).put (hK.n+1) (.cells [K64 (lowM s)] 0 none)).new (.cells [K64 (nclr s (lowM s))] 0 none)).ext.get hK.n=some (.cells [KI 0] 0 none):=by
     rw[get_new_old _ _ (by simp;omega),get_put_old _ _ (by omega),get_put_same _ _ rfl]
    have t2:(((((hK.new (.cells [.int .i64 0] 0 none)).new (.cells [.int .u64 0] 0 none)).put hK.n (.cells [.int .i64 0] 0 none)).put (hK.n+1) (.cells [K64 (lowM s)] 0 none)).new (.cells [K64 (nclr s (lowM s))] 0 none)).ext.get (hK.n+1)=some (.cells [K64 (lowM s)] 0 none):=by
     rw[get_new_old _ _ (by simp),get_put_same _ _ rfl]
    have t3:(((((hK.new (.cells [.int .i64 0] 0 none)).new (.cells [.int .u64 0] 0 none)).put hK.n (.cells [.int .i64 0] 0 none)).put (hK.n+1) (.cells [K64 (lowM s)] 0 none)).new (.cells [K64 (nclr s (lowM s))] 0 none)).ext.get (hK.n+2)=some (.cells [K64 (nclr s (lowM s))] 0 none):=get_new_same _ _ rfl
    generalize ((((hK.new (.cells [.int .i64 0] 0 none)).new (.cells [.int .u64 0] 0 none)).put hK.n (.cells [.int .i64 0] 0 none)).put (hK.n+1) (.cells [K64 (lowM s)] 0 none)).new (.cells [K64 (nclr s (lowM s))] 0 none)=hT at *
    refine range1 rfl rfl ?_ ?_ ?_
    ·decide
    ·decide
    intro rec y hy
    rw[t0] at hy ⊢
    have hways:ways F (k+1) s=sumFrom (fun t=>if F (t ||| lowM s)=true then ways F k (nclr (nclr s t) (lowM s)) else 0) (nclr s (lowM s)) (nclr s (lowM s)):=by rw[ways,if_neg h0]
    generalize hr:nclr s (lowM s)=r at *
    refine WV.mono (subsets1_ok (hK.n+2) r (by omega) (fun t hh=>t≤r∧Mem q.m hK hh∧hK.n+4≤hh.n∧hh.ext.get (hK.n+1)=some (.cells [K64 (lowM s)] 0 none)∧hh.ext.get (hK.n+2)=some (.cells [K64 r] 0 none)∧hh.ext.get (hK.n+3)=some (.loop rec)∧(∃es',hh.ext.get q.m=some (.map es')∧Memo F es') ∧
      ∃acc:Nat,hh.ext.get hK.n=some (.cells [KI acc] 0 none)∧acc+sumFrom (fun t=>if F (t ||| lowM s)=true then ways F k (nclr (nclr s t) (lowM s)) else 0) r t=ways F (k+1) s)
     (fun hh=>Mem q.m hK hh∧hK.n+4≤hh.n∧hh.ext.get (hK.n+3)=some (.loop rec)∧(∃es',hh.ext.get q.m=some (.map es')∧Memo F es')∧hh.ext.get hK.n=some (.cells [KI (ways F (k+1) s)] 0 none)) ?_ ?_ ?_) ?_
    ·rintro t hh ⟨j1,j2,j3,j4,j5,j6,j7,j8⟩
     rw[row_even];simp only[IH.cells,j5]
    ·have hKn:=kE.n
     refine⟨Nat.le_refl _,(tE.new _).mem _,by simp[t0],?_,?_,get_new_same _ _ t0.symm,⟨es,?_,hM⟩,0,?_,by rw[Nat.zero_add,hways]⟩
     ·rw[get_new_old _ _ (by omega)];exact t2
     ·rw[get_new_old _ _ (by omega)];exact t3
     ·rw[get_new_old _ _ (by omega),tE.get _ (by omega)];exact mK
     ·rw[get_new_old _ _ (by omega)];exact t1
    ·rintro t hh - ⟨j1,j2,j3,j4,j5,j6,⟨es',j7,jM⟩,acc,j8,j9⟩
     refine hy _ _ _ j6 ?_
     have hKn:=kE.n
     have gE:Mem q.m hK (hh.put (hK.n+3) (.loop (busyL rec))):=j2.put (by omega) _
     have gn:hK.n+4≤(hh.put (hK.n+3) (.loop (busyL rec))).n:=j3
     have gl:(hh.put (hK.n+3) (.loop (busyL rec))).ext.get (hK.n+1)=some (.cells [K64 (lowM s)] 0 none):=by rw[get_put_old _ _ (by omega)];exact j4
     have gb:(hh.put (hK.n+3) (.loop (busyL rec))).ext.get (hK.n+2)=some (.cells [K64 r] 0 none):=by rw[get_put_old _ _ (by omega)];exact j5
     have gL:(hh.put (hK.n+3) (.loop (busyL rec))).ext.get (hK.n+3)=some (.loop (busyL rec)):=get_put_same _ _ rfl
     have gm:(hh.put (hK.n+3) (.loop (busyL rec))).ext.get q.m=some (.map es'):=by rw[get_put_old _ _ (by omega)];exact j7
     have ga:(hh.put (hK.n+3) (.loop (busyL rec))).ext.get hK.n=some (.cells [KI acc] 0 none):=by rw[get_put_old _ _ (by omega)];exact j8
     generalize hh.put (hK.n+3) (.loop (busyL rec))=H at *
     have fH:=fK.mem gE
     have rx:H.row (2*q.x)=some [ptr (2*q.p) 0]:=by rw[row_even];simp only[IH.cells,fH.gx]
     simp -dsimp (maxSteps:=1000000) (disch:=first|omega|(simp only[new_n,put_n];omega)|decide +kernel|(repeat first|rw[new_n]|rw[put_n])) only[wpS,Nat.reduceEqDiff,ld89,fa95_1,ld92,rx]
     have rp:H.row (2*q.p)=some [KI n,.slice (some ⟨2*q.fb,0,none⟩) (2 ^ n) (2*2 ^ n+1),.func (.func 73) #[] #[ptr (2*q.d) 0,ptr (2*q.x) 0]]:=by rw[row_even];simp only[IH.cells,fH.gp]
     have rf:H.row (2*q.fb)=some (fitC n F):=by rw[row_even];simp only[IH.cells,fH.gf]
     have rl:H.row (2*(hK.n+1))=some [K64 (lowM s)]:=by rw[row_even];simp only[IH.cells,gl]
     have ra:H.row (2*hK.n)=some [KI acc]:=by rw[row_even];simp only[IH.cells,ga]
     have rd:H.row (2*q.d)=some [.func (.func 71) #[] #[ptr (2*q.c) 0,ptr (2*q.x) 0,ptr (2*q.d) 0]]:=by rw[row_even];simp only[IH.cells,fH.gd]
     have rs0:H.row (2*h.n)=some [K64 s]:=by rw[gE.row (.inr ⟨by omega,by omega⟩)];exact r0
     have rs1:H.row (2*(h.n+1))=some [KI ((k+1:Nat):Int)]:=by rw[gE.row (.inr ⟨by omega,by omega⟩)];exact r1
     have hor:t ||| lowM s<2 ^ n:=Nat.or_lt_two_pow (by omega) (by omega)
     have gF:(fitC n F)[t ||| lowM s]?=some (.bool (F (t ||| lowM s))):=by simp[fitC,hor]
     have q0:0≤((2 ^ n:Nat):Int):=Int.natCast_nonneg _
     simp -dsimp (maxSteps:=1000000) (disch:=first|omega|(simp only[new_n,put_n];omega)|decide +kernel|(repeat first|rw[new_n]|rw[put_n])) only[wpS,Nat.reduceEqDiff,ld47,es92,ld4,rp,rf,rl,gF]
     have hfr:=sumFrom_eq (fun t=>if F (t ||| lowM s)=true then ways F k (nclr (nclr s t) (lowM s)) else 0) r t
     have fin : ∀(h6:IH) (acc':Nat),Mem q.m hK h6→hK.n+4≤h6.n→h6.ext.get (hK.n+1)=some (.cells [K64 (lowM s)] 0 none)→h6.ext.get (hK.n+2)=some (.cells [K64 r] 0 none)→(∃es',h6.ext.get q.m=some (.map es')∧Memo F es')→h6.ext.get hK.n=some (.cells [KI acc'] 0 none) →
       (acc'+if t=0 then 0 else sumFrom (fun t=>if F (t ||| lowM s)=true then ways F k (nclr (nclr s t) (lowM s)) else 0) r (t - 1 &&& r))=ways F (k+1) s →
       (fun(r_1:Value) (h':IH)=>r_1=.bool true∧(t=0→Mem q.m hK h'∧hK.n+4≤h'.n∧h'.ext.get (hK.n+3)=some (.loop rec)∧(∃es',h'.ext.get q.m=some (.map es')∧Memo F es')∧h'.ext.get hK.n=some (.cells [KI (ways F (k+1) s)] 0 none)) ∧
        (0<t→t - 1 &&& r≤r∧Mem q.m hK h'∧hK.n+4≤h'.n∧h'.ext.get (hK.n+1)=some (.cells [K64 (lowM s)] 0 none)∧h'.ext.get (hK.n+2)=some (.cells [K64 r] 0 none)∧h'.ext.get (hK.n+3)=some (.loop rec)∧(∃es',h'.ext.get q.m=some (.map es')∧Memo F es') ∧
         ∃acc:Nat,h'.ext.get hK.n=some (.cells [KI acc] 0 none)∧acc+sumFrom (fun t=>if F (t ||| lowM s)=true then ways F k (nclr (nclr s t) (lowM s)) else 0) r (t - 1 &&& r)=ways F (k+1) s)) (.bool true) (h6.put (hK.n+3) (.loop rec)):=by
      intro h6 acc' a1 a2 a3 a4 a5 a6 a7
      obtain⟨es2,a5,a8⟩:=a5
      have b1:Mem q.m hK (h6.put (hK.n+3) (.loop rec)):=a1.put (by omega) _
      have b3:(h6.put (hK.n+3) (.loop rec)).ext.get (hK.n+1)=some (.cells [K64 (lowM s)] 0 none):=by rw[get_put_old _ _ (by omega)];exact a3
      have b4:(h6.put (hK.n+3) (.loop rec)).ext.get (hK.n+2)=some (.cells [K64 r] 0 none):=by rw[get_put_old _ _ (by omega)];exact a4
      have b5:(h6.put (hK.n+3) (.loop rec)).ext.get q.m=some (.map es2):=by rw[get_put_old _ _ (by omega)];exact a5
      have b6:(h6.put (hK.n+3) (.loop rec)).ext.get hK.n=some (.cells [KI acc'] 0 none):=by rw[get_put_old _ _ (by omega)];exact a6
      have b7:(h6.put (hK.n+3) (.loop rec)).ext.get (hK.n+3)=some (.loop rec):=get_put_same _ _ rfl
      refine⟨rfl,fun ht=>⟨b1,a2,b7,⟨es2,b5,a8⟩,?_⟩,fun ht=>⟨Nat.and_le_right,b1,a2,b3,b4,b7,⟨es2,b5,a8⟩,acc',b6,?_⟩⟩
      ·rw[if_pos ht,Nat.add_zero] at a7;rw[←a7];exact b6
      ·rw[if_neg (by omega)] at a7;exact a7
     refine bq_intro ?_ ?_<;>intro hFt
     ·have ek:((k+1:Nat):Int) - 1=(k:Int):=by omega
      rw[if_pos hFt] at hfr
      have hsub:nclr (nclr s t) (lowM s)<2 ^ n:=nclr_lt (nclr_lt hs)
      have hb1:=ways_small F hn (show k≤8 by omega) hsub
      have hb2:=ways_small F hn hk8 hs
      have hst:s<18446744073709551616:=by omega
      have hnl:nclr s t<18446744073709551616:=Nat.lt_of_le_of_lt (nclr_le _ _) hst
      refine drawn [(0,[11])] (by kernel_rfl) (by kernel_rfl) rfl ?_
      simp -dsimp (maxSteps:=1000000) (disch:=first|omega|(simp only[new_n,put_n];omega)|decide +kernel|(repeat first|rw[new_n]|rw[put_n])) only[wpS,Nat.reduceEqDiff,ld47,ld3,ld125,ra,rd,rs0,rs1,rl,ek]
      refine call (ih (by omega) fH gm jM (nclr (nclr s t) (lowM s)) hsub) ?_
      rintro _ h5 ⟨rfl,hE5,es'',hm5,hM5⟩
      have qa:h5.row (2*hK.n)=some [KI acc]:=by rw[hE5.row (.inr ⟨by omega,by omega⟩)];exact ra
      have ga5:h5.ext.get hK.n=some (.cells [KI acc] 0 none):=by rw[hE5.get _ (by omega) (by omega)];exact ga
      simp -dsimp (maxSteps:=1000000) (disch:=first|omega|(simp only[new_n,put_n];omega)|decide +kernel|(repeat first|rw[new_n]|rw[put_n])) only[wpS,wpT,Nat.reduceEqDiff,Nat.reduceLeDiff,st3,ga5]
      refine⟨wpSteady_one rfl rfl rfl rfl (steady_load (av:=ptr (2*hK.n) 0) (v:=KI acc) rfl ?_ ?_),?_⟩
      ·simp -dsimp (maxSteps:=1000000) (disch:=first|omega|(simp only[new_n,put_n];omega)|decide +kernel|(repeat first|rw[new_n]|rw[put_n])) only[wpS,ld3,ra]
      ·simp -dsimp (maxSteps:=1000000) (disch:=first|omega|(simp only[new_n,put_n];omega)|decide +kernel|(repeat first|rw[new_n]|rw[put_n])) only[wpS,ld3,qa]
      simp -dsimp (maxSteps:=1000000) (disch:=first|omega|(simp only[new_n,put_n];omega)|decide +kernel|(repeat first|rw[new_n]|rw[put_n])) only[wpS,wpT,Nat.reduceAdd]
      have h5n:=hE5.n
      refine⟨rfl,?_,fin _ (acc+ways F k (nclr (nclr s t) (lowM s))) ((gE.trans hE5).put (by omega) _) (by simp only[put_n];omega) ?_ ?_ ⟨es'',?_,hM5⟩ ?_ ?_⟩
      ·rw[get_put_old _ _ (by omega),hE5.get _ (by omega) (by omega)];exact gL
      ·rw[get_put_old _ _ (by omega),hE5.get _ (by omega) (by omega)];exact gl
      ·rw[get_put_old _ _ (by omega),hE5.get _ (by omega) (by omega)];exact gb
      ·rw[get_put_old _ _ (by omega)];exact hm5
      ·rw[get_put_same _ _ rfl,Int.natCast_add]
      ·omega
     ·rw[if_neg (by rw[hFt];simp)] at hfr
      exact⟨rfl,gL,fin _ acc gE gn gl gb ⟨es',gm,jM⟩ ga (by omega)⟩
    ·rintro _ hh ⟨j2,j4,j6,⟨es',j7,jM⟩,j8⟩
     refine⟨j6,?_⟩
     have hKn:=kE.n
     have dE:Mem q.m hK (hh.put (hK.n+3) .dead):=j2.put (by omega) _
     have dn:(hh.put (hK.n+3) .dead).ext.get hK.n=some (.cells [KI (ways F (k+1) s)] 0 none):=by rw[get_put_old _ _ (by omega)];exact j8
     have dm:(hh.put (hK.n+3) .dead).ext.get q.m=some (.map es'):=by rw[get_put_old _ _ (by omega)];exact j7
     generalize hh.put (hK.n+3) .dead=h4 at *
     have f4:=fK.mem dE
     have rc4:h4.row (2*q.c)=some [.map (some (2*q.m))]:=by rw[row_even];simp only[IH.cells,f4.gc]
     have rk4:h4.row (2*(h.n+2))=some [K64 s,K64 (k+1)]:=by rw[dE.row (.inr ⟨by omega,by omega⟩)];exact rk
     have rn4:h4.row (2*hK.n)=some [KI (ways F (k+1) s)]:=by rw[row_even];simp only[IH.cells,dn]
     have hup:=mapUpdate_eq mapT139 (keyT_arr uKey u47 sz47) dm (k:=keyV s (k+1)) ⟨[(s:Int),((k+1:Nat):Int)],rfl,rfl⟩ (memo_keys jM) (KI (ways F (k+1) s))
     have hup':mapUpdate Proofs.Tryd.prog h4 124 (.map (some (2*q.m))) (.agg #[K64 s,K64 (k+1)]) (KI (ways F (k+1) s))=_:=hup
     simp -dsimp (maxSteps:=1000000) (disch:=first|omega|(simp only[new_n,put_n];omega)|decide +kernel|(repeat first|rw[new_n]|rw[put_n])) only[wpS,wpT,Nat.reduceEqDiff,Nat.reduceLeDiff,Nat.reduceAdd,ld3,ld124,ld126,rc4,rk4,rn4,List.drop_zero,take2,hup']
     exact⟨((kE.mem q.m).trans dE).put (.inr rfl) _,_,rfl,memo_upd jM (by omega) (by omega)⟩
end Go.Id

/-! Contracts: enumerate. The ways to complete classes and to divide what is left. -/
namespace Go.Id
open Go
theorem Mem.keep {m:Nat} {h h':IH} (e:Mem m h h') {es:MapL} (hm:h.ext.get m=some (.map es)):Keep h h':=⟨e.n,e.base,fun k c t f hk hg he=>by
 by_cases hkm:k=m
 ·subst hkm;rw[hm] at hg;cases hg
 ·exact⟨f,by rw[e.get k hk hkm,hg]⟩⟩
def compV (q:FP):Value:=.func (.func 73) #[] #[ptr (2*q.d) 0,ptr (2*q.x) 0]
def c64 (cs:List Nat):List Value:=cs.map fun c=>K64 c
set_option maxHeartbeats 4000000 in
theorem complete_ok {F:Nat→Bool} {n:Nat} (hn:n≤12) {q:FP} : ∀(cs:List Nat) {h:IH} {k:Nat} (_:k≤8) (_:FieldAt h q n F) {es:MapL} (_:h.ext.get q.m=some (.map es)) (_:Memo F es) {s:Nat} (_:s<2 ^ n) (_ : ∀c∈cs,c<2 ^ n) {v:Value} (_:SlOf h 1 v cs.length (c64 cs)) (_:cs.length≤100),
  WV Proofs.Tryd.prog (compV q) [v,K64 s,KI k] h fun r h'=>r=KI (after F cs s k)∧Mem q.m h h' ∧ ∃es',h'.ext.get q.m=some (.map es')∧Memo F es':=by
 intro cs
 induction cs with
 | nil =>
  intro h k hk hf es hm hM s hs hcs v hv _
  have hp12:2 ^ n≤2 ^ 12:=Nat.pow_le_pow_right (by omega) hn
  unfold compV
  refine enter (nt:=51) (rs:=[.tmp 8]) Proofs.Tryd.func73 rfl rfl rfl (by simp) ?_
  have hd0:h.row (2*q.d)=some [.func (.func 71) #[] #[ptr (2*q.c) 0,ptr (2*q.x) 0,ptr (2*q.d) 0]]:=by rw[row_even];simp only[IH.cells,hf.gd]
  have hld:=hf.ld
  have hlm:=hf.lm
  simp -dsimp (maxSteps:=1000000) (disch:=first|omega|(simp only[new_n,put_n];omega)|decide +kernel|(repeat first|rw[new_n]|rw[put_n])) only[wpS,wpT,Nat.reduceEqDiff,Nat.reduceLeDiff,Nat.reduceAdd,ld38,ld125,ld47,ld3,zc3,st3,hv.cells,hv.len sl38,hd0]
  have e0:Ext h (((h.new (.cells [v] 0 none)).new (.cells [K64 s] 0 none)).new (.cells [KI k] 0 none)):=(((Ext.refl h).new _).new _).new _
  refine call (divide_ok hn k hk (hf.mem (e0.mem _)) ((e0.get _ hlm).trans hm) hM s hs) ?_
  rintro _ h5 ⟨rfl,hE5,es',hm5,hM5⟩
  simp -dsimp (maxSteps:=1000000) (disch:=first|omega|(simp only[new_n,put_n];omega)|decide +kernel|(repeat first|rw[new_n]|rw[put_n])) only[wpS,wpT,Nat.reduceEqDiff,Nat.reduceLeDiff,zc3,st3]
  exact⟨rfl,(e0.mem _).trans hE5,es',hm5,hM5⟩
 | cons c cs ih =>
  intro h k hk hf es hm hM s hs hcs v hv hlen
  have hp12:2 ^ n≤2 ^ 12:=Nat.pow_le_pow_right (by omega) hn
  unfold compV
  refine enter (nt:=51) (rs:=[.tmp 8]) Proofs.Tryd.func73 rfl rfl rfl (by simp) ?_
  have hlm:=hf.lm
  have hl1:(c :: cs).length=cs.length+1:=rfl
  rw[hl1] at hv
  have e1:(((cs.length+1:Nat):Int) == 0)=false:=by simp;omega
  simp -dsimp (maxSteps:=1000000) (disch:=first|omega|(simp only[new_n,put_n];omega)|decide +kernel|(repeat first|rw[new_n]|rw[put_n])) only[wpS,wpT,Nat.reduceEqDiff,Nat.reduceLeDiff,Nat.reduceAdd,ld38,ld3,zc3,st3,hv.cells,hv.len sl38,e1]
  refine bq_intro ?_ ?_<;>intro hkl
  ·simp only[decide_eq_true_eq] at hkl
   have hkl2:cs.length+1≤k:=by omega
   simp -dsimp (maxSteps:=1000000) (disch:=first|omega|(simp only[new_n,put_n];omega)|decide +kernel|(repeat first|rw[new_n]|rw[put_n])) only[wpS,wpT,Nat.reduceEqDiff,ld47]
   refine call (subsets_ok s) ?_
   rintro _ _ ⟨rfl,rfl⟩
   simp -dsimp (maxSteps:=1000000) (disch:=first|omega|(simp only[new_n,put_n];omega)|decide +kernel|(repeat first|rw[new_n]|rw[put_n])) only[wpS]
   have t0:((((((h.new (.cells [v] 0 none)).new (.cells [.int .u64 s] 0 none)).new (.cells [.int .i64 k] 0 none)).new (.cells [.int .i64 0] 0 none)).put (h.n+1+1+1) (.cells [.int .i64 0] 0 none)).new (.cells [K64 s] 0 none)).n=h.n+5:=rfl
   have tE:Ext h ((((((h.new (.cells [v] 0 none)).new (.cells [.int .u64 s] 0 none)).new (.cells [.int .i64 k] 0 none)).new (.cells [.int .i64 0] 0 none)).put (h.n+1+1+1) (.cells [.int .i64 0] 0 none)).new (.cells [K64 s] 0 none)):=((((((Ext.refl h).new _).new _).new _).new _).put (by omega) _).new _
   have g0:((((((h.new (.cells [v] 0 none)).new (.cells [.int .u64 s] 0 none)).new (.cells [.int .i64 k] 0 none)).new (.cells [.int .i64 0] 0 none)).put (h.n+1+1+1) (.cells [.int .i64 0] 0 none)).new (.cells [K64 s] 0 none)).ext.get h.n=some (.cells [v] 0 none):=by
    simp (disch:=first|omega|(simp only[new_n,put_n];omega)|(repeat first|rw[new_n]|rw[put_n])) only[get_new_same,get_new_old,get_put_old]
   have g1:((((((h.new (.cells [v] 0 none)).new (.cells [.int .u64 s] 0 none)).new (.cells [.int .i64 k] 0 none)).new (.cells [.int .i64 0] 0 none)).put (h.n+1+1+1) (.cells [.int .i64 0] 0 none)).new (.cells [K64 s] 0 none)).ext.get (h.n+1)=some (.cells [K64 s] 0 none):=by
    simp (disch:=first|omega|(simp only[new_n,put_n];omega)|(repeat first|rw[new_n]|rw[put_n])) only[get_new_same,get_new_old,get_put_old]
   have g2:((((((h.new (.cells [v] 0 none)).new (.cells [.int .u64 s] 0 none)).new (.cells [.int .i64 k] 0 none)).new (.cells [.int .i64 0] 0 none)).put (h.n+1+1+1) (.cells [.int .i64 0] 0 none)).new (.cells [K64 s] 0 none)).ext.get (h.n+2)=some (.cells [KI k] 0 none):=by
    simp (disch:=first|omega|(simp only[new_n,put_n];omega)|(repeat first|rw[new_n]|rw[put_n])) only[get_new_same,get_new_old,get_put_old]
   have g3:((((((h.new (.cells [v] 0 none)).new (.cells [.int .u64 s] 0 none)).new (.cells [.int .i64 k] 0 none)).new (.cells [.int .i64 0] 0 none)).put (h.n+1+1+1) (.cells [.int .i64 0] 0 none)).new (.cells [K64 s] 0 none)).ext.get (h.n+3)=some (.cells [KI 0] 0 none):=by
    simp (disch:=first|omega|(simp only[new_n,put_n];omega)|(repeat first|rw[new_n]|rw[put_n])) only[get_new_old,get_put_same]
   have g4:((((((h.new (.cells [v] 0 none)).new (.cells [.int .u64 s] 0 none)).new (.cells [.int .i64 k] 0 none)).new (.cells [.int .i64 0] 0 none)).put (h.n+1+1+1) (.cells [.int .i64 0] 0 none)).new (.cells [K64 s] 0 none)).ext.get (h.n+4)=some (.cells [K64 s] 0 none):=get_new_same _ _ rfl
   have gm0:((((((h.new (.cells [v] 0 none)).new (.cells [.int .u64 s] 0 none)).new (.cells [.int .i64 k] 0 none)).new (.cells [.int .i64 0] 0 none)).put (h.n+1+1+1) (.cells [.int .i64 0] 0 none)).new (.cells [K64 s] 0 none)).ext.get q.m=some (.map es):=(tE.get _ hlm).trans hm
   generalize (((((h.new (.cells [v] 0 none)).new (.cells [.int .u64 s] 0 none)).new (.cells [.int .i64 k] 0 none)).new (.cells [.int .i64 0] 0 none)).put (h.n+1+1+1) (.cells [.int .i64 0] 0 none)).new (.cells [K64 s] 0 none)=hT at *
   refine range1 rfl rfl ?_ ?_ ?_
   ·decide
   ·decide
   intro rec y hy
   rw[t0] at hy ⊢
   have haft:after F (c :: cs) s k=sumFrom (fun t=>if F (c ||| t)=true then after F cs (nclr s t) (k - 1) else 0) s s:=by rw[after,if_pos hkl2]
   refine WV.mono (subsets1_ok (h.n+4) s (by omega) (fun t hh=>t≤s∧Mem q.m h hh∧h.n+6≤hh.n∧hh.ext.get h.n=some (.cells [v] 0 none)∧hh.ext.get (h.n+1)=some (.cells [K64 s] 0 none)∧hh.ext.get (h.n+2)=some (.cells [KI k] 0 none)∧hh.ext.get (h.n+4)=some (.cells [K64 s] 0 none)∧hh.ext.get (h.n+5)=some (.loop rec)∧(∃es',hh.ext.get q.m=some (.map es')∧Memo F es') ∧
     ∃acc:Nat,hh.ext.get (h.n+3)=some (.cells [KI acc] 0 none)∧acc+sumFrom (fun t=>if F (c ||| t)=true then after F cs (nclr s t) (k - 1) else 0) s t=after F (c :: cs) s k)
    (fun hh=>Mem q.m h hh∧h.n+6≤hh.n∧hh.ext.get (h.n+5)=some (.loop rec)∧(∃es',hh.ext.get q.m=some (.map es')∧Memo F es')∧hh.ext.get (h.n+3)=some (.cells [KI (after F (c :: cs) s k)] 0 none)) ?_ ?_ ?_) ?_
   ·rintro t hh ⟨j1,j2,j3,j4,j5,j6,j7,j8,j9⟩
    rw[row_even];simp only[IH.cells,j7]
   ·refine⟨Nat.le_refl _,(tE.new _).mem _,by simp[t0],?_,?_,?_,?_,get_new_same _ _ t0.symm,⟨es,?_,hM⟩,0,?_,by rw[Nat.zero_add,haft]⟩
    ·rw[get_new_old _ _ (by omega)];exact g0
    ·rw[get_new_old _ _ (by omega)];exact g1
    ·rw[get_new_old _ _ (by omega)];exact g2
    ·rw[get_new_old _ _ (by omega)];exact g4
    ·rw[get_new_old _ _ (by omega)];exact gm0
    ·rw[get_new_old _ _ (by omega)];exact g3
   ·rintro t hh - ⟨j1,j2,j3,j4,j5,j6,j7,j8,⟨es',jm,jM⟩,acc,j9,j10⟩
    refine hy _ _ _ j8 ?_
    have gE:Mem q.m h (hh.put (h.n+5) (.loop (busyL rec))):=j2.put (by omega) _
    have gn:h.n+6≤(hh.put (h.n+5) (.loop (busyL rec))).n:=j3
    have b0:(hh.put (h.n+5) (.loop (busyL rec))).ext.get h.n=some (.cells [v] 0 none):=by rw[get_put_old _ _ (by omega)];exact j4
    have b1:(hh.put (h.n+5) (.loop (busyL rec))).ext.get (h.n+1)=some (.cells [K64 s] 0 none):=by rw[get_put_old _ _ (by omega)];exact j5
    have b2:(hh.put (h.n+5) (.loop (busyL rec))).ext.get (h.n+2)=some (.cells [KI k] 0 none):=by rw[get_put_old _ _ (by omega)];exact j6
    have b4:(hh.put (h.n+5) (.loop (busyL rec))).ext.get (h.n+4)=some (.cells [K64 s] 0 none):=by rw[get_put_old _ _ (by omega)];exact j7
    have b5:(hh.put (h.n+5) (.loop (busyL rec))).ext.get (h.n+5)=some (.loop (busyL rec)):=get_put_same _ _ rfl
    have gm:(hh.put (h.n+5) (.loop (busyL rec))).ext.get q.m=some (.map es'):=by rw[get_put_old _ _ (by omega)];exact jm
    have b3:(hh.put (h.n+5) (.loop (busyL rec))).ext.get (h.n+3)=some (.cells [KI acc] 0 none):=by rw[get_put_old _ _ (by omega)];exact j9
    generalize hh.put (h.n+5) (.loop (busyL rec))=H at *
    have fH:=hf.mem gE
    have hvH:=hv.keep (gE.keep hm)
    have hi0:=hvH.idx (P:=Proofs.Tryd.prog) es38 (k:=.i64) (j:=0) (by omega)
    have hld:=hvH.ld (Keep.refl _) (c:=0) (by simp[c64]) (P:=Proofs.Tryd.prog) (t:=47) ag47
    have hg0:(c64 (c :: cs))[0]?=some (K64 c):=rfl
    rw[hg0] at hld
    rw[Nat.zero_mul] at hi0
    have hi0':indexAddr Proofs.Tryd.prog 38 v (.int .i64 0)=some (elemAddr v 0):=hi0
    have hc:=hcs c (by simp)
    have rx:H.row (2*q.x)=some [ptr (2*q.p) 0]:=by rw[row_even];simp only[IH.cells,fH.gx]
    have rp:H.row (2*q.p)=some [KI n,.slice (some ⟨2*q.fb,0,none⟩) (2 ^ n) (2*2 ^ n+1),.func (.func 73) #[] #[ptr (2*q.d) 0,ptr (2*q.x) 0]]:=by rw[row_even];simp only[IH.cells,fH.gp]
    have rf:H.row (2*q.fb)=some (fitC n F):=by rw[row_even];simp only[IH.cells,fH.gf]
    have r0:H.row (2*h.n)=some [v]:=by rw[row_even];simp only[IH.cells,b0]
    have r1:H.row (2*(h.n+1))=some [K64 s]:=by rw[row_even];simp only[IH.cells,b1]
    have r2:H.row (2*(h.n+2))=some [KI k]:=by rw[row_even];simp only[IH.cells,b2]
    have r3:H.row (2*(h.n+3))=some [KI acc]:=by rw[row_even];simp only[IH.cells,b3]
    have hor:c ||| t<2 ^ n:=Nat.or_lt_two_pow hc (by omega)
    have gF:(fitC n F)[c ||| t]?=some (.bool (F (c ||| t))):=by simp[fitC,hor]
    have q0:0≤((2 ^ n:Nat):Int):=Int.natCast_nonneg _
    simp -dsimp (maxSteps:=1000000) (disch:=first|omega|(simp only[new_n,put_n];omega)|decide +kernel|(repeat first|rw[new_n]|rw[put_n])) only[wpS,Nat.reduceEqDiff,ld38,ld89,fa95_1,ld92,es92,ld4,rx,rp,rf,r0,hi0',hld,gF]
    have hfr:=sumFrom_eq (fun t=>if F (c ||| t)=true then after F cs (nclr s t) (k - 1) else 0) s t
    have fin : ∀(h6:IH) (acc':Nat),Mem q.m h h6→h.n+6≤h6.n→h6.ext.get h.n=some (.cells [v] 0 none)→h6.ext.get (h.n+1)=some (.cells [K64 s] 0 none)→h6.ext.get (h.n+2)=some (.cells [KI k] 0 none)→h6.ext.get (h.n+4)=some (.cells [K64 s] 0 none)→(∃es',h6.ext.get q.m=some (.map es')∧Memo F es')→h6.ext.get (h.n+3)=some (.cells [KI acc'] 0 none) →
      (acc'+if t=0 then 0 else sumFrom (fun t=>if F (c ||| t)=true then after F cs (nclr s t) (k - 1) else 0) s (t - 1 &&& s))=after F (c :: cs) s k →
      (fun(r_1:Value) (h':IH)=>r_1=.bool true∧(t=0→Mem q.m h h'∧h.n+6≤h'.n∧h'.ext.get (h.n+5)=some (.loop rec)∧(∃es',h'.ext.get q.m=some (.map es')∧Memo F es')∧h'.ext.get (h.n+3)=some (.cells [KI (after F (c :: cs) s k)] 0 none)) ∧
        (0<t→t - 1 &&& s≤s∧Mem q.m h h'∧h.n+6≤h'.n∧h'.ext.get h.n=some (.cells [v] 0 none)∧h'.ext.get (h.n+1)=some (.cells [K64 s] 0 none)∧h'.ext.get (h.n+2)=some (.cells [KI k] 0 none)∧h'.ext.get (h.n+4)=some (.cells [K64 s] 0 none)∧h'.ext.get (h.n+5)=some (.loop rec)∧(∃es',h'.ext.get q.m=some (.map es')∧Memo F es') ∧
         ∃acc:Nat,h'.ext.get (h.n+3)=some (.cells [KI acc] 0 none)∧acc+sumFrom (fun t=>if F (c ||| t)=true then after F cs (nclr s t) (k - 1) else 0) s (t - 1 &&& s)=after F (c :: cs) s k)) (.bool true) (h6.put (h.n+5) (.loop rec)):=by
     intro h6 acc' a1 a2 a3 a4 a5 a6 a7 a8 a9
     obtain⟨es2,a7,a10⟩:=a7
     have c1:Mem q.m h (h6.put (h.n+5) (.loop rec)):=a1.put (by omega) _
     have c3:(h6.put (h.n+5) (.loop rec)).ext.get h.n=some (.cells [v] 0 none):=by rw[get_put_old _ _ (by omega)];exact a3
     have c4:(h6.put (h.n+5) (.loop rec)).ext.get (h.n+1)=some (.cells [K64 s] 0 none):=by rw[get_put_old _ _ (by omega)];exact a4
     have c5:(h6.put (h.n+5) (.loop rec)).ext.get (h.n+2)=some (.cells [KI k] 0 none):=by rw[get_put_old _ _ (by omega)];exact a5
     have c6:(h6.put (h.n+5) (.loop rec)).ext.get (h.n+4)=some (.cells [K64 s] 0 none):=by rw[get_put_old _ _ (by omega)];exact a6
     have c7:(h6.put (h.n+5) (.loop rec)).ext.get q.m=some (.map es2):=by rw[get_put_old _ _ (by omega)];exact a7
     have c8:(h6.put (h.n+5) (.loop rec)).ext.get (h.n+3)=some (.cells [KI acc'] 0 none):=by rw[get_put_old _ _ (by omega)];exact a8
     have c9:(h6.put (h.n+5) (.loop rec)).ext.get (h.n+5)=some (.loop rec):=get_put_same _ _ rfl
     refine⟨rfl,fun ht=>⟨c1,a2,c9,⟨es2,c7,a10⟩,?_⟩,fun ht=>⟨Nat.and_le_right,c1,a2,c3,c4,c5,c6,c9,⟨es2,c7,a10⟩,acc',c8,?_⟩⟩
     ·rw[if_pos ht,Nat.add_zero] at a9;rw[←a9];exact c8
     ·rw[if_neg (by omega)] at a9;exact a9
    refine bq_intro ?_ ?_<;>intro hFt
    ·rw[if_pos hFt] at hfr
     have ek:(k:Int) - 1=((k - 1:Nat):Int):=by omega
     have hsub:nclr s t<2 ^ n:=nclr_lt hs
     have hb1:=after_small F cs hn (show k - 1≤8 by omega) hsub
     have hb2:=after_small F (c :: cs) hn hk hs
     obtain⟨v2,hsl,hv2⟩:=hvH.slice (Keep.refl H) (P:=Proofs.Tryd.prog) (t:=38) u38 sz47 (l:=1) (m:=cs.length+1) (by omega) (Nat.le_refl _) (lo:=some (.int .i64 1)) (hi:=none) (loOf_int (by omega) (by omega)) (fun c _=>hiOf_none _ _)
     have hv3:SlOf H 1 v2 cs.length (c64 cs):=by
      have e:((c64 (c :: cs)).drop (1*1)).take ((cs.length+1 - 1)*1)=c64 cs:=by
       rw[show cs.length+1 - 1=cs.length by omega,Nat.mul_one,Nat.mul_one]
       exact List.take_of_length_le (by simp[c64])
      rw[e] at hv2
      exact hv2
     refine drawn [(0,[14])] (by kernel_rfl) (by kernel_rfl) rfl ?_
     simp -dsimp (maxSteps:=1000000) (disch:=first|omega|(simp only[new_n,put_n];omega)|decide +kernel|(repeat first|rw[new_n]|rw[put_n])) only[wpS,Nat.reduceEqDiff,ld38,ld47,ld3,ld89,fa95_2,ld93,rx,rp,r0,r1,r2,r3,hsl,ek]
     refine call (ih (by omega) fH gm jM hsub (fun d hd=>hcs d (by simp[hd])) hv3 (by simp at hlen;omega)) ?_
     rintro _ h5 ⟨rfl,hE5,es'',hm5,hM5⟩
     have q3:h5.row (2*(h.n+3))=some [KI acc]:=by rw[hE5.row (.inr ⟨by omega,by omega⟩)];exact r3
     have ga5:h5.ext.get (h.n+3)=some (.cells [KI acc] 0 none):=by rw[hE5.get _ (by omega) (by omega)];exact b3
     simp -dsimp (maxSteps:=1000000) (disch:=first|omega|(simp only[new_n,put_n];omega)|decide +kernel|(repeat first|rw[new_n]|rw[put_n])) only[wpS,wpT,Nat.reduceEqDiff,Nat.reduceLeDiff,st3,ga5]
     refine⟨wpSteady_one rfl rfl rfl rfl (steady_load (av:=ptr (2*(h.n+3)) 0) (v:=KI acc) rfl ?_ ?_),?_⟩
     ·simp -dsimp (maxSteps:=1000000) (disch:=first|omega|(simp only[new_n,put_n];omega)|decide +kernel|(repeat first|rw[new_n]|rw[put_n])) only[wpS,ld3,r3]
     ·simp -dsimp (maxSteps:=1000000) (disch:=first|omega|(simp only[new_n,put_n];omega)|decide +kernel|(repeat first|rw[new_n]|rw[put_n])) only[wpS,ld3,q3]
     simp -dsimp (maxSteps:=1000000) (disch:=first|omega|(simp only[new_n,put_n];omega)|decide +kernel|(repeat first|rw[new_n]|rw[put_n])) only[wpS,wpT,Nat.reduceAdd]
     have h5n:=hE5.n
     refine⟨rfl,?_,fin _ (acc+after F cs (nclr s t) (k - 1)) ((gE.trans hE5).put (by omega) _) (by simp only[put_n];omega) ?_ ?_ ?_ ?_ ⟨es'',?_,hM5⟩ ?_ ?_⟩
     ·rw[get_put_old _ _ (by omega),hE5.get _ (by omega) (by omega)];exact b5
     ·rw[get_put_old _ _ (by omega),hE5.get _ (by omega) (by omega)];exact b0
     ·rw[get_put_old _ _ (by omega),hE5.get _ (by omega) (by omega)];exact b1
     ·rw[get_put_old _ _ (by omega),hE5.get _ (by omega) (by omega)];exact b2
     ·rw[get_put_old _ _ (by omega),hE5.get _ (by omega) (by omega)];exact b4
     ·rw[get_put_old _ _ (by omega)];exact hm5
     ·rw[get_put_same _ _ rfl,Int.natCast_add]
     ·omega
    ·rw[if_neg (by rw[hFt];simp)] at hfr
     simp -dsimp (maxSteps:=1000000) (disch:=first|omega|(simp only[new_n,put_n];omega)|decide +kernel|(repeat first|rw[new_n]|rw[put_n])) only[wpS]
     exact⟨rfl,b5,fin _ acc gE gn b0 b1 b2 b4 ⟨es',gm,jM⟩ b3 (by omega)⟩
   ·rintro _ hh ⟨j2,j4,j6,⟨es',j7,jM⟩,j8⟩
    refine⟨j6,?_⟩
    have dn:(hh.put (h.n+5) .dead).ext.get (h.n+3)=some (.cells [KI (after F (c :: cs) s k)] 0 none):=by rw[get_put_old _ _ (by omega)];exact j8
    have rn4:(hh.put (h.n+5) .dead).row (2*(h.n+3))=some [KI (after F (c :: cs) s k)]:=by rw[row_even];simp only[IH.cells,dn]
    simp -dsimp (maxSteps:=1000000) (disch:=first|omega|(simp only[new_n,put_n];omega)|decide +kernel|(repeat first|rw[new_n]|rw[put_n])) only[wpS,wpT,Nat.reduceEqDiff,ld3,rn4]
    exact⟨j2.put (by omega) _,es',j7,jM⟩
  ·simp only[decide_eq_false_iff_not] at hkl
   simp -dsimp (maxSteps:=1000000) (disch:=first|omega|(simp only[new_n,put_n];omega)|decide +kernel|(repeat first|rw[new_n]|rw[put_n])) only[wpS,wpT,Nat.reduceEqDiff,ld3]
   refine⟨?_,(((((((Ext.refl h).new _).new _).new _).new _).put (by omega) _).mem _),es,hm,hM⟩
   rw[after,if_neg (by omega)];rfl
end Go.Id
