/-
  Contracts: the program's wide integers as long ones, and back. Contracts: the program's long integers told; integers as long ones.
-/
import Derived.Test.YtjhnilfelokpcaaGreatOutlierWaysAt
import Derived.Test.YtjhnilfelokpcaaGreatOutlierWaysBc
set_option linter.unusedVariables false
set_option linter.unusedSimpArgs false
set_option linter.defProp false
set_option linter.deprecated false
namespace Go.Id
open Go
open Go.Proofs.Tryz (prog)
open Nat (reduceAdd reduceEqDiff reduceLeDiff reduceMul)
theorem sizeOrder_ok {h:IH} (a b:Nat) (ha:a<W8) (hb:b<W8):WV prog (.func (.func 209) #[] #[]) [wdV a,wdV b] h fun r h'=>Ext h h'∧r=KI (if a<b then -1 else if a=b then 0 else 1):=by
 refine enter (nt:=24) (rs:=[.tmp 4]) Proofs.Tryz.func209 rfl rfl rfl (by simp) ?_
 simp -dsimp (maxSteps:=1000000) (disch:=try exact dx) only[wpS,reduceEqDiff,reduceAdd,cells8]
 rw[wdC_wds a,wdC_wds b]
 have lA:=wds_len a
 have lB:=wds_len b
 have e2 : ∀o1 o2,Ext h ((h.new o1).new o2):=fun o1 o2=>((Ext.refl h).new _).new _
 have hA:B.valD (wds a)=a:=wds_val ha
 have hB:B.valD (wds b)=b:=wds_val hb
 refine loop (fun m fr h1=>h1=((h.new (.cells ((wds a).map K64) 0 none)).new (.cells ((wds b).map K64) 0 none))∧m≤8∧(∀j,m≤j→j<8→(wds a).getD j 0=(wds b).getD j 0) ∧
   fget fr 2=some (ptr (2*h.n) 0)∧fget fr 3=some (ptr (2*(h.n+1)) 0)∧fget fr 5=some (KI ((m:Int) - 1))) 8
  ⟨rfl,Nat.le_refl _,fun j h1 h2=>by omega,by simp,by simp,by simp⟩ ?_
 rintro m fr h1 ⟨rfl,hm,hz,f2,f3,f5⟩
 rcases Nat.eq_zero_or_pos m with rfl|hp
 ·simp -dsimp (maxSteps:=1000000) (disch:=try exact dx) only[wpS,wpT,reduceEqDiff,f5]
  refine⟨e2 _ _,?_⟩
  have:=B.eq_of_all (lA.trans lB.symm) (fun j hj=>hz j (Nat.zero_le _) (by omega))
  rw[hA,hB] at this
  rw[if_neg (by omega),if_pos this]
 ·obtain⟨k,rfl⟩ : ∃k,m=k+1:=⟨m - 1,by omega⟩
  have h2:(((k+1:Nat):Int) - 1)=(k:Int):=by omega
  rw[h2] at f5
  have ga:=get_some (show k<(wds a).length by omega)
  have gb:=get_some (show k<(wds b).length by omega)
  have da:=B.getD_lt (wds_dig a) k
  have db:=B.getD_lt (wds_dig b) k
  have key:((wds a).getD k 0<(wds b).getD k 0→a<b)∧((wds b).getD k 0<(wds a).getD k 0→b<a):=by
   have k1:=fun h=>B.lt_of_top (wds_dig a) (lA.trans lB.symm) (show k<(wds a).length by omega) h (fun j x y=>hz j (by omega) (by omega))
   have k2:=fun h=>B.lt_of_top (wds_dig b) (lB.trans lA.symm) (show k<(wds b).length by omega) h (fun j x y=>(hz j (by omega) (by omega)).symm)
   rw[hA,hB] at k1 k2
   exact⟨k1,k2⟩
  obtain⟨x,hx⟩ : ∃x,x=(wds a).getD k 0:=⟨_,rfl⟩
  obtain⟨y,hy⟩ : ∃x,x=(wds b).getD k 0:=⟨_,rfl⟩
  rw[←hx] at ga da key
  rw[←hy] at gb db key
  simp -dsimp (maxSteps:=1000000) (disch:=try exact dx) only[wpS,wpT,reduceEqDiff,ar199,ld42,f2,f3,f5,map_get,ga,gb]
  refine bq_intro ?_ ?_<;>intro hc<;>simp only[bne_iff_ne,bne_eq_false_iff_eq,ne_eq] at hc
  ·simp -dsimp (maxSteps:=1000000) (disch:=try exact dx) only[wpS,wpT,reduceEqDiff,ar199,ld42,f2,f3,f5,map_get,ga,gb]
   refine bq_intro ?_ ?_<;>intro hc2<;>simp only[decide_eq_true_eq,decide_eq_false_iff_not] at hc2
   ·simp -dsimp (maxSteps:=1000000) (disch:=try exact dx) only[wpS,wpT,reduceEqDiff]
    have:=key.1 (by omega)
    exact⟨e2 _ _,by rw[if_pos this]⟩
   ·simp -dsimp (maxSteps:=1000000) (disch:=try exact dx) only[wpS,wpT]
    have:=key.2 (by omega)
    exact⟨e2 _ _,by rw[if_neg (by omega),if_neg (by omega)]⟩
  ·simp -dsimp (maxSteps:=1000000) (disch:=try exact dx) only[wpS,wpT,reduceEqDiff,f5]
   refine⟨k,by omega,rfl,by omega,fun j h1 h2=>?_,by simp[f2],by simp[f3],by simp⟩
   by_cases hj:j=k
   ·subst hj;omega
   ·exact hz j (by omega) h2
def numV (b:Bool) (n:Nat):Value:=.agg (Value.bool b :: wdC n).toArray
theorem num_cells (b:Bool) (n:Nat):(numV b n).cells.toList=.bool b :: wdC n:=rfl
theorem wd_spl (n:Nat):IH.splice [ZW,ZW,ZW,ZW,ZW,ZW,ZW,ZW] 0 (wdC n)=wdC n:=splice_all (by rw[wdC_len];rfl)
theorem wd_spl2 (m n:Nat):IH.splice (wdC m) 0 (wdC n)=wdC n:=splice_all (by rw[wdC_len,wdC_len])
theorem num_take (b:Value) (n:Nat):List.take 8 (List.drop 1 (b :: wdC n))=wdC n:=by
 rw[List.drop_succ_cons,List.drop_zero,List.take_of_length_le (by rw[wdC_len];omega)]
theorem num_take9 (b:Value) (n:Nat):List.take 9 (List.drop 0 (b :: wdC n))=b :: wdC n:=by
 rw[List.drop_zero,List.take_of_length_le (by simp[wdC_len])]
theorem wd_tz:List.take 8 (List.drop 0 [ZW,ZW,ZW,ZW,ZW,ZW,ZW,ZW]) = [ZW,ZW,ZW,ZW,ZW,ZW,ZW,ZW]:=rfl
theorem wd_zero:Value.agg #[ZW,ZW,ZW,ZW,ZW,ZW,ZW,ZW]=wdV 0:=by rw[wdV,wdC_zero]
theorem read_ok {h:IH} (n:Nat) (hn:n<W8):WV prog (.func (.func 141) #[] #[]) [wdV n] h fun r h'=>Ext h h'∧r=numV (decide (wdI n<0)) (wdI n).natAbs:=by
 have h7:=wrd7 hn
 have l7:=wrd_lt n 7
 have hs:nshr (wrd n 7) 63=wrd n 7 / 9223372036854775808:=Nat.shiftRight_eq_div_pow _ _
 have hbit:((((wrd n 7 / 9223372036854775808:Nat):Int)) == 1)=decide (wdI n<0):=by
  have h2:=H8_two
  by_cases hlt:n<H8
  ·have e1:wrd n 7 / 9223372036854775808=0:=by have:=h7.2 hlt;omega
   rw[e1,wdI,if_pos hlt];simp
  ·have e1:wrd n 7 / 9223372036854775808=1:=by
    have : ¬wrd n 7<9223372036854775808:=fun h=>hlt (h7.1 h)
    omega
   rw[e1,wdI,if_neg hlt];simp;omega
 refine enter (nt:=21) (rs:=[.cell 2 201]) Proofs.Tryz.func141 rfl rfl rfl (by simp) ?_
 simp -dsimp (maxSteps:=1000000) (disch:=try exact dx) only[wpS,wpT,reduceEqDiff,reduceLeDiff,reduceAdd,Int.reduceToNat,zc201,ar44,ld42,ld44,bv201,pl201_0,pl201_1,st201,fa201_0,ld4,cells8,wdC_len,wdC_all,wd_take,ar44,wdC_get n 7 (by omega),show idxAt 7 8=some 7 from rfl,hs,hbit,wd_spl]
 refine bq_intro ?_ ?_<;>intro hc<;>simp only[decide_eq_true_eq,decide_eq_false_iff_not] at hc
 ·have h2:=H8_two
  have hge:H8≤n:=by
   unfold wdI at hc
   split at hc<;>omega
  have hw:wdI n = -((W8 - n:Nat):Int):=by
   unfold wdI
   rw[if_neg (by omega)]
   omega
  simp -dsimp (maxSteps:=1000000) (disch:=try exact dx) only[wpS,wpT,reduceEqDiff,reduceLeDiff,reduceAdd,bv199,fa201_1,ld199,num_take,wdC_len]
  rw[wd_zero]
  refine call (sizeMinus_ok 0 n (by omega) hn) ?_
  rintro _ h1 ⟨hE,m,bor,rfl,hm,hb,hrel⟩
  have hp:=H8_pos
  have hb1:bor=1:=by
   rcases Nat.eq_zero_or_pos bor with h0|h0
   ·subst h0;omega
   ·omega
  subst hb1
  have hmm:(wdI n).natAbs=m:=by omega
  rw[hmm]
  have n1:=(hE).n;try simp only[new_n,put_n] at n1
  have g2:h1.ext.get (h.n+1+1)=some (.cells (.bool true :: wdC n) 0 none):=by rw[hE.get _ (by simp)];simp (disch:=try exact dx) only[get_put_same]
  have g1:h1.ext.get (h.n+1)=some (.cells [.bool false,ZW,ZW,ZW,ZW,ZW,ZW,ZW,ZW] 0 none):=by rw[hE.get _ (by simp)];simp (disch:=try exact dx) only[get_new_same,get_new_old,get_put_old]
  simp -dsimp (maxSteps:=1000000) (disch:=try exact dx) only[wpS,wpT,reduceEqDiff,reduceLeDiff,reduceAdd,st201,fa201_1,st199,ld201,g2,cells8,wdC_len,wdC_all,wd_spl2,num_take9,g1,wd_spl]
  refine⟨?_,by simp[numV]⟩
  exact(((((Ext.refl h).new _).new _).new _).put (by omega) _).trans hE |>.put (by omega) _ |>.put (by omega) _
 ·have hlt:n<H8:=by
   apply Classical.byContradiction;intro hne
   apply hc
   unfold wdI
   rw[if_neg hne];omega
  have hw:(wdI n).natAbs=n:=by unfold wdI;rw[if_pos hlt];omega
  simp -dsimp (maxSteps:=1000000) (disch:=try exact dx) only[wpS,wpT,reduceEqDiff,reduceLeDiff,reduceAdd,st201,ld201,wdC_len,wdC_all,num_take9,wd_spl]
  rw[hw]
  exact⟨((((Ext.refl h).new _).new _).new _).put (by omega) _ |>.put (by omega) _,by simp[numV]⟩
theorem longer_ok {h:IH} (n:Nat) (hn:n<W8):WV prog (.func (.func 66) #[] #[]) [wdV n] h fun r h'=>Ext h h'∧PLong h' r (wdI n):=by
 have h2:=H8_two
 have hab:(wdI n).natAbs<W8:=by unfold wdI;split<;>omega
 refine enter (nt:=13) (rs:=[.cell 2 123]) Proofs.Tryz.func66 rfl rfl rfl (by simp) ?_
 simp -dsimp (maxSteps:=1000000) (disch:=try exact dx) only[wpS,reduceEqDiff,reduceLeDiff,zc123,ld44,cells8,wdC_len,wd_take]
 refine call (read_ok n hn) ?_
 rintro _ h1 ⟨hE,rfl⟩
 have n1:=(hE).n;try simp only[new_n] at n1
 simp -dsimp (maxSteps:=1000000) (disch:=try exact dx) only[wpS,wpT,reduceEqDiff,reduceLeDiff,reduceAdd,zc201,st201,num_cells,wdC_len,wdC_all,wd_spl]
 obtain⟨H2,hH2⟩ : ∃H2,H2=(h1.new (.cells [.bool false,ZW,ZW,ZW,ZW,ZW,ZW,ZW,ZW] 0 none)).put h1.n (.cells (.bool (decide (wdI n<0)) :: wdC (wdI n).natAbs) 0 none):=⟨_,rfl⟩
 have n2:H2.n=h1.n+1:=by rw[hH2];rfl
 have g3:H2.ext.get h1.n=some (.cells (.bool (decide (wdI n<0)) :: wdC (wdI n).natAbs) 0 none):=by rw[hH2];simp (disch:=try exact dx) only[get_put_same]
 have g1:H2.ext.get (h.n+1)=some (.cells ZL 0 none):=by rw[hH2];simp (disch:=try exact dx) only[get_new_old,get_put_old];rw[hE.get _ (by simp)];simp (disch:=try exact dx) only[get_new_same]
 have E2:Ext h H2:=by rw[hH2];exact(((((Ext.refl h).new _).new _).trans hE).new _).put (by omega) _
 rw[←hH2]
 have r3:=row_kn g3
 have r4:(H2.new (.cells [] 1 none)).row (2*h1.n)=some (.bool (decide (wdI n<0)) :: wdC (wdI n).natAbs):=row_kn (by simp (disch:=try exact dx) only[get_new_old];exact g3)
 have hnow:SlNow (H2.new (.cells [] 1 none)) 1 (.slice (some ⟨2*h1.n,1,none⟩) 8 (2*8+1)) 8 (wdC (wdI n).natAbs):=arr_now r4 (by omega) (by rw[wdC_len]) (num_take _ _) (by simp[wdC_len])
 have hap:=append_zero ap121 (H2.new (.cells [] 1 none)) hnow (by omega) (wdC_all _) (by omega) (2*H2.n) 0
 refine drawn [(1,[5,6])] (by kernel_rfl) (by kernel_rfl) rfl ?_
 simp -dsimp (maxSteps:=1000000) (disch:=try exact dx) only[wpS,wpT,reduceEqDiff,reduceAdd,reduceMul,fa201_0,ld4,bs121,fa201_1,ba121_121,r3,slice_arr (P:=prog) u199 sz42 (by omega),hap]
 have hW:WrdU ((H2.new (.cells [] 1 none)).new (.cells (wdC (wdI n).natAbs) 1 none)) (.slice (some ⟨2*(H2.n+1),0,none⟩) 8 16) (wds (wdI n).natAbs):=by
  refine⟨?_,wds_dig _,by rw[wds_len];omega⟩
  rw[←wdC_wds,wds_len]
  exact(acc_new (h:=H2.new (.cells [] 1 none)) (sz:=1) (m:=8) (by omega) (by rw[wdC_len]) (by omega)).sl
 refine call (trimmed_ok hW _) ?_
 rintro _ h3 ⟨hE3,hr⟩
 rw[wds_val hab] at hr
 have hz:(if decide (wdI n<0)=true then -((wdI n).natAbs:Int) else (wdI n).natAbs)=wdI n:=by
  by_cases h0:wdI n<0<;>simp[h0]<;>omega
 rw[hz] at hr
 obtain⟨s1,n3,rfl,c3,o3,l3,z3⟩:=hr.form
 have m3:=(hE3).n;try simp only[new_n] at m3
 have hg:h3.ext.get (h.n+1)=some (.cells ZL 0 none):=by rw[hE3.get _ (by simp only[new_n];omega)];simp (disch:=try exact dx) only[get_new_old];exact g1
 have r5:((H2.new (.cells [] 1 none)).new (.cells (wdC (wdI n).natAbs) 1 none)).row (2*h1.n)=some (.bool (decide (wdI n<0)) :: wdC (wdI n).natAbs):=row_kn (by simp (disch:=try exact dx) only[get_new_old];exact g3)
 have r6:h3.row (2*h1.n)=some (.bool (decide (wdI n<0)) :: wdC (wdI n).natAbs):=row_kn (by rw[hE3.get _ (by simp only[new_n];omega)];simp (disch:=try exact dx) only[get_new_old];exact g3)
 simp -dsimp (maxSteps:=1000000) (disch:=try exact dx) only[wpS,wpT,reduceEqDiff,reduceLeDiff,reduceAdd,st123,hg,o3]
 refine⟨wpSteady_two (wpSteady_one rfl rfl rfl rfl (steady_load (av:=ptr (2*h1.n) 0) (v:=.bool (decide (wdI n<0))) rfl ?_ ?_)) (wpSteady_one rfl rfl rfl rfl (steady_load (av:=ptr (2*h1.n) 0) (v:=.bool (decide (wdI n<0))) rfl ?_ ?_)),?_⟩
 ·simp -dsimp (maxSteps:=1000000) (disch:=try exact dx) only[wpS,ld4,r3]
 ·simp -dsimp (maxSteps:=1000000) (disch:=try exact dx) only[wpS,ld4,r4]
 ·simp -dsimp (maxSteps:=1000000) (disch:=try exact dx) only[wpS,ld4,r3]
 ·simp -dsimp (maxSteps:=1000000) (disch:=try exact dx) only[wpS,ld4,r5]
 simp -dsimp (maxSteps:=1000000) (disch:=try exact dx) only[wpS,wpT,reduceEqDiff,reduceLeDiff,reduceAdd,ld123]
 exact⟨(((E2.new _).new _).trans hE3).put (by omega) _,hr.keep ((Keep.refl _).put hg _)⟩
theorem h8_cells : [ZW,ZW,ZW,ZW,ZW,ZW,ZW,.int .u64 9223372036854775808]=wdC H8:=by
 have h2:B.valD [0,0,0,0,0,0,0,9223372036854775808]=H8:=by unfold H8;simp[B.valD,B.valT]
 have h3:=wds_of (ds:=[0,0,0,0,0,0,0,9223372036854775808]) rfl (by intro d hd;simp at hd;omega)
 rw[h2] at h3
 rw[wdC_wds,h3];rfl
theorem numTold_ok {h:IH} (b:Bool) (n:Nat) (hn:n<W8):WV prog (.func (.func 144) #[] #[]) [numV b n] h fun r h'=>Ext h h'∧r=if H8<n∨(n=H8∧b=false) then .tuple #[wdV 0,KI 6] else .tuple #[wdV (if b=true then (W8 - n) % W8 else n),KI 0]:=by
 have h2:=H8_two
 have hp:=H8_pos
 refine enter (nt:=35) (rs:=[.cell 2 44,.tmp 3]) Proofs.Tryz.func144 rfl rfl rfl (by simp) ?_
 simp -dsimp (maxSteps:=1000000) (disch:=try exact dx) only[wpS,wpT,reduceEqDiff,reduceLeDiff,reduceAdd,zc44,bv199,pl199_7,zc199,st199,fa201_1,ld199,num_cells,wdC_len,num_take]
 rw[h8_cells]
 simp -dsimp (maxSteps:=1000000) (disch:=try exact dx) only[wd_take]
 refine call (sizeOrder_ok n H8 hn (by omega)) ?_
 rintro _ h1 ⟨hE,rfl⟩
 have n1:=(hE).n;try simp only[new_n,put_n] at n1
 have g0:h1.ext.get h.n=some (.cells (.bool b :: wdC n) 0 none):=by rw[hE.get _ (by simp<;>omega)];simp (disch:=try exact dx) only[get_new_same,get_new_old,get_put_old]
 have g1:h1.ext.get (h.n+1)=some (.cells [ZW,ZW,ZW,ZW,ZW,ZW,ZW,ZW] 0 none):=by rw[hE.get _ (by simp)];simp (disch:=try exact dx) only[get_new_same,get_new_old,get_put_old]
 have hE1:=((((Ext.refl h).new _).new _).new _).put (by omega) _ |>.trans hE
 have r0:=row_kn g0
 have r1:=row_kn g1
 rcases Nat.lt_trichotomy n H8 with hlt|heq|hgt
 ·rw[if_pos hlt,if_neg (by omega)]
  cases b
  ·simp -dsimp (maxSteps:=1000000) (disch:=try exact dx) only[wpS,wpT,reduceEqDiff,reduceLeDiff,reduceAdd,fa201_1,ld199,fa201_0,ld4,st44,ld44,r0,g1,wdC_len,wdC_all,num_take,wd_spl,wd_take]
   exact⟨hE1.put (by omega) _,by simp;rfl⟩
  ·simp -dsimp (maxSteps:=1000000) (disch:=try exact dx) only[wpS,wpT,reduceEqDiff,reduceLeDiff,reduceAdd,bv199,fa201_1,ld199,fa201_0,ld4,r0,wdC_len,num_take]
   rw[wd_zero]
   refine call (sizeMinus_ok 0 n (by omega) hn) ?_
   rintro _ h3 ⟨hE3,m,bor,rfl,hm,hb,hrel⟩
   have hmm:(W8 - n) % W8=m:=by
    rcases Nat.eq_zero_or_pos bor with h0|h0
    ·subst h0
     have h5:n=0:=by omega
     rw[h5,Nat.sub_zero,Nat.mod_self];omega
    ·have h5:bor=1:=by omega
     subst h5
     by_cases h6:n=0
     ·exfalso;omega
     ·rw[Nat.mod_eq_of_lt (by omega)];omega
   have n3:=(hE3).n;try simp only[new_n,put_n] at n3
   have k0:=(hE3.get _ (by omega)).trans g0
   have k1:=(hE3.get _ (by omega)).trans g1
   simp -dsimp (maxSteps:=1000000) (disch:=try exact dx) only[wpS,wpT,reduceEqDiff,reduceLeDiff,reduceAdd,st199,fa201_1,ld199,st44,ld44,k0,k1,cells8,wdC_len,wdC_all,num_take,wd_spl2,wd_spl,wd_take]
   refine⟨((hE1.trans hE3).put (by omega) _).put (by omega) _,?_⟩
   rw[hmm]
   simp
   try rfl
 ·subst heq
  rw[if_neg (by omega),if_pos rfl]
  cases b
  ·simp -dsimp (maxSteps:=1000000) (disch:=try exact dx) only[wpS,wpT,reduceEqDiff,reduceLeDiff,reduceAdd,fa201_0,ld4,bv44,st44,ld44,r0,g1,wd_tz]
   refine⟨hE1.put (by omega) _,?_⟩
   simp[wd_zero]
  ·simp -dsimp (maxSteps:=1000000) (disch:=try exact dx) only[wpS,wpT,reduceEqDiff,reduceLeDiff,reduceAdd,bv199,fa201_1,ld199,fa201_0,ld4,r0,wdC_len,num_take]
   rw[wd_zero]
   refine call (sizeMinus_ok 0 H8 (by omega) hn) ?_
   rintro _ h3 ⟨hE3,m,bor,rfl,hm,hb,hrel⟩
   have hmm:(W8 - H8) % W8=m:=by
    rcases Nat.eq_zero_or_pos bor with h0|h0
    ·subst h0
     have h5:H8=0:=by omega
     rw[h5,Nat.sub_zero,Nat.mod_self];omega
    ·have h5:bor=1:=by omega
     subst h5
     by_cases h6:H8=0
     ·exfalso;omega
     ·rw[Nat.mod_eq_of_lt (by omega)];omega
   have n3:=(hE3).n;try simp only[new_n,put_n] at n3
   have k0:=(hE3.get _ (by omega)).trans g0
   have k1:=(hE3.get _ (by omega)).trans g1
   simp -dsimp (maxSteps:=1000000) (disch:=try exact dx) only[wpS,wpT,reduceEqDiff,reduceLeDiff,reduceAdd,st199,fa201_1,ld199,st44,ld44,k0,k1,cells8,wdC_len,wdC_all,num_take,wd_spl2,wd_spl,wd_take]
   refine⟨((hE1.trans hE3).put (by omega) _).put (by omega) _,?_⟩
   rw[hmm]
   simp
   try rfl
 ·rw[if_neg (by omega),if_neg (by omega)]
  simp -dsimp (maxSteps:=1000000) (disch:=try exact dx) only[wpS,wpT,reduceEqDiff,reduceLeDiff,reduceAdd,bv44,st44,ld44,g1,wd_tz]
  refine⟨hE1.put (by omega) _,?_⟩
  rw[wd_zero,if_pos (.inl hgt)]
end Go.Id

namespace Go.Id
open Go
open Go.Proofs.Tryz (prog)
open Nat (reduceAdd reduceEqDiff reduceLeDiff reduceMul)
set_option maxHeartbeats 16000000
theorem copy_zero {P:Program} {t e:TypeId} {sz:Nat} (hu:P.underlying t=some (.slice e)) (hS:sizeT P e=some sz) (h:IH) (b o n c:Nat) {s:Value} {ss:List Value} (hs:SlNow h sz s 0 ss) (ts:Array TypeId) (ht:ts[0]?=some t) :
  builtin P h .copy ts [.slice (some ⟨b,o,none⟩) n c,s]=some (.int .i64 0,h):=by
 have hf:firstOf h sz 0 s=some []:=by
  obtain⟨hz,hl,⟨rfl,_⟩|⟨b,o,k,rfl,s⟩⟩:=hs
  ·rfl
  ·simp[firstOf];rfl
 obtain⟨a',k,rfl⟩:=hs.form
 simp only[builtin,ht,copyOp,hu,lenOf,hS,show Nat.min 0 n=0 from Nat.zero_min _,hf]
 rfl
theorem pad_wd {ds:List Nat} (hl:ds.length≤8) (hd:B.Digs ds):IH.splice [ZW,ZW,ZW,ZW,ZW,ZW,ZW,ZW] 0 (ds.map K64)=wdC (B.valD ds):=by
 have hv : ∀k,B.valD (ds ++ List.replicate k 0)=B.valD ds:=by
  intro k
  rw[show B.valD ds=B.valT (ds ++ List.replicate k 0) ds.length from B.valT_congr fun j hj=>by
   rw[List.getD_eq_getElem?_getD,List.getD_eq_getElem?_getD,List.getElem?_append_left hj]]
  rw[B.valD]
  have:(ds ++ List.replicate k 0).length=ds.length+k:=by simp
  rw[this]
  apply B.valT_split
  intro j h1 h2
  rw[List.getD_eq_getElem?_getD,List.getElem?_append_right h1]
  rw[←List.getD_eq_getElem?_getD];exact B.getD_repl _ _
 have hD:B.Digs (ds ++ List.replicate (8 - ds.length) 0):=fun d h=>by
  rcases List.mem_append.1 h with h|h
  ·exact hd d h
  ·simp at h;omega
 have h8:(ds ++ List.replicate (8 - ds.length) 0).length=8:=by simp;omega
 have:=wds_of h8 hD
 rw[hv] at this
 rw[wdC_wds,this,List.map_append,List.map_replicate]
 have hz : [ZW,ZW,ZW,ZW,ZW,ZW,ZW,ZW]=List.replicate 8 ZW:=rfl
 rw[hz,IH.splice,List.take_zero,List.nil_append,List.length_map,List.drop_replicate,Nat.zero_add]
 rfl
theorem len_gt8 {ds:List Nat} (n:B.Norm ds) (h:8<ds.length):W8≤B.valD ds:=by
 have h1:=n.ge (by intro h0;rw[h0] at h;simp at h)
 rw[W8_pw]
 exact Nat.le_trans (Nat.pow_le_pow_right (by omega) (by omega)) h1
theorem ptold_ok {h:IH} {v:Value} {z:Int} (hv:PLong h v z):WV prog (.func (.func 68) #[] #[]) [v] h fun r h'=>Ext h h'∧r=if InW z then .tuple #[wideV z,KI 0] else .tuple #[wdV 0,KI 6]:=by
 obtain⟨s,rfl,ds,hD,hN,hx⟩:=hv
 have hb:=hD.2.2
 have h2:=H8_two
 have hp:=H8_pos
 refine enter (nt:=22) (rs:=[.cell 2 44,.tmp 3]) Proofs.Tryz.func68 rfl rfl rfl (by simp) ?_
 simp -dsimp (maxSteps:=1000000) (disch:=try exact dx) only[wpS,reduceEqDiff,zc44,fa123_1,ld121,hD.1.len sl121]
 refine bq_intro ?_ ?_<;>intro hc<;>simp only[decide_eq_true_eq,decide_eq_false_iff_not] at hc
 ·have hgt:=len_gt8 hN (by omega)
  have hin : ¬InW z:=by rintro⟨h3,h4⟩;omega
  rw[if_neg hin]
  simp -dsimp (maxSteps:=1000000) (disch:=try exact dx) only[wpS,wpT,reduceEqDiff,reduceLeDiff,reduceAdd,bv44,st44,ld44,wd_tz]
  exact⟨(((Ext.refl h).new _).new _).put (by omega) _,by rw[wd_zero]⟩
 ·have hl:ds.length≤8:=by omega
  have hlt:B.valD ds<W8:=by
   have:=B.valD_lt hD.2.1
   rw[W8_pw]
   exact Nat.lt_of_lt_of_le this (Nat.pow_le_pow_right (by omega) hl)
  simp -dsimp (maxSteps:=1000000) (disch:=try exact dx) only[wpS,wpT,reduceEqDiff,reduceLeDiff,reduceAdd,fa123_0,ld4,bv201,pl201_0,zc201,st201,fa201_1]
  obtain⟨H2,hH2⟩ : ∃H2,H2=((((h.new (.cells [.bool (decide (z<0)),s] 0 none)).new (.cells [ZW,ZW,ZW,ZW,ZW,ZW,ZW,ZW] 0 none)).new (.cells [.bool false,ZW,ZW,ZW,ZW,ZW,ZW,ZW,ZW] 0 none)).put (h.n+1+1) (.cells [.bool (decide (z<0)),ZW,ZW,ZW,ZW,ZW,ZW,ZW,ZW] 0 none)):=⟨_,rfl⟩
  have n2:H2.n=h.n+3:=by rw[hH2];rfl
  have g0:H2.ext.get h.n=some (.cells [.bool (decide (z<0)),s] 0 none):=by rw[hH2];simp (disch:=try exact dx) only[get_new_same,get_new_old,get_put_old]
  have g1:H2.ext.get (h.n+1)=some (.cells [ZW,ZW,ZW,ZW,ZW,ZW,ZW,ZW] 0 none):=by rw[hH2];simp (disch:=try exact dx) only[get_new_same,get_new_old,get_put_old]
  have g2:H2.ext.get (h.n+1+1)=some (.cells [.bool (decide (z<0)),ZW,ZW,ZW,ZW,ZW,ZW,ZW,ZW] 0 none):=by rw[hH2];simp (disch:=try exact dx) only[get_put_same]
  have E2:Ext h H2:=by rw[hH2];exact((((Ext.refl h).new _).new _).new _).put (by omega) _
  rw[←hH2]
  have r0:=row_kn g0
  have sa:=slice_arr (P:=prog) u199 sz42 (by omega)
  have hs2:=(hD.keep E2.keep).1.now
  have hcp : ∃H3,builtin prog H2 .copy #[121,121] [.slice (some ⟨2*(h.n+1+1),1,none⟩) 8 17,s]=some (.int .i64 (ds.length:Int),H3)∧Ext h H3∧H3.n=h.n+3∧H3.ext.get (h.n+1)=some (.cells [ZW,ZW,ZW,ZW,ZW,ZW,ZW,ZW] 0 none)∧H3.ext.get (h.n+1+1)=some (.cells (.bool (decide (z<0)) :: wdC z.natAbs) 0 none):=by
   rcases Nat.eq_zero_or_pos ds.length with h0|h0
   ·have hd0:ds = []:=List.length_eq_zero_iff.1 h0
    subst hd0
    have hz0:z.natAbs=0:=by rw[←hx];rfl
    refine⟨H2,copy_zero u121 sz42 H2 _ _ _ _ hs2 _ rfl,E2,n2,g1,?_⟩
    rw[hz0,wdC_zero];exact g2
   ·have hm:min ds.length 8=ds.length:=by omega
    have:=copy_eq (P:=prog) u121 sz42 g2 (o:=1) (dn:=8) (c:=17) hs2 (k64_all _) (by omega) (by simp;omega) #[121,121] rfl
    rw[hm,Nat.mul_one,List.take_of_length_le (by simp),splice_succ,pad_wd hl hD.2.1,hx] at this
    exact⟨_,this,E2.put (by omega) _,n2,by simp (disch:=try exact dx) only[get_put_old];exact g1,get_put_same _ _ rfl⟩
  obtain⟨H3,hcp,E3,n3,g3,g4⟩:=hcp
  have r4:=row_kn g4
  simp -dsimp (maxSteps:=1000000) (disch:=try exact dx) only[wpS,wpT,reduceEqDiff,reduceLeDiff,reduceAdd,reduceMul,fa123_1,ld121,ld201,r0,sa,hcp,r4,num_take9,wdC_len]
  refine call (numTold_ok (decide (z<0)) z.natAbs (by omega)) ?_
  rintro _ h4 ⟨hE4,rfl⟩
  have g5:=(hE4.get _ (by omega)).trans g3
  by_cases hin:InW z
  ·have e1 : ¬(H8<z.natAbs∨z.natAbs=H8∧decide (z<0)=false):=by
    obtain⟨i1,i2⟩:=hin
    rintro(h5|⟨h5,h6⟩)
    ·omega
    ·have : ¬z<0:=by simpa using h6
     omega
   have e2:(if decide (z<0)=true then (W8 - z.natAbs) % W8 else z.natAbs)=wideN z:=by
    obtain⟨i1,i2⟩:=hin
    unfold wideN
    by_cases h6:z<0
    ·rw[if_pos (by simpa using h6),if_neg (by omega),Nat.mod_eq_of_lt (by omega)]
    ·rw[if_neg (by simpa using h6),if_pos (by omega)];omega
   rw[if_neg e1,if_pos hin,e2]
   simp -dsimp (maxSteps:=1000000) (disch:=try exact dx) only[wpS,wpT,reduceEqDiff,reduceLeDiff,reduceAdd,st44,ld44,g5,cells8,wdC_len,wdC_all,wd_spl,wd_take]
   exact⟨(E3.trans hE4).put (by omega) _,rfl⟩
  ·have e1:H8<z.natAbs∨z.natAbs=H8∧decide (z<0)=false:=by
    unfold InW at hin
    by_cases h6:z<0
    ·left;omega
    ·by_cases h7:z.natAbs=H8
     ·right;exact⟨h7,by simpa using h6⟩
     ·left;omega
   rw[if_pos e1,if_neg hin]
   simp -dsimp (maxSteps:=1000000) (disch:=try exact dx) only[wpS,wpT,reduceEqDiff,reduceLeDiff,reduceAdd,st44,ld44,g5,cells8,wdC_len,wdC_all,wd_spl,wd_take]
   exact⟨(E3.trans hE4).put (by omega) _,rfl⟩
theorem pfrom_ok {h:IH} (n:Int) (hn:In64 n):WV prog (.func (.func 64) #[] #[]) [KI n] h fun r h'=>Ext h h'∧PLong h' r n:=by
 have hw:InW n:=by
  have:=H8_big
  constructor
  ·have:=hn.1;omega
  ·have:=hn.2;omega
 refine enter (nt:=6) (rs:=[.cell 2 123]) Proofs.Tryz.func64 rfl rfl rfl (by simp) ?_
 simp -dsimp (maxSteps:=1000000) (disch:=try exact dx) only[wpS,reduceEqDiff,zc123]
 refine call (wideOf_ok n hn) ?_
 rintro _ h1 ⟨hE,rfl⟩
 simp -dsimp (maxSteps:=1000000) (disch:=try exact dx) only[wpS,reduceEqDiff]
 refine call (longer_ok _ (wideN_lt hw)) ?_
 rintro _ h2 ⟨hE2,hr⟩
 rw[wdI_wideN hw] at hr
 obtain⟨s1,n3,rfl,c3,o3,l3,z3⟩:=hr.form
 have m1:=(hE).n;try simp only[new_n] at m1
 have m2:=(hE2).n;try simp only[new_n,put_n] at m2
 have hg:h2.ext.get h.n=some (.cells ZL 0 none):=by rw[hE2.get _ (by omega),hE.get _ (by simp)];simp (disch:=try exact dx) only[get_new_same]
 simp -dsimp (maxSteps:=1000000) (disch:=try exact dx) only[wpS,wpT,reduceEqDiff,reduceLeDiff,reduceAdd,st123,ld123,hg,o3]
 exact⟨((((Ext.refl h).new _).trans hE).trans hE2).put (by omega) _,hr.keep ((Keep.refl _).put hg _)⟩
end Go.Id
