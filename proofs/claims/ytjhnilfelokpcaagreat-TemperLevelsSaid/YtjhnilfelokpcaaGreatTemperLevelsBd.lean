/-
  Contracts: the program's wide integers as long ones, and back. Contracts: the program's long integers told; integers as long ones.
-/
import Derived.Test.YtjhnilfelokpcaaGreatTemperLevelsAt
import Derived.Test.YtjhnilfelokpcaaGreatTemperLevelsBc
set_option linter.unusedVariables false
set_option linter.unusedSimpArgs false
set_option linter.defProp false
set_option linter.deprecated false
namespace Go.Id
open Go
open Go.Proofs.Tryz (prog)
open Nat (reduceMul)
open Nat renaming reduceAdd→zA,reduceEqDiff→zE,reduceLeDiff→zL
theorem sizeOrder_ok {h:IH} (a b:Nat) (ha:a<W8) (hb:b<W8):WV prog (.func (.func 209) #[] #[]) [wdV a,wdV b] h fun r h'=>Ext h h'∧r=KI (if a<b then -1 else if a=b then 0 else 1):=by
 refine enter (nt:=24) (rs:=[.tmp 4]) Proofs.Tryz.func209 rfl rfl rfl (by simp) ?_
 simp -dsimp (disch:=try exact dx) only[wpS,zE,zA,cells8]
 rw[wdC_wds a,wdC_wds b]
 have lA:=wds_len a
 have lB:=wds_len b
 have e2 : ∀o1 o2,Ext h ((h.new o1).new o2):=fun o1 o2=>((Ext.refl h).new _).new _
 have hA:B.valD (wds a)=a:=wds_val ha
 have hB:B.valD (wds b)=b:=wds_val hb
 refine loop (fun m fr h1=>h1=((h.new (.cells ((wds a).map K64) 0 none)).new (.cells ((wds b).map K64) 0 none))∧m≤8∧(∀j,m≤j→j<8→(wds a).getD j 0=(wds b).getD j 0) ∧
   fget fr 2=some (ptr (2*h.n) 0)∧fget fr 3=some (ptr (2*(h.n+1)) 0)∧fget fr 5=some (KI ((m:Int) - 1))) 8
  ⟨rfl,Nat.le_refl _,fun j h1 h2=>by omega,by simp,by simp,by simp⟩ ?_
 rintro m fr h1 ⟨rfl,hm,hz,f2,f3,f5⟩
 rcases Nat.eq_zero_or_pos m with rfl|hp
 ·simp -dsimp (disch:=try exact dx) only[wpS,wpT,zE,f5]
  refine⟨e2 _ _,?_⟩
  have:=B.eq_of_all (lA.trans lB.symm) (fun j hj=>hz j (Nat.zero_le _) (by omega))
  rw[hA,hB] at this
  rw[if_neg (by omega),if_pos this]
 ·obtain⟨k,rfl⟩ : ∃k,m=k+1:=⟨m - 1,by omega⟩
  have h2:(((k+1:Nat):Int) - 1)=(k:Int):=by omega
  rw[h2] at f5
  have ga:=get_some (show k<(wds a).length by omega)
  have gb:=get_some (show k<(wds b).length by omega)
  have da:=B.getD_lt (wds_dig a) k
  have db:=B.getD_lt (wds_dig b) k
  have key:((wds a).getD k 0<(wds b).getD k 0→a<b)∧((wds b).getD k 0<(wds a).getD k 0→b<a):=by
   have k1:=fun h=>B.lt_of_top (wds_dig a) (lA.trans lB.symm) (show k<(wds a).length by omega) h (fun j x y=>hz j (by omega) (by omega))
   have k2:=fun h=>B.lt_of_top (wds_dig b) (lB.trans lA.symm) (show k<(wds b).length by omega) h (fun j x y=>(hz j (by omega) (by omega)).symm)
   rw[hA,hB] at k1 k2
   exact⟨k1,k2⟩
  obtain⟨x,hx⟩ : ∃x,x=(wds a).getD k 0:=⟨_,rfl⟩
  obtain⟨y,hy⟩ : ∃x,x=(wds b).getD k 0:=⟨_,rfl⟩
  rw[←hx] at ga da key
  rw[←hy] at gb db key
  simp -dsimp (disch:=try exact dx) only[wpS,wpT,zE,ar199,ld42,f2,f3,f5,map_get,ga,gb]
  refine bq_intro ?_ ?_<;>intro hc<;>simp only[bne_iff_ne,bne_eq_false_iff_eq,ne_eq] at hc
  ·simp -dsimp (disch:=try exact dx) only[wpS,wpT,zE,ar199,ld42,f2,f3,f5,map_get,ga,gb]
   refine bq_intro ?_ ?_<;>intro hc2<;>simp only[decide_eq_true_eq,decide_eq_false_iff_not] at hc2
   ·simp -dsimp (disch:=try exact dx) only[wpS,wpT,zE]
    have:=key.1 (by omega)
    exact⟨e2 _ _,by rw[if_pos this]⟩
   ·simp -dsimp (disch:=try exact dx) only[wpS,wpT]
    have:=key.2 (by omega)
    exact⟨e2 _ _,by rw[if_neg (by omega),if_neg (by omega)]⟩
  ·simp -dsimp (disch:=try exact dx) only[wpS,wpT,zE,f5]
   refine⟨k,by omega,rfl,by omega,fun j h1 h2=>?_,by simp[f2],by simp[f3],by simp⟩
   by_cases hj:j=k
   ·subst hj;omega
   ·exact hz j (by omega) h2
def numV (b:Bool) (n:Nat):Value:=.agg (Value.bool b :: wdC n).toArray
theorem num_cells (b:Bool) (n:Nat):(numV b n).cells.toList=.bool b :: wdC n:=rfl
theorem wd_spl (n:Nat):IH.splice [ZW,ZW,ZW,ZW,ZW,ZW,ZW,ZW] 0 (wdC n)=wdC n:=splice_all (by rw[wdC_len];rfl)
theorem wd_spl2 (m n:Nat):IH.splice (wdC m) 0 (wdC n)=wdC n:=splice_all (by rw[wdC_len,wdC_len])
theorem num_take (b:Value) (n:Nat):List.take 8 (List.drop 1 (b :: wdC n))=wdC n:=by
 rw[List.drop_succ_cons,List.drop_zero,List.take_of_length_le (by rw[wdC_len];omega)]
theorem num_take9 (b:Value) (n:Nat):List.take 9 (List.drop 0 (b :: wdC n))=b :: wdC n:=by
 rw[List.drop_zero,List.take_of_length_le (by simp[wdC_len])]
theorem wd_tz:List.take 8 (List.drop 0 [ZW,ZW,ZW,ZW,ZW,ZW,ZW,ZW]) = [ZW,ZW,ZW,ZW,ZW,ZW,ZW,ZW]:=rfl
theorem wd_zero:Value.agg #[ZW,ZW,ZW,ZW,ZW,ZW,ZW,ZW]=wdV 0:=by rw[wdV,wdC_zero]
theorem read_ok {h:IH} (n:Nat) (hn:n<W8):WV prog (.func (.func 141) #[] #[]) [wdV n] h fun r h'=>Ext h h'∧r=numV (decide (wdI n<0)) (wdI n).natAbs:=by
 have h7:=wrd7 hn
 have l7:=wrd_lt n 7
 have hs:nshr (wrd n 7) 63=wrd n 7 / 9223372036854775808:=Nat.shiftRight_eq_div_pow _ _
 have hbit:((((wrd n 7 / 9223372036854775808:Nat):Int)) == 1)=decide (wdI n<0):=by
  have h2:=H8_two
  by_cases hlt:n<H8
  ·have e1:wrd n 7 / 9223372036854775808=0:=by have:=h7.2 hlt;omega
   rw[e1,wdI,if_pos hlt];simp
  ·have e1:wrd n 7 / 9223372036854775808=1:=by
    have : ¬wrd n 7<9223372036854775808:=fun h=>hlt (h7.1 h)
    omega
   rw[e1,wdI,if_neg hlt];simp;omega
 refine enter (nt:=21) (rs:=[.cell 2 201]) Proofs.Tryz.func141 rfl rfl rfl (by simp) ?_
 simp -dsimp (disch:=try exact dx) only[wpS,wpT,zE,zL,zA,Int.reduceToNat,zc201,ar44,ld42,ld44,bv201,pl201_0,pl201_1,st201,fa201_0,ld4,cells8,wdC_len,wdC_all,wd_take,ar44,wdC_get n 7 (by omega),show idxAt 7 8=some 7 from rfl,hs,hbit,wd_spl]
 refine bq_intro ?_ ?_<;>intro hc<;>simp only[decide_eq_true_eq,decide_eq_false_iff_not] at hc
 ·have h2:=H8_two
  have hge:H8≤n:=by
   unfold wdI at hc
   split at hc<;>omega
  have hw:wdI n = -((W8 - n:Nat):Int):=by
   unfold wdI
   rw[if_neg (by omega)]
   omega
  simp -dsimp (disch:=try exact dx) only[wpS,wpT,zE,zL,zA,bv199,fa201_1,ld199,num_take,wdC_len]
  rw[wd_zero]
  refine call (sizeMinus_ok 0 n (by omega) hn) ?_
  rintro _ h1 ⟨hE,m,bor,rfl,hm,hb,hrel⟩
  have hp:=H8_pos
  have hb1:bor=1:=by
   rcases Nat.eq_zero_or_pos bor with h0|h0
   ·subst h0;omega
   ·omega
  subst hb1
  have hmm:(wdI n).natAbs=m:=by omega
  rw[hmm]
  have n1:=(hE).n;try simp only[new_n,put_n] at n1
  have g2:h1.ext.get (h.n+1+1)=some (.cells (.bool true :: wdC n) 0 none):=by rw[hE.get _ (by simp)];simp (disch:=try exact dx) only[get_put_same]
  have g1:h1.ext.get (h.n+1)=some (.cells [.bool false,ZW,ZW,ZW,ZW,ZW,ZW,ZW,ZW] 0 none):=by rw[hE.get _ (by simp)];simp (disch:=try exact dx) only[get_new_same,get_new_old,get_put_old]
  simp -dsimp (disch:=try exact dx) only[wpS,wpT,zE,zL,zA,st201,fa201_1,st199,ld201,g2,cells8,wdC_len,wdC_all,wd_spl2,num_take9,g1,wd_spl]
  refine⟨?_,by simp[numV]⟩
  exact(((((Ext.refl h).new _).new _).new _).put (by omega) _).trans hE |>.put (by omega) _ |>.put (by omega) _
 ·have hlt:n<H8:=by
   apply Classical.byContradiction;intro hne
   apply hc
   unfold wdI
   rw[if_neg hne];omega
  have hw:(wdI n).natAbs=n:=by unfold wdI;rw[if_pos hlt];omega
  simp -dsimp (disch:=try exact dx) only[wpS,wpT,zE,zL,zA,st201,ld201,wdC_len,wdC_all,num_take9,wd_spl]
  rw[hw]
  exact⟨((((Ext.refl h).new _).new _).new _).put (by omega) _ |>.put (by omega) _,by simp[numV]⟩
theorem longer_ok {h:IH} (n:Nat) (hn:n<W8):WV prog (.func (.func 66) #[] #[]) [wdV n] h fun r h'=>Ext h h'∧PLong h' r (wdI n):=by
 have h2:=H8_two
 have hab:(wdI n).natAbs<W8:=by unfold wdI;split<;>omega
 refine enter (nt:=13) (rs:=[.cell 2 123]) Proofs.Tryz.func66 rfl rfl rfl (by simp) ?_
 simp -dsimp (disch:=try exact dx) only[wpS,zE,zL,zc123,ld44,cells8,wdC_len,wd_take]
 refine call (read_ok n hn) ?_
 rintro _ h1 ⟨hE,rfl⟩
 have n1:=(hE).n;try simp only[new_n] at n1
 simp -dsimp (disch:=try exact dx) only[wpS,wpT,zE,zL,zA,zc201,st201,num_cells,wdC_len,wdC_all,wd_spl]
 obtain⟨H2,hH2⟩ : ∃H2,H2=(h1.new (.cells [.bool false,ZW,ZW,ZW,ZW,ZW,ZW,ZW,ZW] 0 none)).put h1.n (.cells (.bool (decide (wdI n<0)) :: wdC (wdI n).natAbs) 0 none):=⟨_,rfl⟩
 have n2:H2.n=h1.n+1:=by rw[hH2];rfl
 have g3:H2.ext.get h1.n=some (.cells (.bool (decide (wdI n<0)) :: wdC (wdI n).natAbs) 0 none):=by rw[hH2];simp (disch:=try exact dx) only[get_put_same]
 have g1:H2.ext.get (h.n+1)=some (.cells ZL 0 none):=by rw[hH2];simp (disch:=try exact dx) only[get_new_old,get_put_old];rw[hE.get _ (by simp)];simp (disch:=try exact dx) only[get_new_same]
 have E2:Ext h H2:=by rw[hH2];exact(((((Ext.refl h).new _).new _).trans hE).new _).put (by omega) _
 rw[←hH2]
 have r3:=row_kn g3
 have r4:(H2.new (.cells [] 1 none)).row (2*h1.n)=some (.bool (decide (wdI n<0)) :: wdC (wdI n).natAbs):=row_kn (by simp (disch:=try exact dx) only[get_new_old];exact g3)
 have hnow:SlNow (H2.new (.cells [] 1 none)) 1 (.slice (some ⟨2*h1.n,1,none⟩) 8 (2*8+1)) 8 (wdC (wdI n).natAbs):=arr_now r4 (by omega) (by rw[wdC_len]) (num_take _ _) (by simp[wdC_len])
 have hap:=append_zero ap121 (H2.new (.cells [] 1 none)) hnow (by omega) (wdC_all _) (by omega) (2*H2.n) 0
 refine drawn [(1,[5,6])] (by kernel_rfl) (by kernel_rfl) rfl ?_
 simp -dsimp (disch:=try exact dx) only[wpS,wpT,zE,zA,reduceMul,fa201_0,ld4,bs121,fa201_1,ba121_121,r3,slice_arr (P:=prog) u199 sz42 (by omega),hap]
 have hW:WrdU ((H2.new (.cells [] 1 none)).new (.cells (wdC (wdI n).natAbs) 1 none)) (.slice (some ⟨2*(H2.n+1),0,none⟩) 8 16) (wds (wdI n).natAbs):=by
  refine⟨?_,wds_dig _,by rw[wds_len];omega⟩
  rw[←wdC_wds,wds_len]
  exact(acc_new (h:=H2.new (.cells [] 1 none)) (sz:=1) (m:=8) (by omega) (by rw[wdC_len]) (by omega)).sl
 refine call (trimmed_ok hW _) ?_
 rintro _ h3 ⟨hE3,hr⟩
 rw[wds_val hab] at hr
 have hz:(if decide (wdI n<0)=true then -((wdI n).natAbs:Int) else (wdI n).natAbs)=wdI n:=by
  by_cases h0:wdI n<0<;>simp[h0]<;>omega
 rw[hz] at hr
 obtain⟨s1,n3,rfl,c3,o3,l3,z3⟩:=hr.form
 have m3:=(hE3).n;try simp only[new_n] at m3
 have hg:h3.ext.get (h.n+1)=some (.cells ZL 0 none):=by rw[hE3.get _ (by simp only[new_n];omega)];simp (disch:=try exact dx) only[get_new_old];exact g1
 have r5:((H2.new (.cells [] 1 none)).new (.cells (wdC (wdI n).natAbs) 1 none)).row (2*h1.n)=some (.bool (decide (wdI n<0)) :: wdC (wdI n).natAbs):=row_kn (by simp (disch:=try exact dx) only[get_new_old];exact g3)
 have r6:h3.row (2*h1.n)=some (.bool (decide (wdI n<0)) :: wdC (wdI n).natAbs):=row_kn (by rw[hE3.get _ (by simp only[new_n];omega)];simp (disch:=try exact dx) only[get_new_old];exact g3)
 simp -dsimp (disch:=try exact dx) only[wpS,wpT,zE,zL,zA,st123,hg,o3]
 refine⟨wpSteady_two (wpSteady_one rfl rfl rfl rfl (steady_load (av:=ptr (2*h1.n) 0) (v:=.bool (decide (wdI n<0))) rfl ?_ ?_)) (wpSteady_one rfl rfl rfl rfl (steady_load (av:=ptr (2*h1.n) 0) (v:=.bool (decide (wdI n<0))) rfl ?_ ?_)),?_⟩
 ·simp -dsimp (disch:=try exact dx) only[wpS,ld4,r3]
 ·simp -dsimp (disch:=try exact dx) only[wpS,ld4,r4]
 ·simp -dsimp (disch:=try exact dx) only[wpS,ld4,r3]
 ·simp -dsimp (disch:=try exact dx) only[wpS,ld4,r5]
 simp -dsimp (disch:=try exact dx) only[wpS,wpT,zE,zL,zA,ld123]
 exact⟨(((E2.new _).new _).trans hE3).put (by omega) _,hr.keep ((Keep.refl _).put hg _)⟩
theorem h8_cells : [ZW,ZW,ZW,ZW,ZW,ZW,ZW,.int .u64 9223372036854775808]=wdC H8:=by
 have h2:B.valD [0,0,0,0,0,0,0,9223372036854775808]=H8:=by unfold H8;simp[B.valD,B.valT]
 have h3:=wds_of (ds:=[0,0,0,0,0,0,0,9223372036854775808]) rfl (by intro d hd;simp at hd;omega)
 rw[h2] at h3
 rw[wdC_wds,h3];rfl
theorem numTold_ok {h:IH} (b:Bool) (n:Nat) (hn:n<W8):WV prog (.func (.func 144) #[] #[]) [numV b n] h fun r h'=>Ext h h'∧r=if H8<n∨(n=H8∧b=false) then .tuple #[wdV 0,KI 6] else .tuple #[wdV (if b=true then (W8 - n) % W8 else n),KI 0]:=by
 have h2:=H8_two
 have hp:=H8_pos
 refine enter (nt:=35) (rs:=[.cell 2 44,.tmp 3]) Proofs.Tryz.func144 rfl rfl rfl (by simp) ?_
 simp -dsimp (disch:=try exact dx) only[wpS,wpT,zE,zL,zA,zc44,bv199,pl199_7,zc199,st199,fa201_1,ld199,num_cells,wdC_len,num_take]
 rw[h8_cells]
 simp -dsimp (disch:=try exact dx) only[wd_take]
 refine call (sizeOrder_ok n H8 hn (by omega)) ?_
 rintro _ h1 ⟨hE,rfl⟩
 have n1:=(hE).n;try simp only[new_n,put_n] at n1
 have g0:h1.ext.get h.n=some (.cells (.bool b :: wdC n) 0 none):=by rw[hE.get _ (by simp<;>omega)];simp (disch:=try exact dx) only[get_new_same,get_new_old,get_put_old]
 have g1:h1.ext.get (h.n+1)=some (.cells [ZW,ZW,ZW,ZW,ZW,ZW,ZW,ZW] 0 none):=by rw[hE.get _ (by simp)];simp (disch:=try exact dx) only[get_new_same,get_new_old,get_put_old]
 have hE1:=((((Ext.refl h).new _).new _).new _).put (by omega) _ |>.trans hE
 have r0:=row_kn g0
 have r1:=row_kn g1
 rcases Nat.lt_trichotomy n H8 with hlt|heq|hgt
 ·rw[if_pos hlt,if_neg (by omega)]
  cases b
  ·simp -dsimp (disch:=try exact dx) only[wpS,wpT,zE,zL,zA,fa201_1,ld199,fa201_0,ld4,st44,ld44,r0,g1,wdC_len,wdC_all,num_take,wd_spl,wd_take]
   exact⟨hE1.put (by omega) _,by simp;rfl⟩
  ·simp -dsimp (disch:=try exact dx) only[wpS,wpT,zE,zL,zA,bv199,fa201_1,ld199,fa201_0,ld4,r0,wdC_len,num_take]
   rw[wd_zero]
   refine call (sizeMinus_ok 0 n (by omega) hn) ?_
   rintro _ h3 ⟨hE3,m,bor,rfl,hm,hb,hrel⟩
   have hmm:(W8 - n) % W8=m:=by
    rcases Nat.eq_zero_or_pos bor with h0|h0
    ·subst h0
     have h5:n=0:=by omega
     rw[h5,Nat.sub_zero,Nat.mod_self];omega
    ·have h5:bor=1:=by omega
     subst h5
     by_cases h6:n=0
     ·exfalso;omega
     ·rw[Nat.mod_eq_of_lt (by omega)];omega
   have n3:=(hE3).n;try simp only[new_n,put_n] at n3
   have k0:=(hE3.get _ (by omega)).trans g0
   have k1:=(hE3.get _ (by omega)).trans g1
   simp -dsimp (disch:=try exact dx) only[wpS,wpT,zE,zL,zA,st199,fa201_1,ld199,st44,ld44,k0,k1,cells8,wdC_len,wdC_all,num_take,wd_spl2,wd_spl,wd_take]
   refine⟨((hE1.trans hE3).put (by omega) _).put (by omega) _,?_⟩
   rw[hmm]
   simp
   try rfl
 ·subst heq
  rw[if_neg (by omega),if_pos rfl]
  cases b
  ·simp -dsimp (disch:=try exact dx) only[wpS,wpT,zE,zL,zA,fa201_0,ld4,bv44,st44,ld44,r0,g1,wd_tz]
   refine⟨hE1.put (by omega) _,?_⟩
   simp[wd_zero]
  ·simp -dsimp (disch:=try exact dx) only[wpS,wpT,zE,zL,zA,bv199,fa201_1,ld199,fa201_0,ld4,r0,wdC_len,num_take]
   rw[wd_zero]
   refine call (sizeMinus_ok 0 H8 (by omega) hn) ?_
   rintro _ h3 ⟨hE3,m,bor,rfl,hm,hb,hrel⟩
   have hmm:(W8 - H8) % W8=m:=by
    rcases Nat.eq_zero_or_pos bor with h0|h0
    ·subst h0
     have h5:H8=0:=by omega
     rw[h5,Nat.sub_zero,Nat.mod_self];omega
    ·have h5:bor=1:=by omega
     subst h5
     by_cases h6:H8=0
     ·exfalso;omega
     ·rw[Nat.mod_eq_of_lt (by omega)];omega
   have n3:=(hE3).n;try simp only[new_n,put_n] at n3
   have k0:=(hE3.get _ (by omega)).trans g0
   have k1:=(hE3.get _ (by omega)).trans g1
   simp -dsimp (disch:=try exact dx) only[wpS,wpT,zE,zL,zA,st199,fa201_1,ld199,st44,ld44,k0,k1,cells8,wdC_len,wdC_all,num_take,wd_spl2,wd_spl,wd_take]
   refine⟨((hE1.trans hE3).put (by omega) _).put (by omega) _,?_⟩
   rw[hmm]
   simp
   try rfl
 ·rw[if_neg (by omega),if_neg (by omega)]
  simp -dsimp (disch:=try exact dx) only[wpS,wpT,zE,zL,zA,bv44,st44,ld44,g1,wd_tz]
  refine⟨hE1.put (by omega) _,?_⟩
  rw[wd_zero,if_pos (.inl hgt)]
end Go.Id

namespace Go.Id
open Go
open Go.Proofs.Tryz (prog)
open Nat (reduceMul)
open Nat renaming reduceAdd→zA,reduceEqDiff→zE,reduceLeDiff→zL
set_option maxHeartbeats 16000000
theorem copy_zero {P:Program} {t e:TypeId} {sz:Nat} (hu:P.underlying t=some (.slice e)) (hS:sizeT P e=some sz) (h:IH) (b o n c:Nat) {s:Value} {ss:List Value} (hs:SlNow h sz s 0 ss) (ts:Array TypeId) (ht:ts[0]?=some t) :
  builtin P h .copy ts [.slice (some ⟨b,o,none⟩) n c,s]=some (.int .i64 0,h):=by
 have hf:firstOf h sz 0 s=some []:=by
  obtain⟨hz,hl,⟨rfl,_⟩|⟨b,o,k,rfl,s⟩⟩:=hs
  ·rfl
  ·simp[firstOf];rfl
 obtain⟨a',k,rfl⟩:=hs.form
 simp only[builtin,ht,copyOp,hu,lenOf,hS,show Nat.min 0 n=0 from Nat.zero_min _,hf]
 rfl
theorem pad_wd {ds:List Nat} (hl:ds.length≤8) (hd:B.Digs ds):IH.splice [ZW,ZW,ZW,ZW,ZW,ZW,ZW,ZW] 0 (ds.map K64)=wdC (B.valD ds):=by
 have hv : ∀k,B.valD (ds ++ List.replicate k 0)=B.valD ds:=by
  intro k
  rw[show B.valD ds=B.valT (ds ++ List.replicate k 0) ds.length from B.valT_congr fun j hj=>by
   rw[List.getD_eq_getElem?_getD,List.getD_eq_getElem?_getD,List.getElem?_append_left hj]]
  rw[B.valD]
  have:(ds ++ List.replicate k 0).length=ds.length+k:=by simp
  rw[this]
  apply B.valT_split
  intro j h1 h2
  rw[List.getD_eq_getElem?_getD,List.getElem?_append_right h1]
  rw[←List.getD_eq_getElem?_getD];exact B.getD_repl _ _
 have hD:B.Digs (ds ++ List.replicate (8 - ds.length) 0):=fun d h=>by
  rcases List.mem_append.1 h with h|h
  ·exact hd d h
  ·simp at h;omega
 have h8:(ds ++ List.replicate (8 - ds.length) 0).length=8:=by simp;omega
 have:=wds_of h8 hD
 rw[hv] at this
 rw[wdC_wds,this,List.map_append,List.map_replicate]
 have hz : [ZW,ZW,ZW,ZW,ZW,ZW,ZW,ZW]=List.replicate 8 ZW:=rfl
 rw[hz,IH.splice,List.take_zero,List.nil_append,List.length_map,List.drop_replicate,Nat.zero_add]
 rfl
theorem len_gt8 {ds:List Nat} (n:B.Norm ds) (h:8<ds.length):W8≤B.valD ds:=by
 have h1:=n.ge (by intro h0;rw[h0] at h;simp at h)
 rw[W8_pw]
 exact Nat.le_trans (Nat.pow_le_pow_right (by omega) (by omega)) h1
theorem ptold_ok {h:IH} {v:Value} {z:Int} (hv:PLong h v z):WV prog (.func (.func 68) #[] #[]) [v] h fun r h'=>Ext h h'∧r=if InW z then .tuple #[wideV z,KI 0] else .tuple #[wdV 0,KI 6]:=by
 obtain⟨s,rfl,ds,hD,hN,hx⟩:=hv
 have hb:=hD.2.2
 have h2:=H8_two
 have hp:=H8_pos
 refine enter (nt:=22) (rs:=[.cell 2 44,.tmp 3]) Proofs.Tryz.func68 rfl rfl rfl (by simp) ?_
 simp -dsimp (disch:=try exact dx) only[wpS,zE,zc44,fa123_1,ld121,hD.1.len sl121]
 refine bq_intro ?_ ?_<;>intro hc<;>simp only[decide_eq_true_eq,decide_eq_false_iff_not] at hc
 ·have hgt:=len_gt8 hN (by omega)
  have hin : ¬InW z:=by rintro⟨h3,h4⟩;omega
  rw[if_neg hin]
  simp -dsimp (disch:=try exact dx) only[wpS,wpT,zE,zL,zA,bv44,st44,ld44,wd_tz]
  exact⟨(((Ext.refl h).new _).new _).put (by omega) _,by rw[wd_zero]⟩
 ·have hl:ds.length≤8:=by omega
  have hlt:B.valD ds<W8:=by
   have:=B.valD_lt hD.2.1
   rw[W8_pw]
   exact Nat.lt_of_lt_of_le this (Nat.pow_le_pow_right (by omega) hl)
  simp -dsimp (disch:=try exact dx) only[wpS,wpT,zE,zL,zA,fa123_0,ld4,bv201,pl201_0,zc201,st201,fa201_1]
  obtain⟨H2,hH2⟩ : ∃H2,H2=((((h.new (.cells [.bool (decide (z<0)),s] 0 none)).new (.cells [ZW,ZW,ZW,ZW,ZW,ZW,ZW,ZW] 0 none)).new (.cells [.bool false,ZW,ZW,ZW,ZW,ZW,ZW,ZW,ZW] 0 none)).put (h.n+1+1) (.cells [.bool (decide (z<0)),ZW,ZW,ZW,ZW,ZW,ZW,ZW,ZW] 0 none)):=⟨_,rfl⟩
  have n2:H2.n=h.n+3:=by rw[hH2];rfl
  have g0:H2.ext.get h.n=some (.cells [.bool (decide (z<0)),s] 0 none):=by rw[hH2];simp (disch:=try exact dx) only[get_new_same,get_new_old,get_put_old]
  have g1:H2.ext.get (h.n+1)=some (.cells [ZW,ZW,ZW,ZW,ZW,ZW,ZW,ZW] 0 none):=by rw[hH2];simp (disch:=try exact dx) only[get_new_same,get_new_old,get_put_old]
  have g2:H2.ext.get (h.n+1+1)=some (.cells [.bool (decide (z<0)),ZW,ZW,ZW,ZW,ZW,ZW,ZW,ZW] 0 none):=by rw[hH2];simp (disch:=try exact dx) only[get_put_same]
  have E2:Ext h H2:=by rw[hH2];exact((((Ext.refl h).new _).new _).new _).put (by omega) _
  rw[←hH2]
  have r0:=row_kn g0
  have sa:=slice_arr (P:=prog) u199 sz42 (by omega)
  have hs2:=(hD.keep E2.keep).1.now
  have hcp : ∃H3,builtin prog H2 .copy #[121,121] [.slice (some ⟨2*(h.n+1+1),1,none⟩) 8 17,s]=some (.int .i64 (ds.length:Int),H3)∧Ext h H3∧H3.n=h.n+3∧H3.ext.get (h.n+1)=some (.cells [ZW,ZW,ZW,ZW,ZW,ZW,ZW,ZW] 0 none)∧H3.ext.get (h.n+1+1)=some (.cells (.bool (decide (z<0)) :: wdC z.natAbs) 0 none):=by
   rcases Nat.eq_zero_or_pos ds.length with h0|h0
   ·have hd0:ds = []:=List.length_eq_zero_iff.1 h0
    subst hd0
    have hz0:z.natAbs=0:=by rw[←hx];rfl
    refine⟨H2,copy_zero u121 sz42 H2 _ _ _ _ hs2 _ rfl,E2,n2,g1,?_⟩
    rw[hz0,wdC_zero];exact g2
   ·have hm:min ds.length 8=ds.length:=by omega
    have:=copy_eq (P:=prog) u121 sz42 g2 (o:=1) (dn:=8) (c:=17) hs2 (k64_all _) (by omega) (by simp;omega) #[121,121] rfl
    rw[hm,Nat.mul_one,List.take_of_length_le (by simp),splice_succ,pad_wd hl hD.2.1,hx] at this
    exact⟨_,this,E2.put (by omega) _,n2,by simp (disch:=try exact dx) only[get_put_old];exact g1,get_put_same _ _ rfl⟩
  obtain⟨H3,hcp,E3,n3,g3,g4⟩:=hcp
  have r4:=row_kn g4
  simp -dsimp (disch:=try exact dx) only[wpS,wpT,zE,zL,zA,reduceMul,fa123_1,ld121,ld201,r0,sa,hcp,r4,num_take9,wdC_len]
  refine call (numTold_ok (decide (z<0)) z.natAbs (by omega)) ?_
  rintro _ h4 ⟨hE4,rfl⟩
  have g5:=(hE4.get _ (by omega)).trans g3
  by_cases hin:InW z
  ·have e1 : ¬(H8<z.natAbs∨z.natAbs=H8∧decide (z<0)=false):=by
    obtain⟨i1,i2⟩:=hin
    rintro(h5|⟨h5,h6⟩)
    ·omega
    ·have : ¬z<0:=by simpa using h6
     omega
   have e2:(if decide (z<0)=true then (W8 - z.natAbs) % W8 else z.natAbs)=wideN z:=by
    obtain⟨i1,i2⟩:=hin
    unfold wideN
    by_cases h6:z<0
    ·rw[if_pos (by simpa using h6),if_neg (by omega),Nat.mod_eq_of_lt (by omega)]
    ·rw[if_neg (by simpa using h6),if_pos (by omega)];omega
   rw[if_neg e1,if_pos hin,e2]
   simp -dsimp (disch:=try exact dx) only[wpS,wpT,zE,zL,zA,st44,ld44,g5,cells8,wdC_len,wdC_all,wd_spl,wd_take]
   exact⟨(E3.trans hE4).put (by omega) _,rfl⟩
  ·have e1:H8<z.natAbs∨z.natAbs=H8∧decide (z<0)=false:=by
    unfold InW at hin
    by_cases h6:z<0
    ·left;omega
    ·by_cases h7:z.natAbs=H8
     ·right;exact⟨h7,by simpa using h6⟩
     ·left;omega
   rw[if_pos e1,if_neg hin]
   simp -dsimp (disch:=try exact dx) only[wpS,wpT,zE,zL,zA,st44,ld44,g5,cells8,wdC_len,wdC_all,wd_spl,wd_take]
   exact⟨(E3.trans hE4).put (by omega) _,rfl⟩
theorem pfrom_ok {h:IH} (n:Int) (hn:In64 n):WV prog (.func (.func 64) #[] #[]) [KI n] h fun r h'=>Ext h h'∧PLong h' r n:=by
 have hw:InW n:=by
  have:=H8_big
  constructor
  ·have:=hn.1;omega
  ·have:=hn.2;omega
 refine enter (nt:=6) (rs:=[.cell 2 123]) Proofs.Tryz.func64 rfl rfl rfl (by simp) ?_
 simp -dsimp (disch:=try exact dx) only[wpS,zE,zc123]
 refine call (wideOf_ok n hn) ?_
 rintro _ h1 ⟨hE,rfl⟩
 simp -dsimp (disch:=try exact dx) only[wpS,zE]
 refine call (longer_ok _ (wideN_lt hw)) ?_
 rintro _ h2 ⟨hE2,hr⟩
 rw[wdI_wideN hw] at hr
 obtain⟨s1,n3,rfl,c3,o3,l3,z3⟩:=hr.form
 have m1:=(hE).n;try simp only[new_n] at m1
 have m2:=(hE2).n;try simp only[new_n,put_n] at m2
 have hg:h2.ext.get h.n=some (.cells ZL 0 none):=by rw[hE2.get _ (by omega),hE.get _ (by simp)];simp (disch:=try exact dx) only[get_new_same]
 simp -dsimp (disch:=try exact dx) only[wpS,wpT,zE,zL,zA,st123,ld123,hg,o3]
 exact⟨((((Ext.refl h).new _).trans hE).trans hE2).put (by omega) _,hr.keep ((Keep.refl _).put hg _)⟩
end Go.Id

namespace Go.Id
open Go
open Go.Proofs.Tryz (prog)
open Nat renaming reduceAdd→zA,reduceEqDiff→zE,reduceLeDiff→zL
set_option maxHeartbeats 16000000
theorem pcommon_ok {h:IH} {v w:Value} {x y:Int} (hv:PLong h v x) (hw:PLong h w y) (sx:SmallI x) (sy:SmallI y) :
  WV prog (.func (.func 199) #[] #[]) [v,w] h fun r h'=>Ext h h'∧PLong h' r (Int.gcd x y):=by
 obtain⟨s,rfl,hS⟩:=hv
 obtain⟨t,rfl,hT⟩:=hw
 obtain⟨ds,hD,hN,hx⟩:=id hS
 obtain⟨es,hE,hM,hy⟩:=id hT
 refine enter (nt:=26) (rs:=[.cell 4 123]) Proofs.Tryz.func199 rfl rfl rfl (by simp) ?_
 simp -dsimp (disch:=try exact dx) only[wpS,zE,zA,zc123,fa123_1,ld121]
 have kk : ∀o1 o2 o3,Ext h (((h.new o1).new o2).new o3):=fun o1 o2 o3=>(((Ext.refl h).new _).new _).new _
 refine loop (fun m fr h1 => ∃(xv yv:Value) (a:Nat),Ext (((h.new (.cells [.bool (decide (x<0)),s] 0 none)).new (.cells [.bool (decide (y<0)),t] 0 none)).new (.cells ZL 0 none)) h1∧Wrd h1 xv a∧Wrd h1 yv m∧Small a∧Small m∧Nat.gcd a m=Int.gcd x y∧fget fr 4=some (ptr (2*(h.n+1+1)) 0)∧fget fr 5=some xv∧fget fr 6=some yv) y.natAbs
  ⟨s,t,x.natAbs,Ext.refl _,hS.keep (kk _ _ _).keep,hT.keep (kk _ _ _).keep,sx,sy,rfl,by simp,by simp,by simp⟩ ?_
 clear hS hT hD hN hx hE hM hy ds es
 rintro m fr h1 ⟨xv,yv,a,hE1,hA,hB,sa,sb,hgcd,f4,f5,f6⟩
 obtain⟨ds,hD,hN,hx⟩:=id hA
 obtain⟨es,hE,hM,hy⟩:=id hB
 have hz:=hM.nil_iff
 rw[hy] at hz
 have l1:ds.length≤1000000:=small64' hN (by rw[hx];exact sa)
 have l2:es.length≤1000000:=small64' hM (by rw[hy];exact sb)
 by_cases hm:m=0
 ·have hes:es = []:=hz.1 hm
  have len0:lenB prog h1 121 yv=some (.int .i64 ((0:Nat):Int)):=by have:=hE.1.len (P:=prog) sl121 h1;rw[hes] at this;exact this
  have hg:h1.ext.get (h.n+1+1)=some (.cells ZL 0 none):=by rw[hE1.get _ (by simp)];exact get_new_same _ _ rfl
  simp -dsimp (disch:=try exact dx) only[wpS,wpT,zE,zL,zA,bv123,pl123_1,st123,ld123,f4,f5,f6,len0,hD.1.cells,hD.1.cok,hg]
  refine⟨((kk _ _ _).trans hE1).put (by omega) _,xv,?_,?_⟩
  ·simp
  ·subst hm
   rw[Nat.gcd_zero_right] at hgcd
   rw[Int.natAbs_natCast,←hgcd]
   exact hA.keep ((Keep.refl _).put hg _)
 ·have hl:0<es.length:=by
   apply Nat.pos_of_ne_zero;intro h0
   exact hm (hz.2 (List.length_eq_zero_iff.1 h0))
  simp -dsimp (disch:=try exact dx) only[wpS,wpT,zE,f5,f6,hE.1.len sl121]
  refine call (divided_ok hD hE hN hM (by rw[hy];exact hm) l1 l2) ?_
  rintro _ h2 ⟨hE2,q,r,rfl,hq,hr⟩
  rw[hx,hy] at hr
  have hlt:=Nat.mod_lt a (Nat.pos_of_ne_zero hm)
  simp -dsimp (disch:=try exact dx) only[wpS,zE,f6]
  refine⟨a % m,hlt,yv,r,m,hE1.trans hE2,hB.keep hE2.keep,hr,sb,sb.le (Nat.le_of_lt hlt),?_,by simp[f4],by simp,by simp⟩
  rw[←hgcd,Nat.gcd_comm a m,Nat.gcd_rec m a,Nat.gcd_comm]
theorem wrd_one {h:IH}:Wrd (h.new (.cells [.int .u64 1] 1 none)) (.slice (some ⟨2*h.n,0,none⟩) 1 3) 1 :=
 ⟨[1],⟨built_sl (h:=h) (sz:=1) (m:=1) (cs:=[K64 1]) (by omega) rfl (by omega),fun x hx=>by simp at hx;omega,by simp⟩,.inr (by simp),by simp[B.valD,B.valT]⟩
theorem pparts_ok {h:IH} {v w:Value} {x y:Int} (hv:PLong h v x) (hw:PLong h w y) (sx:SmallI x) (sy:SmallI y) (y0:y≠0) :
  WV prog (.func (.func 218) #[] #[]) [v,w] h fun r h'=>Ext h h' ∧ ∃q t,r=.tuple #[q,t]∧PLong h' q (x / y)∧PLong h' t (x % y):=by
 obtain⟨s,rfl,hS⟩:=hv
 obtain⟨t,rfl,hT⟩:=hw
 obtain⟨ds,hD,hN,hx⟩:=id hS
 obtain⟨es,hE,hM,hy⟩:=id hT
 have l1:ds.length≤1000000:=small64' hN (by rw[hx];exact sx)
 have l2:es.length≤1000000:=small64' hM (by rw[hy];exact sy)
 refine enter (nt:=47) (rs:=[.cell 4 123,.cell 5 123]) Proofs.Tryz.func218 rfl rfl rfl (by simp) ?_
 simp -dsimp (disch:=try exact dx) only[wpS,zE,zA,zc123,fa123_1,ld121]
 have kk : ∀o1 o2 o3 o4,Ext h ((((h.new o1).new o2).new o3).new o4):=fun o1 o2 o3 o4=>((((Ext.refl h).new _).new _).new _).new _
 refine call (divided_ok (hD.keep (kk _ _ _ _).keep) (hE.keep (kk _ _ _ _).keep) hN hM (by rw[hy];omega) l1 l2) ?_
 rintro _ h1 ⟨hE1,q,r,rfl,⟨qs,hq,hqv⟩,⟨rs,hr,hrn,hrv⟩⟩
 rw[hx,hy] at hqv hrv
 have n1:h.n+4≤h1.n:=hE1.n
 have g0:h1.ext.get h.n=some (.cells [.bool (decide (x<0)),s] 0 none):=by rw[hE1.get _ (by simp<;>omega)];simp (disch:=try exact dx) only[get_new_same,get_new_old]
 have g1:h1.ext.get (h.n+1)=some (.cells [.bool (decide (y<0)),t] 0 none):=by rw[hE1.get _ (by simp<;>omega)];simp (disch:=try exact dx) only[get_new_same,get_new_old]
 have g2:h1.ext.get (h.n+1+1)=some (.cells ZL 0 none):=by rw[hE1.get _ (by simp<;>omega)];simp (disch:=try exact dx) only[get_new_same,get_new_old]
 have g3:h1.ext.get (h.n+1+1+1)=some (.cells ZL 0 none):=by rw[hE1.get _ (by simp<;>omega)];simp (disch:=try exact dx) only[get_new_same]
 have x1:Ext h h1:=(kk _ _ _ _).trans hE1
 have eT1:=hE.keep x1.keep
 clear hE1 kk
 have r0:=row_kn g0
 have r1:=row_kn g1
 simp -dsimp (disch:=try exact dx) only[wpS,zE]
 refine drawn [(8,[6])] (by kernel_rfl) (by kernel_rfl) rfl ?_
 simp -dsimp (disch:=try exact dx) only[wpS,zE,fa123_0,ld4,bn4,r0,r1,bne_bool]
 refine call (trimmed_ok hq _) ?_
 rintro q2 h2 ⟨hE2,hq2⟩
 have r02:h2.row (2*h.n)=some [.bool (decide (x<0)),s]:=by rw[hE2.row (.inr (by omega))];exact r0
 simp -dsimp (disch:=try exact dx) only[wpS,zE,fa123_0,ld4,r02]
 refine call (trimmed_ok (hr.keep hE2.keep) _) ?_
 rintro t2 h3 ⟨hE3,ht2⟩
 rw[hqv] at hq2
 rw[hrv] at ht2
 have pa:=parts_a (x:=x) y0
 have pb:=parts_b (x:=x) y0
 have aQ:=sgn_abs (decide (x<0) != decide (y<0)) (x.natAbs / y.natAbs)
 have aR:=sgn_abs (decide (x<0)) (x.natAbs % y.natAbs)
 generalize (if (decide (x<0) != decide (y<0))=true then -((x.natAbs / y.natAbs:Nat):Int) else ((x.natAbs / y.natAbs:Nat):Int))=Q at *
 generalize (if decide (x<0)=true then -((x.natAbs % y.natAbs:Nat):Int) else ((x.natAbs % y.natAbs:Nat):Int))=R at *
 have sQ:SmallI Q:=Small.le sx (by rw[aQ];exact Nat.div_le_self _ _)
 have sR:SmallI R:=Small.le sy (by rw[aR];exact Nat.le_of_lt (Nat.mod_lt _ (by omega)))
 obtain⟨sq,n3,rfl,c3,o3,_,_⟩:=hq2.form
 obtain⟨st,n4,rfl,c4,o4,_,_⟩:=ht2.form
 have x3:Ext h h3:=(x1.trans hE2).trans hE3
 have n2:=hE2.n
 have n3':=hE3.n
 have g2':=(hE3.get _ (by omega)).trans ((hE2.get _ (by omega)).trans g2)
 have g3':=(hE3.get _ (by omega)).trans ((hE2.get _ (by omega)).trans g3)
 have g1':=(hE3.get _ (by omega)).trans ((hE2.get _ (by omega)).trans g1)
 simp -dsimp (disch:=try exact dx) only[wpS,wpT,zE,zL,zA,st123,o3,o4,g2',g3']
 refine⟨wpSteady_one rfl rfl rfl rfl (steady_load (av:=ptr (2*h.n) 0) (v:=.bool (decide (x<0))) rfl ?_ ?_),?_⟩
 ·simp -dsimp (disch:=try exact dx) only[wpS,ld4,r02]
 ·simp -dsimp (disch:=try exact dx) only[wpS,ld4,r0]
 simp -dsimp (disch:=try exact dx) only[wpS,wpT,zE,zA,fa123_0,ld4]
 obtain⟨h4,hh4⟩ : ∃h4,h4=(h3.put (h.n+1+1) (.cells [.bool (decide (Q<0)),sq] 0 none)).put (h.n+1+1+1) (.cells [.bool (decide (R<0)),st] 0 none):=⟨_,rfl⟩
 have g8:h4.ext.get (h.n+1+1)=some (.cells [.bool (decide (Q<0)),sq] 0 none):=by rw[hh4];simp (disch:=try exact dx) only[get_put_same,get_put_old]
 have g9:h4.ext.get (h.n+1+1+1)=some (.cells [.bool (decide (R<0)),st] 0 none):=by rw[hh4];simp (disch:=try exact dx) only[get_put_same]
 have g7:h4.ext.get (h.n+1)=some (.cells [.bool (decide (y<0)),t] 0 none):=by rw[hh4];simp (disch:=try exact dx) only[get_put_old];exact g1'
 have n5:h4.n=h3.n:=by rw[hh4];rfl
 have k4:Keep h3 h4:=by rw[hh4];exact((Keep.refl h3).put g2' _).put (by rw[get_put_old _ _ (by omega)];exact g3') _
 have x4:Ext h h4:=by rw[hh4];exact(x3.put (by omega) _).put (by omega) _
 have hQ0:=hq2.keep (hE3.keep.trans k4)
 have hR0:=ht2.keep k4
 have eT4:=eT1.keep ((hE2.trans hE3).keep.trans k4)
 rw[←hh4]
 clear hh4 g2' g3' g1' r0 r1 g0 g1 g2 g3
 have r9:=row_kn g9
 have r8:=row_kn g8
 have r7:=row_kn g7
 refine bq_cut (fun fr2 h5 => ∃sq st,Ext h h5∧h5.ext.get (h.n+1+1)=some (.cells [.bool (decide (x / y<0)),sq] 0 none)∧h5.ext.get (h.n+1+1+1)=some (.cells [.bool (decide (x % y<0)),st] 0 none)∧PLong h5 (.agg #[.bool (decide (x / y<0)),sq]) (x / y)∧PLong h5 (.agg #[.bool (decide (x % y<0)),st]) (x % y) ∧
  fget fr2 4=some (ptr (2*(h.n+1+1)) 0)∧fget fr2 5=some (ptr (2*(h.n+1+1+1)) 0)) (fun hb=>?_) (fun hb=>?_) ?_
 ·have hb':R<0:=by simpa using hb
  obtain⟨b1,b2⟩:=pb hb'
  rw[decide_eq_true hb'] at hR0 r9 g9
  simp -dsimp (disch:=try exact dx) only[wpS,wpT,zE,zL,zA,zc123,fa123_1,ld121,st123,bv123,pl123_1,ld123,r7,r9,List.drop_zero,tk_two,hE.1.cells,hE.1.cok]
  have xA:Ext h ((h4.new (.cells ZL 0 none)).put h4.n (.cells [.bool false,t] 0 none)):=(x4.new _).put (by omega) _
  have xB:Ext h4 ((h4.new (.cells ZL 0 none)).put h4.n (.cells [.bool false,t] 0 none)):=((Ext.refl h4).new _).put (by omega) _
  have hY:PLong ((h4.new (.cells ZL 0 none)).put h4.n (.cells [.bool false,t] 0 none)) (.agg #[.bool false,t]) (y.natAbs:Int):=⟨t,by simp,by rw[Int.natAbs_natCast];exact⟨es,eT4.keep xB.keep,hM,hy⟩⟩
  refine call (pplus_ok (hR0.keep xB.keep) hY sR (small_nat sy)) ?_
  rintro t5 h5 ⟨hE5,ht5⟩
  rw[b2] at ht5
  obtain⟨s5,_,rfl,c5,o5,_,_⟩:=ht5.form
  have n6:=(hE5).n;try simp only[new_n,put_n] at n6
  have x5:=xB.trans hE5
  have k9:=(x5.get _ (by omega)).trans g9
  have k8:=(x5.get _ (by omega)).trans g8
  have k7:=(x5.get _ (by omega)).trans g7
  have rr7:=row_kn k7
  have rr8:=row_kn k8
  simp -dsimp (disch:=try exact dx) only[wpS,wpT,zE,zL,zA,zc123,fa123_0,ld4,st123,bv123,pl123_1,ld123,bs121,pl123_0,k9,o5,rr7,rr8,List.drop_zero,tk_two]
  obtain⟨h6,hh6⟩ : ∃h6,h6=((((h5.put (h.n+1+1+1) (.cells [.bool (decide (x % y<0)),s5] 0 none)).new (.cells [.int .u64 1] 1 none)).new (.cells ZL 0 none)).put (h5.n+1) (.cells [.bool (!decide (y<0)),.slice (some ⟨2*h5.n,0,none⟩) 1 3] 0 none)):=⟨_,rfl⟩
  have k5:Keep h5 h6:=by rw[hh6];exact((((Keep.refl h5).put k9 _).new _).new _).put (cs:=ZL) (f:=none) (by simp (disch:=try exact dx) only[get_new_same]) _
  have y6:Ext h h6:=by rw[hh6];exact(((((xA.trans hE5).put (by omega) _).new _).new _).put (by first|omega|(simp only[new_n,put_n];omega)) _)
  have j9:h6.ext.get (h.n+1+1+1)=some (.cells [.bool (decide (x % y<0)),s5] 0 none):=by rw[hh6];simp (disch:=try exact dx) only[get_new_old,get_put_same,get_put_old]
  have j8:h6.ext.get (h.n+1+1)=some (.cells [.bool (decide (Q<0)),sq] 0 none):=by rw[hh6];simp (disch:=try exact dx) only[get_new_old,get_put_old];exact k8
  have n7:h6.n=h5.n+2:=by rw[hh6];rfl
  have hOne:PLong h6 (.agg #[.bool (!decide (y<0)),.slice (some ⟨2*h5.n,0,none⟩) 1 3]) (if y<0 then 1 else -1):=by
   refine⟨.slice (some ⟨2*h5.n,0,none⟩) 1 3,?_,?_⟩
   ·by_cases hy0:y<0<;>simp[hy0]<;>rfl
   ·rw[show(if y<0 then (1:Int) else -1).natAbs=1 by split<;>rfl,hh6]
    have w1:=wrd_one (h:=h5.put (h.n+1+1+1) (.cells [.bool (decide (x % y<0)),s5] 0 none))
    exact w1.keep (((Keep.refl _).new _).put (cs:=ZL) (f:=none) (by simp (disch:=try exact dx) only[get_new_same]) _)
  have jr8:=row_kn j8
  rw[←hh6]
  have sOne:SmallI (if y<0 then (1:Int) else -1):=by split<;>exact small1
  refine call (pplus_ok (hQ0.keep (x5.keep.trans k5)) hOne sQ sOne) ?_
  rintro t7 h7 ⟨hE7,ht7⟩
  have hqq:Q+(if y<0 then (1:Int) else -1)=x / y:=by
   rw[←b1]
  rw[hqq] at ht7
  obtain⟨s7,_,rfl,c7,o7,_,_⟩:=ht7.form
  have n8:=(hE7).n;try simp only[new_n,put_n] at n8
  have i8:=(hE7.get _ (by omega)).trans j8
  have i9:=(hE7.get _ (by omega)).trans j9
  simp -dsimp (disch:=try exact dx) only[wpS,wpT,zE,zL,zA,st123,i8,o7]
  have k7':=(Keep.refl h7).put i8 (.cells [.bool (decide (x / y<0)),s7] 0 none)
  refine⟨s7,s5,(y6.trans hE7).put (by omega) _,get_put_same _ _ rfl,by simp (disch:=try exact dx) only[get_put_old];exact i9,ht7.keep k7',ht5.keep ((k5.trans hE7.keep).trans k7'),by simp,by simp⟩
 ·have hb' : ¬R<0:=by simpa using hb
  obtain⟨b1,b2⟩:=pa hb'
  simp -dsimp (disch:=try exact dx) only[wpS,wpT]
  subst b1;subst b2
  exact⟨sq,st,x4,g8,g9,hQ0,hR0,by simp,by simp⟩
 rintro fr2 h5 ⟨sq,st,x5,k8,k9,hQ,hR,f4,f5⟩
 have q8:=row_kn k8
 have q9:=row_kn k9
 obtain⟨s8,n8,e8,c8,o8,_,_⟩:=hQ.form
 obtain⟨s9,n9,e9,c9,o9,_,_⟩:=hR.form
 cases e8
 cases e9
 rw[d_seq]
 refine drawn [(1,[3])] (by kernel_rfl) (by kernel_rfl) rfl ?_
 simp -dsimp (disch:=try exact dx) only[wpS,wpT,zE,zL,zA,st123,ld123,f4,f5,q8,q9,k8,k9,o8,o9,List.drop_zero,tk_two]
 have k5:=(Keep.refl h5).put k8 (.cells [.bool (decide (x / y<0)),sq] 0 none)
 have k3':(h5.put (h.n+1+1) (.cells [.bool (decide (x / y<0)),sq] 0 none)).ext.get (h.n+1+1+1)=some (.cells [.bool (decide (x % y<0)),st] 0 none):=by rw[get_put_old _ _ (by omega)];exact k9
 have k6:=k5.put k3' (.cells [.bool (decide (x % y<0)),st] 0 none)
 refine⟨wpSteady_one rfl rfl rfl rfl (steady_load (av:=ptr (2*(h.n+1+1+1)) 0) (v:=.agg #[.bool (decide (x % y<0)),st]) ?_ ?_ ?_),?_⟩
 ·simp -dsimp (disch:=try exact dx) only[wpS,zE,f5]
 ·simp -dsimp (disch:=try exact dx) only[wpS,wpT,zL,zA,ld123,q9,List.drop_zero,tk_two]
 ·simp -dsimp (disch:=try exact dx) only[wpS,wpT,zL,zA,ld123,q9,List.drop_zero,tk_two]
 simp -dsimp (disch:=try exact dx) only[wpS,wpT,zE,zL,zA,ld123,f4,f5,List.drop_zero,tk_two]
 exact⟨(x5.put (by omega) _).put (by omega) _,_,_,rfl,hQ.keep k6,hR.keep k6⟩
end Go.Id
