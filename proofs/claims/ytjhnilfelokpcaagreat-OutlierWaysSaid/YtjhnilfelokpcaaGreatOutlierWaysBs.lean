/-
  Contracts: package chance: the sums of weights. Contracts: package chance: Pick.
-/
import Derived.Test.YtjhnilfelokpcaaGreatOutlierWaysAt
import Derived.Test.YtjhnilfelokpcaaGreatOutlierWaysBr
import Derived.Test.YtjhnilfelokpcaaGreatOutlierWaysBm
import Derived.Test.YtjhnilfelokpcaaGreatOutlierWaysBg
import Derived.Test.YtjhnilfelokpcaaGreatOutlierWaysBh
import Derived.Test.YtjhnilfelokpcaaGreatOutlierWaysBf
import Derived.Test.YtjhnilfelokpcaaGreatOutlierWaysAs
set_option linter.unusedVariables false
set_option linter.unusedSimpArgs false
set_option linter.defProp false
set_option linter.deprecated false
namespace Go.Id
open Go
open Go.Proofs.Tryz (prog)
open Nat (reduceAdd reduceEqDiff reduceLeDiff)
set_option maxHeartbeats 16000000
def sumsL (l:List Nat) (i:Nat):List Nat:=(List.range i).map fun j=>sumN l (j+1)
theorem sumsL_len (l:List Nat) (i:Nat):(sumsL l i).length=i:=by simp[sumsL]
theorem sumsL_snoc (l:List Nat) (i:Nat):sumsL l (i+1)=sumsL l i ++ [sumN l (i+1)]:=by simp[sumsL,List.range_succ]
theorem sumsL_at {l:List Nat} {i k:Nat} (h:k<i):(sumsL l i)[k]?=some (sumN l (k+1)):=by simp[sumsL,h]
theorem csums_ok {h:IH} {v F:Value} {l:List Nat} (hv:WiSl h v l) (hl:l.length≤1000) (hs:sumN l l.length<W8)
  (hF : ∀h1 i p,Ext h h1→l[i]?=some p→WV prog F [wdV (sumN l i),wdV p] h1 fun r h2=>Ext h1 h2∧r=wdV (sumN l (i+1))) :
  WV prog (.func (.func 221) #[] #[]) [v,F] h fun r h'=>Ext h h'∧WiSl h' r (sumsL l l.length):=by
 refine enter (nt:=25) (rs:=[.tmp 4]) Proofs.Tryz.func221 rfl rfl rfl (by simp) ?_
 simp -dsimp (maxSteps:=1000000) (disch:=try exact dx) only[wpS,reduceEqDiff,reduceAdd,zc44,hv.1.len sl28]
 refine loop (fun m fr hh => ∃(i:Nat) (out:Value),i+m=l.length∧Ext h hh∧h.n<hh.n∧Acc hh h.n 8 out (sumsL l i).length (wiL (sumsL l i))∧hh.ext.get h.n=some (.cells (wdC (sumN l i)) 0 none)∧fget fr 1=some F∧fget fr 5=some out∧fget fr 6=some (ptr (2*h.n) 0)∧fget fr 9=some v∧fget fr 10=some (KN l.length)∧fget fr 11=some (KN i)) l.length
  ⟨0,.slice none 0 0,by omega,(Ext.refl _).new _,by simp,Acc.nil _ _ (by omega),by rw[sumN,wdC_zero];simp (disch:=try exact dx) only[get_new_same],by simp,by simp,by simp,by simp,by simp,by simp⟩ ?_
 rintro m fr hh ⟨i,out,him,hE,hn,hA,g,f1,f5,f6,f9,f10,f11⟩
 simp -dsimp (maxSteps:=1000000) (disch:=try exact dx) only[wpS,f10,f11]
 refine bq_intro ?_ ?_<;>intro hc<;>simp only[decide_eq_true_eq,decide_eq_false_iff_not] at hc
 ·have hi:i<l.length:=by omega
  obtain⟨p,hp⟩ : ∃p,l[i]?=some p:=⟨_,List.getElem?_eq_getElem hi⟩
  have pw:=hv.2.2 p (List.mem_of_getElem? hp)
  have sw:sumN l (i+1)<W8:=Nat.lt_of_le_of_lt (sumN_mono l (by omega)) hs
  simp -dsimp (maxSteps:=1000000) (disch:=try exact dx) only[wpS,wpT,reduceEqDiff,reduceLeDiff,reduceAdd,zc44,st44,f1,f9,f11,hv.1.idx es28 hi,hv.ld hE.keep hp,cells8,wdC_len,wdC_all,wd_spl]
  obtain⟨H0,hH0⟩ : ∃H,H=(hh.new (.cells [ZW,ZW,ZW,ZW,ZW,ZW,ZW,ZW] 0 none)).put hh.n (.cells (wdC p) 0 none):=⟨_,rfl⟩
  have E0:Ext hh H0:=by rw[hH0];exact((Ext.refl hh).new _).put (Nat.le_refl _) _
  have n0:H0.n=hh.n+1:=by rw[hH0];rfl
  have g0:=E0.kept hn g
  have x0:H0.ext.get hh.n=some (.cells (wdC p) 0 none):=by rw[hH0];simp (disch:=try exact dx) only[get_put_same]
  rw[←hH0]
  clear hH0
  simp -dsimp (maxSteps:=1000000) (disch:=try exact dx) only[wpS,reduceEqDiff,reduceLeDiff,ld44,f6,row_of g0,row_of x0,wdC_len,wd_take0]
  refine call (hF H0 i p (hE.trans E0) hp) ?_
  rintro _ h1 ⟨X1,rfl⟩
  have m1:=X1.n
  have E1:=E0.trans X1
  have g1:=X1.kept (by omega) g0
  obtain⟨H1,hH1⟩ : ∃H,H=h1.put h.n (.cells (wdC (sumN l (i+1))) 0 none):=⟨_,rfl⟩
  have E2:Ext h H1:=by rw[hH1];exact(hE.trans E1).put (Nat.le_refl _) _
  have n1:H1.n=h1.n:=by rw[hH1];rfl
  have k1:H1.ext.get h.n=some (.cells (wdC (sumN l (i+1))) 0 none):=by rw[hH1];simp (disch:=try exact dx) only[get_put_same]
  have hA1:Acc H1 h.n 8 out (sumsL l i).length (wiL (sumsL l i)):=by rw[hH1];exact(hA.ext E1).put g1 _
  simp -dsimp (maxSteps:=1000000) (disch:=try exact dx) only[wpS,wpT,reduceEqDiff,reduceLeDiff,st44,f6,g1,cells8,wdC_len,wdC_all,wd_spl2]
  rw[←hH1]
  clear hH1
  obtain⟨out',h8,hap,hA8,hG8,hE8⟩:=hA1.appN (P:=prog) (t:=28) ap28 (m:=1) (new:=wdC (sumN l (i+1))) (by omega) (by rw[wdC_len]) (wdC_all _) (by rw[sumsL_len];omega) (by omega) E2 (Nat.le_refl _)
  have hap':append prog (H1.new (.cells (wdC (sumN l (i+1))) 8 none)) 28 out (.slice (some ⟨2*H1.n,0,none⟩) 1 3)=some (out',h8):=hap
  simp -dsimp (maxSteps:=1000000) (disch:=try exact dx) only[wpS,wpT,reduceEqDiff,reduceLeDiff,reduceAdd,ld44,bs28,ba28_28,f5,f6,f11,row_of k1,wdC_len,wd_spl,wd_take0,hap']
  refine⟨m - 1,by omega,i+1,out',by omega,hE8,Nat.lt_of_lt_of_le (by omega) hG8.n,?_,hG8.var (by omega) k1,by simp[f1],by simp,by simp[f6],by simp[f9],by simp[f10],by simp⟩
  rw[sumsL_snoc,wiL_snoc,List.length_append]
  exact hA8
 ·obtain rfl:i=l.length:=by omega
  simp -dsimp (maxSteps:=1000000) (disch:=try exact dx) only[wpS,wpT,reduceEqDiff,f5]
  refine⟨hE,hA.sl,by rw[sumsL_len];omega,?_⟩
  intro n hn
  obtain⟨j,hj,rfl⟩:=List.mem_map.1 hn
  exact Nat.lt_of_le_of_lt (sumN_mono l (by have:=List.mem_range.1 hj;omega)) hs
theorem cpick1_ok {h:IH} {b:Nat} (x y:Nat) (hs:x+y<H8) :
  WV prog (.func (.func 222) #[] #[ptr (2*b) 0]) [wdV x,wdV y] h fun r h2=>Ext h h2∧r=wdV (x+y):=by
 refine enter (nt:=18) (rs:=[.cell 5 44]) Proofs.Tryz.func222 rfl rfl rfl (by simp) ?_
 simp -dsimp (maxSteps:=1000000) (disch:=try exact dx) only[wpS,reduceEqDiff,reduceLeDiff,reduceAdd,zc44,ld44,cells8,wdC_len,wd_take0]
 have h1:x<H8:=by omega
 have h2:y<H8:=by omega
 obtain⟨H0,hH0,n0,E0,k0,k1,k2⟩:=boxes3 h (wdC x) (wdC y) [ZW,ZW,ZW,ZW,ZW,ZW,ZW,ZW]
 rw[←hH0]
 clear hH0
 refine call (waddN_ok x y h1 h2) ?_
 rintro _ h1 ⟨X1,rfl⟩
 rw[if_pos hs]
 have m1:=X1.n
 have g2:=X1.kept (by omega) k2
 obtain⟨H1,hH1⟩ : ∃H,H=(h1.new (.cells [ZW,ZW,ZW,ZW,ZW,ZW,ZW,ZW] 0 none)).put h1.n (.cells (wdC (x+y)) 0 none):=⟨_,rfl⟩
 have E1:Ext h1 H1:=by rw[hH1];exact((Ext.refl h1).new _).put (Nat.le_refl _) _
 have c1:H1.ext.get h1.n=some (.cells (wdC (x+y)) 0 none):=by rw[hH1];simp (disch:=try exact dx) only[get_put_same]
 have c2:=E1.kept (by omega) g2
 simp -dsimp (maxSteps:=1000000) (disch:=try exact dx) only[wpS,wpT,reduceEqDiff,reduceLeDiff,reduceAdd,zc44,ld44,st44,cells8,wdC_len,wdC_all,wd_spl]
 rw[←hH1]
 clear hH1
 simp -dsimp (maxSteps:=1000000) (disch:=try exact dx) only[wpS,wpT,reduceEqDiff,reduceLeDiff,reduceAdd,ld44,g2,wdC_len,wdC_all,wd_spl,wd_take0]
 exact⟨((E0.trans X1).trans E1).put (by omega) _,rfl⟩
end Go.Id

namespace Go.Id
open Go
open Go.Proofs.Tryz (prog)
open Nat (reduceAdd reduceEqDiff reduceLeDiff)
set_option maxHeartbeats 16000000
theorem sumN_el (l:List Nat) {i p:Nat} (h:l[i]?=some p):sumN l (i+1)=sumN l i+p:=by
 rw[sumN,List.getD_eq_getElem?_getD,h];rfl
theorem sumN_top (l:List Nat) {i p:Nat} (h:l[i]?=some p):p≤sumN l l.length:=by
 have:=sumN_mono l (List.getElem?_eq_some_iff.1 h).1
 rw[Nat.succ_eq_add_one,sumN_el l h] at this
 omega
noncomputable def pickR (l:List Nat) (s:Nat):Value:=match drawN (sumN l l.length) s with
 | none=>.tuple #[KI 0,chV 0,KI 9]
 | some p=>.tuple #[KN (pickI l p.1 l.length 0),chV p.2,KI 0]
theorem wdI_nat {n:Nat} (hn:n<H8):wdI n=(n:Int):=by unfold wdI;rw[if_pos hn]
theorem wideR_pos {n s:Nat} (h0:0<n) (hn:n<H8):wideR s n=match drawN n s with
 | none=>.tuple #[wdV 0,chV 0,KI 9]
 | some p=>.tuple #[wdV p.1,chV p.2,KI 0]:=by
 unfold wideR
 rw[if_neg (show ¬wdI n<1 by rw[wdI_nat hn];omega)]
 cases drawN n s<;>rfl
theorem cpick_ok {h:IH} {v:Value} {l:List Nat} {s:Nat} (hv:WiSl h v l) (hl:l.length≤400) (hs:sumN l l.length<H8) (h0:0<sumN l l.length) (hst:s<18446744073709551616) :
  WV prog (.func (.func 173) #[] #[]) [chV s,v] h fun r h'=>Ext h h'∧r=pickR l s:=by
 obtain⟨N,hN⟩ : ∃N,N=sumN l l.length:=⟨_,rfl⟩
 have w8:sumN l l.length<W8:=by have:=H8_two;omega
 obtain⟨H0,hH0⟩ : ∃H,H=(h.new (.cells [K64 s] 0 none)).new (.cells [.int .u64 0] 0 none):=⟨_,rfl⟩
 have n0:H0.n=h.n+2:=by rw[hH0];rfl
 have E0:Ext h H0:=by rw[hH0];exact((Ext.refl h).new _).new _
 have c2:H0.ext.get h.n=some (.cells [K64 s] 0 none):=by rw[hH0];simp (disch:=try exact dx) only[get_new_same,get_new_old]
 have c5:H0.ext.get (h.n+1)=some (.cells [.int .u64 0] 0 none):=by rw[hH0];simp (disch:=try exact dx) only[get_new_same]
 have vc:=hv.1.cells
 have vo:=hv.1.cok
 refine enter (nt:=78) (rs:=[.tmp 4,.cell 5 63,.tmp 6]) Proofs.Tryz.func173 rfl rfl rfl (by simp) ?_
 simp -dsimp (maxSteps:=1000000) (disch:=try exact dx) only[wpS,reduceEqDiff,reduceAdd,zc63,chV]
 rw[←hH0]
 clear hH0
 have hlen:=hv.1.len sl28 (P:=prog)
 simp -dsimp (maxSteps:=1000000) (disch:=try exact dx) only[wpS,wpT,reduceEqDiff,reduceLeDiff,zc33,st33,hlen]
 refine loop (fun m fr hh => ∃(i:Nat),i+m=l.length∧Ext H0 hh∧fget fr 1=some v∧fget fr 2=some (ptr (2*h.n) 0)∧fget fr 5=some (ptr (2*(h.n+1)) 0)∧fget fr 19=some v∧fget fr 20=some (KN l.length)∧fget fr 21=some (KN i)) l.length
  ⟨0,by omega,Ext.refl _,by simp,by simp,by simp,by simp,by simp,by simp⟩ ?_
 rintro m fr hh ⟨i,him,hE,f1,f2,f5,f19,f20,f21⟩
 have hnn:=hE.n
 simp -dsimp (maxSteps:=1000000) (disch:=try exact dx) only[wpS,wpT,reduceEqDiff,reduceLeDiff,zc33,st33,f20,f21]
 refine bq_intro ?_ ?_<;>intro hc2<;>simp only[decide_eq_true_eq,decide_eq_false_iff_not] at hc2
 ·have hi:i<l.length:=by omega
  obtain⟨p,hp⟩ : ∃p,l[i]?=some p:=⟨_,List.getElem?_eq_getElem hi⟩
  have pw:=hv.2.2 p (List.mem_of_getElem? hp)
  have pt:=sumN_top l hp
  simp -dsimp (maxSteps:=1000000) (disch:=try exact dx) only[wpS,wpT,reduceEqDiff,reduceLeDiff,reduceAdd,ld44,zc44,st44,zc33,st33,f19,f21,hv.1.idx es28 hi,hv.ld (E0.trans hE).keep hp,cells8,wdC_len,wdC_all,wd_spl,wd_take0]
  refine call (wsign_ok p pw) ?_
  rintro _ h1 ⟨X1,rfl⟩
  rw[wdI_nat (by omega),if_neg (by omega)]
  obtain⟨z,hz,hz0⟩ : ∃z:Int,(if (p:Int)=0 then (0:Int) else 1)=z ∧ ¬z<0:=⟨_,rfl,by split<;>omega⟩
  rw[hz]
  simp -dsimp (maxSteps:=1000000) (disch:=try exact dx) only[wpS,wpT,reduceEqDiff,reduceLeDiff,zc33,st33,f21,hz0,decide_false]
  have m1:=X1.n
  refine⟨m - 1,by omega,i+1,by omega,?_,by simp[f1],by simp[f2],by simp[f5],by simp[f19],by simp[f20],by simp⟩
  exact hE.trans ((((Ext.refl _).new _).put (Nat.le_refl _) _).trans X1)
 ·obtain rfl:i=l.length:=by omega
  simp -dsimp (maxSteps:=1000000) (disch:=try exact dx) only[wpS,wpT,reduceEqDiff,reduceLeDiff,zc33,st33,f1]
  obtain⟨H1,hH1⟩ : ∃H,H=(hh.new (.cells [KI 0] 0 none)).put hh.n (.cells [KI 0] 0 none):=⟨_,rfl⟩
  have E1:Ext hh H1:=by rw[hH1];exact((Ext.refl hh).new _).put (Nat.le_refl _) _
  have n1:H1.n=hh.n+1:=by rw[hH1];rfl
  have c9:H1.ext.get hh.n=some (.cells [KI 0] 0 none):=by rw[hH1];simp (disch:=try exact dx) only[get_put_same]
  rw[←hH1]
  clear hH1
  have E01:=(E0.trans hE).trans E1
  have w2:=(hE.trans E1).kept (by omega) c2
  have w5:=(hE.trans E1).kept (by omega) c5
  refine call (csums_ok (hv.keep E01.keep) (by omega) w8 (fun h1 i p _ hp=>?_)) ?_
  ·have hx:=sumN_el l hp
   have:=sumN_mono l (List.getElem?_eq_some_iff.1 hp).1
   rw[Nat.succ_eq_add_one,hx] at this
   rw[hx]
   exact cpick1_ok _ _ (by omega)
  rintro up h2 ⟨X2,hu⟩
  have m2:=X2.n
  have d9:=X2.kept (by omega) c9
  have d2:=X2.kept (by omega) w2
  have d5:=X2.kept (by omega) w5
  have lu:(sumsL l l.length).length=l.length:=sumsL_len _ _
  have l0:0<l.length:=by
   apply Classical.byContradiction
   intro hh
   have:l.length=0:=by omega
   rw[this] at h0
   simp[sumN] at h0
  have hu1:=hu.1
  rw[lu] at hu1
  have lnu:=hu1.len sl28 (P:=prog)
  have ixu:=hu1.idx es28 (P:=prog) (k:=.i64) (j:=l.length - 1) (by omega)
  have ldu:=hu.ld (Keep.refl _) (sumsL_at (l:=l) (i:=l.length) (k:=l.length - 1) (by omega))
  rw[show l.length - 1+1=l.length by omega] at ldu
  have sub1:(l.length:Int) - 1=((l.length - 1:Nat):Int):=by omega
  have ne0:((l.length:Int) == 0)=false:=beq_false_of_ne (by omega)
  simp -dsimp (maxSteps:=1000000) (disch:=try exact dx) only[wpS,wpT,reduceEqDiff,ld33,row_of d9,lnu,ixu,ldu,sub1,ne0]
  refine call (wsign_ok _ w8) ?_
  rintro _ h3 ⟨X3,rfl⟩
  have m3:=X3.n
  rw[wdI_nat hs,if_neg (by omega),if_neg (by omega)]
  have e2:=X3.kept (by omega) d2
  have e5:=X3.kept (by omega) d5
  have e9:=X3.kept (by omega) d9
  have ldu3:=hu.ld X3.keep (sumsL_at (l:=l) (i:=l.length) (k:=l.length - 1) (by omega))
  rw[show l.length - 1+1=l.length by omega] at ldu3
  simp -dsimp (maxSteps:=1000000) (disch:=try exact dx) only[wpS,wpT,reduceEqDiff,reduceLeDiff,ld63,f2,row_of e2,lnu,ixu,ldu3,sub1,tk1]
  refine call (chWide_ok w8 hst) ?_
  rintro _ h4 ⟨X4,rfl⟩
  have m4:=X4.n
  have X34:=X3.trans X4
  rw[wideR_pos h0 hs]
  unfold pickR
  have q5:=X4.kept (by omega) e5
  have XX:=(E01.trans X2).trans X34
  rcases hd:drawN (sumN l l.length) s with _|⟨x,t⟩
  ·simp -dsimp (maxSteps:=1000000) (disch:=try exact dx) only[wpS,wpT,reduceEqDiff,reduceLeDiff,reduceAdd,zc63,bv63,st63,zc44,st44,ld63,f5,chV,q5,tk1,cells8,wdC_len,wdC_all,wd_spl]
   exact⟨((((XX.new _).new _).put (by omega) _).put (by omega) _).put (by omega) _,rfl⟩
  ·have hx:=drawN_lt h0 hst hd
   simp -dsimp (maxSteps:=1000000) (disch:=try exact dx) only[wpS,wpT,reduceEqDiff,reduceLeDiff,reduceAdd,zc63,st63,zc44,st44,chV,cells8,wdC_len,wdC_all,wd_spl]
   obtain⟨H5,hH5⟩ : ∃H,H=(((h4.new (.cells [ZW,ZW,ZW,ZW,ZW,ZW,ZW,ZW] 0 none)).new (.cells [.int .u64 0] 0 none)).put h4.n (.cells (wdC x) 0 none)).put (h4.n+1) (.cells [K64 t] 0 none):=⟨_,rfl⟩
   have E5:Ext h4 H5:=by rw[hH5];exact((((Ext.refl h4).new _).new _).put (by omega) _).put (by omega) _
   have n5:H5.n=h4.n+2:=by rw[hH5];rfl
   have k11:H5.ext.get h4.n=some (.cells (wdC x) 0 none):=by rw[hH5];simp (disch:=try exact dx) only[get_put_same,get_put_old]
   have k12:H5.ext.get (h4.n+1)=some (.cells [K64 t] 0 none):=by rw[hH5];simp (disch:=try exact dx) only[get_put_same]
   have k5:=E5.kept (by omega) q5
   rw[←hH5]
   clear hH5
   refine loop (fun m fr hh' => ∃k:Nat,k+m=l.length∧Ext H5 hh'∧pickI l x l.length 0=pickI l x m k∧sumN l k≤x∧fget fr 5=some (ptr (2*(h.n+1)) 0)∧fget fr 10=some up∧fget fr 11=some (ptr (2*h4.n) 0)∧fget fr 12=some (ptr (2*(h4.n+1)) 0)∧fget fr 14=some (KN k)) l.length
    ⟨0,by omega,Ext.refl _,rfl,by simp[sumN],by simp[f5],by simp,by simp,by simp,by simp⟩ ?_
   rintro m fr hh' ⟨k,hk,hE',hpk,hsk,g5,g10,g11,g12,g14⟩
   have en:=hE'.n
   have km:k<l.length:=by
    apply Classical.byContradiction
    intro hn
    obtain rfl:k=l.length:=by omega
    omega
   have ixk:=hu1.idx es28 (P:=prog) (k:=.i64) (j:=k) km
   have ldk:=hu.ld ((X34.trans E5).trans hE').keep (sumsL_at (l:=l) (i:=l.length) (k:=k) km)
   have sk:sumN l (k+1)<H8:=Nat.lt_of_le_of_lt (sumN_mono l (by omega)) hs
   have r11:=hE'.kept (by omega) k11
   simp -dsimp (maxSteps:=1000000) (disch:=try exact dx) only[wpS,reduceEqDiff,reduceLeDiff,ld44,g10,g11,g14,ixk,ldk,row_of r11,wdC_len,wd_take0]
   refine call (wcmpN_ok _ x sk (by omega)) ?_
   rintro _ h6 ⟨X6,rfl⟩
   have m6:=X6.n
   obtain⟨q,hq⟩ : ∃q,m=q+1:=⟨m - 1,by omega⟩
   rw[hq,pickI] at hpk
   by_cases c:sumN l (k+1)≤x
   ·rw[if_pos c] at hpk
    obtain⟨z,hz,hz0⟩ : ∃z:Int,(if sumN l (k+1)<x then (-1:Int) else if sumN l (k+1)=x then 0 else 1)=z∧z≤0:=⟨_,rfl,by
     by_cases c1:sumN l (k+1)<x
     ·rw[if_pos c1];omega
     ·rw[if_neg c1,if_pos (by omega)];omega⟩
    rw[hz]
    simp -dsimp (maxSteps:=1000000) (disch:=try exact dx) only[wpS,wpT,reduceEqDiff,g14]
    exact⟨q,by omega,k+1,by omega,hE'.trans X6,hpk,c,by simp[g5],by simp[g10],by simp[g11],by simp[g12],by simp⟩
   ·rw[if_neg c] at hpk
    rw[if_neg (by omega),if_neg (by omega)]
    have s5:=(hE'.trans X6).kept (by omega) k5
    have s12:=(hE'.trans X6).kept (by omega) k12
    simp -dsimp (maxSteps:=1000000) (disch:=try exact dx) only[wpS,wpT,reduceEqDiff,reduceLeDiff,st63,ld63,g5,g12,g14,row_of s12,s5,tk1]
    exact⟨((XX.trans E5).trans (hE'.trans X6)).put (by omega) _,by show _=Value.tuple #[KN (pickI l x l.length 0),chV t,KI 0];rw[hpk];rfl⟩
end Go.Id

namespace Go.Id
open Go
def ShLs (h:IH) (v:Value) (ll:List (List (Nat×Nat))):Prop:=∃vs:List Value,SlOf h 1 v ll.length vs∧ll.length<1152921504606846976 ∧ ∀(i:Nat) (x:List (Nat×Nat)),ll[i]?=some x → ∃w,vs[i]?=some w∧ShSl h w x
theorem ShLs.keep {h h':IH} {v:Value} {ll:List (List (Nat×Nat))} (s:ShLs h v ll) (e:Keep h h'):ShLs h' v ll:=by
 obtain⟨vs,a,b,c⟩:=s
 refine⟨vs,a.keep e,b,fun i x hx=>?_⟩
 obtain⟨w,h1,h2⟩:=c i x hx
 exact⟨w,h1,h2.keep e⟩
theorem ShLs.at {h h':IH} {v:Value} {ll:List (List (Nat×Nat))} (s:ShLs h v ll) (e:Keep h h') {i:Nat} {x:List (Nat×Nat)} (hx:ll[i]?=some x) :
  ∃w,load Proofs.Tryz.prog h' 82 (elemAddr v i)=some w∧ShSl h' w x ∧ ∀k:IntKind,indexAddr Proofs.Tryz.prog 54 v (.int k (i:Int))=some (elemAddr v i):=by
 obtain⟨vs,a,b,c⟩:=s
 obtain⟨w,h1,h2⟩:=c i x hx
 have hi:=(List.getElem?_eq_some_iff.1 hx).1
 refine⟨w,?_,h2.keep e,fun k=>by rw[a.idx es54 hi,Nat.mul_one]⟩
 rw[a.ld e (by rw[a.2.1];omega) ag82]
 exact h1
theorem ShLs.co {h:IH} {v:Value} {ll:List (List (Nat×Nat))} (s:ShLs h v ll):v.cells = #[v]∧cellOK v=true ∧ ∀h',lenB Proofs.Tryz.prog h' 54 v=some (.int .i64 ll.length):=by
 obtain⟨vs,a,_⟩:=s
 exact⟨a.cells,a.cok,fun h'=>a.len sl54 h'⟩
theorem ShSl.co {h:IH} {v:Value} {l:List (Nat×Nat)} (s:ShSl h v l):v.cells = #[v]∧cellOK v=true:=⟨s.1.cells,s.1.cok⟩
end Go.Id

namespace Go.Id
open Go
open Go.Proofs.Tryz (prog)
open Nat (reduceAdd reduceEqDiff reduceLeDiff)
set_option maxHeartbeats 16000000
def badS (p:Nat×Nat):Prop:=¬okS p.1 p.2∨wdI p.1<0
def rowOk (l:List (Nat×Nat)):Prop:=(∀p∈l,¬badS p)∧qsum (l.map rOf)=1
def kerOk (ll:List (List (Nat×Nat))):Prop:=1≤ll.length∧ll.length≤60 ∧ ∀l∈ll,l.length=ll.length∧rowOk l
theorem notBad {p:Nat×Nat} (h : ¬badS p):okS p.1 p.2∧0≤wdI p.1:=by
 unfold badS at h
 refine⟨Classical.byContradiction fun hn=>h (.inl hn),?_⟩
 have : ¬wdI p.1<0:=fun hn=>h (.inr hn)
 omega
open Classical in
theorem even1_ok {h:IH} {p:Nat×Nat} (h1:p.1<W8) (h2:p.2<W8) :
  WV prog (.func (.func 213) #[] #[]) [shV p.1 p.2] h fun r h'=>Ext h h'∧r=.bool (decide (badS p)):=by
 have E1:Ext h (h.new (.cells (shC p.1 p.2) 0 none)):=(Ext.refl h).new _
 have g1:(h.new (.cells (shC p.1 p.2) 0 none)).ext.get h.n=some (.cells (shC p.1 p.2) 0 none):=by simp (disch:=try exact dx) only[get_new_same]
 refine enter (nt:=13) (rs:=[.tmp 2]) Proofs.Tryz.func213 rfl rfl rfl (by simp) ?_
 simp -dsimp (maxSteps:=1000000) (disch:=try exact dx) only[wpS,reduceEqDiff,reduceLeDiff,ld48,shV_cells,shC_len,sh_take]
 refine call (shcheck_ok p.1 p.2 h1 h2) ?_
 rintro _ v1 ⟨X1,rfl⟩
 have m1:=X1.n
 simp only[new_n] at m1
 by_cases ok:okS p.1 p.2
 case neg =>
  rw[if_neg ok,decide_eq_true (show badS p from .inl ok)]
  simp -dsimp (maxSteps:=1000000) (disch:=try exact dx) only[wpS,wpT,reduceEqDiff]
  exact E1.trans X1
 rw[if_pos ok]
 simp -dsimp (maxSteps:=1000000) (disch:=try exact dx) only[wpS,wpT,reduceEqDiff,reduceLeDiff,ld48,row_of (X1.kept (by simp) g1),shC_len,sh_take]
 refine call (shread_ok p.1 p.2 h1 h2) ?_
 rintro _ v2 ⟨X2,a,s,b,t,rfl,q1,q2⟩
 simp -dsimp (maxSteps:=1000000) (disch:=try exact dx) only[wpS,wpT,reduceEqDiff,fp169_0]
 refine call (pside_ok q1) ?_
 rintro _ v3 ⟨X3,rfl⟩
 have XX:=((E1.trans X1).trans X2).trans X3
 by_cases c:wdI p.1<0
 ·rw[if_pos c,decide_eq_true (show badS p from .inr c)]
  simp -dsimp (maxSteps:=1000000) (disch:=try exact dx) only[wpS,wpT,reduceEqDiff]
  exact XX
 ·rw[if_neg c,decide_eq_false (show ¬badS p from fun h=>h.elim (fun h=>h ok) c)]
  obtain⟨z,hz,hz0⟩ : ∃z:Int,(if wdI p.1=0 then (0:Int) else 1)=z∧0≤z:=⟨_,rfl,by split<;>omega⟩
  rw[hz]
  simp -dsimp (maxSteps:=1000000) (disch:=try exact dx) only[wpS,wpT,reduceEqDiff]
  exact XX
open Classical in
theorem shcontains_ok {h:IH} {v F:Value} {l:List (Nat×Nat)} (hv:ShSl h v l) (B:Nat×Nat→Prop) (hF : ∀h1 p,Ext h h1→p∈l→WV prog F [shV p.1 p.2] h1 fun r h2=>Ext h1 h2∧r=.bool (decide (B p))) :
  WV prog (.func (.func 212) #[] #[]) [v,F] h fun r h'=>Ext h h'∧r=.bool (decide (∃p∈l,B p)):=by
 have hlb:=hv.2.1
 have hidx:WV prog (.func (.func 251) #[] #[]) [v,F] h fun r h'=>Ext h h' ∧ ∃c:Int,r=KI c∧(0≤c ↔ ∃p∈l,B p):=by
  refine enter (nt:=19) (rs:=[.tmp 4]) Proofs.Tryz.func251 rfl rfl rfl (by simp) ?_
  simp -dsimp (maxSteps:=1000000) (disch:=try exact dx) only[wpS,reduceEqDiff,reduceAdd,hv.1.len sl82]
  refine loop (fun m fr h1 => ∃i:Nat,i+m=l.length∧Ext h h1∧(∀(j:Nat) p,j<i→l[j]?=some p → ¬B p)∧fget fr 0=some v∧fget fr 1=some F∧fget fr 7=some (KN l.length)∧fget fr 8=some (KN i)) l.length
   ⟨0,by omega,Ext.refl _,fun j p hj=>by omega,by simp,by simp,by simp,by simp⟩ ?_
  rintro m fr h1 ⟨i,him,hE,hno,f0,f1,f7,f8⟩
  simp -dsimp (maxSteps:=1000000) (disch:=try exact dx) only[wpS,f7,f8]
  refine bq_intro ?_ ?_<;>intro hc<;>simp only[decide_eq_true_eq,decide_eq_false_iff_not] at hc
  ·have hi:i<l.length:=by omega
   obtain⟨p,hp⟩ : ∃p,l[i]?=some p:=⟨_,List.getElem?_eq_getElem hi⟩
   have hpm:=List.mem_of_getElem? hp
   simp -dsimp (maxSteps:=1000000) (disch:=try exact dx) only[wpS,wpT,reduceEqDiff,f0,f1,f8,hv.1.idx es82 hi,hv.ld hE.keep hp]
   refine call (hF h1 p hE hpm) ?_
   rintro _ h2 ⟨hE2,rfl⟩
   have E2:=hE.trans hE2
   by_cases hk:B p
   ·rw[decide_eq_true hk]
    simp -dsimp (maxSteps:=1000000) (disch:=try exact dx) only[wpS,reduceEqDiff]
    exact⟨E2,(i:Int),rfl,fun _=>⟨p,hpm,hk⟩,fun _=>by omega⟩
   ·rw[decide_eq_false hk]
    simp -dsimp (maxSteps:=1000000) (disch:=try exact dx) only[wpS,reduceEqDiff,f8]
    refine⟨m - 1,by omega,i+1,by omega,E2,?_,by simp[f0],by simp[f1],by simp[f7],by simp⟩
    intro j q hj hq
    by_cases hji:j=i
    ·subst hji;rw[hp] at hq;cases hq;exact hk
    ·exact hno j q (by omega) hq
  ·simp -dsimp (maxSteps:=1000000) (disch:=try exact dx) only[wpS,wpT]
   refine⟨hE,-1,rfl,fun h=>by omega,fun⟨p,hp,hb⟩=>?_⟩
   obtain⟨j,hj⟩:=List.getElem?_of_mem hp
   have:=(List.getElem?_eq_some_iff.1 hj).1
   exact absurd hb (hno j p (by omega) hj)
 refine enter (nt:=9) (rs:=[.tmp 4]) Proofs.Tryz.func212 rfl rfl rfl (by simp) ?_
 simp -dsimp (maxSteps:=1000000) (disch:=try exact dx) only[wpS,reduceEqDiff,reduceAdd]
 refine call hidx ?_
 rintro _ h1 ⟨hE,c,rfl,hc⟩
 simp -dsimp (maxSteps:=1000000) (disch:=try exact dx) only[wpS,reduceEqDiff]
 exact⟨hE,by rw[decide_eq_decide.2 hc]⟩
theorem ktotal_ok {h:IH} {v:Value} {l:List (Nat×Nat)} (hv:ShSl h v l) (ho : ∀p∈l,okS p.1 p.2) (hl:l.length≤1000) :
  WV prog (.func (.func 214) #[] #[]) [v,(.func (.func 114) #[] #[])] h fun r h'=>Ext h h'∧PRat h' r (qsum (l.map rOf))∧QB (l.length*(512+1)) (qsum (l.map rOf)):=by
 have hq0 : ∀q∈l.map rOf,QB 512 q:=by
  intro q hq
  obtain⟨p,hp,rfl⟩:=List.mem_map.1 hq
  exact qb512 (hv.2.2 p hp).1 (hv.2.2 p hp).2 (ho p hp)
 have hQ : ∀i,i≤l.length→QB (i*(512+1)) (qsum ((l.take i).map rOf)):=by
  intro i hi
  have:=QB.qsum (k:=512) hq0 i (by simpa using hi)
  rwa [←List.map_take] at this
 refine enter (nt:=22) (rs:=[.cell 4 169]) Proofs.Tryz.func214 rfl rfl rfl (by simp) ?_
 simp -dsimp (maxSteps:=1000000) (disch:=try exact dx) only[wpS,reduceAdd,zc169]
 have E1:Ext h (h.new (.cells ZR 0 none)):=(Ext.refl h).new _
 have g1:(h.new (.cells ZR 0 none)).ext.get h.n=some (.cells ZR 0 none):=by simp (disch:=try exact dx) only[get_new_same]
 refine call (rfrom_ok 0 ⟨by omega,by omega⟩) ?_
 rintro z h1 ⟨X1,p1⟩
 have m1:=X1.n
 simp only[new_n] at m1
 obtain⟨a3,s3,b3,t3,rfl,_,_,d1,o1,d2,o2,o3,o4⟩:=p1.parts
 have kg:=X1.kept (by simp) g1
 simp -dsimp (maxSteps:=1000000) (disch:=try exact dx) only[wpS,wpT,reduceEqDiff,reduceLeDiff,reduceAdd,zc169,st169,o1,o2,o3,o4,hv.1.len sl82]
 have Ex2:Ext h1 ((h1.new (.cells ZR 0 none)).put h1.n (.cells [a3,s3,b3,t3] 0 none)):=((Ext.refl h1).new _).put (Nat.le_refl _) _
 refine loop (fun m fr hh => ∃(i:Nat) (a s b t:Value),i+m=l.length∧Ext h hh∧h1.n<hh.n∧hh.ext.get h.n=some (.cells ZR 0 none)∧hh.ext.get h1.n=some (.cells [a,s,b,t] 0 none)∧PRat hh (.agg #[a,s,b,t]) (qsum ((l.take i).map rOf)) ∧
   fget fr 1=some (.func (.func 114) #[] #[])∧fget fr 4=some (ptr (2*h.n) 0)∧fget fr 5=some (ptr (2*h1.n) 0)∧fget fr 9=some v∧fget fr 10=some (KN l.length)∧fget fr 11=some (KN i)) l.length
  ⟨0,a3,s3,b3,t3,by omega,(E1.trans X1).trans Ex2,by simp,by simp (disch:=try exact dx) only[get_new_old,get_put_old];exact kg,by simp (disch:=try exact dx) only[get_put_same],p1.keep Ex2.keep,by simp,by simp,by simp,by simp,by simp,by simp⟩ ?_
 clear p1 kg Ex2
 rintro m fr hh ⟨i,a,s,b,t,him,hE,hn,hg,hg5,hp,f1,f4,f5,f9,f10,f11⟩
 simp -dsimp (maxSteps:=1000000) (disch:=try exact dx) only[wpS,reduceAdd,f10,f11]
 refine bq_intro ?_ ?_<;>intro hc<;>simp only[decide_eq_true_eq,decide_eq_false_iff_not] at hc
 ·have hi:i<l.length:=by omega
  obtain⟨q,hq⟩ : ∃q,l[i]?=some q:=⟨_,List.getElem?_eq_getElem hi⟩
  have hqm:=List.mem_of_getElem? hq
  obtain⟨w1,w2⟩:=hv.2.2 q hqm
  simp -dsimp (maxSteps:=1000000) (disch:=try exact dx) only[wpS,wpT,reduceEqDiff,reduceLeDiff,reduceAdd,zc48,st48,f9,f11,hv.1.idx es82 hi,hv.ld hE.keep hq,shV_cells,shC_len,shC_all,sh_sp3]
  obtain⟨H0,hH0⟩ : ∃H0,H0=(hh.new (.cells Z16 0 none)).put hh.n (.cells (shC q.1 q.2) 0 none):=⟨_,rfl⟩
  have e0:Ext hh H0:=by rw[hH0];exact((Ext.refl hh).new _).put (Nat.le_refl _) _
  have n0:H0.n=hh.n+1:=by rw[hH0];rfl
  have gx:H0.ext.get hh.n=some (.cells (shC q.1 q.2) 0 none):=by rw[hH0];simp (disch:=try exact dx) only[get_put_same]
  have hnn:=hE.n
  have gs:=e0.kept hn hg5
  have gz:=e0.kept (by omega) hg
  rw[←hH0]
  clear hH0
  have X0:=Ext.refl H0
  obtain⟨_,_,L1⟩:=pl4 gs
  refine drawn [(0,[4])] (by kernel_rfl) (by kernel_rfl) rfl ?_
  simp -dsimp (maxSteps:=1000000) (disch:=try exact dx) only[wpS,wpT,reduceEqDiff,reduceLeDiff,reduceAdd,ld48,ld169,f1,f5,row_of gs,row_of gx,tk4',shC_len,sh_take]
  refine call (shread_ok q.1 q.2 w1 w2) ?_
  rintro r h2 ⟨X2,p2⟩
  have m2:=X2.n
  have p2:=p2.rat (ho q hqm)
  simp -dsimp (maxSteps:=1000000) (disch:=try exact dx) only[wpS,reduceEqDiff]
  have hkb:i*(512+1)+512+1<16000000:=by omega
  refine call (rplus_ok (hp.keep (e0.trans X2).keep) p2 (hQ i (by omega)) (qb512 w1 w2 (ho q hqm)) hkb) ?_
  rintro r3 h3 ⟨hE3,p3⟩
  have m3:=hE3.n
  have X3:=X2.trans hE3
  have eT:qsum ((l.take i).map rOf)+rOf (q.1,q.2)=qsum ((l.take (i+1)).map rOf):=by rw[take_snoc hq,List.map_append,List.map_cons,List.map_nil,qsum_snoc]
  rw[eT] at p3
  obtain⟨a4,s4,b4,t4,rfl,_,_,_,o1,_,o2,o3,o4⟩:=p3.parts
  have k5:=X3.kept (by omega) gs
  have kz:=X3.kept (by omega) gz
  simp -dsimp (maxSteps:=1000000) (disch:=try exact dx) only[wpS,wpT,reduceEqDiff,reduceLeDiff,reduceAdd,st169,f5,k5,o1,o2,o3,o4]
  refine⟨wpSteady_one rfl rfl rfl rfl (steady_ext (H0:=H0) (b:=2*h1.n) (o:=0) f5 (by omega) (by assumption) (by assumption) L1),?_⟩
  simp -dsimp (maxSteps:=1000000) (disch:=try exact dx) only[wpS,wpT,reduceEqDiff,reduceAdd,f11]
  refine⟨m - 1,by omega,i+1,a4,s4,b4,t4,by omega,((hE.trans e0).trans X3).put (by omega) _,by simp only[put_n];omega,by simp (disch:=try exact dx) only[get_put_old];exact kz,get_put_same _ _ rfl,p3.keep ((Keep.refl _).put k5 _),by simp[f1],by simp[f4],by simp[f5],by simp[f9],by simp[f10],by simp⟩
 ·obtain rfl:i=l.length:=by omega
  have hQl:=hQ l.length (Nat.le_refl _)
  rw[List.take_length] at hp hQl
  obtain⟨_,_,_,_,hhe,_,_,_,o1,_,o2,o3,o4⟩:=hp.parts
  cases hhe
  simp -dsimp (maxSteps:=1000000) (disch:=try exact dx) only[wpS,wpT,reduceEqDiff,reduceLeDiff,reduceAdd,st169,ld169,f4,f5,row_of hg5,hg,tk4',o1,o2,o3,o4]
  exact⟨hE.put (Nat.le_refl _) _,hp.keep ((Keep.refl _).put hg _),hQl⟩
open Classical in
theorem even_ok {h:IH} {v:Value} {l:List (Nat×Nat)} (hv:ShSl h v l) (hl:l.length≤1000) :
  WV prog (.func (.func 157) #[] #[]) [v] h fun r h'=>Ext h h'∧r=.bool (decide (rowOk l)):=by
 refine enter (nt:=10) (rs:=[.tmp 2]) Proofs.Tryz.func157 rfl rfl rfl (by simp) ?_
 simp -dsimp (maxSteps:=1000000) (disch:=try exact dx) only[wpS,reduceEqDiff]
 refine call (shcontains_ok hv badS (fun h1 p _ hp=>even1_ok (hv.2.2 p hp).1 (hv.2.2 p hp).2)) ?_
 rintro _ h1 ⟨X1,rfl⟩
 by_cases c : ∃p∈l,badS p
 ·rw[decide_eq_true c,decide_eq_false (show ¬rowOk l from fun⟨h1,_⟩=>by obtain⟨p,hp,hb⟩:=c;exact h1 p hp hb)]
  simp -dsimp (maxSteps:=1000000) (disch:=try exact dx) only[wpS,wpT,reduceEqDiff]
  exact X1
 rw[decide_eq_false c]
 have hno : ∀p∈l,¬badS p:=fun p hp hb=>c ⟨p,hp,hb⟩
 simp -dsimp (maxSteps:=1000000) (disch:=try exact dx) only[wpS,reduceEqDiff]
 refine call (ktotal_ok (hv.keep X1.keep) (fun p hp=>(notBad (hno p hp)).1) hl) ?_
 rintro r2 h2 ⟨X2,p2,q2⟩
 simp -dsimp (maxSteps:=1000000) (disch:=try exact dx) only[wpS]
 refine call (rfrom_ok 1 ⟨by omega,by omega⟩) ?_
 rintro r3 h3 ⟨X3,p3⟩
 simp -dsimp (maxSteps:=1000000) (disch:=try exact dx) only[wpS,reduceEqDiff]
 refine call (rcmp_ok (p2.keep X3.keep) p3 q2 (QB.int (k:=64) (by decide)) (by omega)) ?_
 rintro _ h4 ⟨X4,rfl⟩
 have XX:=((X1.trans X2).trans X3).trans X4
 have e1:((1:Int):Rat)=1:=rfl
 rw[e1]
 by_cases c1:qsum (l.map rOf)=1
 ·rw[decide_eq_true (show rowOk l from⟨hno,c1⟩),c1,if_neg (by exact Rat.lt_irrefl),if_pos rfl]
  simp -dsimp (maxSteps:=1000000) (disch:=try exact dx) only[wpS,wpT,reduceEqDiff]
  exact XX
 ·rw[decide_eq_false (show ¬rowOk l from fun h=>c1 h.2)]
  obtain⟨z,hz,hz0⟩ : ∃z:Int,(if qsum (l.map rOf)<1 then (-1:Int) else if qsum (l.map rOf)=1 then 0 else 1)=z∧z≠0:=⟨_,rfl,by split<;>simp[]⟩
  rw[hz]
  have d:(z == 0)=false:=by simpa using hz0
  simp -dsimp (maxSteps:=1000000) (disch:=try exact dx) only[wpS,wpT,reduceEqDiff,d]
  exact XX
open Classical in
noncomputable def kerE (ll:List (List (Nat×Nat))):Int:=if kerOk ll then 0 else 330
open Classical in
theorem kcheck_ok {h:IH} {v:Value} {ll:List (List (Nat×Nat))} (hv:ShLs h v ll) :
  WV prog (.func (.func 78) #[] #[]) [v] h fun r h'=>Ext h h'∧r=KI (kerE ll):=by
 obtain⟨_,_,hlen⟩:=hv.co
 have hlb:=hv.choose_spec.2.1
 unfold kerE
 refine enter (nt:=30) (rs:=[.tmp 2]) Proofs.Tryz.func78 rfl rfl rfl (by simp) ?_
 by_cases a1:ll.length<1
 ·rw[if_neg (fun hk=>by have:=hk.1;omega)]
  simp -dsimp (maxSteps:=1000000) (disch:=try exact dx) only[wpS,wpT,reduceEqDiff,hlen]
  exact Ext.refl _
 by_cases a2:60<ll.length
 ·rw[if_neg (fun hk=>by have:=hk.2.1;omega)]
  simp -dsimp (maxSteps:=1000000) (disch:=try exact dx) only[wpS,wpT,reduceEqDiff,hlen]
  exact Ext.refl _
 simp -dsimp (maxSteps:=1000000) (disch:=try exact dx) only[wpS,wpT,reduceEqDiff,hlen]
 refine loop (fun m fr h1 => ∃i:Nat,i+m=ll.length∧Ext h h1∧(∀(j:Nat) x,j<i→ll[j]?=some x→x.length=ll.length∧rowOk x)∧fget fr 0=some v∧fget fr 13=some v∧fget fr 14=some (KN ll.length)∧fget fr 15=some (KN i)) ll.length
  ⟨0,by omega,Ext.refl _,fun j p hj=>by omega,by simp,by simp,by simp,by simp⟩ ?_
 rintro m fr h1 ⟨i,him,hE,hok,f0,f13,f14,f15⟩
 simp -dsimp (maxSteps:=1000000) (disch:=try exact dx) only[wpS,f14,f15]
 refine bq_intro ?_ ?_<;>intro hc<;>simp only[decide_eq_true_eq,decide_eq_false_iff_not] at hc
 ·have hi:i<ll.length:=by omega
  obtain⟨x,hx⟩ : ∃x,ll[i]?=some x:=⟨_,List.getElem?_eq_getElem hi⟩
  have hxm:=List.mem_of_getElem? hx
  obtain⟨w,l1,l2,l3⟩:=hv.at hE.keep hx
  have lx:=l2.2.1
  by_cases cl:x.length=ll.length
  case neg =>
   rw[if_neg (fun hk=>cl (hk.2.2 x hxm).1)]
   have d:(((x.length:Nat):Int) != ((ll.length:Nat):Int))=true:=by simpa using fun h=>cl (by omega)
   simp -dsimp (maxSteps:=1000000) (disch:=try exact dx) only[wpS,wpT,reduceEqDiff,f0,f13,f15,l1,l3,l2.1.len sl82,hlen,d]
   exact hE
  have d:(((x.length:Nat):Int) != ((ll.length:Nat):Int))=false:=by simp[cl]
  simp -dsimp (maxSteps:=1000000) (disch:=try exact dx) only[wpS,wpT,reduceEqDiff,f0,f13,f15,l1,l3,l2.1.len sl82,hlen,d]
  refine call (even_ok l2 (by omega)) ?_
  rintro _ h2 ⟨X2,rfl⟩
  have E2:=hE.trans X2
  by_cases cr:rowOk x
  ·rw[decide_eq_true cr]
   simp -dsimp (maxSteps:=1000000) (disch:=try exact dx) only[wpS,wpT,reduceEqDiff,f15]
   refine⟨m - 1,by omega,i+1,by omega,E2,?_,by simp[f0],by simp[f13],by simp[f14],by simp⟩
   intro j q hj hq
   by_cases hji:j=i
   ·subst hji;rw[hx] at hq;cases hq;exact⟨cl,cr⟩
   ·exact hok j q (by omega) hq
  ·rw[decide_eq_false cr,if_neg (fun hk=>cr (hk.2.2 x hxm).2)]
   simp -dsimp (maxSteps:=1000000) (disch:=try exact dx) only[wpS,wpT,reduceEqDiff]
   exact E2
 ·rw[if_pos (show kerOk ll from⟨by omega,by omega,fun x hx=>by
   obtain⟨j,hj⟩:=List.getElem?_of_mem hx
   exact hok j x (by have:=(List.getElem?_eq_some_iff.1 hj).1;omega) hj⟩)]
  simp -dsimp (maxSteps:=1000000) (disch:=try exact dx) only[wpS,wpT]
  exact hE
end Go.Id

namespace Go.Id
open Go
end Go.Id

namespace Go.Id
open Go
end Go.Id

namespace Go.Id
open Go
theorem Acc.setN {h:IH} {n0 sz:Nat} {v:Value} {n:Nat} {cs:List Value} (a:Acc h n0 sz v n cs) {P:Program} {t:TypeId} (hT:sizeT P t=some sz) {i:Nat} (hi:i<n) {x:Value} {xs:List Value} (hx:x.cells.toList=xs) (hxl:xs.length=sz) (hc:xs.all cellOK=true) {h0':IH} (e0:Ext h0' h) (hn0:h0'.n≤n0) :
  ∃h',store P h t (elemAddr v (i*sz)) x=some h'∧Acc h' n0 sz v n (IH.splice cs (i*sz) xs)∧Ext h0' h'∧h'.n=h.n:=by
 obtain⟨hz,hl,⟨rfl,rfl⟩|⟨k,fam,rfl,hn,h1,h2,h3,h4⟩⟩:=a
 ·omega
 ·have hle:i*sz+sz≤cs.length:=by
   rw[hl,←Nat.succ_mul];exact Nat.mul_le_mul_right _ hi
  have hsl:(IH.splice cs (i*sz) xs).length=n*sz:=by
   simp only[IH.splice,List.length_append,List.length_take,List.length_drop]
   omega
  have k2:2*k / 2=k:=by omega
  have k1:(2*k % 2 == 1)=false:=by simp
  have hsx:x.cells.size=sz:=by rw[←Array.length_toList,hx,hxl]
  have hst:store P h t (elemAddr (.slice (some ⟨2*k,0,none⟩) n (2*n)) (i*sz)) x=h.wr (2*k) (i*sz) xs:=by
   simp only[elemAddr,Nat.zero_add,store,asAddr,ptr,hT,hx,hsx,hc,beq_self_eq_true,Bool.and_self,cond_true]
  have hle:Nat.ble (i*sz+xs.length) cs.length=true:=by rw[Nat.ble_eq,hxl];exact hle
  rw[hst]
  cases fam with
  | none =>
   refine⟨h.put k (.cells (IH.splice cs (i*sz) xs) sz none),?_,⟨hz,hsl,.inr ⟨k,none,rfl,hn,h1,h2,get_put_same _ _ rfl,trivial⟩⟩,e0.put (by omega) _,rfl⟩
   ·simp only[IH.wr,k1,k2,h3,hle,cond_true,cond_false];rfl
  | some f =>
   obtain⟨a1,a2,rest,a3,a4⟩:=h4
   refine⟨{ h with ext:=(IH.killAll h.ext (((k :: rest).filter (· != k)))).set k (.cells (IH.splice cs (i*sz) xs) sz none) },?_,⟨hz,hsl,.inr ⟨k,none,rfl,hn,h1,h2,?_,trivial⟩⟩,⟨e0.n,e0.base,fun j hj=>?_,e0.fams⟩,rfl⟩
   ·simp only[IH.wr,k1,k2,h3,hle,cond_true,cond_false,a3]
   ·simp[Tr.get_set]
   ·have hjk:j≠k:=by omega
    rw[Tr.get_set,if_neg hjk,get_killAll,if_neg]
    ·exact e0.get j hj
    ·intro hm
     simp only[List.mem_filter,List.mem_cons,bne_iff_ne,ne_eq] at hm
     rcases hm with⟨rfl|hm,hne⟩
     ·exact hne rfl
     ·have:=a4 j hm;omega
end Go.Id
