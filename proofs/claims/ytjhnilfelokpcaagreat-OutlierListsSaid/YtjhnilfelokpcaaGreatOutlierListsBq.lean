/-
  Contracts: reference 38: Extremity. Contracts: outlier.Passes.
-/
import Derived.Test.YtjhnilfelokpcaaGreatOutlierListsAr
import Derived.Test.YtjhnilfelokpcaaGreatOutlierListsBp
import Derived.Test.YtjhnilfelokpcaaGreatOutlierListsBh
import Derived.Test.YtjhnilfelokpcaaGreatOutlierListsBi
set_option linter.unusedVariables false
set_option linter.unusedSimpArgs false
set_option linter.defProp false
set_option linter.deprecated false
namespace Go.Id
open Go
open Nat (reduceAdd reduceEqDiff reduceLeDiff)
set_option maxHeartbeats 16000000
theorem rfExtremity_ok {h:IH} {v:Value} {l:List (Nat×Nat)} {j:Int} (hv:ShSl h v l) (hj:In64 j) :
  WV Proofs.Tryz.prog (.func (.func 45) #[] #[]) [v,KI j] h fun r h'=>Ext h h'∧r=extRes l j:=by
 have her:=chErr_range l
 refine enter (nt:=32) (rs:=[.cell 4 48,.tmp 5]) Proofs.Tryz.func45 rfl rfl rfl (by simp) ?_
 simp -dsimp (maxSteps:=1000000) (disch:=try exact dx) only[wpS,reduceEqDiff,reduceAdd,zc48]
 have E1:Ext h (h.new (.cells Z16 0 none)):=(Ext.refl h).new _
 have g1:(h.new (.cells Z16 0 none)).ext.get h.n=some (.cells Z16 0 none):=by simp (disch:=try exact dx) only[get_new_same]
 refine call (rfStuck_ok (hv.keep E1.keep)) ?_
 rintro _ h1 ⟨X1,rfl⟩
 have m1:=X1.n
 simp only[new_n] at m1
 have k1:=X1.kept (by simp) g1
 unfold stuckRes
 by_cases hc:chErr l=0
 case neg =>
  have hp:placeErr l j=chErr l:=by unfold placeErr;rw[if_neg hc]
  have he':(chErr l == 0)=false:=by simpa using hc
  unfold extRes
  rw[if_neg hc,hp,if_neg hc]
  simp -dsimp (maxSteps:=1000000) (disch:=try exact dx) only[wpS,wpT,reduceEqDiff,reduceLeDiff,reduceAdd,bv48,st48,ld48,k1,sh_tz]
  exact⟨(E1.trans X1).put (by omega) _,by rw[sh_zeroV]⟩
 rw[if_pos hc]
 have hpe:placeErr l j=if j<0∨(l.length:Int)≤j then 2 else 0:=by unfold placeErr;rw[if_pos hc]
 by_cases h0:j<0
 ·have d:decide (j<0)=true:=decide_eq_true h0
  rw[if_pos (.inl h0)] at hpe
  unfold extRes
  rw[hpe,if_neg (by decide)]
  simp -dsimp (maxSteps:=1000000) (disch:=try exact dx) only[wpS,wpT,reduceEqDiff,reduceLeDiff,reduceAdd,bv48,st48,ld48,d,k1,sh_tz]
  exact⟨(E1.trans X1).put (by omega) _,by rw[sh_zeroV]⟩
 have d:decide (j<0)=false:=decide_eq_false h0
 by_cases h2:(l.length:Int)≤j
 ·have d2:decide ((l.length:Int)≤j)=true:=decide_eq_true h2
  rw[if_pos (.inr h2)] at hpe
  unfold extRes
  rw[hpe,if_neg (by decide)]
  simp -dsimp (maxSteps:=1000000) (disch:=try exact dx) only[wpS,wpT,reduceEqDiff,reduceLeDiff,reduceAdd,bv48,st48,ld48,d,d2,hv.1.len sl82,k1,sh_tz]
  exact⟨(E1.trans X1).put (by omega) _,by rw[sh_zeroV]⟩
 have d2:decide ((l.length:Int)≤j)=false:=decide_eq_false h2
 rw[if_neg (by omega)] at hpe
 obtain⟨e0,e1,e2,e3,e4⟩:=place_at hpe
 unfold extRes
 rw[if_pos hpe]
 generalize j.toNat=k at e3 e4 ⊢
 subst e3
 simp -dsimp (maxSteps:=1000000) (disch:=try exact dx) only[wpS,wpT,reduceEqDiff,d,d2,hv.1.len sl82]
 refine call (extreme_ok (hv.keep (E1.trans X1).keep) e2 e1 e4) ?_
 rintro r3 h3 ⟨X3,p3⟩
 have m3:=X3.n
 simp -dsimp (maxSteps:=1000000) (disch:=try exact dx) only[wpS,reduceEqDiff]
 refine call (refout_ok p3) ?_
 rintro _ h4 ⟨X4,rfl⟩
 have m4:=X4.n
 have kg:=X4.kept (by omega) (X3.kept (by omega) k1)
 obtain⟨n,d,e,hf⟩:=toldV_form (extR l k)
 have hf':=hf
 unfold toldV at hf'
 rw[hf',hf]
 simp -dsimp (maxSteps:=1000000) (disch:=try exact dx) only[wpS,wpT,reduceEqDiff,reduceLeDiff,reduceAdd,st48,ld48,kg,shV_cells,shC_len,shC_all,sh_sp3,sh_take]
 exact⟨(((E1.trans X1).trans X3).trans X4).put (by omega) _,rfl⟩
end Go.Id

namespace Go.Id
open Go
open Nat (reduceAdd reduceEqDiff reduceLeDiff)
set_option maxHeartbeats 16000000
def passB (x p:Rat) (mid:Bool):Bool:=if mid=true then decide (x≤p) else decide (x+x≤p*p)
open Classical in
noncomputable def passRes (l:List (Nat×Nat)) (p:Nat×Nat) (mid:Bool) (j:Int):Value :=
 if chErr l≠0 then .tuple #[.bool false,KI (chErr l)] else if ¬okS p.1 p.2 then .tuple #[.bool false,KI 20]
 else if placeErr l j≠0∨rOf p≤0∨1<rOf p then .tuple #[.bool false,KI 2] else .tuple #[.bool (passB (extR l j.toNat) (rOf p) mid),KI 0]
theorem ext_qb {l:List (Nat×Nat)} {k:Nat} (hl:l.length≤200) (hk:k<l.length):QB 128 (extR l k):=by
 have ul:=upTo_le l k l.length
 refine QB.div (a:=64) (b:=64) (QB.int (by omega)) (QB.int (by omega)) ?_
 intro h0
 have:((l.length:Nat):Int)=0:=Rat.intCast_inj.1 h0
 omega
theorem cmp_gt (x y:Rat) : ∃z:Int,(if x<y then (-1:Int) else if x=y then 0 else 1)=z∧(0<z↔y<x):=by
 obtain⟨z,h1,h2⟩:=cmp_le x y
 exact⟨z,h1,by rw[←Rat.not_le,←h2];omega⟩
theorem side_le (q:Rat) : ∃z:Int,(if q.num<0 then (-1:Int) else if q.num=0 then 0 else 1)=z∧(z≤0↔q≤0):=by
 refine⟨_,rfl,?_⟩
 have hle:q≤0↔q.num≤0:=by rw[Rat.le_iff];simp
 rw[hle]
 split
 ·omega
 ·split<;>omega
theorem olPasses_ok {h:IH} {v:Value} {l:List (Nat×Nat)} {p:Nat×Nat} {mid:Bool} {j:Int} (hv:ShSl h v l) (hp:p.1<W8∧p.2<W8) (hj:In64 j) :
  WV Proofs.Tryz.prog (.func (.func 40) #[] #[]) [v,shV p.1 p.2,.bool mid,KI j] h fun r h'=>Ext h h'∧r=passRes l p mid j:=by
 have her:=chErr_range l
 have hpr:=placeErr_range l j
 refine enter (nt:=59) (rs:=[.tmp 8,.tmp 9]) Proofs.Tryz.func40 rfl rfl rfl (by simp) ?_
 simp -dsimp (maxSteps:=1000000) (disch:=try exact dx) only[wpS,reduceEqDiff,reduceAdd,shV_cells]
 obtain⟨H0,hH0⟩ : ∃H0,H0=h.new (.cells (shC p.1 p.2) 0 none):=⟨_,rfl⟩
 have E0:Ext h H0:=by rw[hH0];exact(Ext.refl h).new _
 have n0:H0.n=h.n+1:=by rw[hH0];rfl
 have g0:H0.ext.get h.n=some (.cells (shC p.1 p.2) 0 none):=by rw[hH0];simp (disch:=try exact dx) only[get_new_same]
 rw[←hH0]
 clear hH0
 refine call (dgStuck_ok (hv.keep E0.keep)) ?_
 rintro _ h1 ⟨X1,rfl⟩
 have m1:=X1.n
 have k1:=X1.kept (by omega) g0
 unfold stuckRes passRes
 by_cases hc:chErr l=0
 case neg =>
  have he':(chErr l == 0)=false:=by simpa using hc
  rw[if_neg hc,if_pos hc]
  simp -dsimp (maxSteps:=1000000) (disch:=try exact dx) only[wpS,wpT,reduceEqDiff]
  exact E0.trans X1
 rw[if_pos hc,if_neg (fun h=>h hc)]
 simp -dsimp (maxSteps:=1000000) (disch:=try exact dx) only[wpS,wpT,reduceEqDiff,reduceLeDiff,ld48,row_of k1,shC_len,sh_take]
 refine call (shcheck_ok p.1 p.2 hp.1 hp.2) ?_
 rintro _ h2 ⟨X2,rfl⟩
 have m2:=X2.n
 have k2:=X2.kept (by omega) k1
 by_cases ok:okS p.1 p.2
 case neg =>
  rw[if_neg ok,if_pos ok]
  simp -dsimp (maxSteps:=1000000) (disch:=try exact dx) only[wpS,wpT,reduceEqDiff]
  exact(E0.trans X1).trans X2
 rw[if_pos ok,if_neg (fun h=>h ok)]
 simp -dsimp (maxSteps:=1000000) (disch:=try exact dx) only[wpS,wpT,reduceEqDiff,reduceLeDiff,ld48,row_of k2,shC_len,sh_take]
 refine call (shread_ok p.1 p.2 hp.1 hp.2) ?_
 rintro _ h3 ⟨X3,p3⟩
 have p3:=pair_rat ok p3
 have m3:=X3.n
 obtain⟨a,s,b,t,rfl,hn1,hd1,d1,o1,d2,o2,o3,o4⟩:=p3.parts
 simp -dsimp (maxSteps:=1000000) (disch:=try exact dx) only[wpS,wpT,reduceEqDiff,reduceLeDiff,reduceAdd,zc169,st169,o1,o2,o3,o4]
 obtain⟨H3,hH3⟩ : ∃H,H=(h3.new (.cells ZR 0 none)).put h3.n (.cells [a,s,b,t] 0 none):=⟨_,rfl⟩
 have e3:Ext h3 H3:=by rw[hH3];exact((Ext.refl h3).new _).put (Nat.le_refl _) _
 have n3:H3.n=h3.n+1:=by rw[hH3];rfl
 have g3:H3.ext.get h3.n=some (.cells [a,s,b,t] 0 none):=by rw[hH3];simp (disch:=try exact dx) only[get_put_same]
 rw[←hH3]
 clear hH3
 have X0:=Ext.refl H3
 have E3:=((E0.trans X1).trans X2).trans (X3.trans e3)
 obtain⟨L1,_,L3⟩:=pl4 g3
 refine drawn [(11,[13])] (by kernel_rfl) (by kernel_rfl) rfl ?_
 simp -dsimp (maxSteps:=1000000) (disch:=try exact dx) only[wpS,reduceEqDiff]
 refine call (place_ok (hv.keep E3.keep) hj) ?_
 rintro _ h4 ⟨X4,rfl⟩
 have m4:=X4.n
 have k4:=X4.kept (by omega) g3
 by_cases c1:placeErr l j=0
 case neg =>
  have he':(placeErr l j == 0)=false:=by simpa using c1
  rw[if_pos (.inl c1)]
  simp -dsimp (maxSteps:=1000000) (disch:=try exact dx) only[wpS,wpT,reduceEqDiff]
  refine⟨by repeat' first|refine wpSteady_c2 ?_ ?_|refine wpSteady_t2 ?_ ?_|exact wpSteady_not rfl rfl rfl|exact wpSteady_one rfl rfl rfl rfl (steady_ext (H0:=H3) rfl (by omega) (by assumption) (by assumption) (by with_reducible assumption)),?_⟩
  simp -dsimp (maxSteps:=1000000) (disch:=try exact dx) only[wpS,wpT,reduceEqDiff,reduceAdd]
  exact E3.trans X4
 simp -dsimp (maxSteps:=1000000) (disch:=try exact dx) only[wpS,wpT,reduceEqDiff,reduceLeDiff,reduceAdd,fa169_0,ld123,c1,row_of k4,tkA]
 refine call (pside_ok (hn1.keep (e3.trans X4).keep)) ?_
 rintro _ h5 ⟨X5,rfl⟩
 have m5:=X5.n
 have X45:=X4.trans X5
 have k5:=X45.kept (by omega) g3
 obtain⟨z,hz,hzl⟩:=side_le (rOf p)
 rw[hz]
 by_cases c2:rOf p≤0
 ·have d2':decide (z≤0)=true:=decide_eq_true (hzl.2 c2)
  rw[if_pos (.inr (.inl c2))]
  simp -dsimp (maxSteps:=1000000) (disch:=try exact dx) only[wpS,wpT,reduceEqDiff,d2']
  refine⟨by repeat' first|refine wpSteady_c2 ?_ ?_|refine wpSteady_t2 ?_ ?_|exact wpSteady_not rfl rfl rfl|exact wpSteady_one rfl rfl rfl rfl (steady_ext (H0:=H3) rfl (by omega) (by assumption) (by assumption) (by with_reducible assumption)),?_⟩
  simp -dsimp (maxSteps:=1000000) (disch:=try exact dx) only[wpS,wpT,reduceEqDiff,reduceAdd]
  exact E3.trans X45
 have d2':decide (z≤0)=false:=decide_eq_false (fun h=>c2 (hzl.1 h))
 simp -dsimp (maxSteps:=1000000) (disch:=try exact dx) only[wpS,wpT,reduceEqDiff,reduceLeDiff,reduceAdd,ld169,d2',row_of k5,tk4']
 refine call (rfrom_ok 1 ⟨by omega,by omega⟩) ?_
 rintro _ h6 ⟨X6,p6⟩
 have m6:=X6.n
 have X46:=X45.trans X6
 simp -dsimp (maxSteps:=1000000) (disch:=try exact dx) only[wpS,wpT,reduceEqDiff]
 refine call (rcmp_ok (p3.keep (e3.trans X46).keep) p6 (qb512 hp.1 hp.2 ok) (QB.int (k:=1) (by decide)) (by omega)) ?_
 rintro _ h7 ⟨X7,rfl⟩
 have m7:=X7.n
 have X47:=X46.trans X7
 have k7:=X47.kept (by omega) g3
 obtain⟨z2,hz2,hzl2⟩:=cmp_gt (rOf p) ((1:Int):Rat)
 rw[hz2]
 by_cases c3:1<rOf p
 ·have d3':decide (0<z2)=true:=decide_eq_true (hzl2.2 c3)
  rw[if_pos (.inr (.inr c3))]
  simp -dsimp (maxSteps:=1000000) (disch:=try exact dx) only[wpS,wpT,reduceEqDiff,d3']
  refine⟨by repeat' first|refine wpSteady_c2 ?_ ?_|refine wpSteady_t2 ?_ ?_|exact wpSteady_not rfl rfl rfl|exact wpSteady_one rfl rfl rfl rfl (steady_ext (H0:=H3) rfl (by omega) (by assumption) (by assumption) (by with_reducible assumption)),?_⟩
  simp -dsimp (maxSteps:=1000000) (disch:=try exact dx) only[wpS,wpT,reduceEqDiff,reduceAdd]
  exact E3.trans X47
 have d3':decide (0<z2)=false:=decide_eq_false (fun h=>c3 (hzl2.1 h))
 rw[if_neg (fun h=>h.elim (fun h=>h c1) (fun h=>h.elim c2 c3))]
 simp -dsimp (maxSteps:=1000000) (disch:=try exact dx) only[wpS,wpT,reduceEqDiff,d3']
 refine⟨by repeat' first|refine wpSteady_c2 ?_ ?_|refine wpSteady_t2 ?_ ?_|exact wpSteady_not rfl rfl rfl|exact wpSteady_one rfl rfl rfl rfl (steady_ext (H0:=H3) rfl (by omega) (by assumption) (by assumption) (by with_reducible assumption)),?_⟩
 obtain⟨e0,e1,e2,e3',e4⟩:=place_at c1
 generalize j.toNat=k at e3' e4 ⊢
 subst e3'
 simp -dsimp (maxSteps:=1000000) (disch:=try exact dx) only[wpS,wpT,reduceEqDiff,reduceAdd]
 refine call (extremity_ok (hv.keep (E3.trans X47).keep) e2 e1 e4) ?_
 rintro _ h8 ⟨X8,p8⟩
 have m8:=X8.n
 obtain⟨a2,s2,b2,t2,rfl,_,_,_,o5,_,o6,o7,o8⟩:=p8.parts
 simp -dsimp (maxSteps:=1000000) (disch:=try exact dx) only[wpS,wpT,reduceEqDiff,reduceLeDiff,reduceAdd,zc169,st169,o5,o6,o7,o8]
 obtain⟨H8,hH8⟩ : ∃H,H=(h8.new (.cells ZR 0 none)).put h8.n (.cells [a2,s2,b2,t2] 0 none):=⟨_,rfl⟩
 have e8:Ext h8 H8:=by rw[hH8];exact((Ext.refl h8).new _).put (Nat.le_refl _) _
 have n8:H8.n=h8.n+1:=by rw[hH8];rfl
 have g8:H8.ext.get h8.n=some (.cells [a2,s2,b2,t2] 0 none):=by rw[hH8];simp (disch:=try exact dx) only[get_put_same]
 rw[←hH8]
 clear hH8
 have E8:=X8.trans e8
 have k8:=E8.kept (by omega) k7
 have Y0:=Ext.refl H8
 have q8:=p8.keep e8.keep
 have r8:=p3.keep (e3.trans (X47.trans E8)).keep
 have qx:=ext_qb e1 e4
 have qp:=qb512 hp.1 hp.2 ok
 unfold passB
 cases mid with
 | true =>
  rw[if_pos rfl]
  simp -dsimp (maxSteps:=1000000) (disch:=try exact dx) only[wpS,wpT,reduceEqDiff,reduceLeDiff,reduceAdd,ld169,row_of g8,row_of k8,tk4']
  refine call (rcmp_ok q8 r8 qx qp (by omega)) ?_
  rintro _ h9 ⟨X9,rfl⟩
  obtain⟨z3,hz3,hzl3⟩:=cmp_le (extR l k) (rOf p)
  rw[hz3]
  have d4:decide (z3≤0)=decide (extR l k≤rOf p):=decide_eq_decide.2 hzl3
  simp -dsimp (maxSteps:=1000000) (disch:=try exact dx) only[wpS,wpT,reduceEqDiff,d4]
  exact((E3.trans X47).trans E8).trans X9
 | false =>
  rw[if_neg (by decide)]
  obtain⟨_,_,L5⟩:=pl4 g8
  obtain⟨_,_,L6⟩:=pl4 k8
  simp -dsimp (maxSteps:=1000000) (disch:=try exact dx) only[wpS]
  refine drawn [(3,[2]),(4,[2])] (by kernel_rfl) (by kernel_rfl) rfl ?_
  simp -dsimp (maxSteps:=1000000) (disch:=try exact dx) only[wpS,wpT,reduceEqDiff,reduceLeDiff,reduceAdd,ld169,row_of g8,tk4']
  refine call (rplus_ok q8 q8 qx qx (by omega)) ?_
  rintro _ h9 ⟨X9,p9⟩
  have m9:=X9.n
  simp -dsimp (maxSteps:=1000000) (disch:=try exact dx) only[wpS,wpT,reduceEqDiff,reduceLeDiff,reduceAdd,ld169,row_of (X9.kept (by omega) k8),tk4']
  refine call (rtimes_ok (r8.keep X9.keep) (r8.keep X9.keep) qp qp (by omega)) ?_
  rintro _ ha ⟨Xa,pa⟩
  have ma:=Xa.n
  have X9a:=X9.trans Xa
  simp -dsimp (maxSteps:=1000000) (disch:=try exact dx) only[wpS,reduceEqDiff]
  refine call (rcmp_ok (p9.keep Xa.keep) pa (QB.add qx qx) (QB.mul qp qp) (by omega)) ?_
  rintro _ hb ⟨Xb,rfl⟩
  have X9b:=X9a.trans Xb
  obtain⟨z3,hz3,hzl3⟩:=cmp_le (extR l k+extR l k) (rOf p*rOf p)
  rw[hz3]
  have d4:decide (z3≤0)=decide (extR l k+extR l k≤rOf p*rOf p):=decide_eq_decide.2 hzl3
  simp -dsimp (maxSteps:=1000000) (disch:=try exact dx) only[wpS,reduceEqDiff,d4]
  refine⟨by repeat' first|refine wpSteady_c2 ?_ ?_|refine wpSteady_t2 ?_ ?_|exact wpSteady_not rfl rfl rfl|exact wpSteady_one rfl rfl rfl rfl (steady_ext (H0:=H8) rfl (by omega) (by assumption) (by assumption) (by with_reducible assumption)),?_⟩
  simp -dsimp (maxSteps:=1000000) (disch:=try exact dx) only[wpS,wpT,reduceEqDiff,reduceAdd]
  exact((E3.trans X47).trans E8).trans X9b
end Go.Id

namespace Go.Id
open Go
open Nat (reduceAdd reduceEqDiff reduceLeDiff)
set_option maxHeartbeats 16000000
theorem rfPasses_ok {h:IH} {v:Value} {l:List (Nat×Nat)} {p:Nat×Nat} {mid:Bool} {j:Int} (hv:ShSl h v l) (hp:p.1<W8∧p.2<W8) (hj:In64 j) :
  WV Proofs.Tryz.prog (.func (.func 46) #[] #[]) [v,shV p.1 p.2,.bool mid,KI j] h fun r h'=>Ext h h'∧r=passRes l p mid j:=by
 have her:=chErr_range l
 have hpr:=placeErr_range l j
 refine enter (nt:=66) (rs:=[.tmp 8,.tmp 9]) Proofs.Tryz.func46 rfl rfl rfl (by simp) ?_
 simp -dsimp (maxSteps:=1000000) (disch:=try exact dx) only[wpS,reduceEqDiff,reduceAdd,shV_cells]
 obtain⟨H0,hH0⟩ : ∃H0,H0=h.new (.cells (shC p.1 p.2) 0 none):=⟨_,rfl⟩
 have E0:Ext h H0:=by rw[hH0];exact(Ext.refl h).new _
 have n0:H0.n=h.n+1:=by rw[hH0];rfl
 have g0:H0.ext.get h.n=some (.cells (shC p.1 p.2) 0 none):=by rw[hH0];simp (disch:=try exact dx) only[get_new_same]
 rw[←hH0]
 clear hH0
 refine call (rfStuck_ok (hv.keep E0.keep)) ?_
 rintro _ h1 ⟨X1,rfl⟩
 have m1:=X1.n
 have k1:=X1.kept (by omega) g0
 unfold stuckRes passRes
 by_cases hc:chErr l=0
 case neg =>
  have he':(chErr l == 0)=false:=by simpa using hc
  rw[if_neg hc,if_pos hc]
  simp -dsimp (maxSteps:=1000000) (disch:=try exact dx) only[wpS,wpT,reduceEqDiff]
  exact E0.trans X1
 rw[if_pos hc,if_neg (fun h=>h hc)]
 simp -dsimp (maxSteps:=1000000) (disch:=try exact dx) only[wpS,wpT,reduceEqDiff,reduceLeDiff,ld48,row_of k1,shC_len,sh_take]
 refine call (refright_ok p.1 p.2 hp.1 hp.2) ?_
 rintro _ h2 ⟨X2,rfl⟩
 have m2:=X2.n
 have k2:=X2.kept (by omega) k1
 by_cases ok:okS p.1 p.2
 case neg =>
  rw[if_pos ok,decide_eq_false ok]
  simp -dsimp (maxSteps:=1000000) (disch:=try exact dx) only[wpS,wpT,reduceEqDiff]
  exact(E0.trans X1).trans X2
 rw[decide_eq_true ok,if_neg (fun h=>h ok)]
 simp -dsimp (maxSteps:=1000000) (disch:=try exact dx) only[wpS,wpT,reduceEqDiff,reduceLeDiff,ld48,row_of k2,shC_len,sh_take]
 refine call (refin_ok p.1 p.2 hp.1 hp.2) ?_
 rintro _ h3 ⟨X3,p3⟩
 have p3:=pair_rrat ok p3
 have m3:=X3.n
 obtain⟨a,s,b,t,rfl,hn1,hd1,d1,o1,d2,o2,o3,o4⟩:=p3.parts
 obtain⟨_,hna,_⟩:=id hn1
 obtain rfl:a=.bool (decide ((rOf p).num<0)):=by cases hna;rfl
 clear hna
 simp -dsimp (maxSteps:=1000000) (disch:=try exact dx) only[wpS,wpT,reduceEqDiff,reduceLeDiff,reduceAdd,zc186,st186,o1,o2,o3,o4]
 obtain⟨H3,hH3⟩ : ∃H,H=(h3.new (.cells ZR 0 none)).put h3.n (.cells [.bool (decide ((rOf p).num<0)),s,b,t] 0 none):=⟨_,rfl⟩
 have e3:Ext h3 H3:=by rw[hH3];exact((Ext.refl h3).new _).put (Nat.le_refl _) _
 have n3:H3.n=h3.n+1:=by rw[hH3];rfl
 have g3:H3.ext.get h3.n=some (.cells [.bool (decide ((rOf p).num<0)),s,b,t] 0 none):=by rw[hH3];simp (disch:=try exact dx) only[get_put_same]
 rw[←hH3]
 clear hH3
 have X0:=Ext.refl H3
 have E3:=((E0.trans X1).trans X2).trans (X3.trans e3)
 obtain⟨L1,_,L3⟩:=ql4 g3
 refine drawn [(18,[20])] (by kernel_rfl) (by kernel_rfl) rfl ?_
 have hpe:placeErr l j=if j<0∨(l.length:Int)≤j then 2 else 0:=by unfold placeErr;rw[if_pos hc]
 by_cases h0:j<0
 ·have d:decide (j<0)=true:=decide_eq_true h0
  rw[if_pos (.inl h0)] at hpe
  rw[if_pos (.inl (by rw[hpe];decide))]
  simp -dsimp (maxSteps:=1000000) (disch:=try exact dx) only[wpS,wpT,reduceEqDiff,d]
  refine⟨by repeat' first|refine wpSteady_c2 ?_ ?_|refine wpSteady_t2 ?_ ?_|exact wpSteady_not rfl rfl rfl|exact wpSteady_one rfl rfl rfl rfl (steady_ext (H0:=H3) rfl (by omega) (by assumption) (by assumption) (by with_reducible assumption))|exact wpSteady_one rfl rfl rfl rfl (steady_len rfl rfl rfl (hv.1.len sl82 _) (hv.1.len sl82 _)),?_⟩
  simp -dsimp (maxSteps:=1000000) (disch:=try exact dx) only[wpS,wpT,reduceEqDiff,reduceAdd]
  exact E3
 have d:decide (j<0)=false:=decide_eq_false h0
 by_cases h2:(l.length:Int)≤j
 ·have d2:decide ((l.length:Int)≤j)=true:=decide_eq_true h2
  rw[if_pos (.inr h2)] at hpe
  rw[if_pos (.inl (by rw[hpe];decide))]
  simp -dsimp (maxSteps:=1000000) (disch:=try exact dx) only[wpS,wpT,reduceEqDiff,d,d2,hv.1.len sl82]
  refine⟨by repeat' first|refine wpSteady_c2 ?_ ?_|refine wpSteady_t2 ?_ ?_|exact wpSteady_not rfl rfl rfl|exact wpSteady_one rfl rfl rfl rfl (steady_ext (H0:=H3) rfl (by omega) (by assumption) (by assumption) (by with_reducible assumption))|exact wpSteady_one rfl rfl rfl rfl (steady_len rfl rfl rfl (hv.1.len sl82 _) (hv.1.len sl82 _)),?_⟩
  simp -dsimp (maxSteps:=1000000) (disch:=try exact dx) only[wpS,wpT,reduceEqDiff,reduceAdd]
  exact E3
 have d2:decide ((l.length:Int)≤j)=false:=decide_eq_false h2
 rw[if_neg (by omega)] at hpe
 have c1:=hpe
 by_cases cn:(rOf p).num<0
 ·have dn:decide ((rOf p).num<0)=true:=decide_eq_true cn
  rw[if_pos (.inr (.inl (by rw[Rat.le_iff];simp;omega)))]
  simp -dsimp (maxSteps:=1000000) (disch:=try exact dx) only[wpS,wpT,reduceEqDiff,fa186_0,fa131_0,ld4,d,d2,hv.1.len sl82,row_of g3,dn]
  refine⟨by repeat' first|refine wpSteady_c2 ?_ ?_|refine wpSteady_t2 ?_ ?_|exact wpSteady_not rfl rfl rfl|exact wpSteady_one rfl rfl rfl rfl (steady_ext (H0:=H3) rfl (by omega) (by assumption) (by assumption) (by with_reducible assumption))|exact wpSteady_one rfl rfl rfl rfl (steady_len rfl rfl rfl (hv.1.len sl82 _) (hv.1.len sl82 _)),?_⟩
  simp -dsimp (maxSteps:=1000000) (disch:=try exact dx) only[wpS,wpT,reduceEqDiff,reduceAdd]
  exact E3
 have dn:decide ((rOf p).num<0)=false:=decide_eq_false cn
 rw[dn] at p3 g3
 simp -dsimp (maxSteps:=1000000) (disch:=try exact dx) only[wpS,wpT,reduceEqDiff,reduceLeDiff,reduceAdd,fa186_0,fa131_0,ld4,ld186,d,d2,hv.1.len sl82,row_of g3,tk4']
 refine call (zero_ok (p3.keep e3.keep)) ?_
 rintro _ h5 ⟨X5,rfl⟩
 have m5:=X5.n
 have k5:=X5.kept (by omega) g3
 by_cases cz:rOf p=0
 ·rw[if_pos (.inr (.inl (by rw[cz];exact Rat.le_refl))),decide_eq_true cz]
  simp -dsimp (maxSteps:=1000000) (disch:=try exact dx) only[wpS,wpT,reduceEqDiff]
  refine⟨by repeat' first|refine wpSteady_c2 ?_ ?_|refine wpSteady_t2 ?_ ?_|exact wpSteady_not rfl rfl rfl|exact wpSteady_one rfl rfl rfl rfl (steady_ext (H0:=H3) rfl (by omega) (by assumption) (by assumption) (by with_reducible assumption))|exact wpSteady_one rfl rfl rfl rfl (steady_len rfl rfl rfl (hv.1.len sl82 _) (hv.1.len sl82 _)),?_⟩
  simp -dsimp (maxSteps:=1000000) (disch:=try exact dx) only[wpS,wpT,reduceEqDiff,reduceAdd]
  exact E3.trans X5
 rw[decide_eq_false cz]
 have c2 : ¬rOf p≤0:=fun h=>by
  rw[Rat.le_iff] at h
  simp at h
  exact cz (Rat.num_eq_zero.1 (by omega))
 simp -dsimp (maxSteps:=1000000) (disch:=try exact dx) only[wpS,wpT,reduceEqDiff,reduceLeDiff,reduceAdd,ld186,row_of k5,tk4']
 refine call (quick_ok 1 1 ⟨by omega,by omega⟩ ⟨by omega,by omega⟩ (by omega)) ?_
 rintro _ h6 ⟨X6,p6⟩
 have m6:=X6.n
 have X46:=X5.trans X6
 simp -dsimp (maxSteps:=1000000) (disch:=try exact dx) only[wpS,wpT,reduceEqDiff]
 have q1:QB 1 (Rat.divInt 1 1):=QB.divInt (by decide) (by decide) (by decide)
 refine call (qorder_ok (p3.keep (e3.trans X46).keep) p6 (qb512 hp.1 hp.2 ok) q1 (by omega)) ?_
 rintro _ h7 ⟨X7,rfl⟩
 have m7:=X7.n
 have X47:=X46.trans X7
 have k7:=X47.kept (by omega) g3
 obtain⟨z2,hz2,hzl2⟩:=cmp_gt (rOf p) (Rat.divInt 1 1)
 rw[show Rat.divInt 1 1=(1:Rat) from Rat.num_divInt_den (1:Rat)] at hzl2
 rw[hz2]
 by_cases c3:1<rOf p
 ·have d3':decide (0<z2)=true:=decide_eq_true (hzl2.2 c3)
  rw[if_pos (.inr (.inr c3))]
  simp -dsimp (maxSteps:=1000000) (disch:=try exact dx) only[wpS,wpT,reduceEqDiff,d3']
  refine⟨by repeat' first|refine wpSteady_c2 ?_ ?_|refine wpSteady_t2 ?_ ?_|exact wpSteady_not rfl rfl rfl|exact wpSteady_one rfl rfl rfl rfl (steady_ext (H0:=H3) rfl (by omega) (by assumption) (by assumption) (by with_reducible assumption))|exact wpSteady_one rfl rfl rfl rfl (steady_len rfl rfl rfl (hv.1.len sl82 _) (hv.1.len sl82 _)),?_⟩
  simp -dsimp (maxSteps:=1000000) (disch:=try exact dx) only[wpS,wpT,reduceEqDiff,reduceAdd]
  exact E3.trans X47
 have d3':decide (0<z2)=false:=decide_eq_false (fun h=>c3 (hzl2.1 h))
 rw[if_neg (fun h=>h.elim (fun h=>h c1) (fun h=>h.elim c2 c3))]
 simp -dsimp (maxSteps:=1000000) (disch:=try exact dx) only[wpS,wpT,reduceEqDiff,d3']
 refine⟨by repeat' first|refine wpSteady_c2 ?_ ?_|refine wpSteady_t2 ?_ ?_|exact wpSteady_not rfl rfl rfl|exact wpSteady_one rfl rfl rfl rfl (steady_ext (H0:=H3) rfl (by omega) (by assumption) (by assumption) (by with_reducible assumption))|exact wpSteady_one rfl rfl rfl rfl (steady_len rfl rfl rfl (hv.1.len sl82 _) (hv.1.len sl82 _)),?_⟩
 obtain⟨e0,e1,e2,e3',e4⟩:=place_at c1
 generalize j.toNat=k at e3' e4 ⊢
 subst e3'
 simp -dsimp (maxSteps:=1000000) (disch:=try exact dx) only[wpS,wpT,reduceEqDiff,reduceAdd]
 refine call (extreme_ok (hv.keep (E3.trans X47).keep) e2 e1 e4) ?_
 rintro _ h8 ⟨X8,p8⟩
 have m8:=X8.n
 obtain⟨a2,s2,b2,t2,rfl,_,_,_,o5,_,o6,o7,o8⟩:=p8.parts
 simp -dsimp (maxSteps:=1000000) (disch:=try exact dx) only[wpS,wpT,reduceEqDiff,reduceLeDiff,reduceAdd,zc186,st186,o5,o6,o7,o8]
 obtain⟨H8,hH8⟩ : ∃H,H=(h8.new (.cells ZR 0 none)).put h8.n (.cells [a2,s2,b2,t2] 0 none):=⟨_,rfl⟩
 have e8:Ext h8 H8:=by rw[hH8];exact((Ext.refl h8).new _).put (Nat.le_refl _) _
 have n8:H8.n=h8.n+1:=by rw[hH8];rfl
 have g8:H8.ext.get h8.n=some (.cells [a2,s2,b2,t2] 0 none):=by rw[hH8];simp (disch:=try exact dx) only[get_put_same]
 rw[←hH8]
 clear hH8
 have E8:=X8.trans e8
 have k8:=E8.kept (by omega) k7
 have Y0:=Ext.refl H8
 have q8:=p8.keep e8.keep
 have r8:=p3.keep (e3.trans (X47.trans E8)).keep
 have qx:=ext_qb e1 e4
 have qp:=qb512 hp.1 hp.2 ok
 unfold passB
 cases mid with
 | true =>
  rw[if_pos rfl]
  simp -dsimp (maxSteps:=1000000) (disch:=try exact dx) only[wpS,wpT,reduceEqDiff,reduceLeDiff,reduceAdd,ld186,row_of g8,row_of k8,tk4']
  refine call (qorder_ok q8 r8 qx qp (by omega)) ?_
  rintro _ h9 ⟨X9,rfl⟩
  obtain⟨z3,hz3,hzl3⟩:=cmp_le (extR l k) (rOf p)
  rw[hz3]
  have d4:decide (z3≤0)=decide (extR l k≤rOf p):=decide_eq_decide.2 hzl3
  simp -dsimp (maxSteps:=1000000) (disch:=try exact dx) only[wpS,wpT,reduceEqDiff,d4]
  exact((E3.trans X47).trans E8).trans X9
 | false =>
  rw[if_neg (by decide)]
  obtain⟨_,_,L5⟩:=ql4 g8
  obtain⟨_,_,L6⟩:=ql4 k8
  simp -dsimp (maxSteps:=1000000) (disch:=try exact dx) only[wpS]
  refine drawn [(0,[2]),(3,[1,2]),(4,[1,2])] (by kernel_rfl) (by kernel_rfl) rfl ?_
  simp -dsimp (maxSteps:=1000000) (disch:=try exact dx) only[wpS,wpT,reduceEqDiff,reduceLeDiff,reduceAdd,ld186,row_of g8,tk4']
  refine call (quick_ok 2 1 ⟨by omega,by omega⟩ ⟨by omega,by omega⟩ (by omega)) ?_
  rintro _ h8b ⟨X8b,p8b⟩
  have m8b:=X8b.n
  simp -dsimp (maxSteps:=1000000) (disch:=try exact dx) only[wpS,reduceEqDiff]
  have q2:QB 2 (Rat.divInt 2 1):=QB.divInt (by decide) (by decide) (by decide)
  refine call (qtimes_ok (q8.keep X8b.keep) p8b qx q2 (by omega)) ?_
  rintro _ h9 ⟨X9',p9⟩
  have X9:=X8b.trans X9'
  have m9:=X9.n
  simp -dsimp (maxSteps:=1000000) (disch:=try exact dx) only[wpS,wpT,reduceEqDiff,reduceLeDiff,reduceAdd,ld186,row_of (X9.kept (by omega) k8),tk4']
  refine call (qtimes_ok (r8.keep X9.keep) (r8.keep X9.keep) qp qp (by omega)) ?_
  rintro _ ha ⟨Xa,pa⟩
  have ma:=Xa.n
  have X9a:=X9.trans Xa
  simp -dsimp (maxSteps:=1000000) (disch:=try exact dx) only[wpS,reduceEqDiff]
  refine call (qorder_ok (p9.keep Xa.keep) pa (QB.mul qx q2) (QB.mul qp qp) (by omega)) ?_
  rintro _ hb ⟨Xb,rfl⟩
  have X9b:=X9a.trans Xb
  obtain⟨z3,hz3,hzl3⟩:=cmp_le (extR l k*Rat.divInt 2 1) (rOf p*rOf p)
  rw[hz3]
  have d4:decide (z3≤0)=decide (extR l k+extR l k≤rOf p*rOf p):=decide_eq_decide.2 (by rw[hzl3,show Rat.divInt 2 1=(2:Rat) from Rat.num_divInt_den (2:Rat),show extR l k*2=extR l k+extR l k from by grind])
  simp -dsimp (maxSteps:=1000000) (disch:=try exact dx) only[wpS,reduceEqDiff,d4]
  refine⟨by repeat' first|refine wpSteady_c2 ?_ ?_|refine wpSteady_t2 ?_ ?_|exact wpSteady_not rfl rfl rfl|exact wpSteady_one rfl rfl rfl rfl (steady_ext (H0:=H8) rfl (by omega) (by assumption) (by assumption) (by with_reducible assumption)),?_⟩
  simp -dsimp (maxSteps:=1000000) (disch:=try exact dx) only[wpS,wpT,reduceEqDiff,reduceAdd]
  exact((E3.trans X47).trans E8).trans X9b
end Go.Id

namespace Go.Id
open Go
open Go.Proofs.Tryz (prog)
open Nat (reduceAdd reduceEqDiff reduceLeDiff)
set_option maxHeartbeats 16000000
theorem olShorts_ok {h:IH} {v:Value} {n:Nat} (hv:DrSl h v n) :
  WV prog (.func (.func 33) #[] #[]) [v] h fun r h'=>Ext h h' ∧ ∃l',ShSl h' r l'∧l'.length=min n 12∧(∀p∈l',isShort p)∧(l' = []→r=.slice none 0 0):=by
 obtain⟨M,hM⟩ : ∃M,M=min n 12:=⟨_,rfl⟩
 obtain⟨cs,hsl,hdr⟩:=hv
 obtain⟨w,hw,hs⟩:=hsl.slice (Keep.refl h) (P:=prog) (t:=75) u75 sz81 (l:=0) (m:=M) (Nat.zero_le _) (by omega) (lo:=none) (hi:=some (KN M)) rfl (fun c hc=>natOf_nat (k:=.i64) (by omega))
 rw[Nat.sub_zero,Nat.zero_mul,List.drop_zero] at hs
 have hcl:=hsl.2.1
 have hmin:(if (12:Int)<(n:Int) then (12:Int) else (n:Int))=(M:Int):=by split<;>omega
 refine enter (nt:=23) (rs:=[.tmp 2]) Proofs.Tryz.func33 rfl rfl rfl (by simp) ?_
 simp -dsimp (maxSteps:=1000000) (disch:=try exact dx) only[wpS,reduceEqDiff,hsl.len sl75,min_ii,hmin,hw,hs.len sl75]
 refine loop (fun m fr hh => ∃(i:Nat) (out:Value) (l':List (Nat×Nat)),i+m=M∧l'.length=i∧(∀p∈l',isShort p)∧Ext h hh∧Acc hh h.n 16 out l'.length (shL l')∧(l' = []→out=.slice none 0 0)∧fget fr 3=some out∧fget fr 10=some w∧fget fr 11=some (KN M)∧fget fr 12=some (KN i)) M
  ⟨0,.slice none 0 0,[],by omega,rfl,(fun p hp=>by cases hp),Ext.refl _,Acc.nil _ _ (by omega),fun _=>rfl,by simp,by simp,by simp,by simp⟩ ?_
 rintro m fr hh ⟨i,out,l',him,hil,hlt,hE,hA,hO,f3,f10,f11,f12⟩
 have hnn:=hE.n
 simp -dsimp (maxSteps:=1000000) (disch:=try exact dx) only[wpS,f11,f12]
 refine bq_intro ?_ ?_<;>intro hc<;>simp only[decide_eq_true_eq,decide_eq_false_iff_not] at hc
 ·have hi:i<M:=by omega
  have hld:=hs.ldAgg hE.keep (c:=i*6) (m:=6) (by rw[List.length_take];omega) (by omega) (P:=prog) (t:=81) ag81 sz81
  rw[List.drop_take,List.take_take,Nat.min_eq_left (by omega)] at hld
  obtain⟨b,x,n1,b2,x2,n2,hcs,hx,hx2,q1,q2,q3,q4⟩:=hdr i (by omega)
  rw[hcs] at hld
  obtain⟨H0,hH0⟩ : ∃H0,H0=(hh.new (.cells [.bool false,.slice none 0 0,.int .u32 0,.bool false,.slice none 0 0,.int .u32 0] 0 none)).put hh.n (.cells [.bool b,x,.int .u32 n1,.bool b2,x2,.int .u32 n2] 0 none):=⟨_,rfl⟩
  have n0:H0.n=hh.n+1:=by rw[hH0];rfl
  have k0:H0.ext.get hh.n=some (.cells [.bool b,x,.int .u32 n1,.bool b2,x2,.int .u32 n2] 0 none):=by rw[hH0];simp (disch:=try exact dx) only[get_put_same]
  have E0:Ext hh H0:=by rw[hH0];exact((Ext.refl hh).new _).put (by omega) _
  simp -dsimp (maxSteps:=1000000) (disch:=try exact dx) only[wpS,wpT,reduceEqDiff,reduceLeDiff,reduceAdd,zc81,st81,f10,f12,hs.idx es75 hi,hld,hx,hx2]
  rw[←hH0]
  clear hH0
  simp -dsimp (maxSteps:=1000000) (disch:=try exact dx) only[wpS,wpT,reduceEqDiff,reduceLeDiff,reduceAdd,ld81,f3,row_of k0]
  refine call (drshort_ok (by simpa using hx) (by simpa using hx2) q1 q2 q3 q4) ?_
  rintro _ h1 ⟨X1,a,c,ha,hc2,rfl⟩
  have m1:=X1.n
  have sp:isShort (shq (Rat.divInt a c)):=⟨a,c,ha,hc2,rfl⟩
  rw[shareV_shq]
  generalize shq (Rat.divInt a c)=p at sp ⊢
  have E1:=E0.trans X1
  obtain⟨out',h8,hap,hA8,hG8,hE8⟩:=(hA.ext E1).appN (P:=prog) (t:=82) ap82 (m:=1) (new:=shC p.1 p.2) (by omega) (by rw[shC_len]) (shC_all _ _) (by omega) (by omega) (hE.trans E1) (Nat.le_refl _)
  have hap':append prog (h1.new (.cells (shC p.1 p.2) 16 none)) 82 out (.slice (some ⟨2*h1.n,0,none⟩) 1 3)=some (out',h8):=hap
  simp -dsimp (maxSteps:=1000000) (disch:=try exact dx) only[wpS,wpT,reduceEqDiff,reduceLeDiff,reduceAdd,bs82,ba82_82,f12,shV_cells,shC_len,sh_sp3,hap']
  refine⟨m - 1,by omega,i+1,out',l' ++ [p],by omega,by simp[hil],?_,hE8,?_,by simp,by simp,by simp[f10],by simp[f11],by simp⟩
  ·intro q hq
   rcases List.mem_append.1 hq with hq|hq
   ·exact hlt q hq
   ·obtain rfl:=List.mem_singleton.1 hq
    exact sp
  ·rw[shL_snoc,List.length_append]
   exact hA8
 ·obtain rfl:i=M:=by omega
  simp -dsimp (maxSteps:=1000000) (disch:=try exact dx) only[wpS,wpT,reduceEqDiff,f3]
  refine⟨hE,l',⟨hA.sl,by omega,fun p hp=>(hlt p hp).lt⟩,by omega,hlt,hO⟩
end Go.Id
