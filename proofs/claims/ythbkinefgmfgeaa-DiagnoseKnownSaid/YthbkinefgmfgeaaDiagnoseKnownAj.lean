/-
  Contracts: the program's fractions of integers; shares made. Contracts: package diagnose: what is wrong with a chain; lists read; sums; means. Contracts: package diagnose: sums, means, squares, chains. Contracts: package diagnose: means, squares, chains. Loops over functions, whose rounds may lay their variable into memory and may end early. Contracts: package diagnose: products, autocovariances. The greater and the lesser of two integers. Contracts: slices.Chunk. Contracts: package diagnose: Mean, Auto.
-/
import Derived.Test.YthbkinefgmfgeaaDiagnoseKnownAi
import Derived.Test.YthbkinefgmfgeaaDiagnoseKnownAf
set_option linter.unusedVariables false
set_option linter.unusedSimpArgs false
set_option linter.defProp false
set_option linter.deprecated false
/-! Contracts: the program's fractions of integers; shares made. -/
namespace Go.Id
open Go
theorem whole_ok {h:IH} {v:Value} {n:Int} (hv:PLong h v n):WV Proofs.Try.prog (.func (.func 45) #[] #[]) [v] h fun r h'=>Ext h h'∧PRat h' r (n:Rat):=by
 obtain⟨s,rfl,c1,o1⟩:=hv.cells2
 refine enter (nt:=6) (rs:=[.cell 2 51]) Proofs.Try.func45 rfl rfl rfl (by simp) ?_
 simp -dsimp (disch:=omega) only[wpS,zc51]
 obtain⟨H0,hH0,n0,E0,g0,g1⟩:=boxes2 h [.bool (decide (n<0)),s] ZR
 rw[←hH0]
 clear hH0
 have X0:=Ext.refl H0
 have L1:=pl2 g0
 refine drawn [(0,[3])] (by kernel_rfl) (by kernel_rfl) rfl ?_
 simp -dsimp (disch:=omega) only[wpS,wpT,Nat.reduceEqDiff,Nat.reduceLeDiff,Nat.reduceAdd,ld49,row_of g0,tk2']
 refine call (pfrom_ok 1 ⟨by omega,by omega⟩) ?_
 rintro _ h1 ⟨X1,p1⟩
 have m1:=X1.n
 obtain⟨s1,rfl,c2,o2⟩:=p1.cells2
 have kg:=X1.kept (by omega) g1
 simp -dsimp (disch:=omega) only[wpS,wpT,Nat.reduceEqDiff,Nat.reduceLeDiff,Nat.reduceAdd,bv51,pl51_0,pl51_1,st51,kg,o1,o2]
 refine⟨by repeat' first|refine wpSteady_c2 ?_ ?_|refine wpSteady_t2 ?_ ?_|exact wpSteady_one rfl rfl rfl rfl (steady_ext (H0:=H0) rfl (by omega) (by assumption) (by assumption) (by with_reducible assumption)),?_⟩
 simp -dsimp (disch:=omega) only[wpS,wpT,Nat.reduceEqDiff,Nat.reduceLeDiff,Nat.reduceAdd,ld51,tk4']
 have kp:=(Keep.refl h1).put kg (.cells [.bool (decide (n<0)),s,.bool false,s1] 0 none)
 exact⟨(E0.trans X1).put (by omega) _,_,_,_,_,rfl,hv.keep ((E0.trans X1).keep.trans kp),p1.keep kp⟩
theorem rfrom_ok {h:IH} (n:Int) (hn:In64 n):WV Proofs.Try.prog (.func (.func 27) #[] #[]) [KI n] h fun r h'=>Ext h h'∧PRat h' r (n:Rat):=by
 refine enter (nt:=6) (rs:=[.cell 2 51]) Proofs.Try.func27 rfl rfl rfl (by simp) ?_
 simp -dsimp (disch:=omega) only[wpS,Nat.reduceEqDiff,zc51]
 have E1:Ext h (h.new (.cells ZR 0 none)):=(Ext.refl h).new _
 have g1:(h.new (.cells ZR 0 none)).ext.get h.n=some (.cells ZR 0 none):=by simp (disch:=first|omega|(simp only[new_n,put_n];omega)|(repeat first|rw[new_n]|rw[put_n])) only[get_new_same]
 refine call (pfrom_ok n hn) ?_
 rintro _ h1 ⟨X1,p1⟩
 simp -dsimp (disch:=omega) only[wpS,Nat.reduceEqDiff]
 refine call (whole_ok p1) ?_
 rintro _ h2 ⟨X2,p2⟩
 have m1:=X1.n
 have m2:=X2.n
 simp only[new_n] at m1
 obtain⟨a3,s3,b3,t3,rfl,_,_,d1,o1,d2,o2,o3,o4⟩:=p2.parts
 have kg:=X2.kept (by omega) (X1.kept (by simp) g1)
 simp -dsimp (disch:=omega) only[wpS,wpT,Nat.reduceEqDiff,Nat.reduceLeDiff,Nat.reduceAdd,st51,ld51,kg,o1,o2,o3,o4,tk4']
 exact⟨((E1.trans X1).trans X2).put (by omega) _,p2.keep ((Keep.refl _).put kg _)⟩
theorem wdI_zero_iff {d:Nat} (hd:d<W8):wdI d=0↔d=0:=by
 have h2:=H8_two
 have h3:=H8_pos
 unfold wdI
 split<;>omega
set_option maxHeartbeats 2000000 in
theorem shmake_ok {h:IH} (n d:Nat) (hn:n<W8) (hd:d<W8) (d0:d≠0):WV Proofs.Try.prog (.func (.func 38) #[] #[]) [wdV n,wdV d] h fun r h'=>Ext h h'∧r=(open Classical in if QW (Rat.divInt (wdI n) (wdI d)) then .tuple #[shareV (Rat.divInt (wdI n) (wdI d)),KI 0] else .tuple #[shV 0 0,KI 6]):=by
 refine enter (nt:=18) (rs:=[.cell 4 27,.tmp 5]) Proofs.Try.func38 rfl rfl rfl (by simp) ?_
 simp -dsimp (maxSteps:=1000000) (disch:=first|omega|(simp only[new_n,put_n];omega)|decide +kernel|(repeat first|rw[new_n]|rw[put_n])) only[wpS,wpT,Nat.reduceEqDiff,Nat.reduceLeDiff,Nat.reduceAdd,zc27,ld25,bv25,cells8,wdC_len]
 obtain⟨H0,hH0,n0,E0,g0,g1,g2⟩:=boxes3 h (wdC n) (wdC d) Z16
 rw[←hH0]
 clear hH0
 have X0:=Ext.refl H0
 have L2:load Proofs.Try.prog H0 25 (ptr (2*(h.n+1)) 0)=some (wdV d):=by
  simp -dsimp (maxSteps:=1000000) (disch:=first|omega|(simp only[new_n,put_n];omega)|decide +kernel|(repeat first|rw[new_n]|rw[put_n])) only[wpS,Nat.reduceLeDiff,ld25,row_of g1,wdC_len,wd_take]
  rfl
 have hz:binop Proofs.Try.prog .eql 25 (.tmp 6) (.tmp 7) (.agg (wdC d).toArray) (.agg #[ZW,ZW,ZW,ZW,ZW,ZW,ZW,ZW])=some (.bool false):=by
  rw[wd_zero,wdV,wd_eql hd (by have:=H8_two;have:=H8_pos;omega)]
  rw[decide_eq_false d0]
 have hdI:wdI d≠0:=fun h=>d0 ((wdI_zero_iff hd).1 h)
 simp -dsimp (maxSteps:=1000000) (disch:=first|omega|(simp only[new_n,put_n];omega)|decide +kernel|(repeat first|rw[new_n]|rw[put_n])) only[wpS,Nat.reduceEqDiff,wd_take,hz]
 refine drawn [(2,[1])] (by kernel_rfl) (by kernel_rfl) rfl ?_
 simp -dsimp (maxSteps:=1000000) (disch:=first|omega|(simp only[new_n,put_n];omega)|decide +kernel|(repeat first|rw[new_n]|rw[put_n])) only[wpS,Nat.reduceEqDiff,Nat.reduceLeDiff,ld25,row_of g0,wdC_len,wd_take]
 refine call (longer_ok n hn) ?_
 rintro r1 h1 ⟨X1,p1⟩
 have m1:=X1.n
 simp -dsimp (maxSteps:=1000000) (disch:=first|omega|(simp only[new_n,put_n];omega)|decide +kernel|(repeat first|rw[new_n]|rw[put_n])) only[wpS,Nat.reduceEqDiff,Nat.reduceLeDiff,ld25,row_of (X1.kept (by omega) g1),wdC_len,wd_take]
 refine call (longer_ok d hd) ?_
 rintro r2 h2 ⟨hE2,p2⟩
 have X2:=X1.trans hE2
 have m2:=hE2.n
 simp -dsimp (maxSteps:=1000000) (disch:=first|omega|(simp only[new_n,put_n];omega)|decide +kernel|(repeat first|rw[new_n]|rw[put_n])) only[wpS,Nat.reduceEqDiff]
 refine call (lowest_ok (p1.keep hE2.keep) p2 (wdI_small hn) (wdI_small hd) hdI) ?_
 rintro r3 h3 ⟨hE3,p3⟩
 have X3:=X2.trans hE3
 have m3:=hE3.n
 simp -dsimp (maxSteps:=1000000) (disch:=first|omega|(simp only[new_n,put_n];omega)|decide +kernel|(repeat first|rw[new_n]|rw[put_n])) only[wpS,Nat.reduceEqDiff]
 refine call (rtold_ok p3) ?_
 rintro _ h4 ⟨hE4,rfl⟩
 have X4:=X3.trans hE4
 have m4:=hE4.n
 have kg:=X4.kept (by omega) g2
 by_cases hq:QW (Rat.divInt (wdI n) (wdI d))
 ·rw[if_pos hq]
  simp -dsimp (maxSteps:=1000000) (disch:=first|omega|(simp only[new_n,put_n];omega)|decide +kernel|(repeat first|rw[new_n]|rw[put_n])) only[wpS,wpT,Nat.reduceEqDiff,Nat.reduceLeDiff,Nat.reduceAdd,st27,kg,shV_cells,shC_len,shC_all,sh_sp3]
  refine⟨by repeat' first|refine wpSteady_c2 ?_ ?_|refine wpSteady_t2 ?_ ?_|exact wpSteady_one rfl rfl rfl rfl (steady_ext (H0:=H0) rfl (by omega) (by assumption) (by assumption) (by with_reducible assumption)),?_⟩
  simp -dsimp (maxSteps:=1000000) (disch:=first|omega|(simp only[new_n,put_n];omega)|decide +kernel|(repeat first|rw[new_n]|rw[put_n])) only[wpS,wpT,Nat.reduceEqDiff,Nat.reduceLeDiff,Nat.reduceAdd,ld27,shC_len,sh_take]
  exact⟨(E0.trans X4).put (by omega) _,rfl⟩
 ·rw[if_neg hq]
  simp -dsimp (maxSteps:=1000000) (disch:=first|omega|(simp only[new_n,put_n];omega)|decide +kernel|(repeat first|rw[new_n]|rw[put_n])) only[wpS,wpT,Nat.reduceEqDiff,Nat.reduceLeDiff,Nat.reduceAdd,st27,kg,shV_cells,shC_len,shC_all,sh_sp3]
  refine⟨by repeat' first|refine wpSteady_c2 ?_ ?_|refine wpSteady_t2 ?_ ?_|exact wpSteady_one rfl rfl rfl rfl (steady_ext (H0:=H0) rfl (by omega) (by assumption) (by assumption) (by with_reducible assumption)),?_⟩
  simp -dsimp (maxSteps:=1000000) (disch:=first|omega|(simp only[new_n,put_n];omega)|decide +kernel|(repeat first|rw[new_n]|rw[put_n])) only[wpS,wpT,Nat.reduceEqDiff,Nat.reduceLeDiff,Nat.reduceAdd,ld27,shC_len,sh_take]
  exact⟨(E0.trans X4).put (by omega) _,rfl⟩
theorem qw_div {n d:Int} (hn:In64 n) (hd:In64 d) (d0:d≠0):QW (Rat.divInt n d):=by
 have h3:=H8_big
 have q:=QB.divInt (k:=63) d0 (n:=n) (by have:=hn.1;have:=hn.2;omega) (by have:=hd.1;have:=hd.2;omega)
 obtain⟨q1,q2⟩:=q
 have e:2 ^ 63=9223372036854775808:=by decide
 rw[e] at q1 q2
 exact⟨⟨by omega,by omega⟩,⟨by omega,by omega⟩⟩
theorem inW64 {n:Int} (hn:In64 n):InW n:=by
 have h3:=H8_big
 exact⟨by have:=hn.1;omega,by have:=hn.2;omega⟩
theorem wideN0 {n:Int} (hn:In64 n) (h0:n≠0):wideN n≠0:=by
 have hw:=inW64 hn
 have:=wdI_wideN hw
 intro h
 rw[h] at this
 have h2:=H8_pos
 unfold wdI at this
 rw[if_pos h2] at this
 omega
theorem shof_ok {h:IH} (n d:Int) (hn:In64 n) (hd:In64 d) (d0:d≠0):WV Proofs.Try.prog (.func (.func 18) #[] #[]) [KI n,KI d] h fun r h'=>Ext h h'∧r=.tuple #[shareV (Rat.divInt n d),KI 0]:=by
 refine enter (nt:=13) (rs:=[.cell 4 27,.tmp 5]) Proofs.Try.func18 rfl rfl rfl (by simp) ?_
 simp -dsimp (disch:=omega) only[wpS,Nat.reduceEqDiff,Nat.reduceAdd,zc27]
 have E1:Ext h (h.new (.cells Z16 0 none)):=(Ext.refl h).new _
 have g1:(h.new (.cells Z16 0 none)).ext.get h.n=some (.cells Z16 0 none):=by simp (disch:=first|omega|(simp only[new_n,put_n];omega)|(repeat first|rw[new_n]|rw[put_n])) only[get_new_same]
 refine call (wideOf_ok n hn) ?_
 rintro _ h1 ⟨X1,rfl⟩
 simp -dsimp (disch:=omega) only[wpS,Nat.reduceEqDiff]
 refine call (wideOf_ok d hd) ?_
 rintro _ h2 ⟨X2,rfl⟩
 simp -dsimp (disch:=omega) only[wpS,Nat.reduceEqDiff]
 refine call (shmake_ok (wideN n) (wideN d) (wideN_lt (inW64 hn)) (wideN_lt (inW64 hd)) (wideN0 hd d0)) ?_
 rintro _ h3 ⟨X3,rfl⟩
 rw[wdI_wideN (inW64 hn),wdI_wideN (inW64 hd),if_pos (qw_div hn hd d0)]
 have m1:=X1.n
 have m2:=X2.n
 have m3:=X3.n
 simp only[new_n] at m1
 have kg:=X3.kept (by omega) (X2.kept (by omega) (X1.kept (by simp) g1))
 simp -dsimp (disch:=omega) only[wpS,wpT,Nat.reduceEqDiff,Nat.reduceLeDiff,Nat.reduceAdd,st27,ld27,kg,shV_cells,shC_len,shC_all,sh_sp3,sh_take]
 exact⟨(((E1.trans X1).trans X2).trans X3).put (by omega) _,rfl⟩
end Go.Id

/-! Contracts: package diagnose: what is wrong with a chain; lists read; sums; means. -/
namespace Go.Id
open Go
theorem kept_p:Kept PRat:=fun _ _ _ _ r e=>r.keep e
def rOf (p:Nat×Nat):Rat:=Rat.divInt (wdI p.1) (wdI p.2)
theorem rOf_parts {p:Nat×Nat} (h:okS p.1 p.2):(rOf p).num=wdI p.1∧((rOf p).den:Int)=wdI p.2:=by
 obtain⟨h1,h2⟩:=h
 obtain⟨a,b⟩:=low_pos (n:=wdI p.1) h1
 rw[h2] at a b
 simp only[Int.natCast_one,Int.ediv_one] at a b
 exact⟨a.symm,b.symm⟩
theorem wrong1_ok {h:IH} (n d:Nat) (hn:n<W8) (hd:d<W8):WV Proofs.Try.prog (.func (.func 62) #[] #[]) [shV n d] h fun r h'=>Ext h h'∧r=.bool (!decide (okS n d)):=by
 refine enter (nt:=6) (rs:=[.tmp 2]) Proofs.Try.func62 rfl rfl rfl (by simp) ?_
 simp -dsimp (disch:=omega) only[wpS,Nat.reduceEqDiff,Nat.reduceLeDiff,ld27,shV_cells,shC_len,sh_take]
 refine call (shcheck_ok n d hn hd) ?_
 rintro _ h1 ⟨hE,rfl⟩
 have E1:=((Ext.refl h).new (.cells (shC n d) 0 none)).trans hE
 by_cases hok:okS n d
 ·rw[if_pos hok]
  simp -dsimp (disch:=omega) only[wpS,wpT,Nat.reduceEqDiff]
  exact⟨E1,by rw[decide_eq_true hok];rfl⟩
 ·rw[if_neg hok]
  simp -dsimp (disch:=omega) only[wpS,wpT,Nat.reduceEqDiff]
  exact⟨E1,by rw[decide_eq_false hok];rfl⟩
abbrev allOk (l:List (Nat×Nat)):Prop:=∀p∈l,okS p.1 p.2
theorem shindex_ok {h:IH} {v:Value} {l:List (Nat×Nat)} (hv:ShSl h v l):WV Proofs.Try.prog (.func (.func 78) #[] #[]) [v,(.func (.func 62) #[] #[])] h fun r h'=>Ext h h' ∧ ∃c:Int,r=KI c∧(0≤c ↔ ¬allOk l):=by
 have hlb:=hv.2.1
 refine enter (nt:=19) (rs:=[.tmp 4]) Proofs.Try.func78 rfl rfl rfl (by simp) ?_
 simp -dsimp (disch:=omega) only[wpS,Nat.reduceEqDiff,Nat.reduceAdd,hv.1.len sl28]
 refine loop (fun m fr h1 => ∃i:Nat,i+m=l.length∧Ext h h1∧(∀j p,j<i→l[j]?=some p→okS p.1 p.2)∧fget fr 0=some v∧fget fr 1=some (.func (.func 62) #[] #[])∧fget fr 7=some (KN l.length)∧fget fr 8=some (KN i)) l.length
  ⟨0,by omega,Ext.refl _,fun j p hj=>by omega,by simp,by simp,by simp,by simp⟩ ?_
 rintro m fr h1 ⟨i,him,hE,hok,f0,f1,f7,f8⟩
 simp -dsimp (disch:=omega) only[wpS,f7,f8]
 refine bq_intro ?_ ?_<;>intro hc<;>simp only[decide_eq_true_eq,decide_eq_false_iff_not] at hc
 ·have hi:i<l.length:=by omega
  obtain⟨p,hp⟩ : ∃p,l[i]?=some p:=⟨_,List.getElem?_eq_getElem hi⟩
  have hpm:=List.mem_of_getElem? hp
  obtain⟨w1,w2⟩:=hv.2.2 p hpm
  simp -dsimp (disch:=omega) only[wpS,wpT,Nat.reduceEqDiff,f0,f1,f8,hv.1.idx es28 hi,hv.ld hE.keep hp]
  refine call (wrong1_ok p.1 p.2 w1 w2) ?_
  rintro _ h2 ⟨hE2,rfl⟩
  have E2:=hE.trans hE2
  by_cases hk:okS p.1 p.2
  ·rw[decide_eq_true hk]
   simp -dsimp (disch:=omega) only[wpS,wpT,Nat.reduceEqDiff,f8]
   refine⟨m - 1,by omega,i+1,by omega,E2,?_,by simp[f0],by simp[f1],by simp[f7],by simp⟩
   intro j q hj hq
   by_cases hji:j=i
   ·subst hji;rw[hp] at hq;cases hq;exact hk
   ·exact hok j q (by omega) hq
  ·rw[decide_eq_false hk]
   simp -dsimp (disch:=omega) only[wpS,wpT,Nat.reduceEqDiff]
   exact⟨E2,(i:Int),rfl,fun _ hall=>hk (hall p hpm),fun _=>by omega⟩
 ·simp -dsimp (disch:=omega) only[wpS,wpT]
  refine⟨hE,-1,rfl,fun h=>by omega,fun hn=>?_⟩
  exfalso
  apply hn
  intro p hp
  obtain⟨j,hj⟩:=List.getElem?_of_mem hp
  have:=(List.getElem?_eq_some_iff.1 hj).1
  exact hok j p (by omega) hj
theorem wrong_ok {h:IH} {v:Value} {l:List (Nat×Nat)} (hv:ShSl h v l):WV Proofs.Try.prog (.func (.func 40) #[] #[]) [v] h fun r h'=>Ext h h'∧r=.bool (decide (¬allOk l)):=by
 refine enter (nt:=5) (rs:=[.tmp 2]) Proofs.Try.func40 rfl rfl rfl (by simp) ?_
 simp -dsimp (disch:=omega) only[wpS,Nat.reduceEqDiff]
 have hcf:WV Proofs.Try.prog (.func (.func 61) #[] #[]) [v,(.func (.func 62) #[] #[])] h fun r h'=>Ext h h'∧r=.bool (decide (¬allOk l)):=by
  refine enter (nt:=9) (rs:=[.tmp 4]) Proofs.Try.func61 rfl rfl rfl (by simp) ?_
  simp -dsimp (disch:=omega) only[wpS,Nat.reduceEqDiff,Nat.reduceAdd]
  refine call (shindex_ok hv) ?_
  rintro _ h1 ⟨hE,c,rfl,hc⟩
  simp -dsimp (disch:=omega) only[wpS,Nat.reduceEqDiff]
  exact⟨hE,by rw[decide_eq_decide.2 hc]⟩
 refine call hcf ?_
 rintro _ h1 ⟨hE,rfl⟩
 simp -dsimp (disch:=omega) only[wpS,wpT,Nat.reduceEqDiff]
 exact hE
def chErr (l:List (Nat×Nat)):Int:=if 200<l.length then 3 else if ¬allOk l then 20 else if l.length=0 then 4 else 0
theorem dgcheck_ok {h:IH} {v:Value} {l:List (Nat×Nat)} (hv:ShSl h v l):WV Proofs.Try.prog (.func (.func 20) #[] #[]) [v] h fun r h'=>Ext h h'∧r=KI (chErr l):=by
 unfold chErr
 refine enter (nt:=14) (rs:=[.tmp 2]) Proofs.Try.func20 rfl rfl rfl (by simp) ?_
 simp -dsimp (disch:=omega) only[wpS,Nat.reduceEqDiff,hv.1.len sl28]
 refine bq_intro ?_ ?_<;>intro hc<;>simp only[decide_eq_true_eq,decide_eq_false_iff_not] at hc
 ·rw[if_pos (by omega)]
  simp -dsimp (disch:=omega) only[wpS,wpT,Nat.reduceEqDiff]
  exact Ext.refl h
 ·rw[if_neg (by omega)]
  simp -dsimp (disch:=omega) only[wpS,wpT,Nat.reduceEqDiff]
  refine call (wrong_ok hv) ?_
  rintro _ h1 ⟨hE,rfl⟩
  by_cases hall:allOk l
  ·rw[if_neg (by simpa using hall),decide_eq_false (by simpa using hall)]
   simp -dsimp (disch:=omega) only[wpS,Nat.reduceEqDiff,hv.1.len sl28]
   refine bq_intro ?_ ?_<;>intro hc2<;>simp only[beq_iff_eq,beq_eq_false_iff_ne,ne_eq] at hc2
   ·rw[if_pos (by omega)]
    simp -dsimp (disch:=omega) only[wpS,wpT,Nat.reduceEqDiff]
    exact hE
   ·rw[if_neg (by omega)]
    simp -dsimp (disch:=omega) only[wpS,wpT]
    exact hE
  ·rw[if_pos hall,decide_eq_true hall]
   simp -dsimp (disch:=omega) only[wpS,wpT,Nat.reduceEqDiff]
   exact hE
theorem read4 {P:Program} {t:TypeId} {bytes:Nat} (hT:appT P t=some (4,bytes)) (hb:bytes≤1000) {R:IH→Value→Rat→Prop} (kR:Kept R) {h:IH} {n0:Nat} {v:Value} {l:List Rat} {cs:List Value} (a:Acc h n0 4 v l.length cs) (hc:ElCs R h l cs) {x1 x2 x3 x4:Value} {q:Rat} (r:R h (.agg #[x1,x2,x3,x4]) q) (o:([x1,x2,x3,x4]:List Value).all cellOK=true) (hl:l.length<100000) (h0:n0≤h.n) {h0':IH} (e0:Ext h0' h) (hn0:h0'.n≤n0) :
  ∃v' h',append P (h.new (.cells [x1,x2,x3,x4] 4 none)) t v (.slice (some ⟨2*h.n,0,none⟩) 1 3)=some (v',h')∧Acc h' n0 4 v' (l ++ [q]).length (cs ++ [x1,x2,x3,x4])∧ElCs R h' (l ++ [q]) (cs ++ [x1,x2,x3,x4])∧Grow h h'∧Ext h0' h':=by
 have hsz:(l.length+1)*(bytes+1)≤1099511627776:=by
  have:(l.length+1)*(bytes+1)≤100000*1001:=Nat.mul_le_mul (by omega) (by omega)
  omega
 obtain⟨v',h',b1,b2,b3,b4⟩:=a.appN hT (m:=1) (new:=[x1,x2,x3,x4]) (by omega) rfl o hsz h0 e0 hn0
 exact⟨v',h',b1,by simpa using b2,(hc.snoc r).keep kR b3.keep,b3,b4⟩
set_option maxHeartbeats 2000000 in
theorem read_list_ok {h:IH} {v:Value} {l:List (Nat×Nat)} (hv:ShSl h v l) (hok:allOk l) (hl:l.length≤1000):WV Proofs.Try.prog (.func (.func 33) #[] #[]) [v] h fun r h'=>Ext h h'∧ElSl PRat h' r (l.map rOf):=by
 refine enter (nt:=19) (rs:=[.tmp 2]) Proofs.Try.func33 rfl rfl rfl (by simp) ?_
 simp -dsimp (disch:=omega) only[wpS,Nat.reduceEqDiff,hv.1.len sl28]
 refine loop (fun m fr h1 => ∃(i:Nat) (out:Value) (cs:List Value),i+m=l.length∧Ext h h1∧Acc h1 h.n 4 out ((l.take i).map rOf).length cs∧ElCs PRat h1 ((l.take i).map rOf) cs∧fget fr 3=some out∧fget fr 6=some v∧fget fr 7=some (KN l.length)∧fget fr 8=some (KN i)) l.length
  ⟨0,.slice none 0 0,[],by omega,Ext.refl _,Acc.nil h _ (by omega),by simp[ElCs],by simp,by simp,by simp,by simp⟩ ?_
 rintro m fr h1 ⟨i,out,cs,him,hE,hA,hC,f3,f6,f7,f8⟩
 simp -dsimp (disch:=omega) only[wpS,f7,f8]
 refine bq_intro ?_ ?_<;>intro hc<;>simp only[decide_eq_true_eq,decide_eq_false_iff_not] at hc
 ·have hi:i<l.length:=by omega
  obtain⟨p,hp⟩ : ∃p,l[i]?=some p:=⟨_,List.getElem?_eq_getElem hi⟩
  have hpm:=List.mem_of_getElem? hp
  obtain⟨w1,w2⟩:=hv.2.2 p hpm
  simp -dsimp (disch:=omega) only[wpS,wpT,Nat.reduceEqDiff,Nat.reduceLeDiff,Nat.reduceAdd,ld27,zc27,st27,f3,f6,f8,hv.1.idx es28 hi,hv.ld hE.keep hp,shV_cells,shC_len,shC_all,sh_sp3,sh_take]
  have E1:Ext h1 ((h1.new (.cells Z16 0 none)).put h1.n (.cells (shC p.1 p.2) 0 none)):=((Ext.refl h1).new _).put (Nat.le_refl _) _
  refine call (shread_ok p.1 p.2 w1 w2) ?_
  rintro r h2 ⟨hE2,hr⟩
  obtain⟨q1,q2⟩:=rOf_parts (hok p hpm)
  have hr':PRat h2 r (rOf p):=by unfold PRat;rw[q1,q2];exact hr
  obtain⟨a3,s3,b3,t3,rfl,_,_,_,o1,_,o2,o3,o4⟩:=hr'.parts
  have X2:=E1.trans hE2
  have n1:=hE.n
  have n2:=X2.n
  obtain⟨out',h5,hap,hA5,hC5,hG5,hE5⟩:=read4 ap53 (by omega) kept_p (hA.ext X2) (hC.keep kept_p X2.keep) hr' (by simp[o1,o2,o3,o4]) (by simp;omega) (by omega) (hE.trans X2) (Nat.le_refl _)
  have eT:(l.take i).map rOf ++ [rOf p]=(l.take (i+1)).map rOf:=by rw[take_snoc hp,List.map_append];rfl
  rw[eT] at hA5 hC5
  simp -dsimp (disch:=omega) only[wpS,wpT,Nat.reduceEqDiff,Nat.reduceLeDiff,Nat.reduceAdd,bs53,ba53_53,f8,hap]
  exact⟨m - 1,by omega,i+1,out',_,by omega,hE5,hA5,hC5,by simp,by simp[f6],by simp[f7],by simp⟩
 ·obtain rfl:i=l.length:=by omega
  rw[List.take_length] at hA hC
  simp -dsimp (disch:=omega) only[wpS,wpT,Nat.reduceEqDiff,f3]
  exact⟨hE,cs,hA.sl,hC,by simp;omega⟩
end Go.Id

/-! Contracts: package diagnose: sums, means, squares, chains. -/
namespace Go.Id
open Go
theorem plain_ok {h:IH} {v:Value} {q:Rat} (hv:PRat h v q):WV Proofs.Try.prog (.func (.func 42) #[] #[]) [v] h fun r h'=>Ext h h'∧PRat h' r q:=by
 obtain⟨a1,s1,b1,t1,rfl,hn1,hd1,c1,o1,c2,o2,o3,o4⟩:=hv.parts
 refine enter (nt:=4) (rs:=[.cell 2 51]) Proofs.Try.func42 rfl rfl rfl (by simp) ?_
 simp -dsimp (maxSteps:=1000000) (disch:=first|omega|(simp only[new_n,put_n];omega)|decide +kernel|(repeat first|rw[new_n]|rw[put_n])) only[wpS,wpT,Nat.reduceEqDiff,Nat.reduceLeDiff,Nat.reduceAdd,zc51,ld51,st51,tk4',o1,o2,o3,o4]
 have E1:Ext h (((h.new (.cells [a1,s1,b1,t1] 0 none)).new (.cells ZR 0 none)).put (h.n+1) (.cells [a1,s1,b1,t1] 0 none)):=(((Ext.refl h).new _).new _).put (by omega) _
 exact⟨E1,hv.keep E1.keep⟩
set_option maxHeartbeats 2000000 in
theorem total_ok {h:IH} {v F:Value} {l:List Rat} (hv:ElSl PRat h v l) (f:Rat→Rat) (k:Nat) (hF : ∀h1 w q,Ext h h1→PRat h1 w q→q∈l→WV Proofs.Try.prog F [w] h1 fun r h2=>Ext h1 h2∧PRat h2 r (f q)) (hk : ∀q∈l,QB k (f q)) (hb:l.length*(k+1)<16000000) :
  WV Proofs.Try.prog (.func (.func 41) #[] #[]) [v,F] h fun r h'=>Ext h h'∧PRat h' r (qsum (l.map f)):=by
 obtain⟨cs0,hs0,_,hlen⟩:=id hv
 have hQ : ∀i,i≤l.length→QB (i*(k+1)) (qsum ((l.take i).map f)):=by
  intro i hi
  have:=QB.qsum (k:=k) (l:=l.map f) (by intro q hq;obtain⟨x,hx,rfl⟩:=List.mem_map.1 hq;exact hk x hx) i (by simpa using hi)
  rwa [←List.map_take] at this
 refine enter (nt:=22) (rs:=[.cell 4 51]) Proofs.Try.func41 rfl rfl rfl (by simp) ?_
 simp -dsimp (disch:=omega) only[wpS,Nat.reduceAdd,zc51]
 have E1:Ext h (h.new (.cells ZR 0 none)):=(Ext.refl h).new _
 have g1:(h.new (.cells ZR 0 none)).ext.get h.n=some (.cells ZR 0 none):=by simp (disch:=first|omega|(simp only[new_n,put_n];omega)|(repeat first|rw[new_n]|rw[put_n])) only[get_new_same]
 refine call (rfrom_ok 0 ⟨by omega,by omega⟩) ?_
 rintro z h1 ⟨X1,p1⟩
 have m1:=X1.n
 simp only[new_n] at m1
 obtain⟨a3,s3,b3,t3,rfl,_,_,d1,o1,d2,o2,o3,o4⟩:=p1.parts
 have kg:=X1.kept (by simp) g1
 simp -dsimp (disch:=omega) only[wpS,wpT,Nat.reduceEqDiff,Nat.reduceLeDiff,Nat.reduceAdd,zc51,st51,o1,o2,o3,o4,hs0.len sl53]
 have Ex2:Ext h1 ((h1.new (.cells ZR 0 none)).put h1.n (.cells [a3,s3,b3,t3] 0 none)):=((Ext.refl h1).new _).put (Nat.le_refl _) _
 refine loop (fun m fr hh => ∃(i:Nat) (a s b t:Value),i+m=l.length∧Ext h hh∧h1.n<hh.n∧hh.ext.get h.n=some (.cells ZR 0 none)∧hh.ext.get h1.n=some (.cells [a,s,b,t] 0 none)∧PRat hh (.agg #[a,s,b,t]) (qsum ((l.take i).map f)) ∧
   fget fr 1=some F∧fget fr 4=some (ptr (2*h.n) 0)∧fget fr 5=some (ptr (2*h1.n) 0)∧fget fr 9=some v∧fget fr 10=some (KN l.length)∧fget fr 11=some (KN i)) l.length
  ⟨0,a3,s3,b3,t3,by omega,(E1.trans X1).trans Ex2,by simp,by simp (disch:=first|omega|(simp only[new_n,put_n];omega)|(repeat first|rw[new_n]|rw[put_n])) only[get_new_old,get_put_old];exact kg,by simp (disch:=first|omega|(simp only[new_n,put_n];omega)|(repeat first|rw[new_n]|rw[put_n])) only[get_put_same],p1.keep Ex2.keep,by simp,by simp,by simp,by simp,by simp,by simp⟩ ?_
 clear p1 kg Ex2
 rintro m fr hh ⟨i,a,s,b,t,him,hE,hn,hg,hg5,hp,f1,f4,f5,f9,f10,f11⟩
 simp -dsimp (disch:=omega) only[wpS,f10,f11]
 refine bq_intro ?_ ?_<;>intro hc<;>simp only[decide_eq_true_eq,decide_eq_false_iff_not] at hc
 ·have hi:i<l.length:=by omega
  obtain⟨q,hq⟩ : ∃q,l[i]?=some q:=⟨_,List.getElem?_eq_getElem hi⟩
  have hqm:=List.mem_of_getElem? hq
  obtain⟨a2,s2,b2,t2,hld,hr⟩:=hv.ld kept_p hE.keep hq (P:=Proofs.Try.prog) (t:=51) ag51 sz51
  obtain⟨_,_,_,_,hhe,_,_,_,q1,_,q2,q3,q4⟩:=hr.parts
  cases hhe
  simp -dsimp (disch:=omega) only[wpS,wpT,Nat.reduceEqDiff,Nat.reduceLeDiff,Nat.reduceAdd,zc51,st51,f9,f11,hs0.idx es53 hi,hld,q1,q2,q3,q4]
  obtain⟨H0,hH0⟩ : ∃H0,H0=(hh.new (.cells ZR 0 none)).put hh.n (.cells [a2,s2,b2,t2] 0 none):=⟨_,rfl⟩
  have e0:Ext hh H0:=by rw[hH0];exact((Ext.refl hh).new _).put (Nat.le_refl _) _
  have n0:H0.n=hh.n+1:=by rw[hH0];rfl
  have gx:H0.ext.get hh.n=some (.cells [a2,s2,b2,t2] 0 none):=by rw[hH0];simp (disch:=first|omega|(simp only[new_n,put_n];omega)|(repeat first|rw[new_n]|rw[put_n])) only[get_put_same]
  have gs:=e0.kept hn hg5
  have gz:=e0.kept (by have:=hE.n;omega) hg
  rw[←hH0]
  clear hH0
  have X0:=Ext.refl H0
  obtain⟨_,_,L1⟩:=pl4 gs
  obtain⟨_,_,L2⟩:=pl4 gx
  have hnn:=hE.n
  refine drawn [(0,[4])] (by kernel_rfl) (by kernel_rfl) rfl ?_
  simp -dsimp (disch:=omega) only[wpS,wpT,Nat.reduceEqDiff,Nat.reduceLeDiff,Nat.reduceAdd,ld51,f1,f5,row_of gs,row_of gx,tk4']
  refine call (hF H0 _ q (hE.trans e0) (hr.keep e0.keep) hqm) ?_
  rintro r h2 ⟨X2,p2⟩
  have m2:=X2.n
  simp -dsimp (disch:=omega) only[wpS,Nat.reduceEqDiff]
  have hkb:i*(k+1)+k+1<16000000:=by
   have:(i+1)*(k+1)≤l.length*(k+1):=Nat.mul_le_mul_right _ hi
   rw[Nat.add_mul] at this;omega
  refine call (rplus_ok (hp.keep (e0.trans X2).keep) p2 (hQ i (by omega)) (hk q hqm) hkb) ?_
  rintro r3 h3 ⟨hE3,p3⟩
  have m3:=hE3.n
  have X3:=X2.trans hE3
  have eT:qsum ((l.take i).map f)+f q=qsum ((l.take (i+1)).map f):=by rw[take_snoc hq,List.map_append,List.map_cons,List.map_nil,qsum_snoc]
  rw[eT] at p3
  obtain⟨a4,s4,b4,t4,rfl,_,_,_,o1,_,o2,o3,o4⟩:=p3.parts
  have k5:=X3.kept (by omega) gs
  have kz:=X3.kept (by omega) gz
  simp -dsimp (disch:=omega) only[wpS,wpT,Nat.reduceEqDiff,Nat.reduceLeDiff,Nat.reduceAdd,st51,f5,k5,o1,o2,o3,o4]
  have f5':opd fr (.tmp 5)=some (ptr (2*h1.n) 0):=f5
  refine⟨wpSteady_one rfl rfl rfl rfl (steady_ext (H0:=H0) (b:=2*h1.n) (o:=0) ?_ (by omega) (by assumption) (by assumption) L1),?_⟩
  ·exact f5
  simp -dsimp (disch:=omega) only[wpS,wpT,Nat.reduceEqDiff,Nat.reduceAdd,f11]
  refine⟨m - 1,by omega,i+1,a4,s4,b4,t4,by omega,((hE.trans e0).trans X3).put (by omega) _,by simp only[put_n];omega,by simp (disch:=first|omega|(simp only[new_n,put_n];omega)|(repeat first|rw[new_n]|rw[put_n])) only[get_put_old];exact kz,get_put_same _ _ rfl,p3.keep ((Keep.refl _).put k5 _),by simp[f1],by simp[f4],by simp[f5],by simp[f9],by simp[f10],by simp⟩
 ·obtain rfl:i=l.length:=by omega
  rw[List.take_length] at hp
  obtain⟨_,_,_,_,hhe,_,_,_,o1,_,o2,o3,o4⟩:=hp.parts
  cases hhe
  simp -dsimp (disch:=omega) only[wpS,wpT,Nat.reduceEqDiff,Nat.reduceLeDiff,Nat.reduceAdd,st51,ld51,f4,f5,row_of hg5,hg,tk4',o1,o2,o3,o4]
  exact⟨hE.put (Nat.le_refl _) _,hp.keep ((Keep.refl _).put hg _)⟩
end Go.Id

/-! Contracts: package diagnose: means, squares, chains. -/
namespace Go.Id
open Go
abbrev qlen (l:List Rat):Rat:=((l.length:Int):Rat)
def qmean (l:List Rat):Rat:=qsum l / qlen l
def qsq (l:List Rat) (c:Rat):Rat:=qsum (l.map fun x=>(x - c)*(x - c))
theorem qlen_bits {l:List Rat} (h:l.length≤100000):QB 17 (qlen l):=by
 refine QB.int ?_
 have e:2 ^ 17=131072:=by decide
 rw[Int.natAbs_natCast,e];omega
theorem qlen_ne {l:List Rat} (h:l ≠ []):qlen l≠0:=by
 intro h0
 have:=Rat.intCast_eq_zero_iff.1 h0
 exact h (List.length_eq_zero_iff.1 (by omega))
theorem qmean_bits {l:List Rat} {k:Nat} (h0:l ≠ []) (hl:l.length≤100000) (hk : ∀q∈l,QB k q):QB (l.length*(k+1)+17) (qmean l):=(QB.qsumAll hk).div (qlen_bits hl) (qlen_ne h0)
theorem qsq_bits {l:List Rat} {k kc:Nat} {c:Rat} (hk : ∀q∈l,QB k q) (hc:QB kc c) : ∀q∈l,QB (k+kc+1+(k+kc+1)) ((q - c)*(q - c)):=fun q hq=>((hk q hq).sub hc).mul ((hk q hq).sub hc)
set_option maxHeartbeats 1000000 in
theorem mean_ok {h:IH} {v:Value} {l:List Rat} (hv:ElSl PRat h v l) (h0:l ≠ []) {k:Nat} (hk : ∀q∈l,QB k q) (hb:l.length*(k+1)+17<16000000) :
  WV Proofs.Try.prog (.func (.func 22) #[] #[]) [v] h fun r h'=>Ext h h'∧PRat h' r (qmean l):=by
 obtain⟨cs0,hs0,_,hlen⟩:=id hv
 refine enter (nt:=9) (rs:=[.cell 2 51]) Proofs.Try.func22 rfl rfl rfl (by simp) ?_
 simp -dsimp (disch:=omega) only[wpS,Nat.reduceEqDiff,zc51]
 have E1:Ext h (h.new (.cells ZR 0 none)):=(Ext.refl h).new _
 have g1:(h.new (.cells ZR 0 none)).ext.get h.n=some (.cells ZR 0 none):=by simp (disch:=first|omega|(simp only[new_n,put_n];omega)|(repeat first|rw[new_n]|rw[put_n])) only[get_new_same]
 refine call (total_ok (hv.keep kept_p E1.keep) (fun q=>q) k (fun h1 w q _ hw _=>plain_ok hw) hk (by omega)) ?_
 rintro r1 h1 ⟨X1,p1⟩
 rw[List.map_id'] at p1
 have m1:=X1.n
 simp only[new_n] at m1
 simp -dsimp (disch:=omega) only[wpS,Nat.reduceEqDiff,hs0.len sl53]
 refine call (rfrom_ok (l.length:Int) ⟨by omega,by omega⟩) ?_
 rintro r2 h2 ⟨X2,p2⟩
 have m2:=X2.n
 simp -dsimp (disch:=omega) only[wpS,Nat.reduceEqDiff]
 refine call (rover_ok (p1.keep X2.keep) p2 (QB.qsumAll hk) (qlen_bits hlen) hb (qlen_ne h0)) ?_
 rintro r3 h3 ⟨X3,p3⟩
 have m3:=X3.n
 obtain⟨a3,s3,b3,t3,rfl,_,_,d1,o1,d2,o2,o3,o4⟩:=p3.parts
 have kg:=X3.kept (by omega) (X2.kept (by omega) (X1.kept (by simp) g1))
 simp -dsimp (disch:=omega) only[wpS,wpT,Nat.reduceEqDiff,Nat.reduceLeDiff,Nat.reduceAdd,st51,ld51,kg,o1,o2,o3,o4,tk4']
 exact⟨((((E1.trans X1).trans X2).trans X3)).put (by omega) _,p3.keep ((Keep.refl _).put kg _)⟩
set_option maxHeartbeats 1000000 in
theorem squares1_ok {h:IH} {v:Value} {x c:Rat} {b:Nat} {a0 s0 b0 t0:Value} (hv:PRat h v x) (hb:b<h.n) (hg:h.ext.get b=some (.cells [a0,s0,b0,t0] 0 none)) (hc:PRat h (.agg #[a0,s0,b0,t0]) c) {k kc:Nat} (qx:QB k x) (qc:QB kc c) (hk:k+kc+1+(k+kc+1)<16000000) :
  WV Proofs.Try.prog (.func (.func 76) #[] #[ptr (2*b) 0]) [v] h fun r h'=>Ext h h'∧PRat h' r ((x - c)*(x - c)):=by
 obtain⟨a1,s1,b1,t1,rfl,_,_,c1,o1,c2,o2,o3,o4⟩:=hv.parts
 refine enter (nt:=11) (rs:=[.cell 3 51]) Proofs.Try.func76 rfl rfl rfl (by simp) ?_
 simp -dsimp (maxSteps:=1000000) (disch:=first|omega|(simp only[new_n,put_n];omega)|decide +kernel|(repeat first|rw[new_n]|rw[put_n])) only[wpS,wpT,Nat.reduceEqDiff,Nat.reduceLeDiff,Nat.reduceAdd,zc51,ld51,row_of hg,tk4']
 have E1:Ext h ((h.new (.cells [a1,s1,b1,t1] 0 none)).new (.cells ZR 0 none)):=((Ext.refl h).new _).new _
 have g1:((h.new (.cells [a1,s1,b1,t1] 0 none)).new (.cells ZR 0 none)).ext.get (h.n+1)=some (.cells ZR 0 none):=by simp (disch:=first|omega|(simp only[new_n,put_n];omega)|(repeat first|rw[new_n]|rw[put_n])) only[get_new_same]
 refine call (rminus_ok (hv.keep E1.keep) (hc.keep E1.keep) qx qc (by omega)) ?_
 rintro r1 h1 ⟨X1,p1⟩
 have m1:=X1.n
 simp only[new_n] at m1
 obtain⟨a3,s3,b3,t3,rfl,_,_,d1,o1,d2,o2,o3,o4⟩:=p1.parts
 simp -dsimp (maxSteps:=1000000) (disch:=first|omega|(simp only[new_n,put_n];omega)|decide +kernel|(repeat first|rw[new_n]|rw[put_n])) only[wpS,wpT,Nat.reduceEqDiff,Nat.reduceLeDiff,Nat.reduceAdd,zc51,ld51,st51,o1,o2,o3,o4,tk4']
 have E2:Ext h1 ((h1.new (.cells ZR 0 none)).put h1.n (.cells [a3,s3,b3,t3] 0 none)):=((Ext.refl h1).new _).put (Nat.le_refl _) _
 have p1':=p1.keep E2.keep
 refine call (rtimes_ok p1' p1' (qx.sub qc) (qx.sub qc) hk) ?_
 rintro r2 h2 ⟨X2,p2⟩
 have m2:=X2.n
 simp only[put_n,new_n] at m2
 obtain⟨a4,s4,b4,t4,rfl,_,_,d1,o5,d2,o6,o7,o8⟩:=p2.parts
 have kg:=X2.kept (by simp;omega) (E2.kept (by omega) (X1.kept (by simp) g1))
 simp -dsimp (maxSteps:=1000000) (disch:=first|omega|(simp only[new_n,put_n];omega)|decide +kernel|(repeat first|rw[new_n]|rw[put_n])) only[wpS,wpT,Nat.reduceEqDiff,Nat.reduceLeDiff,Nat.reduceAdd,ld51,st51,kg,o5,o6,o7,o8,tk4']
 exact⟨((((E1.trans X1).trans E2).trans X2)).put (by omega) _,p2.keep ((Keep.refl _).put kg _)⟩
set_option maxHeartbeats 1000000 in
theorem squares_ok {h:IH} {v w:Value} {l:List Rat} {c:Rat} (hv:ElSl PRat h v l) (hw:PRat h w c) {k kc:Nat} (hk : ∀q∈l,QB k q) (qc:QB kc c) (hb:l.length*(k+kc+1+(k+kc+1)+1)<16000000) (hs:k+kc+1+(k+kc+1)<16000000) :
  WV Proofs.Try.prog (.func (.func 59) #[] #[]) [v,w] h fun r h'=>Ext h h'∧PRat h' r (qsq l c):=by
 obtain⟨a1,s1,b1,t1,rfl,_,_,c1,o1,c2,o2,o3,o4⟩:=hw.parts
 refine enter (nt:=8) (rs:=[.cell 4 51]) Proofs.Try.func59 rfl rfl rfl (by simp) ?_
 simp -dsimp (disch:=omega) only[wpS,Nat.reduceEqDiff,Nat.reduceAdd,zc51]
 have E1:Ext h ((h.new (.cells [a1,s1,b1,t1] 0 none)).new (.cells ZR 0 none)):=((Ext.refl h).new _).new _
 have g0:((h.new (.cells [a1,s1,b1,t1] 0 none)).new (.cells ZR 0 none)).ext.get h.n=some (.cells [a1,s1,b1,t1] 0 none):=by simp (disch:=first|omega|(simp only[new_n,put_n];omega)|(repeat first|rw[new_n]|rw[put_n])) only[get_new_same,get_new_old]
 have g1:((h.new (.cells [a1,s1,b1,t1] 0 none)).new (.cells ZR 0 none)).ext.get (h.n+1)=some (.cells ZR 0 none):=by simp (disch:=first|omega|(simp only[new_n,put_n];omega)|(repeat first|rw[new_n]|rw[put_n])) only[get_new_same]
 refine call (total_ok (hv.keep kept_p E1.keep) (fun x=>(x - c)*(x - c)) (k+kc+1+(k+kc+1)) (fun h1 w q e hw' hq=>?_) (qsq_bits hk qc) hb) ?_
 ·have en:=e.n
  simp only[new_n] at en
  exact squares1_ok hw' (by omega) (e.kept (by simp<;>omega) g0) (hw.keep (E1.trans e).keep) (hk q hq) qc hs
 rintro r1 h1 ⟨X1,p1⟩
 have m1:=X1.n
 simp only[new_n] at m1
 obtain⟨a3,s3,b3,t3,rfl,_,_,d1,o1,d2,o2,o3,o4⟩:=p1.parts
 have kg:=X1.kept (by simp) g1
 simp -dsimp (disch:=omega) only[wpS,wpT,Nat.reduceEqDiff,Nat.reduceLeDiff,Nat.reduceAdd,st51,ld51,kg,o1,o2,o3,o4,tk4']
 exact⟨(E1.trans X1).put (by omega) _,p1.keep ((Keep.refl _).put kg _)⟩
def RunIs (h:IH) (v:Value) (l:List Rat) (c:Rat):Prop:=∃s a1 s1 b1 t1,v=.agg #[s,a1,s1,b1,t1]∧ElSl PRat h s l∧PRat h (.agg #[a1,s1,b1,t1]) c
theorem RunIs.keep {h h':IH} {v:Value} {l:List Rat} {c:Rat} (r:RunIs h v l c) (e:Keep h h'):RunIs h' v l c:=let ⟨s,a,b,c,d,h1,h2,h3⟩:=r;⟨s,a,b,c,d,h1,h2.keep kept_p e,h3.keep e⟩
theorem ElSl.co {R:IH→Value→Rat→Prop} {h:IH} {v:Value} {l:List Rat} (s:ElSl R h v l):v.cells = #[v]∧cellOK v=true:=let ⟨cs,a,_⟩:=s;⟨a.cells,a.cok⟩
set_option maxHeartbeats 1000000 in
theorem chain_ok {h:IH} {v:Value} {l:List (Nat×Nat)} (hv:ShSl h v l) (hok:allOk l) (hl:l.length≤1000) (h0:l ≠ []) {k:Nat} (hk : ∀q∈l.map rOf,QB k q) (hb:l.length*(k+1)+17<16000000) :
  WV Proofs.Try.prog (.func (.func 21) #[] #[]) [v] h fun r h'=>Ext h h'∧RunIs h' r (l.map rOf) (qmean (l.map rOf)):=by
 refine enter (nt:=10) (rs:=[.cell 2 55]) Proofs.Try.func21 rfl rfl rfl (by simp) ?_
 simp -dsimp (disch:=omega) only[wpS,Nat.reduceEqDiff,zc55]
 have E1:Ext h (h.new (.cells [.slice none 0 0,.bool false,.slice none 0 0,.bool false,.slice none 0 0] 0 none)):=(Ext.refl h).new _
 have g1:(h.new (.cells [.slice none 0 0,.bool false,.slice none 0 0,.bool false,.slice none 0 0] 0 none)).ext.get h.n=some (.cells [.slice none 0 0,.bool false,.slice none 0 0,.bool false,.slice none 0 0] 0 none):=by simp (disch:=first|omega|(simp only[new_n,put_n];omega)|(repeat first|rw[new_n]|rw[put_n])) only[get_new_same]
 refine call (read_list_ok (hv.keep E1.keep) hok hl) ?_
 rintro s h1 ⟨X1,hs⟩
 have m1:=X1.n
 simp only[new_n] at m1
 simp -dsimp (disch:=omega) only[wpS,Nat.reduceEqDiff]
 refine call (mean_ok hs (by simpa using h0) hk (by simpa using hb)) ?_
 rintro r h2 ⟨X2,p2⟩
 have m2:=X2.n
 obtain⟨a3,s3,b3,t3,rfl,_,_,d1,o1,d2,o2,o3,o4⟩:=p2.parts
 obtain⟨cc,co⟩:=hs.co
 have kg:=X2.kept (by omega) (X1.kept (by simp) g1)
 simp -dsimp (disch:=omega) only[wpS,wpT,Nat.reduceEqDiff,Nat.reduceLeDiff,Nat.reduceAdd,bv55,pl55_0,pl55_1,st55,ld55,kg,cc,co,o1,o2,o3,o4]
 have kp:=(Keep.refl h2).put kg (.cells [s,a3,s3,b3,t3] 0 none)
 exact⟨((E1.trans X1).trans X2).put (by omega) _,_,_,_,_,_,rfl,hs.keep kept_p (X2.keep.trans kp),p2.keep kp⟩
end Go.Id

/-! Loops over functions, whose rounds may lay their variable into memory and may end early. -/
namespace Go.Id
open Go
def doneL (r:ILoop) (c:Code):ILoop:={ r with state:=.done,pending:=some c }
@[reducible] def bodyE (k:Nat) (r:ILoop) (K:Value→IH→Prop) (e:IExit) (_:Fr) (h:IH):Prop :=
 h.ext.get k=some (.loop (busyL r))∧match e with
  | .normal=>K (.bool true) (h.put k (.loop r))
  | .exit i=>K (.bool false) (h.put k (.loop (doneL r (.exit i))))
  | .ret=>K (.bool false) (h.put k (.loop (doneL r .ret)))
@[reducible] def asgK (P:Program) (k:Nat) (r:ILoop) (K:Value→IH→Prop) (e:IExit) (fr:Fr) (h:IH):Prop :=
 e=.normal∧h.ext.get k=some (.loop r)∧Do (wpC P r.fn r.nt (some k) r.body fr (h.put k (.loop (busyL r)))) (bodyE k r K) nx
theorem wv_yield2 {P:Program} {k:Nat} {r:ILoop} {p:Tmp} (hst:r.state=.ready) (hpe:r.pending=none) (hps:r.params = [p]) (hp:p<r.nt) (v:Value) (h:IH) (K:Value→IH→Prop) (hg:h.ext.get k=some (.loop r))
  (w:wpC P r.fn r.nt (some k) r.assign ((p,v) :: r.fr) h (asgK P k r K)):WV P (.func (.yield (2*k)) #[] #[]) [v] h K:=by
 obtain⟨⟨e0,fr0,h0⟩,⟨N0,hN0⟩,he0,hg0,w⟩:=wpC_sound w
 simp only at he0 hg0 w hN0
 subst he0
 obtain⟨⟨e,fr,h1⟩,⟨N,hN⟩,hb,hk⟩:=wpC_sound w
 simp only at hb hk hN
 have hp':Nat.blt p r.nt=true:=by simp only[Nat.blt,Nat.ble_eq];exact hp
 have e1:(2*k % 2 == 0)=true:=by simp
 have e2:2*k / 2=k:=by omega
 have e3:putParams r.nt r.params [v] r.fr=some ((p,v) :: r.fr):=by
  rw[hps];simp[putParams,fput,hp']
 have e5:(r.state == LoopState.ready)=true:=by rw[hst];rfl
 have e6:({ h0 with ext:=h0.ext.set k (.loop { r with state:=.busy }) }:IH)=h0.put k (.loop (busyL r)):=rfl
 have e7:({ busyL r with state:=.ready,pending:=none }:ILoop)=r:=by
  cases r;simp only at hst hpe;subst hst;subst hpe;rfl
 cases e with
 | normal =>
  refine⟨(.bool true,h1.put k (.loop r)),⟨N0+N+1,fun n hn=>?_⟩,hk⟩
  obtain⟨n,rfl⟩ : ∃m,n=m+1:=⟨n - 1,by omega⟩
  have h2:=hN n (by omega)
  have h3:=hN0 n (by omega)
  show(bif 2*k % 2 == 0 then callYield (E0 P) (callV (E0 P) n) n (2*k / 2) ((#[]:Array Value).toList ++ [v]) h else none)=_
  rw[e1,cond_true,e2]
  simp only[callYield,get_loop hg,e3,h3,get_loop hg0,e5,cond_true,e6,h2,get_loop hb,List.nil_append]
  rw[e7];rfl
 | exit i =>
  refine⟨(.bool false,h1.put k (.loop (doneL r (.exit i)))),⟨N0+N+1,fun n hn=>?_⟩,hk⟩
  obtain⟨n,rfl⟩ : ∃m,n=m+1:=⟨n - 1,by omega⟩
  have h2:=hN n (by omega)
  have h3:=hN0 n (by omega)
  show(bif 2*k % 2 == 0 then callYield (E0 P) (callV (E0 P) n) n (2*k / 2) ((#[]:Array Value).toList ++ [v]) h else none)=_
  rw[e1,cond_true,e2]
  simp only[callYield,get_loop hg,e3,h3,get_loop hg0,e5,cond_true,e6,h2,get_loop hb,List.nil_append]
  rfl
 | ret =>
  refine⟨(.bool false,h1.put k (.loop (doneL r .ret))),⟨N0+N+1,fun n hn=>?_⟩,hk⟩
  obtain⟨n,rfl⟩ : ∃m,n=m+1:=⟨n - 1,by omega⟩
  have h2:=hN n (by omega)
  have h3:=hN0 n (by omega)
  show(bif 2*k % 2 == 0 then callYield (E0 P) (callV (E0 P) n) n (2*k / 2) ((#[]:Array Value).toList ++ [v]) h else none)=_
  rw[e1,cond_true,e2]
  simp only[callYield,get_loop hg,e3,h3,get_loop hg0,e5,cond_true,e6,h2,get_loop hb,List.nil_append]
  rfl
def RangeEnd (k:Nat) (r:ILoop) (fr:Fr) (Q:IExit→Fr→IH→Prop) (h1:IH):Prop :=
 (h1.ext.get k=some (.loop r)∧Q .normal fr (h1.put k .dead))∨(∃i,h1.ext.get k=some (.loop (doneL r (.exit i)))∧Q (.exit i) fr (h1.put k .dead))∨(h1.ext.get k=some (.loop (doneL r .ret))∧Q .ret fr (h1.put k .dead))
theorem range2 {P:Program} {fn:FuncId} {nt:Nat} {rd:Option Nat} {f:Operand} {p:Tmp} {assign body:Code} {fr:Fr} {h:IH} {Q:IExit→Fr→IH→Prop} {fv:Value} (hf:opd fr f=some fv) (hrd:roundOK h rd=true) (hp:p<nt)
  (w : ∀(r:ILoop) (y:Value),r.fn=fn→r.nt=nt→r.body=body→(∀v h1 K,h1.ext.get h.n=some (.loop r)→Do (wpC P fn nt (some h.n) assign ((p,v) :: fr) h1) (asgK P h.n r K) nx→WV P y [v] h1 K) →
   WV P fv [y] (h.new (.loop r)) fun _ h1=>RangeEnd h.n r fr Q h1) :
  Do (WRange P fn nt rd f #[p] assign body fr h) Q nx:=by
 have w1:=w { state:=.ready,pending:=none,fn,nt,fr,params:=[p],assign:=assign,body } (.func (.yield (2*h.n)) #[] #[]) rfl rfl rfl
  fun v h1 K hg w=>wv_yield2 (r:={ state:=.ready,pending:=none,fn,nt,fr,params:=[p],assign:=assign,body }) rfl rfl rfl hp v h1 K hg w
 obtain⟨⟨v,h1⟩,⟨N,hN⟩,hq⟩:=w1
 have st : ∀(r:ILoop) (e:IExit),loopOf h1 h.n=some r→(r.state == LoopState.busy)=false→exitOf r.pending=some e → ∀n,N≤n→rangeFn (E0 P) (callV (E0 P) n) fn nt rd f [p] assign body fr h=some (e,fr,h1.put h.n .dead):=by
  intro r e h3 h4 h5 n hn
  have h2:=hN n hn
  simp only at h2
  simp only[rangeFn,hrd,cond_true,hf]
  show(match callV (E0 P) n fv [_] _ with|none=>none|some (_,h1)=>_)=_
  rw[h2]
  simp only[h3,h4,cond_false,h5]
  rfl
 rcases hq with⟨hg,hq⟩|⟨i,hg,hq⟩|⟨hg,hq⟩
 ·exact⟨(.normal,fr,h1.put h.n .dead),⟨N,fun n hn=>st _ _ (get_loop hg) rfl rfl n hn⟩,hq⟩
 ·exact⟨(.exit i,fr,h1.put h.n .dead),⟨N,fun n hn=>st _ _ (get_loop hg) rfl rfl n hn⟩,hq⟩
 ·exact⟨(.ret,fr,h1.put h.n .dead),⟨N,fun n hn=>st _ _ (get_loop hg) rfl rfl n hn⟩,hq⟩
end Go.Id

/-! Contracts: package diagnose: products, autocovariances. -/
namespace Go.Id
open Go
theorem Keep.putAny {a b:IH} (g:Keep a b) {k:Nat} (hk : ∀c e f,b.ext.get k=some (.cells c e f)→e=0) (o:IObj):Keep a (b.put k o):=⟨g.n,g.base,fun j c e f1 hj hg he=>by
 obtain⟨f2,h2⟩:=g.get j c e f1 hj hg he
 refine⟨f2,?_⟩
 rw[get_put,if_neg]
 ·exact h2
 ·rintro rfl;exact he (hk _ _ _ h2)⟩
theorem ElSl.ldAll {R:IH→Value→Rat→Prop} (k:Kept R) {h:IH} {v:Value} {l:List Rat} (s:ElSl R h v l) {i:Nat} {q:Rat} (hi:l[i]?=some q) {P:Program} {t:TypeId} (hT:isAggT P t=some true) (hS:sizeT P t=some 4) :
  ∃a s b u,∀h',Keep h h'→load P h' t (elemAddr v (i*4))=some (.agg #[a,s,b,u])∧R h' (.agg #[a,s,b,u]) q:=by
 obtain⟨cs,hs,hc,hl⟩:=s
 have hil:=(List.getElem?_eq_some_iff.1 hi).1
 have hcl:=hc.len
 obtain⟨a,s,b,u,e1,r⟩:=hc.at hi
 exact⟨a,s,b,u,fun h' e=>⟨by rw[hs.ldAgg e (by omega) (by omega) hT hS,e1],k _ _ _ _ r e⟩⟩
def qpr (l:List Rat) (c:Rat) (k t:Nat):Rat:=(l.getD t 0 - c)*(l.getD (t+k) 0 - c)
def qprods (l:List Rat) (c:Rat) (k:Nat):List Rat:=(List.range (l.length - k)).map (qpr l c k)
def qauto (l:List Rat) (c:Rat) (k:Nat):Rat:=qsum (qprods l c k) / qlen l
theorem qprods_len (l:List Rat) (c:Rat) (k:Nat):(qprods l c k).length=l.length - k:=by simp[qprods]
theorem qprods_at {l:List Rat} {c:Rat} {k t:Nat} (h:t<l.length - k):(qprods l c k)[t]?=some (qpr l c k t):=by simp[qprods,h]
theorem getD_of {l:List Rat} {i:Nat} {q:Rat} (h:l[i]?=some q):l.getD i 0=q:=by rw[List.getD_eq_getElem?_getD,h];rfl
theorem qpr_bits {l:List Rat} {c:Rat} {kb kc:Nat} (hk : ∀q∈l,QB kb q) (hc:QB kc c) {k t:Nat} (h:t+k<l.length):QB (kb+kc+1+(kb+kc+1)) (qpr l c k t):=by
 obtain⟨x,hx⟩ : ∃q,l[t]?=some q:=⟨_,List.getElem?_eq_getElem (by omega)⟩
 obtain⟨y,hy⟩ : ∃q,l[t+k]?=some q:=⟨_,List.getElem?_eq_getElem (by omega)⟩
 rw[qpr,getD_of hx,getD_of hy]
 exact((hk x (List.mem_of_getElem? hx)).sub hc).mul ((hk y (List.mem_of_getElem? hy)).sub hc)
set_option maxHeartbeats 4000000 in
theorem products1_ok {h:IH} {y:Value} {l:List Rat} {c:Rat} {b b2 lag:Nat} {s a1 s1 b1 t1:Value} {kb kc:Nat} (J:Nat→IH→Prop) (D:IH→Prop)
  (hlag:lag<l.length) (hk : ∀q∈l,QB kb q) (hc:QB kc c) (hs:kb+kc+1+(kb+kc+1)<16000000)
  (hJ : ∀i h,J i h→b<h.n∧b2<h.n∧h.ext.get b=some (.cells [s,a1,s1,b1,t1] 0 none)∧h.ext.get b2=some (.cells [KN lag] 0 none)∧ElSl PRat h s l∧PRat h (.agg #[a1,s1,b1,t1]) c)
  (hJe : ∀i h h',J i h→Ext h h'→J i h') (h0:J 0 h) (hD : ∀h,J (l.length - lag) h→D h)
  (step : ∀i h w,i<l.length - lag→J i h→PRat h w (qpr l c lag i)→WV Proofs.Try.prog y [w] h fun r h'=>r=.bool true∧J (i+1) h') :
  WV Proofs.Try.prog (.func (.func 65) #[] #[ptr (2*b) 0,ptr (2*b2) 0]) [y] h fun _ h'=>D h':=by
 obtain⟨_,_,gb,gb2,hl,_⟩:=hJ 0 h h0
 obtain⟨cs0,hs0,_,hlen⟩:=id hl
 have eL:(l.length:Int) - (lag:Int)=((l.length - lag:Nat):Int):=by omega
 refine enter (nt:=36) (rs:=[]) Proofs.Try.func65 rfl rfl rfl (by simp) ?_
 simp -dsimp (disch:=omega) only[wpS,Nat.reduceEqDiff,Nat.reduceAdd,fa55_0,ld53,ld3,row_of gb,row_of gb2,hs0.len sl53,eL]
 refine loop (fun m fr h1 => ∃i:Nat,i+m=l.length - lag∧J i h1∧fget fr 0=some y∧fget fr 1=some (ptr (2*b) 0)∧fget fr 2=some (ptr (2*b2) 0)∧fget fr 9=some (KN (l.length - lag))∧fget fr 10=some (KN i)) (l.length - lag)
  ⟨0,by omega,h0,by simp,by simp,by simp,by simp,by simp⟩ ?_
 clear gb gb2 hl hs0
 rintro m fr h1 ⟨i,him,hJ1,f0,f1,f2,f9,f10⟩
 obtain⟨nb,nb2,gb,gb2,hl,hcc⟩:=hJ i h1 hJ1
 simp -dsimp (disch:=omega) only[wpS,f9,f10]
 refine bq_intro ?_ ?_<;>intro hcx<;>simp only[decide_eq_true_eq,decide_eq_false_iff_not] at hcx
 ·have hi:i<l.length - lag:=by omega
  obtain⟨x,hx⟩ : ∃q,l[i]?=some q:=⟨_,List.getElem?_eq_getElem (by omega)⟩
  obtain⟨z,hz⟩ : ∃q,l[i+lag]?=some q:=⟨_,List.getElem?_eq_getElem (by omega)⟩
  have qx:=hk x (List.mem_of_getElem? hx)
  have qz:=hk z (List.mem_of_getElem? hz)
  obtain⟨xa,xs,xb,xu,hxl⟩:=hl.ldAll kept_p hx (P:=Proofs.Try.prog) (t:=51) ag51 sz51
  obtain⟨za,zs,zb,zu,hzl⟩:=hl.ldAll kept_p hz (P:=Proofs.Try.prog) (t:=51) ag51 sz51
  obtain⟨cs1,hs1,_,_⟩:=id hl
  have eI:(i:Int)+(lag:Int)=((i+lag:Nat):Int):=by omega
  have X0:=Ext.refl h1
  have L10:load Proofs.Try.prog h1 53 (ptr (2*b) 0)=some s:=by
   have r:=row_of gb
   simp -dsimp (disch:=omega) only[wpS,ld53,r]
  have L12:load Proofs.Try.prog h1 3 (ptr (2*b2) 0)=some (KN lag):=by
   have r:=row_of gb2
   simp -dsimp (disch:=omega) only[wpS,ld3,r]
  have L17:load Proofs.Try.prog h1 51 (ptr (2*b) 1)=some (.agg #[a1,s1,b1,t1]):=by
   have r:=row_of gb
   simp -dsimp (disch:=omega) only[wpS,wpT,Nat.reduceLeDiff,Nat.reduceAdd,ld51,r]
   rfl
  simp -dsimp (disch:=omega) only[wpS,wpT,Nat.reduceEqDiff,f10]
  refine drawn [(10,[8]),(12,[8]),(15,[8]),(17,[8])] (by kernel_rfl) (by kernel_rfl) rfl ?_
  simp -dsimp (disch:=omega) only[wpS,wpT,Nat.reduceEqDiff,Nat.reduceLeDiff,Nat.reduceAdd,fa55_0,ld53,ld51,fa55_1,f0,f1,row_of gb,hs1.idx es53 (show i<l.length by omega),(hxl h1 (Keep.refl _)).1]
  refine call (rminus_ok (hxl h1 (Keep.refl _)).2 hcc qx hc (by omega)) ?_
  rintro r1 h2 ⟨X2,p1⟩
  have m2:=X2.n
  simp -dsimp (disch:=omega) only[wpS,wpT,Nat.reduceEqDiff,Nat.reduceLeDiff,Nat.reduceAdd,fa55_0,ld53,ld3,ld51,fa55_1,f1,f2,row_of (X2.kept nb gb),row_of (X2.kept nb2 gb2),eI,hs1.idx es53 (show i+lag<l.length by omega),(hzl h2 X2.keep).1]
  refine call (rminus_ok (hzl h2 X2.keep).2 (hcc.keep X2.keep) qz hc (by omega)) ?_
  rintro r2 h3 ⟨hE3,p2⟩
  have X3:=X2.trans hE3
  simp -dsimp (disch:=omega) only[wpS,Nat.reduceEqDiff]
  refine call (rtimes_ok (p1.keep hE3.keep) p2 (qx.sub hc) (qz.sub hc) hs) ?_
  rintro r3 h4 ⟨hE4,p3⟩
  have X4:=X3.trans hE4
  have e3:(x - c)*(z - c)=qpr l c lag i:=by rw[qpr,getD_of hx,getD_of hz]
  rw[e3] at p3
  simp -dsimp (disch:=omega) only[wpS,Nat.reduceEqDiff]
  refine call (step i h4 r3 hi (hJe _ _ _ hJ1 X4) p3) ?_
  rintro _ h5 ⟨rfl,hJ5⟩
  simp -dsimp (disch:=omega) only[wpS,wpT,Nat.reduceEqDiff]
  refine⟨wpSteady_c2 (wpSteady_one rfl rfl rfl rfl (steady_ext (H0:=h1) rfl (by omega) X2 X0 L10)) (wpSteady_c2 (wpSteady_one rfl rfl rfl rfl (steady_ext (H0:=h1) (b:=2*b2) (o:=0) f2 (by omega) X2 X0 L12)) (wpSteady_c2 (wpSteady_one rfl rfl rfl rfl (steady_load rfl (hzl h2 X2.keep).1 (hzl h1 (Keep.refl _)).1)) (wpSteady_one rfl rfl rfl rfl (steady_ext (H0:=h1) rfl (by omega) X2 X0 L17)))),?_⟩
  simp -dsimp (disch:=omega) only[wpS,wpT,Nat.reduceEqDiff,Nat.reduceAdd,f10]
  exact⟨m - 1,by omega,i+1,by omega,hJ5,by simp[f0],by simp[f1],by simp[f2],by simp[f9],by simp⟩
 ·obtain rfl:i=l.length - lag:=by omega
  simp -dsimp (disch:=omega) only[wpS,wpT]
  exact hD _ hJ1
theorem tk5' (a b c d e:Value):List.take 5 (List.drop 0 [a,b,c,d,e]) = [a,b,c,d,e]:=rfl
theorem products_ok {h:IH} {s a1 s1 b1 t1:Value} {lag:Nat} (o0:s.cells = #[s]) (o1:cellOK s=true) (o2:([a1,s1,b1,t1]:List Value).all cellOK=true) :
  WV Proofs.Try.prog (.func (.func 44) #[] #[]) [.agg #[s,a1,s1,b1,t1],KN lag] h fun r h'=>r=.func (.func 65) #[] #[ptr (2*h.n) 0,ptr (2*(h.n+1)) 0]∧h'=(h.new (.cells [s,a1,s1,b1,t1] 0 none)).new (.cells [KN lag] 0 none):=by
 refine enter (nt:=6) (rs:=[.tmp 4]) Proofs.Try.func44 rfl rfl rfl (by simp) ?_
 simp -dsimp (disch:=omega) only[wpS,wpT,Nat.reduceEqDiff,Nat.reduceAdd]
set_option maxHeartbeats 4000000 in
theorem auto_ok {h:IH} {v:Value} {l:List Rat} {c:Rat} {lag:Nat} (hv:RunIs h v l c) (hlag:lag<l.length) {kb kc:Nat} (hk : ∀q∈l,QB kb q) (hc:QB kc c) (hb:l.length*(kb+kc+1+(kb+kc+1)+1)+17<16000000) :
  WV Proofs.Try.prog (.func (.func 25) #[] #[]) [v,KN lag] h fun r h'=>Ext h h'∧PRat h' r (qauto l c lag):=by
 obtain⟨s,a1,s1,b1,t1,rfl,hs,hcc⟩:=hv
 obtain⟨cs0,hs0,_,hlen⟩:=id hs
 obtain⟨sc,so⟩:=hs.co
 obtain⟨_,_,_,_,hhe,_,_,_,o1,_,o2,o3,o4⟩:=hcc.parts
 cases hhe
 have hsm:kb+kc+1+(kb+kc+1)<16000000:=by
  have:1*(kb+kc+1+(kb+kc+1)+1)≤l.length*(kb+kc+1+(kb+kc+1)+1):=Nat.mul_le_mul_right _ (by omega)
  omega
 have hQ : ∀i,i≤l.length - lag→QB (i*(kb+kc+1+(kb+kc+1)+1)) (qsum ((qprods l c lag).take i)):=by
  intro i hi
  refine QB.qsum (fun q hq=>?_) i (by rw[qprods_len];exact hi)
  obtain⟨t,ht,rfl⟩:=List.mem_map.1 hq
  exact qpr_bits hk hc (by simp at ht;omega)
 refine enter (nt:=27) (rs:=[.cell 4 51]) Proofs.Try.func25 rfl rfl rfl (by simp) ?_
 simp -dsimp (disch:=omega) only[wpS,Nat.reduceEqDiff,Nat.reduceAdd,zc51]
 have E1:Ext h ((h.new (.cells [s,a1,s1,b1,t1] 0 none)).new (.cells ZR 0 none)):=((Ext.refl h).new _).new _
 have g0:((h.new (.cells [s,a1,s1,b1,t1] 0 none)).new (.cells ZR 0 none)).ext.get h.n=some (.cells [s,a1,s1,b1,t1] 0 none):=by simp (disch:=first|omega|(simp only[new_n,put_n];omega)|(repeat first|rw[new_n]|rw[put_n])) only[get_new_same,get_new_old]
 have g1:((h.new (.cells [s,a1,s1,b1,t1] 0 none)).new (.cells ZR 0 none)).ext.get (h.n+1)=some (.cells ZR 0 none):=by simp (disch:=first|omega|(simp only[new_n,put_n];omega)|(repeat first|rw[new_n]|rw[put_n])) only[get_new_same]
 refine call (rfrom_ok 0 ⟨by omega,by omega⟩) ?_
 rintro z h1 ⟨X1,p1⟩
 have m1:=X1.n
 simp only[new_n] at m1
 obtain⟨a3,s3,b3,t3,rfl,_,_,d1,q1,d2,q2,q3,q4⟩:=p1.parts
 have k0:=X1.kept (by simp<;>omega) g0
 have k1:=X1.kept (by simp) g1
 simp -dsimp (disch:=omega) only[wpS,wpT,Nat.reduceEqDiff,Nat.reduceLeDiff,Nat.reduceAdd,zc51,st51,fa55_0,ld53,ld55,q1,q2,q3,q4,row_of k0,hs0.len sl53,tk5']
 obtain⟨H2,hH2⟩ : ∃H2,H2=(h1.new (.cells ZR 0 none)).put h1.n (.cells [a3,s3,b3,t3] 0 none):=⟨_,rfl⟩
 have e2:Ext h1 H2:=by rw[hH2];exact((Ext.refl _).new _).put (Nat.le_refl _) _
 have n2:H2.n=h1.n+1:=by rw[hH2];rfl
 have gs:H2.ext.get h1.n=some (.cells [a3,s3,b3,t3] 0 none):=by rw[hH2];simp (disch:=first|omega|(simp only[new_n,put_n];omega)|(repeat first|rw[new_n]|rw[put_n])) only[get_put_same]
 have j0:=e2.kept (by omega) k0
 have j1:=e2.kept (by omega) k1
 have E2:=(E1.trans X1).trans e2
 have p2:=p1.keep e2.keep
 rw[←hH2]
 clear hH2 k0 k1 g0 g1
 refine call (products_ok sc so (by simp[o1,o2,o3,o4])) ?_
 rintro _ _ ⟨rfl,rfl⟩
 simp -dsimp (disch:=omega) only[wpS]
 have E3:Ext H2 ((H2.new (.cells [s,a1,s1,b1,t1] 0 none)).new (.cells [KN lag] 0 none)):=((Ext.refl _).new _).new _
 have gr:((H2.new (.cells [s,a1,s1,b1,t1] 0 none)).new (.cells [KN lag] 0 none)).ext.get H2.n=some (.cells [s,a1,s1,b1,t1] 0 none):=by simp (disch:=first|omega|(simp only[new_n,put_n];omega)|(repeat first|rw[new_n]|rw[put_n])) only[get_new_same,get_new_old]
 have gl:((H2.new (.cells [s,a1,s1,b1,t1] 0 none)).new (.cells [KN lag] 0 none)).ext.get (H2.n+1)=some (.cells [KN lag] 0 none):=by simp (disch:=first|omega|(simp only[new_n,put_n];omega)|(repeat first|rw[new_n]|rw[put_n])) only[get_new_same]
 obtain⟨H3,hH3⟩ : ∃H3,H3=(H2.new (.cells [s,a1,s1,b1,t1] 0 none)).new (.cells [KN lag] 0 none):=⟨_,rfl⟩
 have n3:H3.n=H2.n+2:=by rw[hH3];rfl
 rw[←hH3] at E3 gr gl ⊢
 clear hH3
 refine range2 (p:=17) (nt:=27) rfl rfl (by decide) (fun r y hfn hnt hbd hy=>?_)
 have E3':=E2.trans E3
 let J:Nat→IH→Prop:=fun i hh=>Ext h hh∧H3.n<hh.n∧hh.ext.get H3.n=some (.loop r)∧hh.ext.get H2.n=some (.cells [s,a1,s1,b1,t1] 0 none)∧hh.ext.get (H2.n+1)=some (.cells [KN lag] 0 none)∧hh.ext.get h.n=some (.cells [s,a1,s1,b1,t1] 0 none)∧hh.ext.get (h.n+1)=some (.cells ZR 0 none) ∧
  ∃a s b t,hh.ext.get h1.n=some (.cells [a,s,b,t] 0 none)∧PRat hh (.agg #[a,s,b,t]) (qsum ((qprods l c lag).take i))
 have J0:J 0 (H3.new (.loop r)):=by
  refine⟨E3'.new _,by simp,get_new_same _ _ rfl,?_,?_,?_,?_,a3,s3,b3,t3,?_,p2.keep (E3.new _).keep⟩
  ·rw[get_new_old _ _ (by omega)];exact gr
  ·rw[get_new_old _ _ (by omega)];exact gl
  ·rw[get_new_old _ _ (by omega)];exact E3.kept (by omega) j0
  ·rw[get_new_old _ _ (by omega)];exact E3.kept (by omega) j1
  ·rw[get_new_old _ _ (by omega)];exact E3.kept (by omega) gs
 have Je : ∀i h h',J i h→Ext h h'→J i h':=by
  rintro i x x' ⟨a1,a2,a3,a4,a5,a6,a7,a,s,b,t,a8,a9⟩ e
  have en:=e.n
  exact⟨a1.trans e,by omega,e.kept a2 a3,e.kept (by omega) a4,e.kept (by omega) a5,e.kept (by omega) a6,e.kept (by omega) a7,a,s,b,t,e.kept (by omega) a8,a9.keep e.keep⟩
 refine products1_ok (b:=H2.n) (b2:=H2.n+1) (lag:=lag) (l:=l) (c:=c) (s:=s) (a1:=a1) (s1:=s1) (b1:=b1) (t1:=t1) J _ hlag hk hc hsm ?_ Je J0 ?_ ?_
 ·rintro i x ⟨x1,x2,x3,x4,x5,x6,x7,_⟩
  exact⟨by omega,by omega,x4,x5,hs.keep kept_p x1.keep,hcc.keep x1.keep⟩
 ·rintro hd ⟨x1,x2,x3,x4,x5,x6,x7,a4,s4,b4,t4,x8,x9⟩
  refine .inl ⟨x3,?_⟩
  have m0:=E3'.n
  have hdd : ∀j,j≠H3.n→(hd.put H3.n .dead).ext.get j=hd.ext.get j:=fun j hj=>get_put_old _ _ hj
  have kd:Keep hd (hd.put H3.n .dead):=(Keep.refl hd).putAny (by rintro c e f hc;rw[x3] at hc;cases hc) _
  have ed:Ext h (hd.put H3.n .dead):=x1.put (by omega) _
  have d1:(hd.put H3.n .dead).ext.get h.n=some (.cells [s,a1,s1,b1,t1] 0 none):=by rw[hdd _ (by omega)];exact x6
  have d2:(hd.put H3.n .dead).ext.get (h.n+1)=some (.cells ZR 0 none):=by rw[hdd _ (by omega)];exact x7
  have d3:(hd.put H3.n .dead).ext.get h1.n=some (.cells [a4,s4,b4,t4] 0 none):=by rw[hdd _ (by omega)];exact x8
  have dn:(hd.put H3.n .dead).n=hd.n:=rfl
  have d4:=x9.keep kd
  obtain⟨K0,hK0⟩ : ∃K0,K0=hd.put H3.n .dead:=⟨_,rfl⟩
  rw[←hK0] at kd ed d1 d2 d3 dn d4 ⊢
  clear hK0 hdd
  rw[show(qprods l c lag).take (l.length - lag)=qprods l c lag from List.take_of_length_le (by rw[qprods_len];omega)] at d4
  have X0:=Ext.refl K0
  obtain⟨_,_,L1⟩:=pl4 d3
  simp -dsimp (disch:=omega) only[wpS]
  refine drawn [(0,[5])] (by kernel_rfl) (by kernel_rfl) rfl ?_
  simp -dsimp (disch:=omega) only[wpS,wpT,Nat.reduceEqDiff,Nat.reduceLeDiff,Nat.reduceAdd,fa55_0,ld53,ld51,row_of d1,row_of d3,hs0.len sl53,tk4']
  refine call (rfrom_ok (l.length:Int) ⟨by omega,by omega⟩) ?_
  rintro r6 h6 ⟨X6,p6⟩
  have m6:=X6.n
  simp -dsimp (disch:=omega) only[wpS,Nat.reduceEqDiff]
  have hQl:=hQ (l.length - lag) (Nat.le_refl _)
  rw[show(qprods l c lag).take (l.length - lag)=qprods l c lag from List.take_of_length_le (by rw[qprods_len];omega)] at hQl
  have hb6:(l.length - lag)*(kb+kc+1+(kb+kc+1)+1)+17<16000000:=by
   have:(l.length - lag)*(kb+kc+1+(kb+kc+1)+1)≤l.length*(kb+kc+1+(kb+kc+1)+1):=Nat.mul_le_mul_right _ (by omega)
   omega
  refine call (rover_ok (d4.keep X6.keep) p6 hQl (qlen_bits hlen) hb6 (qlen_ne (by intro h0;rw[h0] at hlag;simp at hlag))) ?_
  rintro r7 h7 ⟨X7,p7⟩
  have m7:=X7.n
  obtain⟨_,_,_,_,rfl,_,_,_,v1,_,v2,v3,v4⟩:=p7.parts
  have kg:=X7.kept (by omega) (X6.kept (by omega) d2)
  have X67:=X6.trans X7
  simp -dsimp (disch:=omega) only[wpS,wpT,Nat.reduceEqDiff,Nat.reduceLeDiff,Nat.reduceAdd,st51,kg,v1,v2,v3,v4]
  refine⟨by repeat' first|refine wpSteady_c2 ?_ ?_|refine wpSteady_t2 ?_ ?_|exact wpSteady_one rfl rfl rfl rfl (steady_ext (H0:=K0) rfl (by omega) (by assumption) (by assumption) (by with_reducible assumption)),?_⟩
  simp -dsimp (disch:=omega) only[wpS,wpT,Nat.reduceEqDiff,Nat.reduceLeDiff,Nat.reduceAdd,ld51,tk4']
  exact⟨(ed.trans X67).put (by omega) _,p7.keep ((Keep.refl _).put kg _)⟩
 ·rintro i x w hi ⟨x1,x2,x3,x4,x5,x6,x7,a4,s4,b4,t4,x8,x9⟩ hw
  obtain⟨wa,ws,wb,wt,rfl,_,_,_,u1,_,u2,u3,u4⟩:=hw.parts
  refine hy _ x _ x3 ?_
  simp -dsimp (disch:=omega) only[wpS,wpT,Nat.reduceEqDiff,Nat.reduceLeDiff,Nat.reduceAdd,zc51,st51,u1,u2,u3,u4]
  obtain⟨H5,hH5⟩ : ∃H5,H5=(x.new (.cells ZR 0 none)).put x.n (.cells [wa,ws,wb,wt] 0 none):=⟨_,rfl⟩
  have e5:Ext x H5:=by rw[hH5];exact((Ext.refl _).new _).put (Nat.le_refl _) _
  have n5:H5.n=x.n+1:=by rw[hH5];rfl
  have gw:H5.ext.get x.n=some (.cells [wa,ws,wb,wt] 0 none):=by rw[hH5];simp (disch:=first|omega|(simp only[new_n,put_n];omega)|(repeat first|rw[new_n]|rw[put_n])) only[get_put_same]
  rw[←hH5]
  clear hH5
  obtain⟨y1,y2,y3,y4,y5,y6,y7,a5,s5,b5,t5,y8,y9⟩:=Je i x H5 ⟨x1,x2,x3,x4,x5,x6,x7,a4,s4,b4,t4,x8,x9⟩ e5
  refine⟨rfl,y3,?_⟩
  rw[hfn,hnt,hbd]
  have m0:=E3'.n
  have kb1:Keep H5 (H5.put H3.n (.loop (busyL r))):=(Keep.refl _).putAny (by rintro c e f hc;rw[y3] at hc;cases hc) _
  have eb:Ext h (H5.put H3.n (.loop (busyL r))):=y1.put (by omega) _
  have z0 : ∀j,j≠H3.n→(H5.put H3.n (.loop (busyL r))).ext.get j=H5.ext.get j:=fun j hj=>get_put_old _ _ hj
  have zl:(H5.put H3.n (.loop (busyL r))).ext.get H3.n=some (.loop (busyL r)):=get_put_same _ _ rfl
  have z8:=(z0 h1.n (by omega)).trans y8
  have zw:=(z0 x.n (by omega)).trans gw
  have z4:=(z0 H2.n (by omega)).trans y4
  have z5:=(z0 (H2.n+1) (by omega)).trans y5
  have z6:=(z0 h.n (by omega)).trans y6
  have z7:=(z0 (h.n+1) (by omega)).trans y7
  have zn:(H5.put H3.n (.loop (busyL r))).n=H5.n:=rfl
  have w9:=y9.keep kb1
  have ww:=(hw.keep e5.keep).keep kb1
  obtain⟨K0,hK0⟩ : ∃K0,K0=H5.put H3.n (.loop (busyL r)):=⟨_,rfl⟩
  rw[←hK0] at kb1 eb zl z8 zw z4 z5 z6 z7 zn w9 ww ⊢
  clear hK0 z0
  simp -dsimp (disch:=omega) only[wpS,wpT,Nat.reduceEqDiff,Nat.reduceLeDiff,Nat.reduceAdd,ld51,row_of z8,row_of zw,tk4']
  have hib:i*(kb+kc+1+(kb+kc+1)+1)+(kb+kc+1+(kb+kc+1))+1<16000000:=by
   have:(i+1)*(kb+kc+1+(kb+kc+1)+1)≤l.length*(kb+kc+1+(kb+kc+1)+1):=Nat.mul_le_mul_right _ (by omega)
   rw[Nat.add_mul] at this;omega
  refine call (rplus_ok w9 ww (hQ i (by omega)) (qpr_bits hk hc (by omega)) hib) ?_
  rintro r7 h7 ⟨X7,p7⟩
  have m7:=X7.n
  rw[show qsum ((qprods l c lag).take i)+qpr l c lag i=qsum ((qprods l c lag).take (i+1)) by rw[take_snoc (qprods_at hi),qsum_snoc]] at p7
  obtain⟨a7,s7,b7,t7,rfl,_,_,_,v1,_,v2,v3,v4⟩:=p7.parts
  have q8:=X7.kept (by omega) z8
  simp -dsimp (disch:=omega) only[wpS,wpT,Nat.reduceEqDiff,Nat.reduceLeDiff,Nat.reduceAdd,st51,q8,v1,v2,v3,v4]
  have ql:=X7.kept (by omega) zl
  refine⟨by simp (disch:=first|omega|(simp only[new_n,put_n];omega)|(repeat first|rw[new_n]|rw[put_n])) only[get_put_old];exact ql,?_⟩
  show _∧J (i+1) _
  refine⟨rfl,((eb.trans X7).put (by omega) _).put (by omega) _,by simp only[put_n];omega,get_put_same _ _ rfl,by simp (disch:=first|omega|(simp only[new_n,put_n];omega)|(repeat first|rw[new_n]|rw[put_n])) only[get_put_old];exact X7.kept (by omega) z4,by simp (disch:=first|omega|(simp only[new_n,put_n];omega)|(repeat first|rw[new_n]|rw[put_n])) only[get_put_old];exact X7.kept (by omega) z5,by simp (disch:=first|omega|(simp only[new_n,put_n];omega)|(repeat first|rw[new_n]|rw[put_n])) only[get_put_old];exact X7.kept (by omega) z6,by simp (disch:=first|omega|(simp only[new_n,put_n];omega)|(repeat first|rw[new_n]|rw[put_n])) only[get_put_old];exact X7.kept (by omega) z7,a7,s7,b7,t7,by simp (disch:=first|omega|(simp only[new_n,put_n];omega)|(repeat first|rw[new_n]|rw[put_n])) only[get_put_same,get_put_old],?_⟩
  exact p7.keep (((Keep.refl h7).put q8 _).putAny (by rintro c e f hc;rw[get_put_old _ _ (by omega),ql] at hc;cases hc) _)
end Go.Id

/-! The greater and the lesser of two integers. -/
namespace Go.Id
open Go
theorem max_ii (P:Program) (h:IH) (ts:Array TypeId) (k:IntKind) (a b:Int):builtin P h .max ts [.int k a,.int k b]=some (.int k (if a<b then b else a),h):=by
 have h1:pureRun P (Builtin.max_ ts 0 #[.int k a,.int k b])=some (.int k (if a<b then b else a)):=by
  unfold Builtin.max_
  simp
  rfl
 show(bif [Value.int k a,Value.int k b].all plain then (pureVal P (Builtin.max_ ts 0 #[.int k a,.int k b])).map (·,h) else none)=_
 simp only[pureVal,h1]
 rfl
theorem min_ii (P:Program) (h:IH) (ts:Array TypeId) (k:IntKind) (a b:Int):builtin P h .min ts [.int k a,.int k b]=some (.int k (if b<a then b else a),h):=by
 have h1:pureRun P (Builtin.min_ ts 0 #[.int k a,.int k b])=some (.int k (if b<a then b else a)):=by
  unfold Builtin.min_
  simp
  rfl
 show(bif [Value.int k a,Value.int k b].all plain then (pureVal P (Builtin.min_ ts 0 #[.int k a,.int k b])).map (·,h) else none)=_
 simp only[pureVal,h1]
 rfl
end Go.Id

/-! Contracts: slices.Chunk. -/
namespace Go.Id
open Go
theorem SlOf.slice3 {h h':IH} {sz:Nat} {v:Value} {n:Nat} {cs:List Value} (s:SlOf h sz v n cs) {P:Program} {t:TypeId} {e:TypeId} (hu:P.underlying t=some (.slice e)) (hT:sizeT P e=some sz) {l m:Nat} (hl:l<m) (hm:m≤n) {k1 k2 k3:IntKind} :
  ∃v',sliceOp P h' t v (some (.int k1 (l:Int))) (some (.int k2 (m:Int))) (some (.int k3 (m:Int)))=some v'∧SlOf h sz v' (m - l) ((cs.drop (l*sz)).take ((m - l)*sz)):=by
 obtain⟨hz,hlen,⟨rfl,rfl⟩|⟨b,o,k,rfl,s⟩⟩:=s
 ·omega
 ·obtain⟨rfl,rfl⟩|⟨a1,a2,row,a3,h1,h2,h3⟩:=s
  ·omega
  ·have hk0:(k == 0)=false:=by simp;omega
   have b1:natOf (.int k3 (m:Int)) (k / 2)=some m:=natOf_nat (by omega)
   have b2:natOf (.int k2 (m:Int)) m=some m:=natOf_nat (Nat.le_refl _)
   have b3:natOf (.int k1 (l:Int)) m=some l:=natOf_nat (by omega)
   have hlm:(l == m)=false:=by simp;omega
   have hls:l*sz+(m - l)*sz=m*sz:=by rw[←Nat.add_mul];congr 1;omega
   have hmn:m*sz≤n*sz:=Nat.mul_le_mul_right _ hm
   refine⟨.slice (some ⟨b,o+l*sz,none⟩) (m - l) (2*(m - l)+1),?_,hz,?_,.inr ⟨b,o+l*sz,2*(m - l)+1,rfl,.inr ⟨by omega,by omega,row,?_,h1,?_,by omega⟩⟩⟩
   ·simp only[sliceOp,hu,hT,resliced,boundsOf,b1,b2,loOf,b3,hk0,hlm,cond_false]
   ·rw[List.length_take,List.length_drop];omega
   ·rcases a3 with a3|a3
    ·exact .inl ⟨a3.1,by omega⟩
    ·exact .inr a3
   ·rw[←h2,List.drop_take,List.take_take,List.drop_drop,Nat.min_eq_left (by omega)]
theorem ElSl.part {R:IH→Value→Rat→Prop} {h h':IH} {v:Value} {l:List Rat} (s:ElSl R h v l) {P:Program} {t e:TypeId} (hu:P.underlying t=some (.slice e)) (hT:sizeT P e=some 4) {i m:Nat} (hi:i<m) (hm:m≤l.length) :
  ∃v',sliceOp P h' t v (some (.int .i64 (i:Int))) (some (.int .i64 (m:Int))) (some (.int .i64 (m:Int)))=some v'∧ElSl R h v' ((l.drop i).take (m - i)):=by
 obtain⟨cs,hs,hc,hl⟩:=s
 obtain⟨v',e1,e2⟩:=hs.slice3 (h':=h') (k1:=.i64) (k2:=.i64) (k3:=.i64) hu hT hi hm
 have hlen:((l.drop i).take (m - i)).length=m - i:=by simp;omega
 exact⟨v',e1,_,by rw[hlen];exact e2,hc.drop.take,by omega⟩
theorem chunk_ok {h:IH} {s:Value} {sz:Nat} (o0:s.cells = #[s]) (h1:1≤sz) :
  WV Proofs.Try.prog (.func (.func 32) #[] #[]) [s,KN sz] h fun r h'=>r=.func (.func 52) #[] #[ptr (2*h.n) 0,ptr (2*(h.n+1)) 0]∧h'=(h.new (.cells [s] 0 none)).new (.cells [KN sz] 0 none):=by
 have c1:decide ((sz:Int)<1)=false:=decide_eq_false (by omega)
 refine enter (nt:=9) (rs:=[.tmp 4]) Proofs.Try.func32 rfl rfl rfl (by simp) ?_
 simp -dsimp (maxSteps:=1000000) (disch:=first|omega|(simp only[new_n,put_n];omega)|decide +kernel|(repeat first|rw[new_n]|rw[put_n])) only[wpS,wpT,Nat.reduceEqDiff,Nat.reduceAdd,ld3,o0,c1]
set_option maxHeartbeats 2000000 in
theorem chunk1_ok {h:IH} {y:Value} {l:List Rat} {b b2 sz:Nat} {s:Value} (hsz:1≤sz) (hb:sz≤100000) (J:Nat→IH→Prop) (D:IH→Prop)
  (hJ : ∀i h,J i h→h.ext.get b=some (.cells [s] 0 none)∧h.ext.get b2=some (.cells [KN sz] 0 none)∧ElSl PRat h s l) (h0:J 0 h) (hD : ∀i h,l.length≤i→J i h→D h)
  (step : ∀i h w,i<l.length→J i h→ElSl PRat h w ((l.drop i).take (min sz (l.length - i)))→WV Proofs.Try.prog y [w] h fun r h'=>(r=.bool true∧J (i+sz) h')∨(r=.bool false∧D h')) :
  WV Proofs.Try.prog (.func (.func 52) #[] #[ptr (2*b) 0,ptr (2*b2) 0]) [y] h fun _ h'=>D h':=by
 refine enter (nt:=31) (rs:=[]) Proofs.Try.func52 rfl rfl rfl (by simp) ?_
 simp -dsimp (maxSteps:=1000000) (disch:=first|omega|(simp only[new_n,put_n];omega)|decide +kernel|(repeat first|rw[new_n]|rw[put_n])) only[wpS,Nat.reduceAdd]
 refine loop (fun m fr h1 => ∃i:Nat,l.length≤i+m∧i≤300000∧J i h1∧fget fr 0=some y∧fget fr 1=some (ptr (2*b) 0)∧fget fr 2=some (ptr (2*b2) 0)∧fget fr 4=some (KN i)) l.length
  ⟨0,by omega,by omega,h0,by simp,by simp,by simp,by simp⟩ ?_
 rintro m fr h1 ⟨i,him,hib,hJ1,f0,f1,f2,f4⟩
 obtain⟨g1,g2,hs⟩:=hJ i h1 hJ1
 obtain⟨cs,hs0,_,hlb⟩:=id hs
 simp -dsimp (maxSteps:=1000000) (disch:=first|omega|(simp only[new_n,put_n];omega)|decide +kernel|(repeat first|rw[new_n]|rw[put_n])) only[wpS,Nat.reduceEqDiff,ld53,f1,f4,row_of g1,hs0.len sl53]
 refine bq_intro ?_ ?_<;>intro hc<;>simp only[decide_eq_true_eq,decide_eq_false_iff_not] at hc
 ·have hi:i<l.length:=by omega
  obtain⟨w0,hw0,hsl0⟩:=hs0.slice (h':=h1) (Keep.refl _) u53 sz51 (l:=i) (m:=l.length) (by omega) (Nat.le_refl _) (lo:=some (KN i)) (hi:=none) (natOf_nat (k:=.i64) (by omega)) (fun c hc=>rfl)
  have hmin:(if ((l.length - i:Nat):Int)<(sz:Int) then ((l.length - i:Nat):Int) else (sz:Int))=((min sz (l.length - i):Nat):Int):=by split<;>omega
  have eA:(i:Int)+((min sz (l.length - i):Nat):Int)=((i+min sz (l.length - i):Nat):Int):=by omega
  obtain⟨w1,hw1,hp⟩:=hs.part (h':=h1) (P:=Proofs.Try.prog) (t:=53) u53 sz51 (i:=i) (m:=i+min sz (l.length - i)) (by omega) (by omega)
  rw[Nat.add_sub_cancel_left] at hp
  simp -dsimp (maxSteps:=1000000) (disch:=first|omega|(simp only[new_n,put_n];omega)|decide +kernel|(repeat first|rw[new_n]|rw[put_n])) only[wpS,wpT,Nat.reduceEqDiff,ld53,ld3,f0,f1,f2,f4,row_of g1,row_of g2,hw0,hsl0.len sl53,min_ii,hmin,eA,hw1]
  refine call (step i h1 w1 hi hJ1 hp) ?_
  rintro r h2 (⟨rfl,hJ2⟩|⟨rfl,hD2⟩)
  ·obtain⟨q1,q2,_⟩:=hJ _ _ hJ2
   simp -dsimp (maxSteps:=1000000) (disch:=first|omega|(simp only[new_n,put_n];omega)|decide +kernel|(repeat first|rw[new_n]|rw[put_n])) only[wpS,wpT,Nat.reduceEqDiff,ld3,f2,f4,row_of q2]
   exact⟨m - sz,by omega,i+sz,by omega,by omega,hJ2,by simp[f0],by simp[f1],by simp[f2],by simp⟩
  ·simp -dsimp (maxSteps:=1000000) (disch:=first|omega|(simp only[new_n,put_n];omega)|decide +kernel|(repeat first|rw[new_n]|rw[put_n])) only[wpS,wpT,Nat.reduceEqDiff]
   exact hD2
 ·simp -dsimp (maxSteps:=1000000) (disch:=first|omega|(simp only[new_n,put_n];omega)|decide +kernel|(repeat first|rw[new_n]|rw[put_n])) only[wpS,wpT]
  exact hD i _ (by omega) hJ1
end Go.Id

/-! Contracts: package diagnose: Mean, Auto. -/
namespace Go.Id
open Go
noncomputable def toldV (q:Rat):Value:=open Classical in if QW q then .tuple #[shareV q,KI 0] else .tuple #[shV 0 0,KI 6]
theorem toldV_form (q:Rat) : ∃n d e,toldV q=.tuple #[shV n d,KI e]:=by
 unfold toldV
 by_cases h:QW q
 ·exact⟨_,_,0,by rw[if_pos h]⟩
 ·exact⟨0,0,6,by rw[if_neg h]⟩
abbrev errV (e:Int):Value:=.tuple #[shV 0 0,KI e]
theorem chErr_iff {l:List (Nat×Nat)}:chErr l=0↔l.length≤200∧allOk l∧l ≠ []:=by
 unfold chErr
 constructor
 ·intro h
  split at h
  ·omega
  ·split at h
   ·omega
   ·split at h
    ·omega
    ·rename_i h1 h2 h3
     exact⟨by omega,Classical.not_not.1 h2,fun h0=>h3 (by rw[h0];rfl)⟩
 ·rintro⟨h1,h2,h3⟩
  rw[if_neg (by omega),if_neg (by simpa using h2),if_neg (fun h=>h3 (List.length_eq_zero_iff.1 h))]
theorem chErr_range (l:List (Nat×Nat)):0≤chErr l∧chErr l≤20:=by
 unfold chErr
 split
 ·omega
 ·split
  ·omega
  ·split<;>omega
noncomputable def meanRes (l:List (Nat×Nat)):Value:=if chErr l=0 then toldV (qmean (l.map rOf)) else errV (chErr l)
noncomputable def autoRes (l:List (Nat×Nat)) (lag:Int):Value:=if chErr l=0 then (if 0≤lag∧lag<l.length then toldV (qauto (l.map rOf) (qmean (l.map rOf)) lag.toNat) else errV 2) else errV (chErr l)
abbrev mBits (n k:Nat):Nat:=n*(k+1)+17
abbrev aBits (n k:Nat):Nat:=n*(k+mBits n k+1+(k+mBits n k+1)+1)+17
theorem mle_a (n k:Nat):mBits n k≤aBits n k:=by
 have:n*(k+1)≤n*(k+mBits n k+1+(k+mBits n k+1)+1):=Nat.mul_le_mul_left _ (by omega)
 unfold aBits mBits at *
 omega
set_option maxHeartbeats 1000000 in
theorem dgMean_ok {h:IH} {v:Value} {l:List (Nat×Nat)} (hv:ShSl h v l) {k:Nat} (hk:allOk l → ∀q∈l.map rOf,QB k q) (hb:l.length≤200→mBits l.length k<16000000) :
  WV Proofs.Try.prog (.func (.func 7) #[] #[]) [v] h fun r h'=>Ext h h'∧r=meanRes l:=by
 have her:=chErr_range l
 refine enter (nt:=18) (rs:=[.cell 2 27,.tmp 3]) Proofs.Try.func7 rfl rfl rfl (by simp) ?_
 simp -dsimp (disch:=omega) only[wpS,Nat.reduceEqDiff,zc27]
 have E1:Ext h (h.new (.cells Z16 0 none)):=(Ext.refl h).new _
 have g1:(h.new (.cells Z16 0 none)).ext.get h.n=some (.cells Z16 0 none):=by simp (disch:=first|omega|(simp only[new_n,put_n];omega)|(repeat first|rw[new_n]|rw[put_n])) only[get_new_same]
 refine call (dgcheck_ok (hv.keep E1.keep)) ?_
 rintro _ h1 ⟨X1,rfl⟩
 have m1:=X1.n
 simp only[new_n] at m1
 have k1:=X1.kept (by simp) g1
 unfold meanRes
 by_cases he:chErr l=0
 ·rw[if_pos he,he]
  obtain⟨e1,e2,e3⟩:=chErr_iff.1 he
  simp -dsimp (disch:=omega) only[wpS,wpT,Nat.reduceEqDiff]
  refine call (chain_ok (hv.keep (E1.trans X1).keep) e2 (by omega) e3 (hk e2) (hb e1)) ?_
  rintro _ h2 ⟨X2,s,a1,s1,b1,t1,rfl,hs,hc⟩
  have m2:=X2.n
  simp -dsimp (disch:=omega) only[wpS,Nat.reduceEqDiff,fp55_0,Bool.false_eq_true]
  refine call (mean_ok hs (by simpa using e3) (hk e2) (by rw[List.length_map];exact hb e1)) ?_
  rintro r3 h3 ⟨X3,p3⟩
  have m3:=X3.n
  simp -dsimp (disch:=omega) only[wpS,Nat.reduceEqDiff]
  refine call (rtold_ok p3) ?_
  rintro _ h4 ⟨X4,rfl⟩
  have m4:=X4.n
  have kg:=X4.kept (by omega) (X3.kept (by omega) (X2.kept (by omega) k1))
  obtain⟨n,d,e,hf⟩:=toldV_form (qmean (l.map rOf))
  have hf':=hf
  unfold toldV at hf'
  rw[hf',hf]
  simp -dsimp (disch:=omega) only[wpS,wpT,Nat.reduceEqDiff,Nat.reduceLeDiff,Nat.reduceAdd,st27,ld27,kg,shV_cells,shC_len,shC_all,sh_sp3,sh_take]
  exact⟨((((E1.trans X1).trans X2).trans X3).trans X4).put (by omega) _,rfl⟩
 ·rw[if_neg he]
  have he':(chErr l == 0)=false:=by simpa using he
  simp -dsimp (disch:=omega) only[wpS,wpT,Nat.reduceEqDiff,Nat.reduceLeDiff,Nat.reduceAdd,bv27,st27,ld27,k1,sh_tz]
  exact⟨(E1.trans X1).put (by omega) _,by rw[sh_zeroV]⟩
set_option maxHeartbeats 1000000 in
theorem dgAuto_ok {h:IH} {v:Value} {l:List (Nat×Nat)} {lag:Int} (hv:ShSl h v l) {k:Nat} (hk:allOk l → ∀q∈l.map rOf,QB k q) (hb:l.length≤200→aBits l.length k<16000000) :
  WV Proofs.Try.prog (.func (.func 9) #[] #[]) [v,KI lag] h fun r h'=>Ext h h'∧r=autoRes l lag:=by
 have her:=chErr_range l
 refine enter (nt:=29) (rs:=[.cell 4 27,.tmp 5]) Proofs.Try.func9 rfl rfl rfl (by simp) ?_
 simp -dsimp (disch:=omega) only[wpS,Nat.reduceEqDiff,Nat.reduceAdd,zc27]
 have E1:Ext h (h.new (.cells Z16 0 none)):=(Ext.refl h).new _
 have g1:(h.new (.cells Z16 0 none)).ext.get h.n=some (.cells Z16 0 none):=by simp (disch:=first|omega|(simp only[new_n,put_n];omega)|(repeat first|rw[new_n]|rw[put_n])) only[get_new_same]
 refine call (dgcheck_ok (hv.keep E1.keep)) ?_
 rintro _ h1 ⟨X1,rfl⟩
 have m1:=X1.n
 simp only[new_n] at m1
 have k1:=X1.kept (by simp) g1
 unfold autoRes
 by_cases he:chErr l=0
 ·rw[if_pos he,he]
  obtain⟨e1,e2,e3⟩:=chErr_iff.1 he
  by_cases hl:0≤lag∧lag<l.length
  ·rw[if_pos hl]
   obtain⟨j,rfl⟩:=Int.eq_ofNat_of_zero_le hl.1
   have hj:j<l.length:=by omega
   have c1:decide ((j:Int)<0)=false:=decide_eq_false (by omega)
   have c2:decide ((l.length:Int)≤(j:Int))=false:=decide_eq_false (by omega)
   simp -dsimp (disch:=omega) only[wpS,wpT,Nat.reduceEqDiff,hv.1.len sl28,c1,c2]
   refine call (chain_ok (hv.keep (E1.trans X1).keep) e2 (by omega) e3 (hk e2) (Nat.lt_of_le_of_lt (mle_a _ _) (hb e1))) ?_
   rintro r2 h2 ⟨X2,hr⟩
   have m2:=X2.n
   simp -dsimp (disch:=omega) only[wpS,Nat.reduceEqDiff]
   have hmb:=qmean_bits (l:=l.map rOf) (by simpa using e3) (by simp;omega) (hk e2)
   rw[List.length_map] at hmb
   refine call (auto_ok hr (by rw[List.length_map];exact hj) (hk e2) hmb (by rw[List.length_map];exact hb e1)) ?_
   rintro r3 h3 ⟨X3,p3⟩
   have m3:=X3.n
   simp -dsimp (disch:=omega) only[wpS,Nat.reduceEqDiff]
   refine call (rtold_ok p3) ?_
   rintro _ h4 ⟨X4,rfl⟩
   have m4:=X4.n
   have kg:=X4.kept (by omega) (X3.kept (by omega) (X2.kept (by omega) k1))
   rw[Int.toNat_natCast]
   obtain⟨n,d,e,hf⟩:=toldV_form (qauto (l.map rOf) (qmean (l.map rOf)) j)
   have hf':=hf
   unfold toldV at hf'
   rw[hf',hf]
   simp -dsimp (disch:=omega) only[wpS,wpT,Nat.reduceEqDiff,Nat.reduceLeDiff,Nat.reduceAdd,st27,ld27,kg,shV_cells,shC_len,shC_all,sh_sp3,sh_take]
   exact⟨((((E1.trans X1).trans X2).trans X3).trans X4).put (by omega) _,rfl⟩
  ·rw[if_neg hl]
   by_cases hneg:lag<0
   ·have c1:decide (lag<0)=true:=decide_eq_true hneg
    simp -dsimp (disch:=omega) only[wpS,wpT,Nat.reduceEqDiff,Nat.reduceLeDiff,Nat.reduceAdd,bv27,st27,ld27,c1,k1,sh_tz]
    exact⟨(E1.trans X1).put (by omega) _,by rw[sh_zeroV]⟩
   ·have c1:decide (lag<0)=false:=decide_eq_false hneg
    have c2:decide ((l.length:Int)≤lag)=true:=decide_eq_true (by omega)
    simp -dsimp (disch:=omega) only[wpS,wpT,Nat.reduceEqDiff,Nat.reduceLeDiff,Nat.reduceAdd,bv27,st27,ld27,hv.1.len sl28,c1,c2,k1,sh_tz]
    exact⟨(E1.trans X1).put (by omega) _,by rw[sh_zeroV]⟩
 ·rw[if_neg he]
  have he':(chErr l == 0)=false:=by simpa using he
  simp -dsimp (disch:=omega) only[wpS,wpT,Nat.reduceEqDiff,Nat.reduceLeDiff,Nat.reduceAdd,bv27,st27,ld27,k1,sh_tz]
  exact⟨(E1.trans X1).put (by omega) _,by rw[sh_zeroV]⟩
end Go.Id
