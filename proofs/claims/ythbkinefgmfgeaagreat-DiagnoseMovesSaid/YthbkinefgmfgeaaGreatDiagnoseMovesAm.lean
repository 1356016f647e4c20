/-
  Contracts: the reference's shares: in, out, made, valid; fractions of integers. Contracts: the laws' own helpers: shares of integers, lists of them. Shares compared. Contracts: the laws' own helpers: is, fails, is2. Contracts: slices.Equal over shares. Contracts: drafts of numbers. Contracts: the law's small: some bool. Contracts: the reference's valid shares. Contracts: the reference's chapter 35: chains, means, autocovariances. Contracts: the reference's chapter 35: Batches. Contracts: the laws' helpers: lists cut, cloned and made longer. Contracts: the laws' helpers: short shares of drafts; a list made as long as the limit. The rows' common part (no table listed): shares and drafts that came in. The rows' common part: one draft that came in.
-/
import Derived.Test.YthbkinefgmfgeaaGreatDiagnoseMovesAl
import Derived.Test.YthbkinefgmfgeaaGreatDiagnoseMovesAk
import Derived.Test.YthbkinefgmfgeaaGreatDiagnoseMovesAf
import Derived.Test.YthbkinefgmfgeaaGreatDiagnoseMovesAe
import Derived.Test.YthbkinefgmfgeaaGreatRows
import Derived.ProofKit
set_option linter.unusedVariables false
set_option linter.unusedSimpArgs false
set_option linter.defProp false
set_option linter.deprecated false
/-! Contracts: the reference's shares: in, out, made, valid; fractions of integers. -/
namespace Go.Id
open Go
theorem quick_ok {h:IH} (n d:Int) (hn:In64 n) (hd:In64 d) (d0:d≠0):WV Proofs.Tryz.prog (.func (.func 67) #[] #[]) [KI n,KI d] h fun r h'=>Ext h h'∧RRat h' r (Rat.divInt n d):=by
 refine enter (nt:=10) (rs:=[.cell 4 91]) Proofs.Tryz.func67 rfl rfl rfl (by simp) ?_
 simp -dsimp (disch:=omega) only[wpS,Nat.reduceEqDiff,Nat.reduceAdd,zc91]
 have E1:Ext h (h.new (.cells ZR 0 none)):=(Ext.refl h).new _
 have g1:(h.new (.cells ZR 0 none)).ext.get h.n=some (.cells ZR 0 none):=by simp (disch:=first|omega|(simp only[new_n,put_n];omega)|(repeat first|rw[new_n]|rw[put_n])) only[get_new_same]
 refine call (long1_ok n hn) ?_
 rintro _ h1 ⟨X1,p1⟩
 simp -dsimp (disch:=omega) only[wpS,Nat.reduceEqDiff]
 refine call (long1_ok d hd) ?_
 rintro _ h2 ⟨X2,p2⟩
 simp -dsimp (disch:=omega) only[wpS,Nat.reduceEqDiff]
 have sn:SmallI n:=small64 (by have:=hn.1;have:=hn.2;omega)
 have sd:SmallI d:=small64 (by have:=hd.1;have:=hd.2;omega)
 refine call (rlowest_ok (p1.keep X2.keep) p2 sn sd d0) ?_
 rintro _ h3 ⟨X3,p3⟩
 have m1:=X1.n
 have m2:=X2.n
 have m3:=X3.n
 simp only[new_n] at m1
 obtain⟨a3,s3,b3,t3,rfl,_,_,d1,o1,d2,o2,o3,o4⟩:=p3.parts
 have kg:=X3.kept (by omega) (X2.kept (by omega) (X1.kept (by simp) g1))
 simp -dsimp (disch:=omega) only[wpS,wpT,Nat.reduceEqDiff,Nat.reduceLeDiff,Nat.reduceAdd,st91,ld91,kg,o1,o2,o3,o4,tk4']
 exact⟨(((E1.trans X1).trans X2).trans X3).put (by omega) _,p3.keep ((Keep.refl _).put kg _)⟩
theorem zero_ok {h:IH} {v:Value} {q:Rat} (hv:RRat h v q):WV Proofs.Tryz.prog (.func (.func 64) #[] #[]) [v] h fun r h'=>Ext h h'∧r=.bool (decide (q=0)):=by
 obtain⟨a1,s1,b1,t1,rfl,hn1,hd1,c1,o1,c2,o2,o3,o4⟩:=hv.parts
 obtain⟨s,n,he,_,_,l1,z1⟩:=hn1.form
 cases he
 refine enter (nt:=8) (rs:=[.tmp 2]) Proofs.Tryz.func64 rfl rfl rfl (by simp) ?_
 simp -dsimp (disch:=omega) only[wpS,Nat.reduceEqDiff,fa91_0,fa89_1,ld87,l1 sl87]
 refine⟨(Ext.refl h).new _,?_⟩
 congr 1
 rw[show(((n:Nat):Int) == 0)=decide (n=0) by by_cases h0:n=0<;>simp[h0]]
 exact decide_eq_decide.2 (z1.trans Rat.num_eq_zero)
theorem refin_ok {h:IH} (n d:Nat) (hn:n<W8) (hd:d<W8):WV Proofs.Tryz.prog (.func (.func 129) #[] #[]) [shV n d] h fun r h'=>Ext h h'∧RPair h' r (wdI n) (wdI d):=by
 refine enter (nt:=10) (rs:=[.cell 2 91]) Proofs.Tryz.func129 rfl rfl rfl (by simp) ?_
 simp -dsimp (disch:=omega) only[wpS,zc91,shV_cells]
 obtain⟨H0,hH0,n0,E0,g0,g1⟩:=boxes2 h (shC n d) ZR
 rw[←hH0]
 clear hH0
 have X0:=Ext.refl H0
 obtain⟨L1,L2,_⟩:=psh g0
 refine drawn [(4,[2])] (by kernel_rfl) (by kernel_rfl) rfl ?_
 simp -dsimp (disch:=omega) only[wpS,Nat.reduceEqDiff,Nat.reduceLeDiff,fa30_0,ld28,row_of g0,shC_len,sh_take1]
 refine call (in_ok n hn) ?_
 rintro r1 h1 ⟨X1,p1⟩
 have m1:=X1.n
 simp -dsimp (disch:=omega) only[wpS,Nat.reduceEqDiff,Nat.reduceLeDiff,Nat.reduceAdd,ld28,fa30_1,row_of (X1.kept (by omega) g0),shC_len,sh_take2]
 refine call (in_ok d hd) ?_
 rintro r2 h2 ⟨hE2,p2⟩
 have m2:=hE2.n
 have X2:=X1.trans hE2
 obtain⟨s1,rfl,c1,o1⟩:=p1.cells2
 obtain⟨s2,rfl,c2,o2⟩:=p2.cells2
 have kg:=X2.kept (by omega) g1
 simp -dsimp (disch:=omega) only[wpS,wpT,Nat.reduceEqDiff,Nat.reduceLeDiff,Nat.reduceAdd,bv91,pl91_0,pl91_1,st91,kg,o1,o2]
 refine⟨by repeat' first|refine wpSteady_c2 ?_ ?_|refine wpSteady_t2 ?_ ?_|exact wpSteady_one rfl rfl rfl rfl (steady_ext (H0:=H0) rfl (by omega) (by assumption) (by assumption) (by with_reducible assumption)),?_⟩
 simp -dsimp (disch:=omega) only[wpS,wpT,Nat.reduceEqDiff,Nat.reduceLeDiff,Nat.reduceAdd,ld91,tk4']
 have kp:=(Keep.refl h2).put kg (.cells [.bool (decide (wdI n<0)),s1,.bool (decide (wdI d<0)),s2] 0 none)
 exact⟨(E0.trans X2).put (by omega) _,_,_,_,_,rfl,p1.keep (hE2.keep.trans kp),p2.keep kp⟩
set_option maxHeartbeats 2000000 in
theorem refout_ok {h:IH} {v:Value} {q:Rat} (hv:RRat h v q):WV Proofs.Tryz.prog (.func (.func 55) #[] #[]) [v] h fun r h'=>Ext h h'∧r=(open Classical in if QW q then .tuple #[shareV q,KI 0] else .tuple #[shV 0 0,KI 6]):=by
 obtain⟨a1,s1,b1,t1,rfl,hn1,hd1,c1,o1,c2,o2,o3,o4⟩:=hv.parts
 refine enter (nt:=30) (rs:=[.cell 2 30,.tmp 3]) Proofs.Tryz.func55 rfl rfl rfl (by simp) ?_
 simp -dsimp (maxSteps:=1000000) (disch:=first|omega|(simp only[new_n,put_n];omega)|decide +kernel|(repeat first|rw[new_n]|rw[put_n])) only[wpS,wpT,Nat.reduceEqDiff,Nat.reduceLeDiff,Nat.reduceAdd,zc30,fa91_0,ld89]
 obtain⟨H0,hH0,n0,E0,g0,g1⟩:=boxes2 h [a1,s1,b1,t1] Z16
 rw[←hH0]
 clear hH0
 simp -dsimp (maxSteps:=1000000) (disch:=first|omega|(simp only[new_n,put_n];omega)|decide +kernel|(repeat first|rw[new_n]|rw[put_n])) only[tkA]
 refine call (out_ok (hn1.keep E0.keep)) ?_
 rintro _ h1 ⟨X1,rfl⟩
 have m1:=X1.n
 obtain⟨w1,e1,hw⟩ : ∃w1 e1,(if InW q.num then Value.tuple #[wideV q.num,KI 0] else .tuple #[wdV 0,KI 6])=.tuple #[wdV w1,KI e1]∧(InW q.num∧w1=wideN q.num∧e1=0 ∨ ¬InW q.num∧e1=6):=by
  by_cases hi:InW q.num
  ·exact⟨_,0,by rw[if_pos hi],.inl ⟨hi,rfl,rfl⟩⟩
  ·exact⟨0,6,by rw[if_neg hi],.inr ⟨hi,rfl⟩⟩
 rw[hw.1]
 have k0:=X1.kept (by omega) g0
 have k1:=X1.kept (by omega) g1
 simp -dsimp (maxSteps:=1000000) (disch:=first|omega|(simp only[new_n,put_n];omega)|decide +kernel|(repeat first|rw[new_n]|rw[put_n])) only[wpS,wpT,Nat.reduceEqDiff,Nat.reduceLeDiff,Nat.reduceAdd,ld89,zc28,st28,fa91_1,cells8,wdC_len,wdC_all,wd_spl,row_of k0,tkA,tkB]
 obtain⟨H2,hH2⟩ : ∃H2,H2=(h1.new (.cells [ZW,ZW,ZW,ZW,ZW,ZW,ZW,ZW] 0 none)).put h1.n (.cells (wdC w1) 0 none):=⟨_,rfl⟩
 have e2:Ext h1 H2:=by rw[hH2];exact((Ext.refl _).new _).put (Nat.le_refl _) _
 have n2:H2.n=h1.n+1:=by rw[hH2];rfl
 have ga:H2.ext.get h1.n=some (.cells (wdC w1) 0 none):=by rw[hH2];simp (disch:=first|omega|(simp only[new_n,put_n];omega)|(repeat first|rw[new_n]|rw[put_n])) only[get_put_same]
 have k1':=e2.kept (by omega) k1
 rw[←hH2]
 clear hH2
 refine call (out_ok (hd1.keep ((E0.trans X1).trans e2).keep)) ?_
 rintro _ h3 ⟨X3,rfl⟩
 have m3:=X3.n
 obtain⟨w2,f2,hw2⟩ : ∃w1 e1,(if InW (q.den:Int) then Value.tuple #[wideV q.den,KI 0] else .tuple #[wdV 0,KI 6])=.tuple #[wdV w1,KI e1]∧(InW (q.den:Int)∧w1=wideN q.den∧e1=0 ∨ ¬InW (q.den:Int)∧e1=6):=by
  by_cases hi:InW (q.den:Int)
  ·exact⟨_,0,by rw[if_pos hi],.inl ⟨hi,rfl,rfl⟩⟩
  ·exact⟨0,6,by rw[if_neg hi],.inr ⟨hi,rfl⟩⟩
 rw[hw2.1]
 have ga3:=X3.kept (by omega) ga
 have k3:=X3.kept (by omega) k1'
 have xx:=((E0.trans X1).trans e2).trans X3
 rcases hw.2 with⟨i1,rfl,rfl⟩|⟨i1,rfl⟩
 ·rcases hw2.2 with⟨i2,rfl,rfl⟩|⟨i2,rfl⟩
  ·rw[if_pos (show QW q from⟨i1,i2⟩)]
   simp -dsimp (maxSteps:=1000000) (disch:=first|omega|(simp only[new_n,put_n];omega)|decide +kernel|(repeat first|rw[new_n]|rw[put_n])) only[wpS,wpT,Nat.reduceEqDiff,Nat.reduceLeDiff,Nat.reduceAdd,zc28,st28,bv30,st30,ld28,pl30_0,pl30_1,ld30,cells8,wdC_len,wdC_all,wd_spl,row_of ga3,k3,wd_take,sh_sp1,sh_sp2,sh_sp3,shC_len,shC_all,sh_take]
   exact⟨(((xx.new _).put (by omega) _).put (by omega) _),rfl⟩
  ·rw[if_neg (show ¬QW q from fun h=>i2 h.2)]
   simp -dsimp (maxSteps:=1000000) (disch:=first|omega|(simp only[new_n,put_n];omega)|decide +kernel|(repeat first|rw[new_n]|rw[put_n])) only[wpS,wpT,Nat.reduceEqDiff,Nat.reduceLeDiff,Nat.reduceAdd,zc28,st28,bv30,st30,ld30,cells8,wdC_len,wdC_all,wd_spl,k3,sh_tz]
   exact⟨(((xx.new _).put (by omega) _).put (by omega) _),by rw[sh_zeroV]⟩
 ·rw[if_neg (show ¬QW q from fun h=>i1 h.1)]
  simp -dsimp (maxSteps:=1000000) (disch:=first|omega|(simp only[new_n,put_n];omega)|decide +kernel|(repeat first|rw[new_n]|rw[put_n])) only[wpS,wpT,Nat.reduceEqDiff,Nat.reduceLeDiff,Nat.reduceAdd,zc28,st28,bv30,st30,ld30,cells8,wdC_len,wdC_all,wd_spl,k3,sh_tz]
  exact⟨(((xx.new _).put (by omega) _).put (by omega) _),by rw[sh_zeroV]⟩
set_option maxHeartbeats 2000000 in
theorem refmake_ok {h:IH} (n d:Nat) (hn:n<W8) (hd:d<W8) (d0:d≠0):WV Proofs.Tryz.prog (.func (.func 98) #[] #[]) [wdV n,wdV d] h fun r h'=>Ext h h'∧r=(open Classical in if QW (Rat.divInt (wdI n) (wdI d)) then .tuple #[shareV (Rat.divInt (wdI n) (wdI d)),KI 0] else .tuple #[shV 0 0,KI 6]):=by
 refine enter (nt:=18) (rs:=[.cell 4 30,.tmp 5]) Proofs.Tryz.func98 rfl rfl rfl (by simp) ?_
 simp -dsimp (maxSteps:=1000000) (disch:=first|omega|(simp only[new_n,put_n];omega)|decide +kernel|(repeat first|rw[new_n]|rw[put_n])) only[wpS,wpT,Nat.reduceEqDiff,Nat.reduceLeDiff,Nat.reduceAdd,zc30,ld28,bv28,cells8,wdC_len]
 obtain⟨H0,hH0,n0,E0,g0,g1,g2⟩:=boxes3 h (wdC n) (wdC d) Z16
 rw[←hH0]
 clear hH0
 have X0:=Ext.refl H0
 have L2:load Proofs.Tryz.prog H0 28 (ptr (2*(h.n+1)) 0)=some (wdV d):=by
  simp -dsimp (maxSteps:=1000000) (disch:=first|omega|(simp only[new_n,put_n];omega)|decide +kernel|(repeat first|rw[new_n]|rw[put_n])) only[wpS,Nat.reduceLeDiff,ld28,row_of g1,wdC_len,wd_take]
  rfl
 have hz:binop Proofs.Tryz.prog .eql 28 (.tmp 6) (.tmp 7) (.agg (wdC d).toArray) (.agg #[ZW,ZW,ZW,ZW,ZW,ZW,ZW,ZW])=some (.bool false):=by
  rw[wd_zero,wdV,wd_eql hd (by have:=H8_two;have:=H8_pos;omega)]
  rw[decide_eq_false d0]
 have hdI:wdI d≠0:=fun h=>d0 ((wdI_zero_iff hd).1 h)
 simp -dsimp (maxSteps:=1000000) (disch:=first|omega|(simp only[new_n,put_n];omega)|decide +kernel|(repeat first|rw[new_n]|rw[put_n])) only[wpS,Nat.reduceEqDiff,wd_take,hz]
 refine drawn [(2,[1])] (by kernel_rfl) (by kernel_rfl) rfl ?_
 simp -dsimp (maxSteps:=1000000) (disch:=first|omega|(simp only[new_n,put_n];omega)|decide +kernel|(repeat first|rw[new_n]|rw[put_n])) only[wpS,Nat.reduceEqDiff,Nat.reduceLeDiff,ld28,row_of g0,wdC_len,wd_take]
 refine call (in_ok n hn) ?_
 rintro r1 h1 ⟨X1,p1⟩
 have m1:=X1.n
 simp -dsimp (maxSteps:=1000000) (disch:=first|omega|(simp only[new_n,put_n];omega)|decide +kernel|(repeat first|rw[new_n]|rw[put_n])) only[wpS,Nat.reduceEqDiff,Nat.reduceLeDiff,ld28,row_of (X1.kept (by omega) g1),wdC_len,wd_take]
 refine call (in_ok d hd) ?_
 rintro r2 h2 ⟨hE2,p2⟩
 have X2:=X1.trans hE2
 have m2:=hE2.n
 simp -dsimp (maxSteps:=1000000) (disch:=first|omega|(simp only[new_n,put_n];omega)|decide +kernel|(repeat first|rw[new_n]|rw[put_n])) only[wpS,Nat.reduceEqDiff]
 refine call (rlowest_ok (p1.keep hE2.keep) p2 (wdI_small hn) (wdI_small hd) hdI) ?_
 rintro r3 h3 ⟨hE3,p3⟩
 have X3:=X2.trans hE3
 have m3:=hE3.n
 simp -dsimp (maxSteps:=1000000) (disch:=first|omega|(simp only[new_n,put_n];omega)|decide +kernel|(repeat first|rw[new_n]|rw[put_n])) only[wpS,Nat.reduceEqDiff]
 refine call (refout_ok p3) ?_
 rintro _ h4 ⟨hE4,rfl⟩
 have X4:=X3.trans hE4
 have m4:=hE4.n
 have kg:=X4.kept (by omega) g2
 by_cases hq:QW (Rat.divInt (wdI n) (wdI d))
 ·rw[if_pos hq]
  simp -dsimp (maxSteps:=1000000) (disch:=first|omega|(simp only[new_n,put_n];omega)|decide +kernel|(repeat first|rw[new_n]|rw[put_n])) only[wpS,wpT,Nat.reduceEqDiff,Nat.reduceLeDiff,Nat.reduceAdd,st30,kg,shV_cells,shC_len,shC_all,sh_sp3]
  refine⟨by repeat' first|refine wpSteady_c2 ?_ ?_|refine wpSteady_t2 ?_ ?_|exact wpSteady_one rfl rfl rfl rfl (steady_ext (H0:=H0) rfl (by omega) (by assumption) (by assumption) (by with_reducible assumption)),?_⟩
  simp -dsimp (maxSteps:=1000000) (disch:=first|omega|(simp only[new_n,put_n];omega)|decide +kernel|(repeat first|rw[new_n]|rw[put_n])) only[wpS,wpT,Nat.reduceEqDiff,Nat.reduceLeDiff,Nat.reduceAdd,ld30,shC_len,sh_take]
  exact⟨(E0.trans X4).put (by omega) _,rfl⟩
 ·rw[if_neg hq]
  simp -dsimp (maxSteps:=1000000) (disch:=first|omega|(simp only[new_n,put_n];omega)|decide +kernel|(repeat first|rw[new_n]|rw[put_n])) only[wpS,wpT,Nat.reduceEqDiff,Nat.reduceLeDiff,Nat.reduceAdd,st30,kg,shV_cells,shC_len,shC_all,sh_sp3]
  refine⟨by repeat' first|refine wpSteady_c2 ?_ ?_|refine wpSteady_t2 ?_ ?_|exact wpSteady_one rfl rfl rfl rfl (steady_ext (H0:=H0) rfl (by omega) (by assumption) (by assumption) (by with_reducible assumption)),?_⟩
  simp -dsimp (maxSteps:=1000000) (disch:=first|omega|(simp only[new_n,put_n];omega)|decide +kernel|(repeat first|rw[new_n]|rw[put_n])) only[wpS,wpT,Nat.reduceEqDiff,Nat.reduceLeDiff,Nat.reduceAdd,ld30,shC_len,sh_take]
  exact⟨(E0.trans X4).put (by omega) _,rfl⟩
end Go.Id

/-! Contracts: the laws' own helpers: shares of integers, lists of them. -/
namespace Go.Id
open Go
theorem lawq_ok {h:IH} (n d:Int) (hn:In64 n) (hd:In64 d) (d0:d≠0):WV Proofs.Tryz.prog (.func (.func 25) #[] #[]) [KI n,KI d] h fun r h'=>Ext h h'∧r=shareV (Rat.divInt n d):=by
 refine enter (nt:=14) (rs:=[.cell 4 30]) Proofs.Tryz.func25 rfl rfl rfl (by simp) ?_
 simp -dsimp (disch:=omega) only[wpS,Nat.reduceEqDiff,Nat.reduceAdd,zc30]
 have E1:Ext h (h.new (.cells Z16 0 none)):=(Ext.refl h).new _
 have g1:(h.new (.cells Z16 0 none)).ext.get h.n=some (.cells Z16 0 none):=by simp (disch:=first|omega|(simp only[new_n,put_n];omega)|(repeat first|rw[new_n]|rw[put_n])) only[get_new_same]
 refine call (shof_ok n d hn hd d0) ?_
 rintro _ h1 ⟨X1,rfl⟩
 have m1:=X1.n
 simp only[new_n] at m1
 have k1:=X1.kept (by simp) g1
 simp -dsimp (disch:=omega) only[wpS,wpT,Nat.reduceEqDiff,Nat.reduceLeDiff,Nat.reduceAdd,zc30,st30,ld30,k1,shV_cells,shC_len,shC_all,sh_sp3,sh_take]
 exact⟨(((E1.trans X1).new _).put (by omega) _).put (by omega) _,rfl⟩
theorem madeS_ok {h:IH} (n d:Nat) (hn:n<W8) (hd:d<W8) (d0:d≠0) (hq:QW (Rat.divInt (wdI n) (wdI d))):WV Proofs.Tryz.prog (.func (.func 47) #[] #[]) [wdV n,wdV d] h fun r h'=>Ext h h'∧r=shareV (Rat.divInt (wdI n) (wdI d)):=by
 refine enter (nt:=22) (rs:=[.cell 4 30]) Proofs.Tryz.func47 rfl rfl rfl (by simp) ?_
 simp -dsimp (maxSteps:=1000000) (disch:=first|omega|(simp only[new_n,put_n];omega)|decide +kernel|(repeat first|rw[new_n]|rw[put_n])) only[wpS,Nat.reduceEqDiff,Nat.reduceLeDiff,Nat.reduceAdd,zc30,ld28,cells8,wdC_len,wd_take]
 obtain⟨H0,hH0,n0,E0,g0,g1,g2⟩:=boxes3 h (wdC n) (wdC d) Z16
 rw[←hH0]
 clear hH0
 refine call (refmake_ok n d hn hd d0) ?_
 rintro _ h1 ⟨X1,rfl⟩
 rw[if_pos hq]
 have m1:=X1.n
 have k2:=X1.kept (by omega) g2
 simp -dsimp (maxSteps:=1000000) (disch:=first|omega|(simp only[new_n,put_n];omega)|decide +kernel|(repeat first|rw[new_n]|rw[put_n])) only[wpS,wpT,Nat.reduceEqDiff,Nat.reduceLeDiff,Nat.reduceAdd,zc30,st30,ld30,k2,shV_cells,shC_len,shC_all,sh_sp3,sh_take]
 exact⟨(((E0.trans X1).new _).put (by omega) _).put (by omega) _,rfl⟩
def shI (n:Int):Nat×Nat:=(wideN n,wideN 1)
theorem shI_lt {n:Int} (hn:In64 n):(shI n).1<W8∧(shI n).2<W8:=⟨wideN_lt (inW64 hn),wideN_lt (z:=1) (inW64 ⟨by omega,by omega⟩)⟩
set_option maxHeartbeats 2000000 in
theorem lawl_ok {h:IH} {v:Value} {xs:List Int} (hv:SlOf h 1 v xs.length (xs.map KI)) (hx : ∀x∈xs,In64 x) (hl:xs.length≤1000):WV Proofs.Tryz.prog (.func (.func 45) #[] #[]) [v] h fun r h'=>Ext h h'∧ShSl h' r (xs.map shI):=by
 refine enter (nt:=19) (rs:=[.tmp 2]) Proofs.Tryz.func45 rfl rfl rfl (by simp) ?_
 simp -dsimp (disch:=omega) only[wpS,Nat.reduceEqDiff,hv.len sl87]
 refine loop (fun m fr hh => ∃(i:Nat) (out:Value),i+m=xs.length∧Ext h hh∧Acc hh h.n 16 out ((xs.take i).map shI).length (shL ((xs.take i).map shI))∧fget fr 3=some out∧fget fr 6=some v∧fget fr 7=some (KN xs.length)∧fget fr 8=some (KN i)) xs.length
  ⟨0,.slice none 0 0,by omega,Ext.refl _,Acc.nil _ _ (by omega),by simp,by simp,by simp,by simp⟩ ?_
 rintro m fr hh ⟨i,out,him,hE,hA,f3,f6,f7,f8⟩
 have hnn:=hE.n
 simp -dsimp (disch:=omega) only[wpS,f7,f8]
 refine bq_intro ?_ ?_<;>intro hc<;>simp only[decide_eq_true_eq,decide_eq_false_iff_not] at hc
 ·have hi:i<xs.length:=by omega
  obtain⟨x,hxi⟩ : ∃x,xs[i]?=some x:=⟨_,List.getElem?_eq_getElem hi⟩
  have hxm:=List.mem_of_getElem? hxi
  have hld:load Proofs.Tryz.prog hh 3 (elemAddr v i)=some (KI x):=by
   rw[hv.ld hE.keep (P:=Proofs.Tryz.prog) (t:=3) (c:=i) (by simpa using hi) ag3,List.getElem?_map,hxi];rfl
  simp -dsimp (disch:=omega) only[wpS,wpT,Nat.reduceEqDiff,f3,f6,f8,hv.idx es87 hi,hld]
  refine call (lawq_ok x 1 (hx x hxm) ⟨by omega,by omega⟩ (by omega)) ?_
  rintro _ h1 ⟨X1,rfl⟩
  have m1:=X1.n
  have eS:shareV (Rat.divInt x 1)=shV (wideN x) (wideN 1):=by
   have:Rat.divInt x 1=(x:Rat):=Rat.num_divInt_den (x:Rat)
   rw[this];rfl
  rw[eS]
  obtain⟨out',h8,hap,hA8,hG8,hE8⟩:=(hA.ext X1).appN (P:=Proofs.Tryz.prog) (t:=25) ap25 (m:=1) (new:=shC (wideN x) (wideN 1)) (by omega) (by rw[shC_len]) (shC_all _ _) (by rw[List.length_map,List.length_take];omega) (by omega) (hE.trans X1) (Nat.le_refl _)
  have eT:(xs.take (i+1)).map shI=(xs.take i).map shI ++ [shI x]:=by rw[take_snoc hxi,List.map_append];rfl
  have hA8':Acc h8 h.n 16 out' ((xs.take (i+1)).map shI).length (shL ((xs.take (i+1)).map shI)):=by
   rw[eT,shL_snoc,List.length_append]
   exact hA8
  have hap':append Proofs.Tryz.prog (h1.new (.cells (shC (wideN x) (wideN 1)) 16 none)) 25 out (.slice (some ⟨2*h1.n,0,none⟩) 1 3)=some (out',h8):=hap
  simp -dsimp (disch:=omega) only[wpS,wpT,Nat.reduceEqDiff,Nat.reduceLeDiff,Nat.reduceAdd,bs25,ba25_25,f8,shV_cells,shC_len,sh_sp3,hap']
  exact⟨m - 1,by omega,i+1,out',by omega,hE8,hA8',by simp,by simp[f6],by simp[f7],by simp⟩
 ·obtain rfl:i=xs.length:=by omega
  rw[List.take_length] at hA
  simp -dsimp (disch:=omega) only[wpS,wpT,Nat.reduceEqDiff,f3]
  refine⟨hE,hA.sl,by rw[List.length_map];omega,?_⟩
  intro p hp
  obtain⟨x,hxm,rfl⟩:=List.mem_map.1 hp
  exact shI_lt (hx x hxm)
end Go.Id

/-! Shares compared. -/
namespace Go.Id
open Go
section
variable {P:Program}
theorem pr_program:pureRun P (program)=some P:=rfl
theorem pr_part_agg {e:TypeId} {n:Nat} (hA:isAggT P e=some true) (hs:sizeT P e=some n) (cs:Array Value) (off:Nat):pureRun P (part e cs off)=some (.agg (cs.extract off (off+n))):=by
 unfold part
 have h1:pureRun P (isAgg e)=some true:=by
  unfold isAgg
  simp only[isAggT,Option.map_eq_some_iff] at hA
  obtain⟨d,hd,hA⟩:=hA
  rw[pr_bind (pr_underlying hd)]
  cases d<;>first|rfl|(simp at hA)
 rw[pr_bind h1]
 simp only[if_true]
 rw[pr_bind (pr_sizeOf hs)]
 rfl
theorem binop_eql_gen {t:TypeId} {x y:Array Value} {b:Bool} (hg:P.eqGuardType P.depth t=false) (hx:plain (.agg x)=true) (hy:plain (.agg y)=true) (h:pureRun P (Op.equal t (.agg x) (.agg y))=some b) (ox oy:Operand):binop P .eql t ox oy (.agg x) (.agg y)=some (.bool b):=by
 refine binop_of P t ox oy hx hy rfl ?_
 have h1:pureRun P (eqGuard .eql t ox oy (.agg x) (.agg y))=some ():=by
  show pureRun P (if (!P.eqGuardType P.depth t)=true then _ else _)=_
  rw[hg];rfl
 rw[pr_bind h1]
 show pureRun P (Op.equal t _ _ >>= fun r=>pure (Value.bool r))=_
 rw[pr_bind h];rfl
theorem binop_neq_gen {t:TypeId} {x y:Array Value} {b:Bool} (hg:P.eqGuardType P.depth t=false) (hx:plain (.agg x)=true) (hy:plain (.agg y)=true) (h:pureRun P (Op.equal t (.agg x) (.agg y))=some b) (ox oy:Operand):binop P .neq t ox oy (.agg x) (.agg y)=some (.bool (!b)):=by
 refine binop_of P t ox oy hx hy rfl ?_
 have h1:pureRun P (eqGuard .neq t ox oy (.agg x) (.agg y))=some ():=by
  show pureRun P (if (!P.eqGuardType P.depth t)=true then _ else _)=_
  rw[hg];rfl
 rw[pr_bind h1]
 show pureRun P (Op.equal t _ _ >>= fun r=>pure (Value.bool !r))=_
 rw[pr_bind h];rfl
end
theorem sh_ext1 (n d:Nat):((shC n d).toArray).extract 0 8=(wdC n).toArray:=by
 simp only[List.extract_toArray,List.extract_eq_take_drop]
 rw[show(8 - 0)=8 from rfl,sh_take1]
theorem sh_ext2 (n d:Nat):((shC n d).toArray).extract 8 16=(wdC d).toArray:=by
 simp only[List.extract_toArray,List.extract_eq_take_drop]
 rw[show(16 - 8)=8 from rfl,sh_take2]
theorem wd_equalIn {n m:Nat} (hn:n<W8) (hm:m<W8) (k:Nat):pureRun Proofs.Tryz.prog (Op.equalIn (k+2) 28 (.agg (wdC n).toArray) (.agg (wdC m).toArray))=some (decide (n=m)):=by
 rw[wdC_map,wdC_map,pr_equal_arr u28 u26 sz26 _ _ _ (by simp) (by simp),wd_dec hn hm]
theorem sh_equalIn {n d n' d':Nat} (h1:n<W8) (h2:d<W8) (h3:n'<W8) (h4:d'<W8) (k:Nat):pureRun Proofs.Tryz.prog (Op.equalIn (k+3) 30 (.agg (shC n d).toArray) (.agg (shC n' d').toArray))=some (decide (n=n'∧d=d')):=by
 unfold Op.equalIn
 rw[pr_bind (pr_underlying (show Program.underlying Proofs.Tryz.prog 30=some (.struct { toList:=[{ name := "N",type:=28,offset:=0,embedded:=false,tag := "",pkgPath := "",byteOffset:=0 },{ name := "D",type:=28,offset:=8,embedded:=false,tag := "",pkgPath := "",byteOffset:=64 }] }) by kernel_rfl))]
 simp only
 rw[pr_bind pr_program,show Program.stoodInHeld Proofs.Tryz.prog 30=false by kernel_rfl]
 have seq : ∀{α β:Type} (s:Sem α) (f:α→Sem β),pureRun Proofs.Tryz.prog (s >>= f)=(pureRun Proofs.Tryz.prog s).bind fun a=>pureRun Proofs.Tryz.prog (f a):=fun s f=>pureRun_seq _ f s
 have p1:=fun(n d:Nat)=>pr_part_agg (P:=Proofs.Tryz.prog) ag28 sz28 (shC n d).toArray 0
 have p2:=fun(n d:Nat)=>pr_part_agg (P:=Proofs.Tryz.prog) ag28 sz28 (shC n d).toArray 8
 have n1:("N" ≠ "_")=True:=by simp
 have n2:("D" ≠ "_")=True:=by simp
 simp only[Bool.false_eq_true,if_false,←Array.forIn_toList,List.forIn_cons,List.forIn_nil,seq,n1,n2,if_true,p1,Option.bind_some,Nat.zero_add,sh_ext1,wd_equalIn h1 h3]
 by_cases e1:n=n'
 ·simp only[decide_eq_true e1,Bool.not_true,Bool.false_eq_true,if_false,pr_pure,Option.bind_some,seq,p2,show(8+8:Nat)=16 from rfl,sh_ext2,wd_equalIn h2 h4]
  by_cases e2:d=d'
  ·simp only[decide_eq_true e2,Bool.not_true,Bool.false_eq_true,if_false,pr_pure,Option.bind_some]
   rw[decide_eq_true (And.intro e1 e2)]
  ·simp only[decide_eq_false e2,Bool.not_false,if_true,pr_pure,Option.bind_some]
   rw[decide_eq_false (fun h=>e2 h.2)]
 ·simp only[decide_eq_false e1,Bool.not_false,if_true,pr_pure,Option.bind_some]
  rw[decide_eq_false (fun h=>e1 h.1)]
theorem sh_plain (n d:Nat):plain (.agg (shC n d).toArray)=true:=by
 simp only[plain,shC,wdC]
 simp[scal]
theorem sh_eql {n d n' d':Nat} (h1:n<W8) (h2:d<W8) (h3:n'<W8) (h4:d'<W8) (ox oy:Operand):binop Proofs.Tryz.prog .eql 30 ox oy (.agg (shC n d).toArray) (.agg (shC n' d').toArray)=some (.bool (decide (n=n'∧d=d'))):=by
 exact binop_eql_gen (by kernel_rfl) (sh_plain _ _) (sh_plain _ _) (sh_equalIn h1 h2 h3 h4 9997) ox oy
theorem sh_neq {n d n' d':Nat} (h1:n<W8) (h2:d<W8) (h3:n'<W8) (h4:d'<W8) (ox oy:Operand):binop Proofs.Tryz.prog .neq 30 ox oy (.agg (shC n d).toArray) (.agg (shC n' d').toArray)=some (.bool (!decide (n=n'∧d=d'))):=by
 exact binop_neq_gen (by kernel_rfl) (sh_plain _ _) (sh_plain _ _) (sh_equalIn h1 h2 h3 h4 9997) ox oy
end Go.Id

/-! Contracts: the laws' own helpers: is, fails, is2. -/
namespace Go.Id
open Go
theorem fails_ok {h:IH} (e:Int):WV Proofs.Tryz.prog (.func (.func 35) #[] #[]) [KI e] h fun r h'=>r=.func (.func 87) #[] #[ptr (2*h.n) 0]∧h'=h.new (.cells [KI e] 0 none):=by
 refine enter (nt:=4) (rs:=[.tmp 2]) Proofs.Tryz.func35 rfl rfl rfl (by simp) ?_
 simp -dsimp (disch:=omega) only[wpS,wpT,Nat.reduceEqDiff]
theorem is2_ok {h:IH} (n d:Nat):WV Proofs.Tryz.prog (.func (.func 41) #[] #[]) [shV n d] h fun r h'=>r=.func (.func 91) #[] #[ptr (2*h.n) 0]∧h'=h.new (.cells (shC n d) 0 none):=by
 refine enter (nt:=4) (rs:=[.tmp 2]) Proofs.Tryz.func41 rfl rfl rfl (by simp) ?_
 simp -dsimp (disch:=omega) only[wpS,wpT,Nat.reduceEqDiff,shV_cells]
theorem is_ok {h:IH} (a b:Int):WV Proofs.Tryz.prog (.func (.func 36) #[] #[]) [KI a,KI b] h fun r h'=>r=.func (.func 88) #[] #[ptr (2*h.n) 0,ptr (2*(h.n+1)) 0]∧h'=(h.new (.cells [KI a] 0 none)).new (.cells [KI b] 0 none):=by
 refine enter (nt:=6) (rs:=[.tmp 4]) Proofs.Tryz.func36 rfl rfl rfl (by simp) ?_
 simp -dsimp (disch:=omega) only[wpS,wpT,Nat.reduceEqDiff,Nat.reduceAdd]
theorem is21_ok {h:IH} {n d n' d' b:Nat} {e:Int} (h1:n<W8) (h2:d<W8) (h3:n'<W8) (h4:d'<W8) (hb:b<h.n) (g:h.ext.get b=some (.cells (shC n' d') 0 none)) :
  WV Proofs.Tryz.prog (.func (.func 91) #[] #[ptr (2*b) 0]) [shV n d,KI e] h fun r h'=>Ext h h'∧r=.bool (decide ((n=n'∧d=d')∧e=0)):=by
 have hne : ∀ox oy,binop Proofs.Tryz.prog .eql 30 ox oy (.agg (shC n d).toArray) (.agg (shC n' d').toArray)=some (.bool (decide (n=n'∧d=d'))):=fun ox oy=>sh_eql h1 h2 h3 h4 ox oy
 have E1:Ext h (h.new (.cells (shC n d) 0 none)):=(Ext.refl h).new _
 refine enter (nt:=13) (rs:=[.tmp 5]) Proofs.Tryz.func91 rfl rfl rfl (by simp) ?_
 have k:=E1.kept hb g
 by_cases hd:n=n'∧d=d'
 ·rw[decide_eq_true hd] at hne
  by_cases he:e=0
  ·have c:(e == 0)=true:=by simpa using he
   simp -dsimp (disch:=omega) only[wpS,wpT,Nat.reduceEqDiff,Nat.reduceLeDiff,Nat.reduceAdd,ld30,shV_cells,shC_len,sh_take,row_of k,hne,c]
   exact⟨E1,by simp[hd,he]⟩
  ·have c:(e == 0)=false:=by simpa using he
   simp -dsimp (disch:=omega) only[wpS,wpT,Nat.reduceEqDiff,Nat.reduceLeDiff,Nat.reduceAdd,ld30,shV_cells,shC_len,sh_take,row_of k,hne,c]
   exact⟨E1,by simp[he]⟩
 ·rw[decide_eq_false hd] at hne
  simp -dsimp (disch:=omega) only[wpS,wpT,Nat.reduceEqDiff,Nat.reduceLeDiff,Nat.reduceAdd,ld30,shV_cells,shC_len,sh_take,row_of k,hne]
  exact⟨E1,by simp[hd]⟩
theorem fails1_ok {h:IH} {n d b:Nat} {e e':Int} (h1:n<W8) (h2:d<W8) (hb:b<h.n) (g:h.ext.get b=some (.cells [KI e'] 0 none)) :
  WV Proofs.Tryz.prog (.func (.func 87) #[] #[ptr (2*b) 0]) [shV n d,KI e] h fun r h'=>Ext h h'∧r=.bool (decide ((n=0∧d=0)∧e=e')):=by
 have hz:(.agg (shC 0 0).toArray:Value)=.agg #[.int .u64 0,.int .u64 0,.int .u64 0,.int .u64 0,.int .u64 0,.int .u64 0,.int .u64 0,.int .u64 0,.int .u64 0,.int .u64 0,.int .u64 0,.int .u64 0,.int .u64 0,.int .u64 0,.int .u64 0,.int .u64 0]:=by kernel_rfl
 have hne : ∀ox oy,binop Proofs.Tryz.prog .eql 30 ox oy (.agg (shC n d).toArray) (.agg #[.int .u64 0,.int .u64 0,.int .u64 0,.int .u64 0,.int .u64 0,.int .u64 0,.int .u64 0,.int .u64 0,.int .u64 0,.int .u64 0,.int .u64 0,.int .u64 0,.int .u64 0,.int .u64 0,.int .u64 0,.int .u64 0])=some (.bool (decide (n=0∧d=0))):=fun ox oy=>by
  rw[←hz]
  exact sh_eql h1 h2 (by decide +kernel) (by decide +kernel) ox oy
 have E1:Ext h (h.new (.cells (shC n d) 0 none)):=(Ext.refl h).new _
 refine enter (nt:=14) (rs:=[.tmp 5]) Proofs.Tryz.func87 rfl rfl rfl (by simp) ?_
 have k:=E1.kept hb g
 by_cases hd:n=0∧d=0
 ·rw[decide_eq_true hd] at hne
  by_cases he:e=e'
  ·have c:(e == e')=true:=by simpa using he
   simp -dsimp (disch:=omega) only[wpS,wpT,Nat.reduceEqDiff,Nat.reduceLeDiff,Nat.reduceAdd,ld30,bv30,ld40,shV_cells,shC_len,sh_take,row_of k,hne,c]
   exact⟨E1,by simp[hd,he]⟩
  ·have c:(e == e')=false:=by simpa using he
   simp -dsimp (disch:=omega) only[wpS,wpT,Nat.reduceEqDiff,Nat.reduceLeDiff,Nat.reduceAdd,ld30,bv30,ld40,shV_cells,shC_len,sh_take,row_of k,hne,c]
   exact⟨E1,by simp[he]⟩
 ·rw[decide_eq_false hd] at hne
  simp -dsimp (disch:=omega) only[wpS,wpT,Nat.reduceEqDiff,Nat.reduceLeDiff,Nat.reduceAdd,ld30,bv30,shV_cells,shC_len,sh_take,hne]
  exact⟨E1,by simp[hd]⟩
def shq (q:Rat):Nat×Nat:=(wideN q.num,wideN q.den)
theorem shq_lt {q:Rat} (h:QW q):(shq q).1<W8∧(shq q).2<W8:=⟨wideN_lt h.1,wideN_lt h.2⟩
theorem shareV_shq (q:Rat):shareV q=shV (shq q).1 (shq q).2:=rfl
set_option maxHeartbeats 1000000 in
theorem is1_ok {h:IH} {n d b b2:Nat} {e a a2:Int} (h1:n<W8) (h2:d<W8) (ha:In64 a) (ha2:In64 a2) (a0:a2≠0) (hb:b<h.n) (g:h.ext.get b=some (.cells [KI a] 0 none)) (hb2:b2<h.n) (g2:h.ext.get b2=some (.cells [KI a2] 0 none)) :
  WV Proofs.Tryz.prog (.func (.func 88) #[] #[ptr (2*b) 0,ptr (2*b2) 0]) [shV n d,KI e] h fun r h'=>Ext h h'∧r=.bool (decide ((n=(shq (Rat.divInt a a2)).1∧d=(shq (Rat.divInt a a2)).2)∧e=0)):=by
 obtain⟨h3,h4⟩:=shq_lt (qw_div ha ha2 a0)
 have hs:=shareV_shq (Rat.divInt a a2)
 generalize shq (Rat.divInt a a2)=s at h3 h4 hs ⊢
 obtain⟨n',d'⟩:=s
 simp only at h3 h4 hs ⊢
 have hne : ∀ox oy,binop Proofs.Tryz.prog .eql 30 ox oy (.agg (shC n d).toArray) (shV n' d')=some (.bool (decide (n=n'∧d=d'))):=fun ox oy=>sh_eql h1 h2 h3 h4 ox oy
 obtain⟨H0,hH0⟩ : ∃H,H=h.new (.cells (shC n d) 0 none):=⟨_,rfl⟩
 have E1:Ext h H0:=by rw[hH0];exact(Ext.refl h).new _
 have g0:H0.ext.get h.n=some (.cells (shC n d) 0 none):=by rw[hH0];simp (disch:=first|omega|(simp only[new_n,put_n];omega)|(repeat first|rw[new_n]|rw[put_n])) only[get_new_same]
 have n0:H0.n=h.n+1:=by rw[hH0];simp
 have k:=E1.kept hb g
 have k2:=E1.kept hb2 g2
 have X0:=Ext.refl H0
 have L0:load Proofs.Tryz.prog H0 30 (ptr (2*h.n) 0)=some (.agg (shC n d).toArray):=by
  have r:=row_of g0
  simp -dsimp (disch:=omega) only[wpS,Nat.reduceLeDiff,ld30,r,shC_len,sh_take]
 refine enter (nt:=16) (rs:=[.tmp 6]) Proofs.Tryz.func88 rfl rfl rfl (by simp) ?_
 simp -dsimp (disch:=omega) only[wpS,Nat.reduceEqDiff,Nat.reduceAdd,shV_cells]
 rw[←hH0]
 clear hH0
 refine drawn [(0,[10])] (by kernel_rfl) (by kernel_rfl) rfl ?_
 simp -dsimp (disch:=omega) only[wpS,Nat.reduceEqDiff,Nat.reduceLeDiff,ld30,ld3,row_of g0,row_of k,row_of k2,shC_len,sh_take]
 refine call (lawq_ok a a2 ha ha2 a0) ?_
 rintro _ h9 ⟨X9,rfl⟩
 rw[hs]
 by_cases hd:n=n'∧d=d'
 ·rw[decide_eq_true hd] at hne
  simp -dsimp (disch:=omega) only[wpS,wpT,Nat.reduceEqDiff,hne]
  refine⟨by repeat' first|refine wpSteady_c2 ?_ ?_|refine wpSteady_t2 ?_ ?_|exact wpSteady_one rfl rfl rfl rfl (steady_ext (H0:=H0) rfl (by omega) (by assumption) (by assumption) (by with_reducible assumption)),?_⟩
  simp -dsimp (disch:=omega) only[wpS,wpT,Nat.reduceEqDiff,Nat.reduceAdd]
  refine⟨E1.trans X9,?_⟩
  by_cases he:e=0<;>simp[hd,he]
 ·rw[decide_eq_false hd] at hne
  simp -dsimp (disch:=omega) only[wpS,wpT,Nat.reduceEqDiff,hne]
  refine⟨by repeat' first|refine wpSteady_c2 ?_ ?_|refine wpSteady_t2 ?_ ?_|exact wpSteady_one rfl rfl rfl rfl (steady_ext (H0:=H0) rfl (by omega) (by assumption) (by assumption) (by with_reducible assumption)),?_⟩
  simp -dsimp (disch:=omega) only[wpS,wpT,Nat.reduceEqDiff,Nat.reduceAdd]
  exact⟨E1.trans X9,by simp[hd]⟩
end Go.Id

/-! Contracts: slices.Equal over shares. -/
namespace Go.Id
open Go
set_option maxHeartbeats 1000000 in
theorem shequal_ok {h:IH} {v v2:Value} {l l2:List (Nat×Nat)} (hv:ShSl h v l) (hv2:ShSl h v2 l2) :
  WV Proofs.Tryz.prog (.func (.func 24) #[] #[]) [v,v2] h fun r h'=>Ext h h'∧r=.bool (decide (l=l2)):=by
 have hlb:=hv.2.1
 refine enter (nt:=26) (rs:=[.tmp 4]) Proofs.Tryz.func24 rfl rfl rfl (by simp) ?_
 by_cases hlen:l.length=l2.length
 case neg =>
  have c1:(!((l.length:Int) == (l2.length:Int)))=true:=by simp;omega
  have hne:l≠l2:=fun e=>hlen (by rw[e])
  simp -dsimp (maxSteps:=1000000) (disch:=first|omega|(simp only[new_n,put_n];omega)|decide +kernel|(repeat first|rw[new_n]|rw[put_n])) only[wpS,wpT,Nat.reduceEqDiff,Nat.reduceAdd,hv.1.len sl25,hv2.1.len sl25]
  exact⟨Ext.refl _,by simp[hne]⟩
 have c1:(!((l.length:Int) == (l2.length:Int)))=false:=by simp;omega
 simp -dsimp (maxSteps:=1000000) (disch:=first|omega|(simp only[new_n,put_n];omega)|decide +kernel|(repeat first|rw[new_n]|rw[put_n])) only[wpS,wpT,Nat.reduceEqDiff,Nat.reduceAdd,hv.1.len sl25,hv2.1.len sl25]
 refine loop (fun m fr hh => ∃i:Nat,i+m=l.length∧Ext h hh∧(∀j,j<i→l[j]?=l2[j]?)∧fget fr 0=some v∧fget fr 1=some v2∧fget fr 12=some (KN l.length)∧fget fr 13=some (KN i)) l.length
  ⟨0,by omega,Ext.refl _,fun j hj=>by omega,by simp,by simp,by simp,by simp⟩ ?_
 rintro m fr hh ⟨i,him,hE,hj,f0,f1,f12,f13⟩
 simp -dsimp (maxSteps:=1000000) (disch:=first|omega|(simp only[new_n,put_n];omega)|decide +kernel|(repeat first|rw[new_n]|rw[put_n])) only[wpS,f12,f13]
 refine bq_intro ?_ ?_<;>intro hc<;>simp only[decide_eq_true_eq,decide_eq_false_iff_not] at hc
 ·have hi:i<l.length:=by omega
  have hi2:i<l2.length:=by omega
  obtain⟨p,hp⟩ : ∃p,l[i]?=some p:=⟨_,List.getElem?_eq_getElem hi⟩
  obtain⟨q,hq⟩ : ∃p,l2[i]?=some p:=⟨_,List.getElem?_eq_getElem hi2⟩
  obtain⟨w1,w2⟩:=hv.2.2 p (List.mem_of_getElem? hp)
  obtain⟨w3,w4⟩:=hv2.2.2 q (List.mem_of_getElem? hq)
  have hne : ∀ox oy,binop Proofs.Tryz.prog .neq 30 ox oy (shV p.1 p.2) (shV q.1 q.2)=some (.bool (!decide (p.1=q.1∧p.2=q.2))):=fun ox oy=>sh_neq w1 w2 w3 w4 ox oy
  by_cases hd:p.1=q.1∧p.2=q.2
  ·rw[decide_eq_true hd] at hne
   simp -dsimp (maxSteps:=1000000) (disch:=first|omega|(simp only[new_n,put_n];omega)|decide +kernel|(repeat first|rw[new_n]|rw[put_n])) only[wpS,wpT,Nat.reduceEqDiff,f0,f1,f13,hv.1.idx es25 hi,hv2.1.idx es25 hi2,hv.ld hE.keep hp,hv2.ld hE.keep hq,hne]
   refine⟨m - 1,by omega,i+1,by omega,hE,?_,by simp[f0],by simp[f1],by simp[f12],by simp⟩
   intro j h1
   by_cases hji:j=i
   ·subst hji;rw[hp,hq];exact congrArg some (Prod.ext hd.1 hd.2)
   ·exact hj j (by omega)
  ·rw[decide_eq_false hd] at hne
   have hll:l≠l2:=by
    intro e
    rw[e,hq] at hp
    cases hp
    exact hd ⟨rfl,rfl⟩
   simp -dsimp (maxSteps:=1000000) (disch:=first|omega|(simp only[new_n,put_n];omega)|decide +kernel|(repeat first|rw[new_n]|rw[put_n])) only[wpS,wpT,Nat.reduceEqDiff,f0,f1,f13,hv.1.idx es25 hi,hv2.1.idx es25 hi2,hv.ld hE.keep hp,hv2.ld hE.keep hq,hne]
   exact⟨hE,by simp[hll]⟩
 ·have hll:l=l2:=by
   apply List.ext_getElem?
   intro j
   by_cases hjl:j<i
   ·exact hj j hjl
   ·rw[List.getElem?_eq_none (by omega),List.getElem?_eq_none (by omega)]
  simp -dsimp (maxSteps:=1000000) (disch:=first|omega|(simp only[new_n,put_n];omega)|decide +kernel|(repeat first|rw[new_n]|rw[put_n])) only[wpS,wpT]
  exact⟨hE,by simp[hll]⟩
end Go.Id

/-! Contracts: drafts of numbers. -/
namespace Go.Id
open Go
theorem drsmall_ok {h:IH} {b:Bool} {x:Value} {n:Int} (hx:([x]:List Value).all cellOK=true) (h0:0≤n) (hn:n<4294967296) :
  WV Proofs.Tryz.prog (.func (.func 46) #[] #[]) [.agg #[.bool b,x,.int .u32 n]] h fun r h'=>Ext h h' ∧ ∃z:Int,r=KI z ∧ -1000000≤z∧z≤1000000:=by
 have E1:Ext h (h.new (.cells [.bool b,x,.int .u32 n] 0 none)):=(Ext.refl h).new _
 have hm:0≤n % 1000001:=by omega
 have hm2:n % 1000001≤1000000:=by omega
 have hx':cellOK x=true:=by simpa using hx
 refine enter (nt:=13) (rs:=[.tmp 2]) Proofs.Tryz.func46 rfl rfl rfl (by simp) ?_
 simp -dsimp (disch:=omega) only[wpS,Nat.reduceEqDiff,fa34_2,ld32,cv32_3,fa34_0,ld4]
 cases b
 ·simp -dsimp (disch:=omega) only[wpS,Nat.reduceEqDiff]
  exact⟨E1,_,rfl,by omega,by omega⟩
 ·simp -dsimp (disch:=omega) only[wpS,Nat.reduceEqDiff]
  exact⟨E1,_,rfl,by omega,by omega⟩
theorem tmod_small (z:Int) : -1000<z.tmod 1000∧z.tmod 1000<1000:=by
 rcases Int.le_total 0 z with h|h
 ·rw[Int.tmod_eq_emod_of_nonneg h];omega
 ·obtain⟨w,rfl⟩ : ∃w,z = -w:=⟨-z,by omega⟩
  rw[Int.neg_tmod,Int.tmod_eq_emod_of_nonneg (by omega)];omega
theorem shortS_ok {h:IH} (a c:Int) (ha : -1000<a∧a<1000) (hc:0<c∧c<25):WV Proofs.Tryz.prog (.func (.func 47) #[] #[]) [wideV a,wideV c] h fun r h'=>Ext h h'∧r=shareV (Rat.divInt a c):=by
 have ia:In64 a:=⟨by omega,by omega⟩
 have ic:In64 c:=⟨by omega,by omega⟩
 have e1:wdI (wideN a)=a:=wdI_wideN (inW64 ia)
 have e2:wdI (wideN c)=c:=wdI_wideN (inW64 ic)
 have hz:wideN c≠0:=by
  intro e
  rw[e] at e2
  have:wdI 0=0:=by decide +kernel
  omega
 have hq:QW (Rat.divInt (wdI (wideN a)) (wdI (wideN c))):=by
  rw[e1,e2]
  exact qw_div ia ic (by omega)
 have:=madeS_ok (h:=h) (wideN a) (wideN c) (wideN_lt (inW64 ia)) (wideN_lt (inW64 ic)) hz hq
 rw[e1,e2] at this
 exact this
set_option maxHeartbeats 1000000 in
theorem drshort_ok {h:IH} {b b2:Bool} {x x2:Value} {n n2:Int} (hx:([x]:List Value).all cellOK=true) (hx2:([x2]:List Value).all cellOK=true) (h0:0≤n) (hn:n<4294967296) (g0:0≤n2) (gn:n2<4294967296) :
  WV Proofs.Tryz.prog (.func (.func 11) #[] #[]) [.agg #[.bool b,x,.int .u32 n,.bool b2,x2,.int .u32 n2]] h fun r h'=>Ext h h' ∧ ∃a c:Int,(-1000<a∧a<1000)∧(0<c∧c<25)∧r=shareV (Rat.divInt a c):=by
 have hx':cellOK x=true:=by simpa using hx
 have hx2':cellOK x2=true:=by simpa using hx2
 obtain⟨H0,hH0,n0,E0,k0,k1⟩:=boxes2 h [.bool b,x,.int .u32 n,.bool b2,x2,.int .u32 n2] Z16
 refine enter (nt:=21) (rs:=[.cell 2 30]) Proofs.Tryz.func11 rfl rfl rfl (by simp) ?_
 simp -dsimp (maxSteps:=1000000) (disch:=first|omega|(simp only[new_n,put_n];omega)|decide +kernel|(repeat first|rw[new_n]|rw[put_n])) only[wpS,wpT,Nat.reduceEqDiff,Nat.reduceLeDiff,Nat.reduceAdd,zc30,fa36_1,ld34]
 rw[←hH0]
 clear hH0
 refine call (drsmall_ok hx2 g0 gn) ?_
 rintro _ h1 ⟨X1,z,rfl,z0,z1⟩
 have m1:=X1.n
 have kx:=X1.kept (by omega) k0
 have cases2:z<0∨0≤z:=by omega
 rcases cases2 with hz|hz
 ·obtain⟨w,hw⟩ : ∃w,w = -z:=⟨_,rfl⟩
  have c1:decide (z<0)=true:=decide_eq_true hz
  simp -dsimp (maxSteps:=1000000) (disch:=first|omega|(simp only[new_n,put_n];omega)|decide +kernel|(repeat first|rw[new_n]|rw[put_n])) only[wpS,wpT,Nat.reduceEqDiff,Nat.reduceLeDiff,Nat.reduceAdd,ld34,fa36_0,c1,row_of kx]
  rw[←hw]
  refine call (drsmall_ok hx h0 hn) ?_
  rintro _ h2 ⟨X2,y,rfl,y0,y1⟩
  have m2:=X2.n
  have hr : ∀ox oy,binop Proofs.Tryz.prog .rem 3 ox oy (KI y) (KI 1000)=some (KI (y.tmod 1000)):=fun _ _=>binop_rem _ _ _ _ (by decide)
  have hy:=tmod_small y
  simp -dsimp (maxSteps:=1000000) (disch:=first|omega|(simp only[new_n,put_n];omega)|decide +kernel|(repeat first|rw[new_n]|rw[put_n])) only[wpS,Nat.reduceEqDiff,hr]
  refine call (refOf_ok (y.tmod 1000) ⟨by omega,by omega⟩) ?_
  rintro _ h3 ⟨X3,rfl⟩
  have m3:=X3.n
  simp -dsimp (maxSteps:=1000000) (disch:=first|omega|(simp only[new_n,put_n];omega)|decide +kernel|(repeat first|rw[new_n]|rw[put_n])) only[wpS,Nat.reduceEqDiff]
  refine call (refOf_ok (1+w % 24) ⟨by omega,by omega⟩) ?_
  rintro _ h4 ⟨X4,rfl⟩
  have m4:=X4.n
  simp -dsimp (maxSteps:=1000000) (disch:=first|omega|(simp only[new_n,put_n];omega)|decide +kernel|(repeat first|rw[new_n]|rw[put_n])) only[wpS,Nat.reduceEqDiff]
  refine call (shortS_ok (y.tmod 1000) (1+w % 24) hy ⟨by omega,by omega⟩) ?_
  rintro _ h5 ⟨X5,rfl⟩
  have m5:=X5.n
  have XX:=(((X1.trans X2).trans X3).trans X4).trans X5
  have k2:=XX.kept (by omega) k1
  simp -dsimp (maxSteps:=1000000) (disch:=first|omega|(simp only[new_n,put_n];omega)|decide +kernel|(repeat first|rw[new_n]|rw[put_n])) only[wpS,wpT,Nat.reduceEqDiff,Nat.reduceLeDiff,Nat.reduceAdd,st30,ld30,k2,shV_cells,shC_len,shC_all,sh_sp3,sh_take]
  exact⟨(E0.trans XX).put (by omega) _,_,_,hy,⟨by omega,by omega⟩,rfl⟩
 ·obtain⟨w,hw⟩ : ∃w,w=z:=⟨_,rfl⟩
  have c1:decide (z<0)=false:=decide_eq_false (by omega)
  simp -dsimp (maxSteps:=1000000) (disch:=first|omega|(simp only[new_n,put_n];omega)|decide +kernel|(repeat first|rw[new_n]|rw[put_n])) only[wpS,wpT,Nat.reduceEqDiff,Nat.reduceLeDiff,Nat.reduceAdd,ld34,fa36_0,c1,row_of kx]
  rw[←hw]
  refine call (drsmall_ok hx h0 hn) ?_
  rintro _ h2 ⟨X2,y,rfl,y0,y1⟩
  have m2:=X2.n
  have hr : ∀ox oy,binop Proofs.Tryz.prog .rem 3 ox oy (KI y) (KI 1000)=some (KI (y.tmod 1000)):=fun _ _=>binop_rem _ _ _ _ (by decide)
  have hy:=tmod_small y
  simp -dsimp (maxSteps:=1000000) (disch:=first|omega|(simp only[new_n,put_n];omega)|decide +kernel|(repeat first|rw[new_n]|rw[put_n])) only[wpS,Nat.reduceEqDiff,hr]
  refine call (refOf_ok (y.tmod 1000) ⟨by omega,by omega⟩) ?_
  rintro _ h3 ⟨X3,rfl⟩
  have m3:=X3.n
  simp -dsimp (maxSteps:=1000000) (disch:=first|omega|(simp only[new_n,put_n];omega)|decide +kernel|(repeat first|rw[new_n]|rw[put_n])) only[wpS,Nat.reduceEqDiff]
  refine call (refOf_ok (1+w % 24) ⟨by omega,by omega⟩) ?_
  rintro _ h4 ⟨X4,rfl⟩
  have m4:=X4.n
  simp -dsimp (maxSteps:=1000000) (disch:=first|omega|(simp only[new_n,put_n];omega)|decide +kernel|(repeat first|rw[new_n]|rw[put_n])) only[wpS,Nat.reduceEqDiff]
  refine call (shortS_ok (y.tmod 1000) (1+w % 24) hy ⟨by omega,by omega⟩) ?_
  rintro _ h5 ⟨X5,rfl⟩
  have m5:=X5.n
  have XX:=(((X1.trans X2).trans X3).trans X4).trans X5
  have k2:=XX.kept (by omega) k1
  simp -dsimp (maxSteps:=1000000) (disch:=first|omega|(simp only[new_n,put_n];omega)|decide +kernel|(repeat first|rw[new_n]|rw[put_n])) only[wpS,wpT,Nat.reduceEqDiff,Nat.reduceLeDiff,Nat.reduceAdd,st30,ld30,k2,shV_cells,shC_len,shC_all,sh_sp3,sh_take]
  exact⟨(E0.trans XX).put (by omega) _,_,_,hy,⟨by omega,by omega⟩,rfl⟩
end Go.Id

/-! Contracts: the law's small: some bool. -/
namespace Go.Id
open Go
theorem small1_ok {h:IH} {x b y:Nat} (hb:b<h.n) (g:h.ext.get b=some (.cells [K64 y] 0 none)) :
  WV Proofs.Tryz.prog (.func (.func 128) #[] #[ptr (2*b) 0]) [K64 x] h fun r h'=>Ext h h' ∧ ∃o,r=.bool o:=by
 refine enter (nt:=7) (rs:=[.tmp 3]) Proofs.Tryz.func128 rfl rfl rfl (by simp) ?_
 simp -dsimp (disch:=omega) only[wpS,Nat.reduceEqDiff,Nat.reduceAdd,ld26,row_of g]
 exact⟨Ext.refl _,_,rfl⟩
abbrev tailV (k:Nat):Value:=.slice (some ⟨2*k,2,none⟩) 6 13
theorem u64index_ok {h:IH} {k n b y:Nat} (hk:k<h.n) (gk:h.ext.get k=some (.cells (wdC n) 0 none)) (hb:b<h.n) (g:h.ext.get b=some (.cells [K64 y] 0 none)) :
  WV Proofs.Tryz.prog (.func (.func 162) #[] #[]) [tailV k,.func (.func 128) #[] #[ptr (2*b) 0]] h fun r h'=>Ext h h' ∧ ∃c:Int,r=KI c:=by
 refine enter (nt:=19) (rs:=[.tmp 4]) Proofs.Tryz.func162 rfl rfl rfl (by simp) ?_
 simp -dsimp (disch:=omega) only[wpS,Nat.reduceEqDiff,Nat.reduceAdd,ln79]
 refine loop (fun m fr h1 => ∃i:Nat,i+m=6∧Ext h h1∧fget fr 0=some (tailV k)∧fget fr 1=some (.func (.func 128) #[] #[ptr (2*b) 0])∧fget fr 7=some (KN 6)∧fget fr 8=some (KN i)) 6
  ⟨0,by omega,Ext.refl _,by simp,by simp,by simp,by simp⟩ ?_
 rintro m fr h1 ⟨i,him,hE,f0,f1,f7,f8⟩
 have hnn:=hE.n
 simp -dsimp (disch:=omega) only[wpS,f7,f8]
 refine bq_intro ?_ ?_<;>intro hc<;>simp only[decide_eq_true_eq,decide_eq_false_iff_not] at hc
 ·have hi:i<6:=by omega
  have hg:=row_of (hE.kept hk gk)
  simp -dsimp (disch:=omega) only[wpS,wpT,Nat.reduceEqDiff,es79,ld26,f0,f1,f8,hg,wdC_get n (2+i) (by omega)]
  refine call (small1_ok (x:=wrd n (2+i)) (by omega) (hE.kept hb g)) ?_
  rintro _ h2 ⟨hE2,o,rfl⟩
  cases o
  ·simp -dsimp (disch:=omega) only[wpS,Nat.reduceEqDiff,f8]
   exact⟨m - 1,by omega,i+1,by omega,hE.trans hE2,by simp[f0],by simp[f1],by simp[f7],by simp⟩
  ·simp -dsimp (disch:=omega) only[wpS,Nat.reduceEqDiff]
   exact⟨hE.trans hE2,_,rfl⟩
 ·simp -dsimp (disch:=omega) only[wpS,wpT]
  exact⟨hE,_,rfl⟩
theorem u64wrap (x:Int) : ∃y:Nat,IntKind.u64.wrap x=(y:Int):=by
 have h:0≤IntKind.u64.wrap x:=by
  show 0≤x % 18446744073709551616
  omega
 exact⟨_,(Int.toNat_of_nonneg h).symm⟩
theorem u64contains_ok {h:IH} {k n b y:Nat} (hk:k<h.n) (gk:h.ext.get k=some (.cells (wdC n) 0 none)) (hb:b<h.n) (g:h.ext.get b=some (.cells [K64 y] 0 none)) :
  WV Proofs.Tryz.prog (.func (.func 127) #[] #[]) [tailV k,.func (.func 128) #[] #[ptr (2*b) 0]] h fun r h'=>Ext h h' ∧ ∃o,r=.bool o:=by
 refine enter (nt:=9) (rs:=[.tmp 4]) Proofs.Tryz.func127 rfl rfl rfl (by simp) ?_
 simp -dsimp (disch:=omega) only[wpS,Nat.reduceEqDiff,Nat.reduceAdd]
 refine call (u64index_ok hk gk hb g) ?_
 rintro _ h1 ⟨X1,c,rfl⟩
 simp -dsimp (disch:=omega) only[wpS,Nat.reduceEqDiff]
 exact⟨X1,_,rfl⟩
theorem lawsmall_ok {h:IH} (n:Nat):WV Proofs.Tryz.prog (.func (.func 76) #[] #[]) [wdV n] h fun r h'=>Ext h h' ∧ ∃o,r=.bool o:=by
 obtain⟨s,hs⟩ : ∃s:Int,s=IntKind.i64.wrap (wrd n 7):=⟨_,rfl⟩
 obtain⟨q,hq⟩ : ∃q:Int,q=Int.fdiv s (2 ^ (min (63:Int).toNat IntKind.i64.bits)):=⟨_,rfl⟩
 have hb : ∀ox oy,binop Proofs.Tryz.prog .shr 2 ox oy (.int .i64 s) (.int .u64 63)=some (.int .i64 q):=fun ox oy=>by rw[hq];exact binop_shr _ _ _ _ (by decide)
 clear hq
 obtain⟨y,hy⟩:=u64wrap q
 have E1:Ext h (((h.new (.cells (wdC n) 0 none)).new (.cells [.int .u64 0] 0 none)).put (h.n+1) (.cells [K64 y] 0 none)):=(((Ext.refl h).new _).new _).put (by omega) _
 obtain⟨H0,hH0⟩ : ∃H0,H0=((h.new (.cells (wdC n) 0 none)).new (.cells [.int .u64 0] 0 none)).put (h.n+1) (.cells [K64 y] 0 none):=⟨_,rfl⟩
 have n0:H0.n=h.n+2:=by rw[hH0];rfl
 have k0:H0.ext.get h.n=some (.cells (wdC n) 0 none):=by rw[hH0];simp (disch:=first|omega|(simp only[new_n,put_n];omega)|(repeat first|rw[new_n]|rw[put_n])) only[get_new_same,get_new_old,get_put_old]
 have k1:H0.ext.get (h.n+1)=some (.cells [K64 y] 0 none):=by rw[hH0];simp (disch:=first|omega|(simp only[new_n,put_n];omega)|(repeat first|rw[new_n]|rw[put_n])) only[get_put_same]
 rw[←hH0] at E1
 refine enter (nt:=13) (rs:=[.tmp 2]) Proofs.Tryz.func76 rfl rfl rfl (by simp) ?_
 simp -dsimp (maxSteps:=1000000) (disch:=first|omega|(simp only[new_n,put_n];omega)|decide +kernel|(repeat first|rw[new_n]|rw[put_n])) only[wpS,wpT,Nat.reduceEqDiff,Nat.reduceLeDiff,ar28,ld26,cv26_2,cv2_26,zc26,st26,cells8,wdC_get n 7 (by omega),show idxAt 7 8=some 7 from rfl,ar28,←hs,hb,hy]
 rw[←hH0]
 clear hH0
 have hsl:sliceOp Proofs.Tryz.prog H0 28 (ptr (2*h.n) 0) (some (KI 2)) none none=some (tailV h.n):=by kernel_rfl
 simp -dsimp (maxSteps:=1000000) (disch:=first|omega|(simp only[new_n,put_n];omega)|decide +kernel|(repeat first|rw[new_n]|rw[put_n])) only[wpS,Nat.reduceEqDiff,hsl]
 refine call (u64contains_ok (k:=h.n) (b:=h.n+1) (by omega) k0 (by omega) k1) ?_
 rintro _ h1 ⟨X1,o,rfl⟩
 simp -dsimp (maxSteps:=1000000) (disch:=first|omega|(simp only[new_n,put_n];omega)|decide +kernel|(repeat first|rw[new_n]|rw[put_n])) only[wpS,Nat.reduceEqDiff]
 exact⟨E1.trans X1,_,rfl⟩
end Go.Id

/-! Contracts: the reference's valid shares. -/
namespace Go.Id
open Go
theorem one_ok {h:IH} {v:Value} {z:Int} (hv:LongIs h v z):WV Proofs.Tryz.prog (.func (.func 102) #[] #[]) [v] h fun r h'=>Ext h h'∧r=.bool (decide (z=1)):=by
 obtain⟨s,rfl,ds,hD,hN,hx⟩:=hv
 have E1:Ext h (h.new (.cells [.bool (decide (z<0)),s] 0 none)):=(Ext.refl h).new _
 refine enter (nt:=19) (rs:=[.tmp 2]) Proofs.Tryz.func102 rfl rfl rfl (by simp) ?_
 by_cases h1:ds.length=1
 ·obtain⟨x,rfl⟩:=List.length_eq_one_iff.1 h1
  have hv:valD [x]=x:=by simp[valD,valT]
  rw[hv] at hx
  have ib:indexAddr Proofs.Tryz.prog 87 s (.int .i64 0)=some (elemAddr s 0):=by
   simpa using hD.1.idxI (P:=Proofs.Tryz.prog) (t:=87) es87 (k:=.i64) (i:=0) (by omega) (by simp)
  have l0:load Proofs.Tryz.prog (h.new (.cells [.bool (decide (z<0)),s] 0 none)) 3 (elemAddr s 0)=some (KN x):=hD.1.ld E1.keep (P:=Proofs.Tryz.prog) (t:=3) (c:=0) (by simp) ag3
  have hl:=fun h'=>hD.1.len (P:=Proofs.Tryz.prog) sl87 h'
  have hl' : ∀h',lenB Proofs.Tryz.prog h' 87 s=some (.int .i64 1):=fun h'=>hl h'
  by_cases hx1:x=1
  ·subst hx1
   have l0':load Proofs.Tryz.prog (h.new (.cells [.bool (decide (z<0)),s] 0 none)) 3 (elemAddr s 0)=some (KI 1):=l0
   simp -dsimp (disch:=omega) only[wpS,wpT,Nat.reduceEqDiff,fa89_1,ld87,fa89_0,ld4,hl',ib,l0']
   refine⟨E1,congrArg Value.bool ?_⟩
   by_cases h0:z<0
   ·rw[decide_eq_true h0,decide_eq_false (by omega)];rfl
   ·rw[decide_eq_false h0,decide_eq_true (by omega)];rfl
  ·have c1:((x:Int) == 1)=false:=by simp;omega
   simp -dsimp (disch:=omega) only[wpS,wpT,Nat.reduceEqDiff,fa89_1,ld87,hl',ib,l0,c1]
   exact⟨E1,by rw[decide_eq_false (by omega)]⟩
 ·have c1:((ds.length:Int) == 1)=false:=by simp;omega
  simp -dsimp (disch:=omega) only[wpS,wpT,Nat.reduceEqDiff,fa89_1,ld87,hD.1.len sl87,c1]
  refine⟨E1,?_⟩
  rw[decide_eq_false]
  rintro rfl
  have h2:valD ds=1:=hx
  have h3:=hN.len_le (b:=[1]) (by intro d hd;simp at hd;omega) (by rw[h2];simp[valD,valT])
  have h4:=hN.nil_iff
  rcases Nat.lt_or_ge 0 ds.length with h5|h5
  ·simp at h3;omega
  ·have:ds = []:=List.length_eq_zero_iff.1 (by omega)
   rw[this] at h2;simp[valD,valT] at h2
set_option maxHeartbeats 2000000 in
theorem refright_ok {h:IH} (n d:Nat) (hn:n<W8) (hd:d<W8):WV Proofs.Tryz.prog (.func (.func 50) #[] #[]) [shV n d] h fun r h'=>Ext h h'∧r=.bool (decide (okS n d)):=by
 refine enter (nt:=26) (rs:=[.tmp 2]) Proofs.Tryz.func50 rfl rfl rfl (by simp) ?_
 simp -dsimp (maxSteps:=1000000) (disch:=first|omega|(simp only[new_n,put_n];omega)|decide +kernel|(repeat first|rw[new_n]|rw[put_n])) only[wpS,shV_cells]
 obtain⟨H0,hH0⟩ : ∃H0,H0=h.new (.cells (shC n d) 0 none):=⟨_,rfl⟩
 have E0:Ext h H0:=by rw[hH0];exact(Ext.refl h).new _
 have n0:H0.n=h.n+1:=by rw[hH0];rfl
 have g0:H0.ext.get h.n=some (.cells (shC n d) 0 none):=by rw[hH0];simp (disch:=first|omega|(simp only[new_n,put_n];omega)|(repeat first|rw[new_n]|rw[put_n])) only[get_new_same]
 rw[←hH0]
 clear hH0
 have X0:=Ext.refl H0
 obtain⟨L1,L2,_⟩:=psh g0
 refine drawn [(4,[2])] (by kernel_rfl) (by kernel_rfl) rfl ?_
 simp -dsimp (maxSteps:=1000000) (disch:=first|omega|(simp only[new_n,put_n];omega)|decide +kernel|(repeat first|rw[new_n]|rw[put_n])) only[wpS,Nat.reduceEqDiff,Nat.reduceLeDiff,fa30_0,ld28,row_of g0,shC_len,sh_take1]
 refine call (in_ok n hn) ?_
 rintro _ h1 ⟨X1,p1⟩
 have m1:=X1.n
 simp -dsimp (maxSteps:=1000000) (disch:=first|omega|(simp only[new_n,put_n];omega)|decide +kernel|(repeat first|rw[new_n]|rw[put_n])) only[wpS,Nat.reduceEqDiff,Nat.reduceLeDiff,Nat.reduceAdd,ld28,fa30_1,row_of (X1.kept (by omega) g0),shC_len,sh_take2]
 refine call (in_ok d hd) ?_
 rintro _ h2 ⟨X2,p2⟩
 have m2:=X2.n
 have X12:=X1.trans X2
 obtain⟨s1,n1',rfl,c1,o1,_,_⟩:=p1.form
 obtain⟨s2,n2',rfl,c2,o2,lenD,zD⟩:=p2.form
 simp -dsimp (maxSteps:=1000000) (disch:=first|omega|(simp only[new_n,put_n];omega)|decide +kernel|(repeat first|rw[new_n]|rw[put_n])) only[wpS,wpT,Nat.reduceEqDiff,Nat.reduceLeDiff,Nat.reduceAdd,zc89,st89,o1,o2]
 refine⟨by repeat' first|refine wpSteady_c2 ?_ ?_|refine wpSteady_t2 ?_ ?_|exact wpSteady_one rfl rfl rfl rfl (steady_ext (H0:=H0) rfl (by omega) (by assumption) (by assumption) (by with_reducible assumption)),?_⟩
 obtain⟨K0,hK0⟩ : ∃K0,K0=((((h2.new (.cells ZL 0 none)).new (.cells ZL 0 none)).put h2.n (.cells [.bool (decide (wdI n<0)),s1] 0 none)).put (h2.n+1) (.cells [.bool (decide (wdI d<0)),s2] 0 none)):=⟨_,rfl⟩
 have e3:Ext h2 K0:=by rw[hK0];exact((((Ext.refl _).new _).new _).put (Nat.le_refl _) _).put (by omega) _
 have n3:K0.n=h2.n+2:=by rw[hK0];rfl
 have ga:K0.ext.get h2.n=some (.cells [.bool (decide (wdI n<0)),s1] 0 none):=by rw[hK0];simp (disch:=first|omega|(simp only[new_n,put_n];omega)|(repeat first|rw[new_n]|rw[put_n])) only[get_put_same,get_put_old]
 have gb:K0.ext.get (h2.n+1)=some (.cells [.bool (decide (wdI d<0)),s2] 0 none):=by rw[hK0];simp (disch:=first|omega|(simp only[new_n,put_n];omega)|(repeat first|rw[new_n]|rw[put_n])) only[get_put_same]
 simp -dsimp (maxSteps:=1000000) (disch:=first|omega|(simp only[new_n,put_n];omega)|decide +kernel|(repeat first|rw[new_n]|rw[put_n])) only[wpS,wpT,Nat.reduceEqDiff,Nat.reduceAdd,fa89_0,ld4]
 rw[←hK0]
 clear hK0
 have q1:=p1.keep (X2.trans e3).keep
 have q2:=p2.keep e3.keep
 have E3:=(E0.trans X12).trans e3
 by_cases hneg:wdI d<0
 ·have cn:decide (wdI d<0)=true:=decide_eq_true hneg
  rw[cn] at gb
  simp -dsimp (maxSteps:=1000000) (disch:=first|omega|(simp only[new_n,put_n];omega)|decide +kernel|(repeat first|rw[new_n]|rw[put_n])) only[wpS,wpT,Nat.reduceEqDiff]
  exact⟨E3,by rw[decide_eq_false (fun h=>by have:=h.1;omega)]⟩
 ·have cn:decide (wdI d<0)=false:=decide_eq_false hneg
  rw[cn] at gb q2
  by_cases hz:wdI d=0
  ·have c0:decide ((0:Int)<(n2':Int))=false:=decide_eq_false (by have:=zD.2 hz;omega)
   simp -dsimp (maxSteps:=1000000) (disch:=first|omega|(simp only[new_n,put_n];omega)|decide +kernel|(repeat first|rw[new_n]|rw[put_n])) only[wpS,wpT,Nat.reduceEqDiff,fa89_1,ld87,row_of gb,lenD sl87,c0]
   exact⟨E3,by rw[decide_eq_false (fun h=>by have:=h.1;omega)]⟩
  ·have c0:decide ((0:Int)<(n2':Int))=true:=decide_eq_true (by
    have:n2'≠0:=fun h=>hz (zD.1 h)
    omega)
   simp -dsimp (maxSteps:=1000000) (disch:=first|omega|(simp only[new_n,put_n];omega)|decide +kernel|(repeat first|rw[new_n]|rw[put_n])) only[wpS,wpT,Nat.reduceEqDiff,Nat.reduceLeDiff,Nat.reduceAdd,fa89_1,ld87,ld89,row_of ga,row_of gb,lenD sl87,c0,tk2']
   refine call (divisor_ok q1 q2 (wdI_small hn) (wdI_small hd)) ?_
   rintro g h4 ⟨X4,hg⟩
   simp -dsimp (maxSteps:=1000000) (disch:=first|omega|(simp only[new_n,put_n];omega)|decide +kernel|(repeat first|rw[new_n]|rw[put_n])) only[wpS,wpT,Nat.reduceEqDiff]
   refine call (one_ok hg) ?_
   rintro _ h5 ⟨X5,rfl⟩
   simp -dsimp (maxSteps:=1000000) (disch:=first|omega|(simp only[new_n,put_n];omega)|decide +kernel|(repeat first|rw[new_n]|rw[put_n])) only[wpS,Nat.reduceEqDiff]
   refine⟨(E3.trans X4).trans X5,congrArg Value.bool ?_⟩
   rw[decide_eq_decide]
   unfold okS
   constructor
   ·intro h;exact⟨by omega,by omega⟩
   ·rintro⟨_,h⟩;omega
end Go.Id

/-! Contracts: the reference's chapter 35: chains, means, autocovariances. -/
namespace Go.Id
open Go
theorem kept_q:Kept RRat:=fun _ _ _ _ r e=>r.keep e
theorem RRat.parts4 {h:IH} {v:Value} {q:Rat} (p:RRat h v q) : ∃a s b t,v=.agg #[a,s,b,t]∧([a,s,b,t]:List Value).all cellOK=true:=by
 obtain⟨a,s,b,t,rfl,_,_,_,o1,_,o2,o3,o4⟩:=p.parts
 exact⟨a,s,b,t,rfl,by simp[o1,o2,o3,o4]⟩
theorem rfright_ok {h:IH} {v:Value} {l:List (Nat×Nat)} (hv:ShSl h v l):WV Proofs.Tryz.prog (.func (.func 78) #[] #[]) [v] h fun r h'=>Ext h h'∧r=KI (chErr l):=by
 have hlb:=hv.2.1
 unfold chErr
 refine enter (nt:=22) (rs:=[.tmp 2]) Proofs.Tryz.func78 rfl rfl rfl (by simp) ?_
 by_cases h2:200<l.length
 ·have c1:decide ((200:Int)<(l.length:Int))=true:=decide_eq_true (by omega)
  rw[if_pos h2]
  simp -dsimp (disch:=omega) only[wpS,wpT,Nat.reduceEqDiff,hv.1.len sl25,c1]
  exact Ext.refl _
 ·have c1:decide ((200:Int)<(l.length:Int))=false:=decide_eq_false (by omega)
  rw[if_neg h2]
  simp -dsimp (disch:=omega) only[wpS,Nat.reduceEqDiff,hv.1.len sl25,c1]
  refine loop (fun m fr h1 => ∃i:Nat,i+m=l.length∧Ext h h1∧(∀j p,j<i→l[j]?=some p→okS p.1 p.2)∧fget fr 0=some v∧fget fr 3=some (KN i)) l.length
   ⟨0,by omega,Ext.refl _,fun j p hj=>by omega,by simp,by simp⟩ ?_
  rintro m fr h1 ⟨i,him,hE,hok,f0,f3⟩
  simp -dsimp (disch:=omega) only[wpS,Nat.reduceEqDiff,f0,f3,hv.1.len sl25]
  refine bq_intro ?_ ?_<;>intro hc<;>simp only[decide_eq_true_eq,decide_eq_false_iff_not] at hc
  ·have hi:i<l.length:=by omega
   obtain⟨p,hp⟩ : ∃p,l[i]?=some p:=⟨_,List.getElem?_eq_getElem hi⟩
   have hpm:=List.mem_of_getElem? hp
   obtain⟨w1,w2⟩:=hv.2.2 p hpm
   simp -dsimp (disch:=omega) only[wpS,wpT,Nat.reduceEqDiff,f0,f3,hv.1.idx es25 hi,hv.ld hE.keep hp]
   refine call (refright_ok p.1 p.2 w1 w2) ?_
   rintro _ h3 ⟨hE2,rfl⟩
   have E2:=hE.trans hE2
   by_cases hk:okS p.1 p.2
   ·rw[decide_eq_true hk]
    simp -dsimp (disch:=omega) only[wpS,wpT,Nat.reduceEqDiff,f3]
    refine⟨m - 1,by omega,i+1,by omega,E2,?_,by simp[f0],by simp⟩
    intro j q hj hq
    by_cases hji:j=i
    ·subst hji;rw[hp] at hq;cases hq;exact hk
    ·exact hok j q (by omega) hq
   ·rw[decide_eq_false hk,if_pos (fun hall=>hk (hall p hpm))]
    simp -dsimp (disch:=omega) only[wpS,wpT,Nat.reduceEqDiff]
    exact E2
  ·have hall:allOk l:=by
    intro p hp
    obtain⟨j,hj⟩:=List.getElem?_of_mem hp
    have:=(List.getElem?_eq_some_iff.1 hj).1
    exact hok j p (by omega) hj
   rw[if_neg (fun hn=>hn hall)]
   by_cases h0:l.length=0
   ·have c2:((l.length:Int) == 0)=true:=by simp;exact List.length_eq_zero_iff.1 h0
    rw[if_pos h0]
    simp -dsimp (disch:=omega) only[wpS,wpT,Nat.reduceEqDiff,f0,hv.1.len sl25,c2]
    exact hE
   ·have c2:((l.length:Int) == 0)=false:=by simp;intro hn;rw[hn] at h0;simp at h0
    rw[if_neg h0]
    simp -dsimp (disch:=omega) only[wpS,wpT,Nat.reduceEqDiff,f0,hv.1.len sl25,c2]
    exact hE
set_option maxHeartbeats 2000000 in
theorem rfvalues_ok {h:IH} {v:Value} {l:List (Nat×Nat)} (hv:ShSl h v l) (hok:allOk l) (hl:l.length≤1000):WV Proofs.Tryz.prog (.func (.func 80) #[] #[]) [v] h fun r h'=>Ext h h'∧ElSl RRat h' r (l.map rOf):=by
 refine enter (nt:=20) (rs:=[.tmp 2]) Proofs.Tryz.func80 rfl rfl rfl (by simp) ?_
 simp -dsimp (disch:=omega) only[wpS]
 refine loop (fun m fr h1 => ∃(i:Nat) (out:Value) (cs:List Value),i+m=l.length∧Ext h h1∧Acc h1 h.n 4 out ((l.take i).map rOf).length cs∧ElCs RRat h1 ((l.take i).map rOf) cs∧fget fr 0=some v∧fget fr 3=some out∧fget fr 4=some (KN i)) l.length
  ⟨0,.slice none 0 0,[],by omega,Ext.refl _,Acc.nil h _ (by omega),by simp[ElCs],by simp,by simp,by simp⟩ ?_
 rintro m fr h1 ⟨i,out,cs,him,hE,hA,hC,f0,f3,f4⟩
 simp -dsimp (disch:=omega) only[wpS,Nat.reduceEqDiff,f0,f4,hv.1.len sl25]
 refine bq_intro ?_ ?_<;>intro hc<;>simp only[decide_eq_true_eq,decide_eq_false_iff_not] at hc
 ·have hi:i<l.length:=by omega
  obtain⟨p,hp⟩ : ∃p,l[i]?=some p:=⟨_,List.getElem?_eq_getElem hi⟩
  have hpm:=List.mem_of_getElem? hp
  obtain⟨w1,w2⟩:=hv.2.2 p hpm
  simp -dsimp (disch:=omega) only[wpS,wpT,Nat.reduceEqDiff,f0,f3,f4,hv.1.idx es25 hi,hv.ld hE.keep hp]
  refine call (refin_ok p.1 p.2 w1 w2) ?_
  rintro r h2 ⟨X2,hr⟩
  obtain⟨q1,q2⟩:=rOf_parts (hok p hpm)
  have hr':RRat h2 r (rOf p):=by unfold RRat;rw[q1,q2];exact hr
  obtain⟨a3,s3,b3,t3,rfl,o⟩:=hr'.parts4
  have n1:=hE.n
  have n2:=X2.n
  obtain⟨out',h5,hap,hA5,hC5,hG5,hE5⟩:=read4 ap111 (by omega) kept_q (hA.ext X2) (hC.keep kept_q X2.keep) hr' o (by simp;omega) (by omega) (hE.trans X2) (Nat.le_refl _)
  have eT:(l.take i).map rOf ++ [rOf p]=(l.take (i+1)).map rOf:=by rw[take_snoc hp,List.map_append];rfl
  rw[eT] at hA5 hC5
  simp -dsimp (disch:=omega) only[wpS,wpT,Nat.reduceEqDiff,Nat.reduceLeDiff,Nat.reduceAdd,bs111,ba111_111,f4,hap]
  exact⟨m - 1,by omega,i+1,out',_,by omega,hE5,hA5,hC5,by simp[f0],by simp,by simp⟩
 ·obtain rfl:i=l.length:=by omega
  rw[List.take_length] at hA hC
  simp -dsimp (disch:=omega) only[wpS,wpT,Nat.reduceEqDiff,f3]
  exact⟨hE,cs,hA.sl,hC,by simp;omega⟩
theorem divInt_one (n:Nat):Rat.divInt 1 (n:Int)=1 / (((n:Nat):Int):Rat):=by
 rw[Rat.divInt_eq_div];rfl
theorem mul_inv_eq (x y:Rat):x*(1 / y)=x / y:=by
 rw[Rat.div_def,Rat.div_def,Rat.one_mul]
theorem divInt_zero1:Rat.divInt 0 1=0:=by decide +kernel
set_option maxHeartbeats 2000000 in
theorem rfaverage_ok {h:IH} {v:Value} {l:List Rat} (hv:ElSl RRat h v l) (h0:l ≠ []) {k:Nat} (hk : ∀q∈l,QB k q) (hb:l.length*(k+1)+17<16000000) :
  WV Proofs.Tryz.prog (.func (.func 79) #[] #[]) [v] h fun r h'=>Ext h h'∧RRat h' r (qmean l):=by
 obtain⟨cs0,hs0,_,hlen⟩:=id hv
 have hl0:0<l.length:=List.length_pos_iff.2 h0
 refine enter (nt:=23) (rs:=[.cell 2 91]) Proofs.Tryz.func79 rfl rfl rfl (by simp) ?_
 simp -dsimp (maxSteps:=1000000) (disch:=first|omega|(simp only[new_n,put_n];omega)|decide +kernel|(repeat first|rw[new_n]|rw[put_n])) only[wpS,zc91]
 have E1:Ext h (h.new (.cells ZR 0 none)):=(Ext.refl h).new _
 have g1:(h.new (.cells ZR 0 none)).ext.get h.n=some (.cells ZR 0 none):=by simp (disch:=first|omega|(simp only[new_n,put_n];omega)|(repeat first|rw[new_n]|rw[put_n])) only[get_new_same]
 refine call (quick_ok 0 1 ⟨by omega,by omega⟩ ⟨by omega,by omega⟩ (by omega)) ?_
 rintro z h1 ⟨X1,p1⟩
 rw[divInt_zero1] at p1
 have m1:=X1.n
 simp only[new_n] at m1
 obtain⟨a3,s3,b3,t3,rfl,_,_,d1,o1,d2,o2,o3,o4⟩:=p1.parts
 have kg:=X1.kept (by simp) g1
 simp -dsimp (maxSteps:=1000000) (disch:=first|omega|(simp only[new_n,put_n];omega)|decide +kernel|(repeat first|rw[new_n]|rw[put_n])) only[wpS,wpT,Nat.reduceEqDiff,Nat.reduceLeDiff,Nat.reduceAdd,zc91,st91,o1,o2,o3,o4]
 have Ex2:Ext h1 ((h1.new (.cells ZR 0 none)).put h1.n (.cells [a3,s3,b3,t3] 0 none)):=((Ext.refl h1).new _).put (Nat.le_refl _) _
 refine loop_cut (fun fr hh => ∃a s b t,Ext h hh∧h1.n<hh.n∧hh.ext.get h.n=some (.cells ZR 0 none)∧hh.ext.get h1.n=some (.cells [a,s,b,t] 0 none)∧RRat hh (.agg #[a,s,b,t]) (qsum l)∧fget fr 0=some v∧fget fr 2=some (ptr (2*h.n) 0)∧fget fr 3=some (ptr (2*h1.n) 0)) ?_ ?_
 ·refine loop (fun m fr hh => ∃(i:Nat) (a s b t:Value),i+m=l.length∧Ext h hh∧h1.n<hh.n∧hh.ext.get h.n=some (.cells ZR 0 none)∧hh.ext.get h1.n=some (.cells [a,s,b,t] 0 none)∧RRat hh (.agg #[a,s,b,t]) (qsum (l.take i)) ∧
    fget fr 0=some v∧fget fr 2=some (ptr (2*h.n) 0)∧fget fr 3=some (ptr (2*h1.n) 0)∧fget fr 4=some (KN i)) l.length
   ⟨0,a3,s3,b3,t3,by omega,(E1.trans X1).trans Ex2,by simp,by simp (disch:=first|omega|(simp only[new_n,put_n];omega)|(repeat first|rw[new_n]|rw[put_n])) only[get_new_old,get_put_old];exact kg,by simp (disch:=first|omega|(simp only[new_n,put_n];omega)|(repeat first|rw[new_n]|rw[put_n])) only[get_put_same],p1.keep Ex2.keep,by simp,by simp,by simp,by simp⟩ ?_
  clear p1 kg Ex2
  rintro m fr hh ⟨i,a,s,b,t,him,hE,hn,hg,hg5,hp,f0,f2,f3,f4⟩
  simp -dsimp (maxSteps:=1000000) (disch:=first|omega|(simp only[new_n,put_n];omega)|decide +kernel|(repeat first|rw[new_n]|rw[put_n])) only[wpS,Nat.reduceEqDiff,f0,f4,hs0.len sl111]
  refine bq_intro ?_ ?_<;>intro hc<;>simp only[decide_eq_true_eq,decide_eq_false_iff_not] at hc
  ·have hi:i<l.length:=by omega
   obtain⟨q,hq⟩ : ∃q,l[i]?=some q:=⟨_,List.getElem?_eq_getElem hi⟩
   have hqm:=List.mem_of_getElem? hq
   obtain⟨a2,s2,b2,t2,hld,hr⟩:=hv.ld kept_q hE.keep hq (P:=Proofs.Tryz.prog) (t:=91) ag91 sz91
   simp -dsimp (maxSteps:=1000000) (disch:=first|omega|(simp only[new_n,put_n];omega)|decide +kernel|(repeat first|rw[new_n]|rw[put_n])) only[wpS,wpT,Nat.reduceEqDiff,Nat.reduceLeDiff,Nat.reduceAdd,ld91,f0,f3,f4,row_of hg5,tk4',hs0.idx es111 hi,hld]
   have hkb:i*(k+1)+k+1<16000000:=by
    have:(i+1)*(k+1)≤l.length*(k+1):=Nat.mul_le_mul_right _ hi
    rw[Nat.add_mul] at this;omega
   refine call (qplus_ok hp hr (QB.qsum hk i (by omega)) (hk q hqm) hkb) ?_
   rintro r3 h3 ⟨X3,p3⟩
   have m3:=X3.n
   have hnn:=hE.n
   have eT:qsum (l.take i)+q=qsum (l.take (i+1)):=by rw[take_snoc hq,qsum_snoc]
   rw[eT] at p3
   obtain⟨a4,s4,b4,t4,rfl,_,_,_,o1,_,o2,o3,o4⟩:=p3.parts
   have k5:=X3.kept (by omega) hg5
   simp -dsimp (maxSteps:=1000000) (disch:=first|omega|(simp only[new_n,put_n];omega)|decide +kernel|(repeat first|rw[new_n]|rw[put_n])) only[wpS,wpT,Nat.reduceEqDiff,Nat.reduceLeDiff,Nat.reduceAdd,st91,f3,f4,k5,o1,o2,o3,o4]
   exact⟨m - 1,by omega,i+1,a4,s4,b4,t4,by omega,(hE.trans X3).put (by omega) _,by simp only[put_n];omega,by simp (disch:=first|omega|(simp only[new_n,put_n];omega)|(repeat first|rw[new_n]|rw[put_n])) only[get_put_old];exact X3.kept (by omega) hg,get_put_same _ _ rfl,p3.keep ((Keep.refl _).put k5 _),by simp[f0],by simp[f2],by simp[f3],by simp⟩
  ·obtain rfl:i=l.length:=by omega
   rw[List.take_length] at hp
   simp -dsimp (maxSteps:=1000000) (disch:=first|omega|(simp only[new_n,put_n];omega)|decide +kernel|(repeat first|rw[new_n]|rw[put_n])) only[wpS,wpT]
   exact⟨a,s,b,t,hE,hn,hg,hg5,hp,by simp[f0],by simp[f2],by simp[f3]⟩
 rintro fr hh ⟨a,s,b,t,hE,hn,hg,hg5,hp,f0,f2,f3⟩
 have X0:=Ext.refl hh
 obtain⟨_,_,L1⟩:=ql4 hg5
 have hnn:=hE.n
 rw[d_seq]
 refine drawn [(0,[4])] (by kernel_rfl) (by kernel_rfl) rfl ?_
 simp -dsimp (maxSteps:=1000000) (disch:=first|omega|(simp only[new_n,put_n];omega)|decide +kernel|(repeat first|rw[new_n]|rw[put_n])) only[wpS,wpT,Nat.reduceEqDiff,Nat.reduceLeDiff,Nat.reduceAdd,ld91,f0,f3,row_of hg5,tk4',hs0.len sl111]
 refine call (quick_ok 1 (l.length:Int) ⟨by omega,by omega⟩ ⟨by omega,by omega⟩ (by omega)) ?_
 rintro r4 h4 ⟨X4,p4⟩
 have m4:=X4.n
 rw[divInt_one] at p4
 simp -dsimp (maxSteps:=1000000) (disch:=first|omega|(simp only[new_n,put_n];omega)|decide +kernel|(repeat first|rw[new_n]|rw[put_n])) only[wpS,Nat.reduceEqDiff]
 have hB1:QB 17 (1 / (((l.length:Nat):Int):Rat)):=by
  have o1B:QB 0 ((1:Int):Rat):=QB.int (by decide)
  exact(o1B.div (qlen_bits hlen) (qlen_ne h0)).mono (by omega)
 refine call (qtimes_ok (hp.keep X4.keep) p4 (QB.qsumAll hk) hB1 hb) ?_
 rintro r5 h5 ⟨X5,p5⟩
 have m5:=X5.n
 have X45:=X4.trans X5
 rw[mul_inv_eq] at p5
 have p5':RRat h5 r5 (qmean l):=p5
 obtain⟨a4,s4,b4,t4,rfl,_,_,_,o1,_,o2,o3,o4⟩:=p5.parts
 have kg:=X45.kept (by omega) hg
 simp -dsimp (maxSteps:=1000000) (disch:=first|omega|(simp only[new_n,put_n];omega)|decide +kernel|(repeat first|rw[new_n]|rw[put_n])) only[wpS,wpT,Nat.reduceEqDiff,Nat.reduceLeDiff,Nat.reduceAdd,st91,f2,kg,o1,o2,o3,o4]
 refine⟨wpSteady_one rfl rfl rfl rfl (steady_ext (H0:=hh) (b:=2*h1.n) (o:=0) f3 (by omega) (by assumption) (by assumption) L1),?_⟩
 simp -dsimp (maxSteps:=1000000) (disch:=first|omega|(simp only[new_n,put_n];omega)|decide +kernel|(repeat first|rw[new_n]|rw[put_n])) only[wpS,wpT,Nat.reduceEqDiff,Nat.reduceLeDiff,Nat.reduceAdd,ld91,f2,tk4']
 exact⟨(hE.trans X45).put (by omega) _,p5'.keep ((Keep.refl _).put kg _)⟩
end Go.Id

/-! Contracts: the reference's chapter 35: Batches. -/
namespace Go.Id
open Go
theorem shL_drop : ∀(i:Nat) (l:List (Nat×Nat)),shL (l.drop i)=(shL l).drop (i*16)
 | 0,l=>by simp
 | i+1,[]=>by simp[shL]
 | i+1,a :: l=>by
  rw[List.drop_succ_cons,shL_drop i l,shL,shL,List.flatMap_cons,show(i+1)*16=(shC a.1 a.2).length+i*16 by rw[shC_len];omega,List.drop_length_add_append]
theorem shL_take : ∀(i:Nat) (l:List (Nat×Nat)),shL (l.take i)=(shL l).take (i*16)
 | 0,l=>by simp[shL]
 | i+1,[]=>by simp[shL]
 | i+1,a :: l=>by
  have ih:=shL_take i l
  simp only[shL] at ih
  rw[List.take_succ_cons,shL,shL,List.flatMap_cons,List.flatMap_cons,show(i+1)*16=(shC a.1 a.2).length+i*16 by rw[shC_len];omega,List.take_length_add_append,ih]
theorem ShSl.sub {h h':IH} {v:Value} {l:List (Nat×Nat)} (s:ShSl h v l) (kp:Keep h h') {i m:Nat} (hi:i≤m) (hm:m≤l.length) :
  ∃v',sliceOp Proofs.Tryz.prog h' 25 v (some (KN i)) (some (KN m)) none=some v'∧ShSl h v' ((l.drop i).take (m - i)):=by
 obtain⟨a,b,c⟩:=s
 obtain⟨v',e1,e2⟩:=a.slice kp (P:=Proofs.Tryz.prog) (t:=25) u25 sz30 (l:=i) (m:=m) hi hm (lo:=some (KN i)) (hi:=some (KN m)) (natOf_nat (k:=.i64) hi) (fun c hc=>natOf_nat (k:=.i64) (by omega))
 have hlen:((l.drop i).take (m - i)).length=m - i:=by simp;omega
 refine⟨v',e1,?_,by omega,fun p hp=>c p (List.mem_of_mem_drop (List.mem_of_mem_take hp))⟩
 rw[hlen,shL_take,shL_drop]
 exact e2
end Go.Id

/-! Contracts: the laws' helpers: lists cut, cloned and made longer. -/
namespace Go.Id
open Go
def ShArg (h:IH) (v:Value) (l:List (Nat×Nat)):Prop:=SlOf h 16 v l.length (shL l) ∧ ∀p∈l,p.1<W8∧p.2<W8
theorem ShSl.arg {h:IH} {v:Value} {l:List (Nat×Nat)} (s:ShSl h v l):ShArg h v l:=⟨s.1,s.2.2⟩
theorem ShArg.keep {h h':IH} {v:Value} {l:List (Nat×Nat)} (s:ShArg h v l) (e:Keep h h'):ShArg h' v l:=⟨s.1.keep e,s.2⟩
theorem ShArg.first {h h':IH} {v:Value} {l:List (Nat×Nat)} (s:ShArg h v l) (kp:Keep h h') {m:Nat} (hm:m≤l.length) (hm2:m≤100000) : ∃v',sliceOp Proofs.Tryz.prog h' 25 v none (some (KN m)) none=some v'∧ShSl h v' (l.take m):=by
 obtain⟨a,c⟩:=s
 obtain⟨v',e1,e2⟩:=a.slice kp (P:=Proofs.Tryz.prog) (t:=25) u25 sz30 (l:=0) (m:=m) (Nat.zero_le _) hm (lo:=none) (hi:=some (KN m)) rfl (fun c hc=>natOf_nat (k:=.i64) (by omega))
 refine⟨v',e1,?_,by rw[List.length_take];omega,fun p hp=>c p (List.mem_of_mem_take hp)⟩
 rw[List.length_take,Nat.min_eq_left hm,shL_take]
 simpa using e2
set_option maxHeartbeats 1000000 in
theorem light_acc {h:IH} {v:Value} {l:List (Nat×Nat)} (hv:ShArg h v l) :
  WV Proofs.Tryz.prog (.func (.func 26) #[] #[]) [v] h fun r h'=>Ext h h' ∧ ∃l',Acc h' h.n 16 r l'.length (shL l')∧(∀p∈l',p.1<W8∧p.2<W8)∧l'.length≤3∧(l' = []→r=.slice none 0 0):=by
 obtain⟨M,hM⟩ : ∃M,M=min l.length 3:=⟨_,rfl⟩
 obtain⟨w,hw,hs⟩:=hv.first (Keep.refl h) (m:=M) (by omega) (by omega)
 have hwl:(l.take M).length=M:=by rw[List.length_take];omega
 have hwn:=hs.1
 rw[hwl] at hwn
 have hmin:(if (3:Int)<(l.length:Int) then (3:Int) else (l.length:Int))=(M:Int):=by split<;>omega
 refine enter (nt:=33) (rs:=[.tmp 2]) Proofs.Tryz.func26 rfl rfl rfl (by simp) ?_
 simp -dsimp (disch:=omega) only[wpS,Nat.reduceEqDiff,hv.1.len sl25,min_ii,hmin,hw,hwn.len sl25]
 refine loop (fun m fr hh => ∃(i:Nat) (out:Value) (l':List (Nat×Nat)),i+m=M∧l'.length=i∧(∀p∈l',p.1<W8∧p.2<W8)∧Ext h hh∧Acc hh h.n 16 out l'.length (shL l')∧(l' = []→out=.slice none 0 0)∧fget fr 3=some out∧fget fr 10=some w∧fget fr 11=some (KN M)∧fget fr 12=some (KN i)) M
  ⟨0,.slice none 0 0,[],by omega,rfl,(fun p hp=>by cases hp),Ext.refl _,Acc.nil _ _ (by omega),fun _=>rfl,by simp,by simp,by simp,by simp⟩ ?_
 rintro m fr hh ⟨i,out,l',him,hil,hlt,hE,hA,hO,f3,f10,f11,f12⟩
 have hnn:=hE.n
 simp -dsimp (disch:=omega) only[wpS,f11,f12]
 refine bq_intro ?_ ?_<;>intro hc<;>simp only[decide_eq_true_eq,decide_eq_false_iff_not] at hc
 ·have hi:i<M:=by omega
  obtain⟨p,hp⟩ : ∃p,(l.take M)[i]?=some p:=⟨_,List.getElem?_eq_getElem (by omega)⟩
  obtain⟨p1,p2⟩:=hs.2.2 p (List.mem_of_getElem? hp)
  obtain⟨H0,hH0⟩ : ∃H0,H0=(hh.new (.cells Z16 0 none)).put hh.n (.cells (shC p.1 p.2) 0 none):=⟨_,rfl⟩
  have n0:H0.n=hh.n+1:=by rw[hH0];rfl
  have k0:H0.ext.get hh.n=some (.cells (shC p.1 p.2) 0 none):=by rw[hH0];simp (disch:=first|omega|(simp only[new_n,put_n];omega)|(repeat first|rw[new_n]|rw[put_n])) only[get_put_same]
  have E0:Ext hh H0:=by rw[hH0];exact((Ext.refl hh).new _).put (by omega) _
  obtain⟨L1,L2,L3⟩:=psh k0
  simp -dsimp (disch:=omega) only[wpS,wpT,Nat.reduceEqDiff,Nat.reduceLeDiff,Nat.reduceAdd,zc30,st30,fa30_0,ld28,f10,f12,hwn.idx es25 hi,hs.ld hE.keep hp,shV_cells,shC_len,shC_all,sh_sp3]
  rw[←hH0]
  clear hH0
  simp -dsimp (disch:=omega) only[sh_take1]
  refine call (lawsmall_ok p.1) ?_
  rintro _ h1 ⟨X1,o,rfl⟩
  have m1:=X1.n
  have k1':=X1.kept (by omega) k0
  cases o
  ·simp -dsimp (disch:=omega) only[wpS,wpT,Nat.reduceEqDiff,st30,bv30]
   obtain⟨H1,hH1⟩ : ∃H1,H1=h1.put hh.n (.cells Z16 0 none):=⟨_,rfl⟩
   have n1:H1.n=h1.n:=by rw[hH1];rfl
   have k1:H1.ext.get hh.n=some (.cells (shC 0 0) 0 none):=by rw[hH1,←sh_zero];simp (disch:=first|omega|(simp only[new_n,put_n];omega)|(repeat first|rw[new_n]|rw[put_n])) only[get_put_same]
   have E1:Ext hh H1:=by rw[hH1];exact(E0.trans X1).put (by omega) _
   have kz:h1.ext.get hh.n=some (.cells (shC p.1 p.2) 0 none):=X1.kept (by omega) k0
   simp -dsimp (disch:=omega) only[wpS,wpT,Nat.reduceEqDiff,Nat.reduceLeDiff,Nat.reduceAdd,kz,shC_len,splice_all (show(shC p.1 p.2).length=Z16.length by rw[shC_len];rfl)]
   rw[←hH1]
   clear hH1
   obtain⟨out',h8,hap,hA8,hG8,hE8⟩:=(hA.ext E1).appN (P:=Proofs.Tryz.prog) (t:=25) ap25 (m:=1) (new:=shC 0 0) (by omega) (by rw[shC_len]) (shC_all _ _) (by omega) (by omega) (hE.trans E1) (Nat.le_refl _)
   have hap':append Proofs.Tryz.prog (H1.new (.cells (shC 0 0) 16 none)) 25 out (.slice (some ⟨2*H1.n,0,none⟩) 1 3)=some (out',h8):=hap
   simp -dsimp (disch:=omega) only[wpS,wpT,Nat.reduceEqDiff,Nat.reduceLeDiff,Nat.reduceAdd,ld30,bs25,ba25_25,f3,f12,row_of k1,shC_len,sh_take,sh_sp3,hap']
   refine⟨m - 1,by omega,i+1,out',l' ++ [(0,0)],by omega,by simp[hil],?_,hE8,?_,by simp,by simp,by simp[f10],by simp[f11],by simp⟩
   ·intro q hq
    rcases List.mem_append.1 hq with hq|hq
    ·exact hlt q hq
    ·obtain rfl:=List.mem_singleton.1 hq
     exact⟨by decide +kernel,by decide +kernel⟩
   ·rw[shL_snoc,List.length_append]
    exact hA8
  ·simp -dsimp (disch:=omega) only[wpS,wpT,Nat.reduceEqDiff,Nat.reduceLeDiff,Nat.reduceAdd,ld28,fa30_1,row_of k1',shC_len,sh_take2]
   refine call (lawsmall_ok p.2) ?_
   rintro _ h2 ⟨X2,o,rfl⟩
   have m2:=X2.n
   have X12:=X1.trans X2
   cases o
   ·simp -dsimp (disch:=omega) only[wpS,wpT,Nat.reduceEqDiff,st30,bv30]
    obtain⟨H1,hH1⟩ : ∃H1,H1=h2.put hh.n (.cells Z16 0 none):=⟨_,rfl⟩
    have n1:H1.n=h2.n:=by rw[hH1];rfl
    have k1:H1.ext.get hh.n=some (.cells (shC 0 0) 0 none):=by rw[hH1,←sh_zero];simp (disch:=first|omega|(simp only[new_n,put_n];omega)|(repeat first|rw[new_n]|rw[put_n])) only[get_put_same]
    have E1:Ext hh H1:=by rw[hH1];exact(E0.trans X12).put (by omega) _
    have kz:h2.ext.get hh.n=some (.cells (shC p.1 p.2) 0 none):=X12.kept (by omega) k0
    simp -dsimp (disch:=omega) only[wpS,wpT,Nat.reduceEqDiff,Nat.reduceLeDiff,Nat.reduceAdd,kz,shC_len,splice_all (show(shC p.1 p.2).length=Z16.length by rw[shC_len];rfl)]
    rw[←hH1]
    clear hH1
    obtain⟨out',h8,hap,hA8,hG8,hE8⟩:=(hA.ext E1).appN (P:=Proofs.Tryz.prog) (t:=25) ap25 (m:=1) (new:=shC 0 0) (by omega) (by rw[shC_len]) (shC_all _ _) (by omega) (by omega) (hE.trans E1) (Nat.le_refl _)
    have hap':append Proofs.Tryz.prog (H1.new (.cells (shC 0 0) 16 none)) 25 out (.slice (some ⟨2*H1.n,0,none⟩) 1 3)=some (out',h8):=hap
    simp -dsimp (disch:=omega) only[wpS,wpT,Nat.reduceEqDiff,Nat.reduceLeDiff,Nat.reduceAdd,ld30,bs25,ba25_25,f3,f12,row_of k1,shC_len,sh_take,sh_sp3,hap']
    refine⟨m - 1,by omega,i+1,out',l' ++ [(0,0)],by omega,by simp[hil],?_,hE8,?_,by simp,by simp,by simp[f10],by simp[f11],by simp⟩
    ·intro q hq
     rcases List.mem_append.1 hq with hq|hq
     ·exact hlt q hq
     ·obtain rfl:=List.mem_singleton.1 hq
      exact⟨by decide +kernel,by decide +kernel⟩
    ·rw[shL_snoc,List.length_append]
     exact hA8
   ·simp -dsimp (disch:=omega) only[wpS,wpT,Nat.reduceEqDiff]
    have k2:=X12.kept (by omega) k0
    have E2:=E0.trans X12
    obtain⟨out',h8,hap,hA8,hG8,hE8⟩:=(hA.ext E2).appN (P:=Proofs.Tryz.prog) (t:=25) ap25 (m:=1) (new:=shC p.1 p.2) (by omega) (by rw[shC_len]) (shC_all _ _) (by omega) (by omega) (hE.trans E2) (Nat.le_refl _)
    have hap':append Proofs.Tryz.prog (h2.new (.cells (shC p.1 p.2) 16 none)) 25 out (.slice (some ⟨2*h2.n,0,none⟩) 1 3)=some (out',h8):=hap
    simp -dsimp (disch:=omega) only[wpS,wpT,Nat.reduceEqDiff,Nat.reduceLeDiff,Nat.reduceAdd,ld30,bs25,ba25_25,f3,f12,row_of k2,shC_len,sh_take,sh_sp3,hap']
    refine⟨m - 1,by omega,i+1,out',l' ++ [(p.1,p.2)],by omega,by simp[hil],?_,hE8,?_,by simp,by simp,by simp[f10],by simp[f11],by simp⟩
    ·intro q hq
     rcases List.mem_append.1 hq with hq|hq
     ·exact hlt q hq
     ·obtain rfl:=List.mem_singleton.1 hq
      exact⟨p1,p2⟩
    ·rw[shL_snoc,List.length_append]
     exact hA8
 ·obtain rfl:i=M:=by omega
  simp -dsimp (disch:=omega) only[wpS,wpT,Nat.reduceEqDiff,f3]
  refine⟨hE,l',hA,hlt,by omega,hO⟩
theorem light_ok {h:IH} {v:Value} {l:List (Nat×Nat)} (hv:ShArg h v l) :
  WV Proofs.Tryz.prog (.func (.func 26) #[] #[]) [v] h fun r h'=>Ext h h' ∧ ∃l',ShSl h' r l'∧l'.length≤3∧(l' = []→r=.slice none 0 0):=by
 refine(light_acc hv).mono ?_
 rintro r h' ⟨X,l',A,hlt,h3,hO⟩
 exact⟨X,l',⟨A.sl,by omega,hlt⟩,h3,hO⟩
end Go.Id

/-! Contracts: the laws' helpers: short shares of drafts; a list made as long as the limit. -/
namespace Go.Id
open Go
def DrOf (cs:List Value):Prop:=∃b x n b2 x2 n2,cs = [.bool b,x,.int .u32 n,.bool b2,x2,.int .u32 n2]∧cellOK x=true∧cellOK x2=true∧0≤n∧n<4294967296∧0≤n2∧n2<4294967296
def DrSl (h:IH) (v:Value) (n:Nat):Prop:=∃cs,SlOf h 6 v n cs ∧ ∀i,i<n→DrOf ((cs.drop (i*6)).take 6)
theorem DrSl.keep {h h':IH} {v:Value} {n:Nat} (s:DrSl h v n) (e:Keep h h'):DrSl h' v n:=let ⟨cs,a,b⟩:=s;⟨cs,a.keep e,b⟩
def isShort (p:Nat×Nat):Prop:=∃a c:Int,(-1000<a∧a<1000)∧(0<c∧c<25)∧p=shq (Rat.divInt a c)
theorem isShort.lt {p:Nat×Nat} (h:isShort p):p.1<W8∧p.2<W8:=by
 obtain⟨a,c,ha,hc,rfl⟩:=h
 exact shq_lt (qw_div ⟨by omega,by omega⟩ ⟨by omega,by omega⟩ (by omega))
set_option maxHeartbeats 1000000 in
theorem shorts_ok {h:IH} {v:Value} {n:Nat} (hv:DrSl h v n) :
  WV Proofs.Tryz.prog (.func (.func 19) #[] #[]) [v] h fun r h'=>Ext h h' ∧ ∃l',ShSl h' r l'∧l'.length=min n 12∧(∀p∈l',isShort p)∧(l' = []→r=.slice none 0 0):=by
 obtain⟨M,hM⟩ : ∃M,M=min n 12:=⟨_,rfl⟩
 obtain⟨cs,hsl,hdr⟩:=hv
 obtain⟨w,hw,hs⟩:=hsl.slice (Keep.refl h) (P:=Proofs.Tryz.prog) (t:=23) u23 sz36 (l:=0) (m:=M) (Nat.zero_le _) (by omega) (lo:=none) (hi:=some (KN M)) rfl (fun c hc=>natOf_nat (k:=.i64) (by omega))
 rw[Nat.sub_zero,Nat.zero_mul,List.drop_zero] at hs
 have hcl:=hsl.2.1
 have hmin:(if (12:Int)<(n:Int) then (12:Int) else (n:Int))=(M:Int):=by split<;>omega
 refine enter (nt:=23) (rs:=[.tmp 2]) Proofs.Tryz.func19 rfl rfl rfl (by simp) ?_
 simp -dsimp (disch:=omega) only[wpS,Nat.reduceEqDiff,hsl.len sl23,min_ii,hmin,hw,hs.len sl23]
 refine loop (fun m fr hh => ∃(i:Nat) (out:Value) (l':List (Nat×Nat)),i+m=M∧l'.length=i∧(∀p∈l',isShort p)∧Ext h hh∧Acc hh h.n 16 out l'.length (shL l')∧(l' = []→out=.slice none 0 0)∧fget fr 3=some out∧fget fr 10=some w∧fget fr 11=some (KN M)∧fget fr 12=some (KN i)) M
  ⟨0,.slice none 0 0,[],by omega,rfl,(fun p hp=>by cases hp),Ext.refl _,Acc.nil _ _ (by omega),fun _=>rfl,by simp,by simp,by simp,by simp⟩ ?_
 rintro m fr hh ⟨i,out,l',him,hil,hlt,hE,hA,hO,f3,f10,f11,f12⟩
 have hnn:=hE.n
 simp -dsimp (disch:=omega) only[wpS,f11,f12]
 refine bq_intro ?_ ?_<;>intro hc<;>simp only[decide_eq_true_eq,decide_eq_false_iff_not] at hc
 ·have hi:i<M:=by omega
  have hld:=hs.ldAgg hE.keep (c:=i*6) (m:=6) (by rw[List.length_take];omega) (by omega) (P:=Proofs.Tryz.prog) (t:=36) ag36 sz36
  rw[List.drop_take,List.take_take,Nat.min_eq_left (by omega)] at hld
  obtain⟨b,x,n1,b2,x2,n2,hcs,hx,hx2,q1,q2,q3,q4⟩:=hdr i (by omega)
  rw[hcs] at hld
  obtain⟨H0,hH0⟩ : ∃H0,H0=(hh.new (.cells [.bool false,.slice none 0 0,.int .u32 0,.bool false,.slice none 0 0,.int .u32 0] 0 none)).put hh.n (.cells [.bool b,x,.int .u32 n1,.bool b2,x2,.int .u32 n2] 0 none):=⟨_,rfl⟩
  have n0:H0.n=hh.n+1:=by rw[hH0];rfl
  have k0:H0.ext.get hh.n=some (.cells [.bool b,x,.int .u32 n1,.bool b2,x2,.int .u32 n2] 0 none):=by rw[hH0];simp (disch:=first|omega|(simp only[new_n,put_n];omega)|(repeat first|rw[new_n]|rw[put_n])) only[get_put_same]
  have E0:Ext hh H0:=by rw[hH0];exact((Ext.refl hh).new _).put (by omega) _
  simp -dsimp (disch:=omega) only[wpS,wpT,Nat.reduceEqDiff,Nat.reduceLeDiff,Nat.reduceAdd,zc36,st36,f10,f12,hs.idx es23 hi,hld,hx,hx2]
  rw[←hH0]
  clear hH0
  simp -dsimp (disch:=omega) only[wpS,wpT,Nat.reduceEqDiff,Nat.reduceLeDiff,Nat.reduceAdd,ld36,f3,row_of k0]
  refine call (drshort_ok (by simpa using hx) (by simpa using hx2) q1 q2 q3 q4) ?_
  rintro _ h1 ⟨X1,a,c,ha,hc2,rfl⟩
  have m1:=X1.n
  have sp:isShort (shq (Rat.divInt a c)):=⟨a,c,ha,hc2,rfl⟩
  rw[shareV_shq]
  generalize shq (Rat.divInt a c)=p at sp ⊢
  have E1:=E0.trans X1
  obtain⟨out',h8,hap,hA8,hG8,hE8⟩:=(hA.ext E1).appN (P:=Proofs.Tryz.prog) (t:=25) ap25 (m:=1) (new:=shC p.1 p.2) (by omega) (by rw[shC_len]) (shC_all _ _) (by omega) (by omega) (hE.trans E1) (Nat.le_refl _)
  have hap':append Proofs.Tryz.prog (h1.new (.cells (shC p.1 p.2) 16 none)) 25 out (.slice (some ⟨2*h1.n,0,none⟩) 1 3)=some (out',h8):=hap
  simp -dsimp (disch:=omega) only[wpS,wpT,Nat.reduceEqDiff,Nat.reduceLeDiff,Nat.reduceAdd,bs25,ba25_25,f12,shV_cells,shC_len,sh_sp3,hap']
  refine⟨m - 1,by omega,i+1,out',l' ++ [p],by omega,by simp[hil],?_,hE8,?_,by simp,by simp,by simp[f10],by simp[f11],by simp⟩
  ·intro q hq
   rcases List.mem_append.1 hq with hq|hq
   ·exact hlt q hq
   ·obtain rfl:=List.mem_singleton.1 hq
    exact sp
  ·rw[shL_snoc,List.length_append]
   exact hA8
 ·obtain rfl:i=M:=by omega
  simp -dsimp (disch:=omega) only[wpS,wpT,Nat.reduceEqDiff,f3]
  refine⟨hE,l',⟨hA.sl,by omega,fun p hp=>(hlt p hp).lt⟩,by omega,hlt,hO⟩
end Go.Id

/-! The rows' common part (no table listed): shares and drafts that came in. -/
namespace Go.Proofs.YthbkinefgmfgeaaGreat
open Go.ChangeShapes Go.WideShapes Go.ChangeAt Go.RowKit Go.Id
theorem Tryz.own:ownKnob Tryz.prog.godebug=none:=by kernel_rfl
theorem Tryz.laidOut:laidOutB Tryz.prog=true:=by kernel_rfl
theorem Tryz.mapsOut:mapsRowed Tryz.prog=true:=by kernel_rfl
theorem Tryz.kids:Kids Tryz.prog (· < Tryz.prog.types.size):=kids_rows Tryz.laidOut Tryz.mapsOut
theorem Tryz.slices:((List.range Tryz.prog.types.size).all fun t=>match Tryz.prog.underlying t with
 | some (.slice e)=>decide (0<Tryz.prog.cellsOf e)
 | _=>true)=true:=by kernel_rfl
theorem Tryz.pos {t e:TypeId} (h:t<Tryz.prog.types.size) (hu:Tryz.prog.underlying t=some (.slice e)):0<Tryz.prog.cellsOf e:=by
 have:=List.all_eq_true.1 Tryz.slices t (by simpa using h)
 rw[hu] at this
 simpa using this
theorem Tryz.sound:Sound (E0 Tryz.prog):=sound0 (by kernel_rfl) (by kernel_rfl)
theorem wf_u8 {x:Int} (h:(Lit.int .u8 x).wf=true):0≤x∧x<256:=by
 simp only[Lit.wf,Bool.and_eq_true,decide_eq_true_eq] at h
 have h1:(0:Int)≤x:=h.1
 have h2:x≤(255:Int):=h.2
 exact⟨h1,by omega⟩
section
variable {H:Type} {enc:TypeId×Value→H} {W:World} {base:Nat} {sp:Nat→Bool} {held:Bool}
end
theorem len3 {α:Type} : ∀{l:List α},l.length=3 → ∃a b c,l = [a,b,c]
 | [a,b,c],_=>⟨a,b,c,rfl⟩
theorem len6 {α:Type} : ∀{l:List α},l.length=6 → ∃a b c d e f,l = [a,b,c,d,e,f]
 | [a,b,c,d,e,f],_=>⟨a,b,c,d,e,f,rfl⟩
theorem u_drafts:Tryz.prog.underlying 23=some (.slice 36):=by kernel_rfl
theorem u_draft:Tryz.prog.underlying 36=some (.struct { toList:=[{ name := "N",type:=34,offset:=0,embedded:=false,tag := "",pkgPath := "",byteOffset:=0 },{ name := "D",type:=34,offset:=3,embedded:=false,tag := "",pkgPath := "",byteOffset:=40 }] }):=by kernel_rfl
theorem u_draft1:Tryz.prog.underlying 34=some (.struct { toList:=[{ name := "Below",type:=4,offset:=0,embedded:=false,tag := "",pkgPath := "",byteOffset:=0 },{ name := "Bits",type:=31,offset:=1,embedded:=false,tag := "",pkgPath := "",byteOffset:=8 },{ name := "Less",type:=32,offset:=2,embedded:=false,tag := "",pkgPath := "",byteOffset:=32 }] }):=by kernel_rfl
theorem u_u16s:Tryz.prog.underlying 31=some (.slice 209):=by kernel_rfl
theorem u_u16:Tryz.prog.underlying 209=some (.int .u16):=by kernel_rfl
theorem u_u32:Tryz.prog.underlying 32=some (.int .u32):=by kernel_rfl
theorem u_bool:Tryz.prog.underlying 4=some .bool:=by kernel_rfl
theorem u_u8:Tryz.prog.underlying 5=some (.int .u8):=by kernel_rfl
theorem c_draft:Tryz.prog.cellsOf 36=6:=by kernel_rfl
theorem c_draft1:Tryz.prog.cellsOf 34=3:=by kernel_rfl
theorem c_u16:Tryz.prog.cellsOf 209=1:=by kernel_rfl
theorem c_u32:Tryz.prog.cellsOf 32=1:=by kernel_rfl
theorem c_bool:Tryz.prog.cellsOf 4=1:=by kernel_rfl
theorem c_u16s:Tryz.prog.cellsOf 31=1:=by kernel_rfl
section
variable {H:Type} {enc:TypeId×Value→H} {W:World} {held:Bool}
theorem half_of (G:Nat→Option (List Value)) {fuel:Nat} {cs:List Value} {x:DataW H×List MemPlace} (h:DataW.trod enc Tryz.prog W 0 (fun _=>true) held fuel 34 cs=some x) :
  ∃b y n,cs = [.bool b,y,.int .u32 n]∧cellOK (trV y)=true∧tellable y=true∧(0≤n∧n<4294967296):=by
 obtain⟨xs,m,_,_,hl,hn,hf⟩:=DataW.trod_struct u_draft1 h
 rw[c_draft1] at hl
 have hn2:xs.length=3:=hn
 obtain⟨x0,hx0⟩ : ∃y,xs[0]?=some y:=⟨_,List.getElem?_eq_getElem (by omega)⟩
 have f0:DataW.trod enc Tryz.prog W 0 (fun _=>true) held m 4 ((cs.drop 0).take (Tryz.prog.cellsOf 4))=some x0:=(hf 0 { name := "Below",type:=4,offset:=0,embedded:=false,tag := "",pkgPath := "",byteOffset:=0 } rfl).trans hx0
 obtain⟨x1,hx1⟩ : ∃y,xs[1]?=some y:=⟨_,List.getElem?_eq_getElem (by omega)⟩
 have f1:DataW.trod enc Tryz.prog W 0 (fun _=>true) held m 31 ((cs.drop 1).take (Tryz.prog.cellsOf 31))=some x1:=(hf 1 { name := "Bits",type:=31,offset:=1,embedded:=false,tag := "",pkgPath := "",byteOffset:=8 } rfl).trans hx1
 obtain⟨x2,hx2⟩ : ∃y,xs[2]?=some y:=⟨_,List.getElem?_eq_getElem (by omega)⟩
 have f2:DataW.trod enc Tryz.prog W 0 (fun _=>true) held m 32 ((cs.drop 2).take (Tryz.prog.cellsOf 32))=some x2:=(hf 2 { name := "Less",type:=32,offset:=2,embedded:=false,tag := "",pkgPath := "",byteOffset:=32 } rfl).trans hx2
 rw[c_bool] at f0
 rw[c_u16s] at f1
 rw[c_u32] at f2
 obtain⟨a,y,c,rfl⟩:=len3 hl
 ·obtain⟨b,e0,_⟩:=DataW.trod_bool u_bool f0
  obtain⟨v,n,cs',e1,ht,hn',hs,_⟩:=tell_slice (R:=fun _=>True) u_u16s c_u16 (by omega) (fun n cs x hx=>by
   obtain⟨k,rfl,_⟩:=trod_nat (m:=65535) rfl rfl u_u16 hx
   exact⟨trivial,fun y hy=>by rw[List.mem_singleton.1 hy];rfl⟩) G f1
  obtain⟨k,e2,hk⟩:=trod_nat (m:=4294967295) rfl rfl u_u32 f2
  cases e0;cases e1;cases e2
  exact⟨b,_,k,rfl,hs.cok,ht,by omega,by omega⟩
theorem tell_drafts (G:Nat→Option (List Value)) {fuel:Nat} {cs0:List Value} {x:DataW H×List MemPlace} (h:DataW.trod enc Tryz.prog W 0 (fun _=>true) held fuel 23 cs0=some x) :
  ∃v n,cs0 = [v]∧tellable v=true∧DrSl (IH.start (tellB G W)) (trV v) n:=by
 obtain⟨v,n,cs,e,ht,hn,hs,hR⟩:=tell_slice (R:=fun cs=>DrOf (cs.map trV)) u_drafts c_draft (by omega) (fun n cs x hx=>by
  obtain⟨xs,m,_,_,hl,hn,hf⟩:=DataW.trod_struct u_draft hx
  rw[c_draft] at hl
  have hn2:xs.length=2:=hn
  obtain⟨x0,hx0⟩ : ∃y,xs[0]?=some y:=⟨_,List.getElem?_eq_getElem (by omega)⟩
  have f0:DataW.trod enc Tryz.prog W 0 (fun _=>true) held m 34 ((cs.drop 0).take (Tryz.prog.cellsOf 34))=some x0:=(hf 0 { name := "N",type:=34,offset:=0,embedded:=false,tag := "",pkgPath := "",byteOffset:=0 } rfl).trans hx0
  obtain⟨x1,hx1⟩ : ∃y,xs[1]?=some y:=⟨_,List.getElem?_eq_getElem (by omega)⟩
  have f1:DataW.trod enc Tryz.prog W 0 (fun _=>true) held m 34 ((cs.drop 3).take (Tryz.prog.cellsOf 34))=some x1:=(hf 1 { name := "D",type:=34,offset:=3,embedded:=false,tag := "",pkgPath := "",byteOffset:=40 } rfl).trans hx1
  rw[c_draft1] at f0 f1
  obtain⟨a,b,c,d,e,f,rfl⟩:=len6 hl
  ·obtain⟨b1,y1,n1,e0,o1,t1,r1⟩:=half_of G f0
   obtain⟨b2,y2,n2,e1,o2,t2,r2⟩:=half_of G f1
   cases e0;cases e1
   refine⟨⟨b1,_,n1,b2,_,n2,rfl,o1,o2,r1.1,r1.2,r2.1,r2.2⟩,fun y hy=>?_⟩
   simp at hy
   rcases hy with rfl|rfl|rfl|rfl|rfl|rfl<;>first|rfl|assumption) G h
 refine⟨v,n,e,ht,cs.map trV,hs,fun i hi=>?_⟩
 rw[←List.map_drop,←List.map_take]
 exact hR i hi
end
end Go.Proofs.YthbkinefgmfgeaaGreat

/-! The rows' common part: one draft that came in. -/
namespace Go.Proofs.YthbkinefgmfgeaaGreat
open Go.ChangeShapes Go.WideShapes Go.ChangeAt Go.RowKit Go.Id
theorem draft_of {H:Type} {enc:TypeId×Value→H} {W:World} {held:Bool} (G:Nat→Option (List Value)) {fuel:Nat} {cs:List Value} {x:DataW H×List MemPlace} (h:DataW.trod enc Tryz.prog W 0 (fun _=>true) held fuel 36 cs=some x) :
  ∃b1 y1 n1 b2 y2 n2,cs = [.bool b1,y1,.int .u32 n1,.bool b2,y2,.int .u32 n2]∧(tellable y1=true∧tellable y2=true)∧(cellOK (trV y1)=true∧cellOK (trV y2)=true∧(0≤n1∧n1<4294967296)∧(0≤n2∧n2<4294967296)):=by
 obtain⟨xs,m,_,_,hl,hn,hf⟩:=DataW.trod_struct u_draft h
 rw[c_draft] at hl
 have hn2:xs.length=2:=hn
 obtain⟨x0,hx0⟩ : ∃y,xs[0]?=some y:=⟨_,List.getElem?_eq_getElem (by omega)⟩
 have f0:DataW.trod enc Tryz.prog W 0 (fun _=>true) held m 34 ((cs.drop 0).take (Tryz.prog.cellsOf 34))=some x0:=(hf 0 { name := "N",type:=34,offset:=0,embedded:=false,tag := "",pkgPath := "",byteOffset:=0 } rfl).trans hx0
 obtain⟨x1,hx1⟩ : ∃y,xs[1]?=some y:=⟨_,List.getElem?_eq_getElem (by omega)⟩
 have f1:DataW.trod enc Tryz.prog W 0 (fun _=>true) held m 34 ((cs.drop 3).take (Tryz.prog.cellsOf 34))=some x1:=(hf 1 { name := "D",type:=34,offset:=3,embedded:=false,tag := "",pkgPath := "",byteOffset:=40 } rfl).trans hx1
 rw[c_draft1] at f0 f1
 obtain⟨a,b,c,d,e,f,rfl⟩:=len6 hl
 obtain⟨b1,y1,n1,e0,o1,t1,r1⟩:=half_of G f0
 obtain⟨b2,y2,n2,e1,o2,t2,r2⟩:=half_of G f1
 cases e0;cases e1
 exact⟨b1,_,n1,b2,_,n2,rfl,⟨t1,t2⟩,o1,o2,r1,r2⟩
end Go.Proofs.YthbkinefgmfgeaaGreat
