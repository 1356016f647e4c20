/-
  Contracts: the program's shares: read, told, checked. Contracts: the program's fractions of integers; shares made.
-/
import Derived.Test.YtepckjjfhhncoaaGreatTemperKnownBd
import Derived.Test.YtepckjjfhhncoaaGreatTemperKnownBb
import Derived.Test.YtepckjjfhhncoaaGreatTemperKnownAy
import Derived.Test.YtepckjjfhhncoaaGreatTemperKnownAv
set_option linter.unusedVariables false
set_option linter.unusedSimpArgs false
set_option linter.defProp false
set_option linter.deprecated false
namespace Go.Id
open Go
def shC (n d:Nat):List Value:=wdC n ++ wdC d
def shV (n d:Nat):Value:=.agg (shC n d).toArray
theorem shC_len (n d:Nat):(shC n d).length=16:=by simp[shC,wdC_len]
theorem shC_all (n d:Nat):(shC n d).all cellOK=true:=by simp only[shC,List.all_append,wdC_all,Bool.and_self]
theorem shV_cells (n d:Nat):(shV n d).cells.toList=shC n d:=rfl
theorem sh_take (n d:Nat):List.take 16 (List.drop 0 (shC n d))=shC n d:=by rw[List.drop_zero,List.take_of_length_le (by rw[shC_len];omega)]
theorem sh_take1 (n d:Nat):List.take 8 (List.drop 0 (shC n d))=wdC n:=by rw[List.drop_zero,shC,List.take_append_of_le_length (by rw[wdC_len];omega),List.take_of_length_le (by rw[wdC_len];omega)]
theorem sh_take2 (n d:Nat):List.take 8 (List.drop 8 (shC n d))=wdC d:=by rw[shC,List.drop_append_of_le_length (by rw[wdC_len];omega),List.drop_of_length_le (by rw[wdC_len];omega),List.nil_append,List.take_of_length_le (by rw[wdC_len];omega)]
abbrev Z16:List Value:=[ZW,ZW,ZW,ZW,ZW,ZW,ZW,ZW,ZW,ZW,ZW,ZW,ZW,ZW,ZW,ZW]
theorem sh_sp1 (n:Nat):IH.splice Z16 0 (wdC n)=shC n 0:=by
 rw[IH.splice,List.take_zero,List.nil_append,wdC_len,shC,wdC_zero];rfl
theorem sh_sp2 (n d:Nat):IH.splice (shC n 0) 8 (wdC d)=shC n d:=by
 rw[IH.splice,wdC_len,shC,List.take_append_of_le_length (by rw[wdC_len];omega),List.take_of_length_le (by rw[wdC_len];omega),List.drop_of_length_le (by simp[wdC_len]),List.append_nil];rfl
theorem sh_sp3 (n d:Nat):IH.splice Z16 0 (shC n d)=shC n d:=splice_all (by rw[shC_len];rfl)
theorem sh_zero:Z16=shC 0 0:=by rw[shC,wdC_zero];rfl
theorem sh_zeroV:Value.agg #[ZW,ZW,ZW,ZW,ZW,ZW,ZW,ZW,ZW,ZW,ZW,ZW,ZW,ZW,ZW,ZW]=shV 0 0:=by rw[shV,←sh_zero]
theorem sh_tz:List.take 16 (List.drop 0 Z16)=Z16:=rfl
abbrev shareV (q:Rat):Value:=shV (wideN q.num) (wideN q.den)
def QW (q:Rat):Prop:=InW q.num∧InW (q.den:Int)
theorem psh {H:IH} {k:Nat} {n d:Nat} (g:H.ext.get k=some (.cells (shC n d) 0 none)):load Proofs.Tryz.prog H 38 (ptr (2*k) 0)=some (wdV n)∧load Proofs.Tryz.prog H 38 (ptr (2*k) 8)=some (wdV d)∧load Proofs.Tryz.prog H 56 (ptr (2*k) 0)=some (shV n d):=by
 have r:=row_of g
 refine⟨?_,?_,?_⟩
 ·simp -dsimp (maxSteps:=1000000) (disch:=first|omega|(simp only[new_n,put_n];omega)|decide +kernel|(repeat first|rw[new_n]|rw[put_n])) only[wpS,Nat.reduceLeDiff,ld38,r,shC_len,sh_take1]
  rfl
 ·simp -dsimp (maxSteps:=1000000) (disch:=first|omega|(simp only[new_n,put_n];omega)|decide +kernel|(repeat first|rw[new_n]|rw[put_n])) only[wpS,Nat.reduceLeDiff,Nat.reduceAdd,ld38,r,shC_len,sh_take2]
  rfl
 ·simp -dsimp (maxSteps:=1000000) (disch:=first|omega|(simp only[new_n,put_n];omega)|decide +kernel|(repeat first|rw[new_n]|rw[put_n])) only[wpS,Nat.reduceLeDiff,r,shC_len,sh_take,ld56]
  rfl
theorem shread_ok {h:IH} (n d:Nat) (hn:n<W8) (hd:d<W8):WV Proofs.Tryz.prog (.func (.func 74) #[] #[]) [shV n d] h fun r h'=>Ext h h'∧PPair h' r (wdI n) (wdI d):=by
 refine enter (nt:=10) (rs:=[.cell 2 117]) Proofs.Tryz.func74 rfl rfl rfl (by simp) ?_
 simp -dsimp (maxSteps:=1000000) (disch:=first|omega|(simp only[new_n,put_n];omega)|decide +kernel|(repeat first|rw[new_n]|rw[put_n])) only[wpS,zc117,shV_cells]
 obtain⟨H0,hH0,n0,E0,g0,g1⟩:=boxes2 h (shC n d) ZR
 rw[←hH0]
 clear hH0
 have X0:=Ext.refl H0
 obtain⟨L1,L2,_⟩:=psh g0
 refine drawn [(4,[2])] (by kernel_rfl) (by kernel_rfl) rfl ?_
 simp -dsimp (maxSteps:=1000000) (disch:=first|omega|(simp only[new_n,put_n];omega)|decide +kernel|(repeat first|rw[new_n]|rw[put_n])) only[wpS,Nat.reduceEqDiff,Nat.reduceLeDiff,fa56_0,ld38,row_of g0,shC_len,sh_take1]
 refine call (longer_ok n hn) ?_
 rintro r1 h1 ⟨X1,p1⟩
 have m1:=X1.n
 simp -dsimp (maxSteps:=1000000) (disch:=first|omega|(simp only[new_n,put_n];omega)|decide +kernel|(repeat first|rw[new_n]|rw[put_n])) only[wpS,Nat.reduceEqDiff,Nat.reduceLeDiff,Nat.reduceAdd,ld38,fa56_1,row_of (X1.kept (by omega) g0),shC_len,sh_take2]
 refine call (longer_ok d hd) ?_
 rintro r2 h2 ⟨hE2,p2⟩
 have m2:=hE2.n
 have X2:=X1.trans hE2
 obtain⟨s1,rfl,c1,o1⟩:=p1.cells2
 obtain⟨s2,rfl,c2,o2⟩:=p2.cells2
 have kg:=X2.kept (by omega) g1
 simp -dsimp (maxSteps:=1000000) (disch:=first|omega|(simp only[new_n,put_n];omega)|decide +kernel|(repeat first|rw[new_n]|rw[put_n])) only[wpS,wpT,Nat.reduceEqDiff,Nat.reduceLeDiff,Nat.reduceAdd,bv117,pl117_0,pl117_1,st117,kg,o1,o2]
 refine⟨by repeat' first|refine wpSteady_c2 ?_ ?_|refine wpSteady_t2 ?_ ?_|exact wpSteady_one rfl rfl rfl rfl (steady_ext (H0:=H0) rfl (by omega) (by assumption) (by assumption) (by with_reducible assumption)),?_⟩
 simp -dsimp (maxSteps:=1000000) (disch:=first|omega|(simp only[new_n,put_n];omega)|decide +kernel|(repeat first|rw[new_n]|rw[put_n])) only[wpS,wpT,Nat.reduceEqDiff,Nat.reduceLeDiff,Nat.reduceAdd,ld117,tk4']
 have kp:=(Keep.refl h2).put kg (.cells [.bool (decide (wdI n<0)),s1,.bool (decide (wdI d<0)),s2] 0 none)
 exact⟨(E0.trans X2).put (by omega) _,_,_,_,_,rfl,p1.keep (hE2.keep.trans kp),p2.keep kp⟩
set_option maxHeartbeats 2000000 in
theorem rtold_ok {h:IH} {v:Value} {q:Rat} (hv:PRat h v q):WV Proofs.Tryz.prog (.func (.func 65) #[] #[]) [v] h fun r h'=>Ext h h'∧r=(open Classical in if QW q then .tuple #[shareV q,KI 0] else .tuple #[shV 0 0,KI 6]):=by
 obtain⟨a1,s1,b1,t1,rfl,hn1,hd1,c1,o1,c2,o2,o3,o4⟩:=hv.parts
 refine enter (nt:=30) (rs:=[.cell 2 56,.tmp 3]) Proofs.Tryz.func65 rfl rfl rfl (by simp) ?_
 simp -dsimp (maxSteps:=1000000) (disch:=first|omega|(simp only[new_n,put_n];omega)|decide +kernel|(repeat first|rw[new_n]|rw[put_n])) only[wpS,wpT,Nat.reduceEqDiff,Nat.reduceLeDiff,Nat.reduceAdd,zc56,fa117_0,ld87]
 obtain⟨H0,hH0,n0,E0,g0,g1⟩:=boxes2 h [a1,s1,b1,t1] Z16
 rw[←hH0]
 clear hH0
 simp -dsimp (maxSteps:=1000000) (disch:=first|omega|(simp only[new_n,put_n];omega)|decide +kernel|(repeat first|rw[new_n]|rw[put_n])) only[tkA]
 refine call (ptold_ok (hn1.keep E0.keep)) ?_
 rintro _ h1 ⟨X1,rfl⟩
 have m1:=X1.n
 obtain⟨w1,e1,hw⟩ : ∃w1 e1,(if InW q.num then Value.tuple #[wideV q.num,KI 0] else .tuple #[wdV 0,KI 6])=.tuple #[wdV w1,KI e1]∧(InW q.num∧w1=wideN q.num∧e1=0 ∨ ¬InW q.num∧e1=6):=by
  by_cases hi:InW q.num
  ·exact⟨_,0,by rw[if_pos hi],.inl ⟨hi,rfl,rfl⟩⟩
  ·exact⟨0,6,by rw[if_neg hi],.inr ⟨hi,rfl⟩⟩
 rw[hw.1]
 have k0:=X1.kept (by omega) g0
 have k1:=X1.kept (by omega) g1
 simp -dsimp (maxSteps:=1000000) (disch:=first|omega|(simp only[new_n,put_n];omega)|decide +kernel|(repeat first|rw[new_n]|rw[put_n])) only[wpS,wpT,Nat.reduceEqDiff,Nat.reduceLeDiff,Nat.reduceAdd,ld87,zc38,st38,fa117_1,cells8,wdC_len,wdC_all,wd_spl,row_of k0,tkA,tkB]
 obtain⟨H2,hH2⟩ : ∃H2,H2=(h1.new (.cells [ZW,ZW,ZW,ZW,ZW,ZW,ZW,ZW] 0 none)).put h1.n (.cells (wdC w1) 0 none):=⟨_,rfl⟩
 have e2:Ext h1 H2:=by rw[hH2];exact((Ext.refl _).new _).put (Nat.le_refl _) _
 have n2:H2.n=h1.n+1:=by rw[hH2];rfl
 have ga:H2.ext.get h1.n=some (.cells (wdC w1) 0 none):=by rw[hH2];simp (disch:=first|omega|(simp only[new_n,put_n];omega)|(repeat first|rw[new_n]|rw[put_n])) only[get_put_same]
 have k1':=e2.kept (by omega) k1
 rw[←hH2]
 clear hH2
 refine call (ptold_ok (hd1.keep ((E0.trans X1).trans e2).keep)) ?_
 rintro _ h3 ⟨X3,rfl⟩
 have m3:=X3.n
 obtain⟨w2,f2,hw2⟩ : ∃w1 e1,(if InW (q.den:Int) then Value.tuple #[wideV q.den,KI 0] else .tuple #[wdV 0,KI 6])=.tuple #[wdV w1,KI e1]∧(InW (q.den:Int)∧w1=wideN q.den∧e1=0 ∨ ¬InW (q.den:Int)∧e1=6):=by
  by_cases hi:InW (q.den:Int)
  ·exact⟨_,0,by rw[if_pos hi],.inl ⟨hi,rfl,rfl⟩⟩
  ·exact⟨0,6,by rw[if_neg hi],.inr ⟨hi,rfl⟩⟩
 rw[hw2.1]
 have ga3:=X3.kept (by omega) ga
 have k3:=X3.kept (by omega) k1'
 have xx:=((E0.trans X1).trans e2).trans X3
 rcases hw.2 with⟨i1,rfl,rfl⟩|⟨i1,rfl⟩
 ·rcases hw2.2 with⟨i2,rfl,rfl⟩|⟨i2,rfl⟩
  ·rw[if_pos (show QW q from⟨i1,i2⟩)]
   simp -dsimp (maxSteps:=1000000) (disch:=first|omega|(simp only[new_n,put_n];omega)|decide +kernel|(repeat first|rw[new_n]|rw[put_n])) only[wpS,wpT,Nat.reduceEqDiff,Nat.reduceLeDiff,Nat.reduceAdd,zc38,st38,bv56,st56,ld38,pl56_0,pl56_1,ld56,cells8,wdC_len,wdC_all,wd_spl,row_of ga3,k3,wd_take,sh_sp1,sh_sp2,sh_sp3,shC_len,shC_all,sh_take]
   exact⟨(((xx.new _).put (by omega) _).put (by omega) _),rfl⟩
  ·rw[if_neg (show ¬QW q from fun h=>i2 h.2)]
   simp -dsimp (maxSteps:=1000000) (disch:=first|omega|(simp only[new_n,put_n];omega)|decide +kernel|(repeat first|rw[new_n]|rw[put_n])) only[wpS,wpT,Nat.reduceEqDiff,Nat.reduceLeDiff,Nat.reduceAdd,zc38,st38,bv56,st56,ld56,cells8,wdC_len,wdC_all,wd_spl,k3,sh_tz]
   exact⟨(((xx.new _).put (by omega) _).put (by omega) _),by rw[sh_zeroV]⟩
 ·rw[if_neg (show ¬QW q from fun h=>i1 h.1)]
  simp -dsimp (maxSteps:=1000000) (disch:=first|omega|(simp only[new_n,put_n];omega)|decide +kernel|(repeat first|rw[new_n]|rw[put_n])) only[wpS,wpT,Nat.reduceEqDiff,Nat.reduceLeDiff,Nat.reduceAdd,zc38,st38,bv56,st56,ld56,cells8,wdC_len,wdC_all,wd_spl,k3,sh_tz]
  exact⟨(((xx.new _).put (by omega) _).put (by omega) _),by rw[sh_zeroV]⟩
def okS (n d:Nat):Prop:=0<wdI d∧Int.gcd (wdI n) (wdI d)=1
instance (n d:Nat):Decidable (okS n d):=by unfold okS;infer_instance
theorem wdI_small {n:Nat} (hn:n<W8):SmallI (wdI n):=by
 refine smallW ?_
 have h2:=H8_two
 unfold wdI InW
 split<;>constructor<;>omega
set_option maxHeartbeats 2000000 in
theorem shcheck_ok {h:IH} (n d:Nat) (hn:n<W8) (hd:d<W8):WV Proofs.Tryz.prog (.func (.func 59) #[] #[]) [shV n d] h fun r h'=>Ext h h'∧r=KI (if okS n d then 0 else 20):=by
 refine enter (nt:=22) (rs:=[.tmp 2]) Proofs.Tryz.func59 rfl rfl rfl (by simp) ?_
 simp -dsimp (maxSteps:=1000000) (disch:=first|omega|(simp only[new_n,put_n];omega)|decide +kernel|(repeat first|rw[new_n]|rw[put_n])) only[wpS,shV_cells]
 have E1:Ext h (h.new (.cells (shC n d) 0 none)):=(Ext.refl h).new _
 have gs:(h.new (.cells (shC n d) 0 none)).ext.get h.n=some (.cells (shC n d) 0 none):=by simp (disch:=first|omega|(simp only[new_n,put_n];omega)|(repeat first|rw[new_n]|rw[put_n])) only[get_new_same]
 refine call (pfrom_ok 1 ⟨by omega,by omega⟩) ?_
 rintro _ h1 ⟨X1,p1⟩
 have m1:=X1.n
 simp only[new_n] at m1
 obtain⟨s1,rfl,c1,o1⟩:=p1.cells2
 have gs1:=X1.kept (by simp) gs
 have e10:decide ((1:Int)<0)=false:=rfl
 rw[e10] at p1 ⊢
 simp -dsimp (maxSteps:=1000000) (disch:=first|omega|(simp only[new_n,put_n];omega)|decide +kernel|(repeat first|rw[new_n]|rw[put_n])) only[wpS,wpT,Nat.reduceEqDiff,Nat.reduceLeDiff,Nat.reduceAdd,zc87,st87,ld56,o1,row_of gs1,shC_len,sh_take]
 obtain⟨H2,hH2⟩ : ∃H2,H2=(h1.new (.cells ZL 0 none)).put h1.n (.cells [.bool false,s1] 0 none):=⟨_,rfl⟩
 have e2:Ext h1 H2:=by rw[hH2];exact((Ext.refl _).new _).put (Nat.le_refl _) _
 have n2:H2.n=h1.n+1:=by rw[hH2];rfl
 have ga:H2.ext.get h1.n=some (.cells [.bool false,s1] 0 none):=by rw[hH2];simp (disch:=first|omega|(simp only[new_n,put_n];omega)|(repeat first|rw[new_n]|rw[put_n])) only[get_put_same]
 rw[←hH2]
 clear hH2
 refine call (shread_ok n d hn hd) ?_
 rintro _ h3 ⟨X3,a2,s2,b2,t2,rfl,hN,hD⟩
 have m3:=X3.n
 obtain⟨e3,c3,o3⟩:=hN.co
 obtain⟨e4,c4,o4⟩:=hD.co
 subst e3 e4
 simp -dsimp (maxSteps:=1000000) (disch:=first|omega|(simp only[new_n,put_n];omega)|decide +kernel|(repeat first|rw[new_n]|rw[put_n])) only[wpS,wpT,Nat.reduceEqDiff,Nat.reduceLeDiff,Nat.reduceAdd,zc117,st117,o3,o4]
 obtain⟨H0,hH0⟩ : ∃H2,H2=(h3.new (.cells ZR 0 none)).put h3.n (.cells [.bool (decide (wdI n<0)),s2,.bool (decide (wdI d<0)),t2] 0 none):=⟨_,rfl⟩
 have e5:Ext h3 H0:=by rw[hH0];exact((Ext.refl _).new _).put (Nat.le_refl _) _
 have n5:H0.n=h3.n+1:=by rw[hH0];rfl
 have gb:H0.ext.get h3.n=some (.cells [.bool (decide (wdI n<0)),s2,.bool (decide (wdI d<0)),t2] 0 none):=by rw[hH0];simp (disch:=first|omega|(simp only[new_n,put_n];omega)|(repeat first|rw[new_n]|rw[put_n])) only[get_put_same]
 have gc:=e5.kept (by omega) (X3.kept (by omega) ga)
 rw[←hH0]
 clear hH0
 have hN0:=hN.keep e5.keep
 have hD0:=hD.keep e5.keep
 have p10:=p1.keep ((e2.trans X3).trans e5).keep
 have X0:=Ext.refl H0
 obtain⟨L1,L2,_⟩:=pl4 gb
 have L3:=pl2 gc
 have E0:=((((E1.trans X1).trans e2).trans X3).trans e5)
 refine drawn [(10,[9])] (by kernel_rfl) (by kernel_rfl) rfl ?_
 simp -dsimp (maxSteps:=1000000) (disch:=first|omega|(simp only[new_n,put_n];omega)|decide +kernel|(repeat first|rw[new_n]|rw[put_n])) only[wpS,wpT,Nat.reduceEqDiff,Nat.reduceLeDiff,Nat.reduceAdd,fa117_1,ld87,row_of gb,tkB]
 refine call (pside_ok hD0) ?_
 rintro _ h6 ⟨X6,rfl⟩
 have m6:=X6.n
 by_cases hd0:0<wdI d
 ·have hdn:decide (wdI d<0)=false:=decide_eq_false (by omega)
  rw[hdn] at hD0 gb L2
  rw[if_neg (by omega),if_neg (by omega)]
  simp -dsimp (maxSteps:=1000000) (disch:=first|omega|(simp only[new_n,put_n];omega)|decide +kernel|(repeat first|rw[new_n]|rw[put_n])) only[wpS,wpT,Nat.reduceEqDiff,Nat.reduceLeDiff,Nat.reduceAdd,fa117_1,ld87,fa117_0,row_of (X6.kept (by omega) gb),tkA,tkB]
  refine call (pcommon_ok (hN0.keep X6.keep) (hD0.keep X6.keep) (wdI_small hn) (wdI_small hd)) ?_
  rintro g h7 ⟨X7,hg⟩
  have m7:=X7.n
  have X67:=X6.trans X7
  have sg:SmallI (Int.gcd (wdI n) (wdI d):Int):=small_nat ((wdI_small hd).le (Nat.le_of_dvd (by omega) (Nat.gcd_dvd_right _ _)))
  simp -dsimp (maxSteps:=1000000) (disch:=first|omega|(simp only[new_n,put_n];omega)|decide +kernel|(repeat first|rw[new_n]|rw[put_n])) only[wpS,wpT,Nat.reduceEqDiff,Nat.reduceLeDiff,Nat.reduceAdd,ld87,row_of (X67.kept (by omega) gc),tk2']
  refine call (pcmp_ok hg (p10.keep X67.keep) sg (small_nat small1)) ?_
  rintro _ h8 ⟨X8,rfl⟩
  have X68:=X67.trans X8
  have E8:=E0.trans X68
  by_cases hgc:Int.gcd (wdI n) (wdI d)=1
  ·rw[if_neg (by omega),if_pos (by omega),if_pos (show okS n d from⟨hd0,hgc⟩)]
   simp -dsimp (maxSteps:=1000000) (disch:=first|omega|(simp only[new_n,put_n];omega)|decide +kernel|(repeat first|rw[new_n]|rw[put_n])) only[wpS,wpT,Nat.reduceEqDiff]
   refine⟨by repeat' first|refine wpSteady_c2 ?_ ?_|refine wpSteady_t2 ?_ ?_|exact wpSteady_one rfl rfl rfl rfl (steady_ext (H0:=H0) rfl (by omega) (by assumption) (by assumption) (by with_reducible assumption)),?_⟩
   simp -dsimp (maxSteps:=1000000) (disch:=first|omega|(simp only[new_n,put_n];omega)|decide +kernel|(repeat first|rw[new_n]|rw[put_n])) only[wpS,wpT,Nat.reduceEqDiff,Nat.reduceAdd]
   exact E8
  ·rw[if_neg (show ¬okS n d from fun h=>hgc h.2)]
   have hg1 : ¬((Int.gcd (wdI n) (wdI d):Int)<1):=by
    have:=gcd_ne (n:=wdI n) (d:=wdI d) (by omega)
    omega
   rw[if_neg hg1,if_neg (by omega)]
   simp -dsimp (maxSteps:=1000000) (disch:=first|omega|(simp only[new_n,put_n];omega)|decide +kernel|(repeat first|rw[new_n]|rw[put_n])) only[wpS,wpT,Nat.reduceEqDiff]
   refine⟨by repeat' first|refine wpSteady_c2 ?_ ?_|refine wpSteady_t2 ?_ ?_|exact wpSteady_one rfl rfl rfl rfl (steady_ext (H0:=H0) rfl (by omega) (by assumption) (by assumption) (by with_reducible assumption)),?_⟩
   simp -dsimp (maxSteps:=1000000) (disch:=first|omega|(simp only[new_n,put_n];omega)|decide +kernel|(repeat first|rw[new_n]|rw[put_n])) only[wpS,wpT,Nat.reduceEqDiff,Nat.reduceAdd]
   exact E8
 ·rw[if_neg (show ¬okS n d from fun h=>hd0 h.1)]
  have E6:=E0.trans X6
  obtain⟨c,hc,hc0⟩ : ∃c:Int,(if wdI d<0 then (-1:Int) else if wdI d=0 then 0 else 1)=c∧c≤0:=⟨_,rfl,by split<;>(try split)<;>omega⟩
  rw[hc]
  simp -dsimp (maxSteps:=1000000) (disch:=first|omega|(simp only[new_n,put_n];omega)|decide +kernel|(repeat first|rw[new_n]|rw[put_n])) only[wpS,wpT,Nat.reduceEqDiff,show decide (c≤0)=true from decide_eq_true hc0]
  refine⟨wpSteady_not rfl rfl rfl,?_⟩
  simp -dsimp (maxSteps:=1000000) (disch:=first|omega|(simp only[new_n,put_n];omega)|decide +kernel|(repeat first|rw[new_n]|rw[put_n])) only[wpS,wpT,Nat.reduceEqDiff,Nat.reduceAdd]
  exact E6
def shL (l:List (Nat×Nat)):List Value:=l.flatMap fun p=>shC p.1 p.2
def ShSl (h:IH) (v:Value) (l:List (Nat×Nat)):Prop:=SlOf h 16 v l.length (shL l)∧l.length<1152921504606846976 ∧ ∀p∈l,p.1<W8∧p.2<W8
theorem ShSl.keep {h h':IH} {v:Value} {l:List (Nat×Nat)} (s:ShSl h v l) (e:Keep h h'):ShSl h' v l:=⟨s.1.keep e,s.2⟩
end Go.Id

namespace Go.Id
open Go
theorem whole_ok {h:IH} {v:Value} {n:Int} (hv:PLong h v n):WV Proofs.Tryz.prog (.func (.func 64) #[] #[]) [v] h fun r h'=>Ext h h'∧PRat h' r (n:Rat):=by
 obtain⟨s,rfl,c1,o1⟩:=hv.cells2
 refine enter (nt:=6) (rs:=[.cell 2 117]) Proofs.Tryz.func64 rfl rfl rfl (by simp) ?_
 simp -dsimp (maxSteps:=1000000) (disch:=first|omega|(simp only[new_n,put_n];omega)|decide +kernel|(repeat first|rw[new_n]|rw[put_n])) only[wpS,zc117]
 obtain⟨H0,hH0,n0,E0,g0,g1⟩:=boxes2 h [.bool (decide (n<0)),s] ZR
 rw[←hH0]
 clear hH0
 have X0:=Ext.refl H0
 have L1:=pl2 g0
 refine drawn [(0,[3])] (by kernel_rfl) (by kernel_rfl) rfl ?_
 simp -dsimp (maxSteps:=1000000) (disch:=first|omega|(simp only[new_n,put_n];omega)|decide +kernel|(repeat first|rw[new_n]|rw[put_n])) only[wpS,wpT,Nat.reduceEqDiff,Nat.reduceLeDiff,Nat.reduceAdd,ld87,row_of g0,tk2']
 refine call (pfrom_ok 1 ⟨by omega,by omega⟩) ?_
 rintro _ h1 ⟨X1,p1⟩
 have m1:=X1.n
 obtain⟨s1,rfl,c2,o2⟩:=p1.cells2
 have kg:=X1.kept (by omega) g1
 simp -dsimp (maxSteps:=1000000) (disch:=first|omega|(simp only[new_n,put_n];omega)|decide +kernel|(repeat first|rw[new_n]|rw[put_n])) only[wpS,wpT,Nat.reduceEqDiff,Nat.reduceLeDiff,Nat.reduceAdd,bv117,pl117_0,pl117_1,st117,kg,o1,o2]
 refine⟨by repeat' first|refine wpSteady_c2 ?_ ?_|refine wpSteady_t2 ?_ ?_|exact wpSteady_one rfl rfl rfl rfl (steady_ext (H0:=H0) rfl (by omega) (by assumption) (by assumption) (by with_reducible assumption)),?_⟩
 simp -dsimp (maxSteps:=1000000) (disch:=first|omega|(simp only[new_n,put_n];omega)|decide +kernel|(repeat first|rw[new_n]|rw[put_n])) only[wpS,wpT,Nat.reduceEqDiff,Nat.reduceLeDiff,Nat.reduceAdd,ld117,tk4']
 have kp:=(Keep.refl h1).put kg (.cells [.bool (decide (n<0)),s,.bool false,s1] 0 none)
 exact⟨(E0.trans X1).put (by omega) _,_,_,_,_,rfl,hv.keep ((E0.trans X1).keep.trans kp),p1.keep kp⟩
theorem rfrom_ok {h:IH} (n:Int) (hn:In64 n):WV Proofs.Tryz.prog (.func (.func 62) #[] #[]) [KI n] h fun r h'=>Ext h h'∧PRat h' r (n:Rat):=by
 refine enter (nt:=6) (rs:=[.cell 2 117]) Proofs.Tryz.func62 rfl rfl rfl (by simp) ?_
 simp -dsimp (maxSteps:=1000000) (disch:=first|omega|(simp only[new_n,put_n];omega)|decide +kernel|(repeat first|rw[new_n]|rw[put_n])) only[wpS,Nat.reduceEqDiff,zc117]
 have E1:Ext h (h.new (.cells ZR 0 none)):=(Ext.refl h).new _
 have g1:(h.new (.cells ZR 0 none)).ext.get h.n=some (.cells ZR 0 none):=by simp (disch:=first|omega|(simp only[new_n,put_n];omega)|(repeat first|rw[new_n]|rw[put_n])) only[get_new_same]
 refine call (pfrom_ok n hn) ?_
 rintro _ h1 ⟨X1,p1⟩
 simp -dsimp (maxSteps:=1000000) (disch:=first|omega|(simp only[new_n,put_n];omega)|decide +kernel|(repeat first|rw[new_n]|rw[put_n])) only[wpS,Nat.reduceEqDiff]
 refine call (whole_ok p1) ?_
 rintro _ h2 ⟨X2,p2⟩
 have m1:=X1.n
 have m2:=X2.n
 simp only[new_n] at m1
 obtain⟨a3,s3,b3,t3,rfl,_,_,d1,o1,d2,o2,o3,o4⟩:=p2.parts
 have kg:=X2.kept (by omega) (X1.kept (by simp) g1)
 simp -dsimp (maxSteps:=1000000) (disch:=first|omega|(simp only[new_n,put_n];omega)|decide +kernel|(repeat first|rw[new_n]|rw[put_n])) only[wpS,wpT,Nat.reduceEqDiff,Nat.reduceLeDiff,Nat.reduceAdd,st117,ld117,kg,o1,o2,o3,o4,tk4']
 exact⟨((E1.trans X1).trans X2).put (by omega) _,p2.keep ((Keep.refl _).put kg _)⟩
theorem wdI_zero_iff {d:Nat} (hd:d<W8):wdI d=0↔d=0:=by
 have h2:=H8_two
 have h3:=H8_pos
 unfold wdI
 split<;>omega
set_option maxHeartbeats 2000000 in
theorem shmake_ok {h:IH} (n d:Nat) (hn:n<W8) (hd:d<W8) (d0:d≠0):WV Proofs.Tryz.prog (.func (.func 100) #[] #[]) [wdV n,wdV d] h fun r h'=>Ext h h'∧r=(open Classical in if QW (Rat.divInt (wdI n) (wdI d)) then .tuple #[shareV (Rat.divInt (wdI n) (wdI d)),KI 0] else .tuple #[shV 0 0,KI 6]):=by
 refine enter (nt:=18) (rs:=[.cell 4 56,.tmp 5]) Proofs.Tryz.func100 rfl rfl rfl (by simp) ?_
 simp -dsimp (maxSteps:=1000000) (disch:=first|omega|(simp only[new_n,put_n];omega)|decide +kernel|(repeat first|rw[new_n]|rw[put_n])) only[wpS,wpT,Nat.reduceEqDiff,Nat.reduceLeDiff,Nat.reduceAdd,zc56,ld38,bv38,cells8,wdC_len]
 obtain⟨H0,hH0,n0,E0,g0,g1,g2⟩:=boxes3 h (wdC n) (wdC d) Z16
 rw[←hH0]
 clear hH0
 have X0:=Ext.refl H0
 have L2:load Proofs.Tryz.prog H0 38 (ptr (2*(h.n+1)) 0)=some (wdV d):=by
  simp -dsimp (maxSteps:=1000000) (disch:=first|omega|(simp only[new_n,put_n];omega)|decide +kernel|(repeat first|rw[new_n]|rw[put_n])) only[wpS,Nat.reduceLeDiff,ld38,row_of g1,wdC_len,wd_take]
  rfl
 have hz:binop Proofs.Tryz.prog .eql 38 (.tmp 6) (.tmp 7) (.agg (wdC d).toArray) (.agg #[ZW,ZW,ZW,ZW,ZW,ZW,ZW,ZW])=some (.bool false):=by
  rw[wd_zero,wdV,wd_eql hd (by have:=H8_two;have:=H8_pos;omega)]
  rw[decide_eq_false d0]
 have hdI:wdI d≠0:=fun h=>d0 ((wdI_zero_iff hd).1 h)
 simp -dsimp (maxSteps:=1000000) (disch:=first|omega|(simp only[new_n,put_n];omega)|decide +kernel|(repeat first|rw[new_n]|rw[put_n])) only[wpS,Nat.reduceEqDiff,wd_take,hz]
 refine drawn [(2,[1])] (by kernel_rfl) (by kernel_rfl) rfl ?_
 simp -dsimp (maxSteps:=1000000) (disch:=first|omega|(simp only[new_n,put_n];omega)|decide +kernel|(repeat first|rw[new_n]|rw[put_n])) only[wpS,Nat.reduceEqDiff,Nat.reduceLeDiff,ld38,row_of g0,wdC_len,wd_take]
 refine call (longer_ok n hn) ?_
 rintro r1 h1 ⟨X1,p1⟩
 have m1:=X1.n
 simp -dsimp (maxSteps:=1000000) (disch:=first|omega|(simp only[new_n,put_n];omega)|decide +kernel|(repeat first|rw[new_n]|rw[put_n])) only[wpS,Nat.reduceEqDiff,Nat.reduceLeDiff,ld38,row_of (X1.kept (by omega) g1),wdC_len,wd_take]
 refine call (longer_ok d hd) ?_
 rintro r2 h2 ⟨hE2,p2⟩
 have X2:=X1.trans hE2
 have m2:=hE2.n
 simp -dsimp (maxSteps:=1000000) (disch:=first|omega|(simp only[new_n,put_n];omega)|decide +kernel|(repeat first|rw[new_n]|rw[put_n])) only[wpS,Nat.reduceEqDiff]
 refine call (lowest_ok (p1.keep hE2.keep) p2 (wdI_small hn) (wdI_small hd) hdI) ?_
 rintro r3 h3 ⟨hE3,p3⟩
 have X3:=X2.trans hE3
 have m3:=hE3.n
 simp -dsimp (maxSteps:=1000000) (disch:=first|omega|(simp only[new_n,put_n];omega)|decide +kernel|(repeat first|rw[new_n]|rw[put_n])) only[wpS,Nat.reduceEqDiff]
 refine call (rtold_ok p3) ?_
 rintro _ h4 ⟨hE4,rfl⟩
 have X4:=X3.trans hE4
 have m4:=hE4.n
 have kg:=X4.kept (by omega) g2
 by_cases hq:QW (Rat.divInt (wdI n) (wdI d))
 ·rw[if_pos hq]
  simp -dsimp (maxSteps:=1000000) (disch:=first|omega|(simp only[new_n,put_n];omega)|decide +kernel|(repeat first|rw[new_n]|rw[put_n])) only[wpS,wpT,Nat.reduceEqDiff,Nat.reduceLeDiff,Nat.reduceAdd,st56,kg,shV_cells,shC_len,shC_all,sh_sp3]
  refine⟨by repeat' first|refine wpSteady_c2 ?_ ?_|refine wpSteady_t2 ?_ ?_|exact wpSteady_one rfl rfl rfl rfl (steady_ext (H0:=H0) rfl (by omega) (by assumption) (by assumption) (by with_reducible assumption)),?_⟩
  simp -dsimp (maxSteps:=1000000) (disch:=first|omega|(simp only[new_n,put_n];omega)|decide +kernel|(repeat first|rw[new_n]|rw[put_n])) only[wpS,wpT,Nat.reduceEqDiff,Nat.reduceLeDiff,Nat.reduceAdd,ld56,shC_len,sh_take]
  exact⟨(E0.trans X4).put (by omega) _,rfl⟩
 ·rw[if_neg hq]
  simp -dsimp (maxSteps:=1000000) (disch:=first|omega|(simp only[new_n,put_n];omega)|decide +kernel|(repeat first|rw[new_n]|rw[put_n])) only[wpS,wpT,Nat.reduceEqDiff,Nat.reduceLeDiff,Nat.reduceAdd,st56,kg,shV_cells,shC_len,shC_all,sh_sp3]
  refine⟨by repeat' first|refine wpSteady_c2 ?_ ?_|refine wpSteady_t2 ?_ ?_|exact wpSteady_one rfl rfl rfl rfl (steady_ext (H0:=H0) rfl (by omega) (by assumption) (by assumption) (by with_reducible assumption)),?_⟩
  simp -dsimp (maxSteps:=1000000) (disch:=first|omega|(simp only[new_n,put_n];omega)|decide +kernel|(repeat first|rw[new_n]|rw[put_n])) only[wpS,wpT,Nat.reduceEqDiff,Nat.reduceLeDiff,Nat.reduceAdd,ld56,shC_len,sh_take]
  exact⟨(E0.trans X4).put (by omega) _,rfl⟩
theorem qw_div {n d:Int} (hn:In64 n) (hd:In64 d) (d0:d≠0):QW (Rat.divInt n d):=by
 have h3:=H8_big
 have q:=QB.divInt (k:=63) d0 (n:=n) (by have:=hn.1;have:=hn.2;omega) (by have:=hd.1;have:=hd.2;omega)
 obtain⟨q1,q2⟩:=q
 have e:2 ^ 63=9223372036854775808:=by decide
 rw[e] at q1 q2
 exact⟨⟨by omega,by omega⟩,⟨by omega,by omega⟩⟩
theorem inW64 {n:Int} (hn:In64 n):InW n:=by
 have h3:=H8_big
 exact⟨by have:=hn.1;omega,by have:=hn.2;omega⟩
theorem wideN0 {n:Int} (hn:In64 n) (h0:n≠0):wideN n≠0:=by
 have hw:=inW64 hn
 have:=wdI_wideN hw
 intro h
 rw[h] at this
 have h2:=H8_pos
 unfold wdI at this
 rw[if_pos h2] at this
 omega
theorem shof_ok {h:IH} (n d:Int) (hn:In64 n) (hd:In64 d) (d0:d≠0):WV Proofs.Tryz.prog (.func (.func 71) #[] #[]) [KI n,KI d] h fun r h'=>Ext h h'∧r=.tuple #[shareV (Rat.divInt n d),KI 0]:=by
 refine enter (nt:=13) (rs:=[.cell 4 56,.tmp 5]) Proofs.Tryz.func71 rfl rfl rfl (by simp) ?_
 simp -dsimp (maxSteps:=1000000) (disch:=first|omega|(simp only[new_n,put_n];omega)|decide +kernel|(repeat first|rw[new_n]|rw[put_n])) only[wpS,Nat.reduceEqDiff,Nat.reduceAdd,zc56]
 have E1:Ext h (h.new (.cells Z16 0 none)):=(Ext.refl h).new _
 have g1:(h.new (.cells Z16 0 none)).ext.get h.n=some (.cells Z16 0 none):=by simp (disch:=first|omega|(simp only[new_n,put_n];omega)|(repeat first|rw[new_n]|rw[put_n])) only[get_new_same]
 refine call (wideOf_ok n hn) ?_
 rintro _ h1 ⟨X1,rfl⟩
 simp -dsimp (maxSteps:=1000000) (disch:=first|omega|(simp only[new_n,put_n];omega)|decide +kernel|(repeat first|rw[new_n]|rw[put_n])) only[wpS,Nat.reduceEqDiff]
 refine call (wideOf_ok d hd) ?_
 rintro _ h2 ⟨X2,rfl⟩
 simp -dsimp (maxSteps:=1000000) (disch:=first|omega|(simp only[new_n,put_n];omega)|decide +kernel|(repeat first|rw[new_n]|rw[put_n])) only[wpS,Nat.reduceEqDiff]
 refine call (shmake_ok (wideN n) (wideN d) (wideN_lt (inW64 hn)) (wideN_lt (inW64 hd)) (wideN0 hd d0)) ?_
 rintro _ h3 ⟨X3,rfl⟩
 rw[wdI_wideN (inW64 hn),wdI_wideN (inW64 hd),if_pos (qw_div hn hd d0)]
 have m1:=X1.n
 have m2:=X2.n
 have m3:=X3.n
 simp only[new_n] at m1
 have kg:=X3.kept (by omega) (X2.kept (by omega) (X1.kept (by simp) g1))
 simp -dsimp (maxSteps:=1000000) (disch:=first|omega|(simp only[new_n,put_n];omega)|decide +kernel|(repeat first|rw[new_n]|rw[put_n])) only[wpS,wpT,Nat.reduceEqDiff,Nat.reduceLeDiff,Nat.reduceAdd,st56,ld56,kg,shV_cells,shC_len,shC_all,sh_sp3,sh_take]
 exact⟨(((E1.trans X1).trans X2).trans X3).put (by omega) _,rfl⟩
end Go.Id

namespace Go.Id
open Go
def rOf (p:Nat×Nat):Rat:=Rat.divInt (wdI p.1) (wdI p.2)
theorem rOf_parts {p:Nat×Nat} (h:okS p.1 p.2):(rOf p).num=wdI p.1∧((rOf p).den:Int)=wdI p.2:=by
 obtain⟨h1,h2⟩:=h
 obtain⟨a,b⟩:=low_pos (n:=wdI p.1) h1
 rw[h2] at a b
 simp only[Int.natCast_one,Int.ediv_one] at a b
 exact⟨a.symm,b.symm⟩
noncomputable def toldV (q:Rat):Value:=open Classical in if QW q then .tuple #[shareV q,KI 0] else .tuple #[shV 0 0,KI 6]
theorem toldV_form (q:Rat) : ∃n d e,toldV q=.tuple #[shV n d,KI e]:=by
 unfold toldV
 by_cases h:QW q
 ·exact⟨_,_,0,by rw[if_pos h]⟩
 ·exact⟨0,0,6,by rw[if_neg h]⟩
end Go.Id

namespace Go.Id
open Go
theorem PPair.rat {h:IH} {v:Value} {n d:Nat} (p:PPair h v (wdI n) (wdI d)) (ok:okS n d):PRat h v (rOf (n,d)):=by
 obtain⟨e1,e2⟩:=rOf_parts (p:=(n,d)) ok
 unfold PRat
 rw[e1,e2]
 exact p
end Go.Id

namespace Go.Id
open Go
end Go.Id

namespace Go.Id
open Go
end Go.Id

namespace Go.Id
open Go
end Go.Id

namespace Go.Id
open Go
end Go.Id
