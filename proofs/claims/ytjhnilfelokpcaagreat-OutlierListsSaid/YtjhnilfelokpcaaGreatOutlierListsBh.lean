/-
  Contracts: the reference's shares: in, out, made, valid; fractions of integers. Contracts: the laws' own helpers: shares of integers, lists of them.
-/
import Derived.Test.YtjhnilfelokpcaaGreatOutlierListsAr
import Derived.Test.YtjhnilfelokpcaaGreatOutlierListsBg
import Derived.Test.YtjhnilfelokpcaaGreatOutlierListsBf
import Derived.Test.YtjhnilfelokpcaaGreatOutlierListsAs
set_option linter.unusedVariables false
set_option linter.unusedSimpArgs false
set_option linter.defProp false
set_option linter.deprecated false
namespace Go.Id
open Go
open Go.Proofs.Tryz (prog)
open Nat (reduceAdd reduceEqDiff reduceLeDiff)
set_option maxHeartbeats 16000000
theorem quick_ok {h:IH} (n d:Int) (hn:In64 n) (hd:In64 d) (d0:d≠0):WV prog (.func (.func 122) #[] #[]) [KI n,KI d] h fun r h'=>Ext h h'∧RRat h' r (Rat.divInt n d):=by
 refine enter (nt:=10) (rs:=[.cell 4 186]) Proofs.Tryz.func122 rfl rfl rfl (by simp) ?_
 simp -dsimp (maxSteps:=1000000) (disch:=try exact dx) only[wpS,reduceEqDiff,reduceAdd,zc186]
 have E1:Ext h (h.new (.cells ZR 0 none)):=(Ext.refl h).new _
 have g1:(h.new (.cells ZR 0 none)).ext.get h.n=some (.cells ZR 0 none):=by simp (disch:=try exact dx) only[get_new_same]
 refine call (long1_ok n hn) ?_
 rintro _ h1 ⟨X1,p1⟩
 simp -dsimp (maxSteps:=1000000) (disch:=try exact dx) only[wpS,reduceEqDiff]
 refine call (long1_ok d hd) ?_
 rintro _ h2 ⟨X2,p2⟩
 simp -dsimp (maxSteps:=1000000) (disch:=try exact dx) only[wpS,reduceEqDiff]
 have sn:SmallI n:=small64 (by have:=hn.1;have:=hn.2;omega)
 have sd:SmallI d:=small64 (by have:=hd.1;have:=hd.2;omega)
 refine call (rlowest_ok (p1.keep X2.keep) p2 sn sd d0) ?_
 rintro _ h3 ⟨X3,p3⟩
 have m1:=X1.n
 have m2:=X2.n
 have m3:=X3.n
 simp only[new_n] at m1
 obtain⟨a3,s3,b3,t3,rfl,_,_,d1,o1,d2,o2,o3,o4⟩:=p3.parts
 have kg:=X3.kept (by omega) (X2.kept (by omega) (X1.kept (by simp) g1))
 simp -dsimp (maxSteps:=1000000) (disch:=try exact dx) only[wpS,wpT,reduceEqDiff,reduceLeDiff,reduceAdd,st186,ld186,kg,o1,o2,o3,o4,tk4']
 exact⟨(((E1.trans X1).trans X2).trans X3).put (by omega) _,p3.keep ((Keep.refl _).put kg _)⟩
theorem zero_ok {h:IH} {v:Value} {q:Rat} (hv:RRat h v q):WV prog (.func (.func 128) #[] #[]) [v] h fun r h'=>Ext h h'∧r=.bool (decide (q=0)):=by
 obtain⟨a1,s1,b1,t1,rfl,hn1,hd1,c1,o1,c2,o2,o3,o4⟩:=hv.parts
 obtain⟨s,n,he,_,_,l1,z1⟩:=hn1.form
 cases he
 refine enter (nt:=8) (rs:=[.tmp 2]) Proofs.Tryz.func128 rfl rfl rfl (by simp) ?_
 simp -dsimp (maxSteps:=1000000) (disch:=try exact dx) only[wpS,reduceEqDiff,fa186_0,fa131_1,ld25,l1 sl25]
 refine⟨(Ext.refl h).new _,?_⟩
 congr 1
 rw[show(((n:Nat):Int) == 0)=decide (n=0) by by_cases h0:n=0<;>simp[h0]]
 exact decide_eq_decide.2 (z1.trans Rat.num_eq_zero)
theorem refin_ok {h:IH} (n d:Nat) (hn:n<W8) (hd:d<W8):WV prog (.func (.func 127) #[] #[]) [shV n d] h fun r h'=>Ext h h'∧RPair h' r (wdI n) (wdI d):=by
 refine enter (nt:=10) (rs:=[.cell 2 186]) Proofs.Tryz.func127 rfl rfl rfl (by simp) ?_
 simp -dsimp (maxSteps:=1000000) (disch:=try exact dx) only[wpS,zc186,shV_cells]
 obtain⟨H0,hH0,n0,E0,g0,g1⟩:=boxes2 h (shC n d) ZR
 rw[←hH0]
 clear hH0
 have X0:=Ext.refl H0
 obtain⟨L1,L2,_⟩:=psh g0
 refine drawn [(4,[2])] (by kernel_rfl) (by kernel_rfl) rfl ?_
 simp -dsimp (maxSteps:=1000000) (disch:=try exact dx) only[wpS,reduceEqDiff,reduceLeDiff,fa48_0,ld44,row_of g0,shC_len,sh_take1]
 refine call (in_ok n hn) ?_
 rintro r1 h1 ⟨X1,p1⟩
 have m1:=X1.n
 simp -dsimp (maxSteps:=1000000) (disch:=try exact dx) only[wpS,reduceEqDiff,reduceLeDiff,reduceAdd,ld44,fa48_1,row_of (X1.kept (by omega) g0),shC_len,sh_take2]
 refine call (in_ok d hd) ?_
 rintro r2 h2 ⟨hE2,p2⟩
 have m2:=hE2.n
 have X2:=X1.trans hE2
 obtain⟨s1,rfl,c1,o1⟩:=p1.cells2
 obtain⟨s2,rfl,c2,o2⟩:=p2.cells2
 have kg:=X2.kept (by omega) g1
 simp -dsimp (maxSteps:=1000000) (disch:=try exact dx) only[wpS,wpT,reduceEqDiff,reduceLeDiff,reduceAdd,bv186,pl186_0,pl186_1,st186,kg,o1,o2]
 refine⟨by repeat' first|refine wpSteady_c2 ?_ ?_|refine wpSteady_t2 ?_ ?_|exact wpSteady_one rfl rfl rfl rfl (steady_ext (H0:=H0) rfl (by omega) (by assumption) (by assumption) (by with_reducible assumption)),?_⟩
 simp -dsimp (maxSteps:=1000000) (disch:=try exact dx) only[wpS,wpT,reduceEqDiff,reduceLeDiff,reduceAdd,ld186,tk4']
 have kp:=(Keep.refl h2).put kg (.cells [.bool (decide (wdI n<0)),s1,.bool (decide (wdI d<0)),s2] 0 none)
 exact⟨(E0.trans X2).put (by omega) _,_,_,_,_,rfl,p1.keep (hE2.keep.trans kp),p2.keep kp⟩
theorem refout_ok {h:IH} {v:Value} {q:Rat} (hv:RRat h v q):WV prog (.func (.func 121) #[] #[]) [v] h fun r h'=>Ext h h'∧r=(open Classical in if QW q then .tuple #[shareV q,KI 0] else .tuple #[shV 0 0,KI 6]):=by
 obtain⟨a1,s1,b1,t1,rfl,hn1,hd1,c1,o1,c2,o2,o3,o4⟩:=hv.parts
 refine enter (nt:=30) (rs:=[.cell 2 48,.tmp 3]) Proofs.Tryz.func121 rfl rfl rfl (by simp) ?_
 simp -dsimp (maxSteps:=1000000) (disch:=try exact dx) only[wpS,wpT,reduceEqDiff,reduceLeDiff,reduceAdd,zc48,fa186_0,ld131]
 obtain⟨H0,hH0,n0,E0,g0,g1⟩:=boxes2 h [a1,s1,b1,t1] Z16
 rw[←hH0]
 clear hH0
 simp -dsimp (maxSteps:=1000000) (disch:=try exact dx) only[tkA]
 refine call (out_ok (hn1.keep E0.keep)) ?_
 rintro _ h1 ⟨X1,rfl⟩
 have m1:=X1.n
 obtain⟨w1,e1,hw⟩ : ∃w1 e1,(if InW q.num then Value.tuple #[wideV q.num,KI 0] else .tuple #[wdV 0,KI 6])=.tuple #[wdV w1,KI e1]∧(InW q.num∧w1=wideN q.num∧e1=0 ∨ ¬InW q.num∧e1=6):=by
  by_cases hi:InW q.num
  ·exact⟨_,0,by rw[if_pos hi],.inl ⟨hi,rfl,rfl⟩⟩
  ·exact⟨0,6,by rw[if_neg hi],.inr ⟨hi,rfl⟩⟩
 rw[hw.1]
 have k0:=X1.kept (by omega) g0
 have k1:=X1.kept (by omega) g1
 simp -dsimp (maxSteps:=1000000) (disch:=try exact dx) only[wpS,wpT,reduceEqDiff,reduceLeDiff,reduceAdd,ld131,zc44,st44,fa186_1,cells8,wdC_len,wdC_all,wd_spl,row_of k0,tkA,tkB]
 obtain⟨H2,hH2⟩ : ∃H2,H2=(h1.new (.cells [ZW,ZW,ZW,ZW,ZW,ZW,ZW,ZW] 0 none)).put h1.n (.cells (wdC w1) 0 none):=⟨_,rfl⟩
 have e2:Ext h1 H2:=by rw[hH2];exact((Ext.refl _).new _).put (Nat.le_refl _) _
 have n2:H2.n=h1.n+1:=by rw[hH2];rfl
 have ga:H2.ext.get h1.n=some (.cells (wdC w1) 0 none):=by rw[hH2];simp (disch:=try exact dx) only[get_put_same]
 have k1':=e2.kept (by omega) k1
 rw[←hH2]
 clear hH2
 refine call (out_ok (hd1.keep ((E0.trans X1).trans e2).keep)) ?_
 rintro _ h3 ⟨X3,rfl⟩
 have m3:=X3.n
 obtain⟨w2,f2,hw2⟩ : ∃w1 e1,(if InW (q.den:Int) then Value.tuple #[wideV q.den,KI 0] else .tuple #[wdV 0,KI 6])=.tuple #[wdV w1,KI e1]∧(InW (q.den:Int)∧w1=wideN q.den∧e1=0 ∨ ¬InW (q.den:Int)∧e1=6):=by
  by_cases hi:InW (q.den:Int)
  ·exact⟨_,0,by rw[if_pos hi],.inl ⟨hi,rfl,rfl⟩⟩
  ·exact⟨0,6,by rw[if_neg hi],.inr ⟨hi,rfl⟩⟩
 rw[hw2.1]
 have ga3:=X3.kept (by omega) ga
 have k3:=X3.kept (by omega) k1'
 have xx:=((E0.trans X1).trans e2).trans X3
 rcases hw.2 with⟨i1,rfl,rfl⟩|⟨i1,rfl⟩
 ·rcases hw2.2 with⟨i2,rfl,rfl⟩|⟨i2,rfl⟩
  ·rw[if_pos (show QW q from⟨i1,i2⟩)]
   simp -dsimp (maxSteps:=1000000) (disch:=try exact dx) only[wpS,wpT,reduceEqDiff,reduceLeDiff,reduceAdd,zc44,st44,bv48,st48,ld44,pl48_0,pl48_1,ld48,cells8,wdC_len,wdC_all,wd_spl,row_of ga3,k3,wd_take,sh_sp1,sh_sp2,sh_sp3,shC_len,shC_all,sh_take]
   exact⟨(((xx.new _).put (by omega) _).put (by omega) _),rfl⟩
  ·rw[if_neg (show ¬QW q from fun h=>i2 h.2)]
   simp -dsimp (maxSteps:=1000000) (disch:=try exact dx) only[wpS,wpT,reduceEqDiff,reduceLeDiff,reduceAdd,zc44,st44,bv48,st48,ld48,cells8,wdC_len,wdC_all,wd_spl,k3,sh_tz]
   exact⟨(((xx.new _).put (by omega) _).put (by omega) _),by rw[sh_zeroV]⟩
 ·rw[if_neg (show ¬QW q from fun h=>i1 h.1)]
  simp -dsimp (maxSteps:=1000000) (disch:=try exact dx) only[wpS,wpT,reduceEqDiff,reduceLeDiff,reduceAdd,zc44,st44,bv48,st48,ld48,cells8,wdC_len,wdC_all,wd_spl,k3,sh_tz]
  exact⟨(((xx.new _).put (by omega) _).put (by omega) _),by rw[sh_zeroV]⟩
theorem refmake_ok {h:IH} (n d:Nat) (hn:n<W8) (hd:d<W8) (d0:d≠0):WV prog (.func (.func 76) #[] #[]) [wdV n,wdV d] h fun r h'=>Ext h h'∧r=(open Classical in if QW (Rat.divInt (wdI n) (wdI d)) then .tuple #[shareV (Rat.divInt (wdI n) (wdI d)),KI 0] else .tuple #[shV 0 0,KI 6]):=by
 refine enter (nt:=18) (rs:=[.cell 4 48,.tmp 5]) Proofs.Tryz.func76 rfl rfl rfl (by simp) ?_
 simp -dsimp (maxSteps:=1000000) (disch:=try exact dx) only[wpS,wpT,reduceEqDiff,reduceLeDiff,reduceAdd,zc48,ld44,bv44,cells8,wdC_len]
 obtain⟨H0,hH0,n0,E0,g0,g1,g2⟩:=boxes3 h (wdC n) (wdC d) Z16
 rw[←hH0]
 clear hH0
 have X0:=Ext.refl H0
 have L2:load prog H0 44 (ptr (2*(h.n+1)) 0)=some (wdV d):=by
  simp -dsimp (maxSteps:=1000000) (disch:=try exact dx) only[wpS,reduceLeDiff,ld44,row_of g1,wdC_len,wd_take]
  rfl
 have hz:binop prog .eql 44 (.tmp 6) (.tmp 7) (.agg (wdC d).toArray) (.agg #[ZW,ZW,ZW,ZW,ZW,ZW,ZW,ZW])=some (.bool false):=by
  rw[wd_zero,wdV,wd_eql hd (by have:=H8_two;have:=H8_pos;omega)]
  rw[decide_eq_false d0]
 have hdI:wdI d≠0:=fun h=>d0 ((wdI_zero_iff hd).1 h)
 simp -dsimp (maxSteps:=1000000) (disch:=try exact dx) only[wpS,reduceEqDiff,wd_take,hz]
 refine drawn [(2,[1])] (by kernel_rfl) (by kernel_rfl) rfl ?_
 simp -dsimp (maxSteps:=1000000) (disch:=try exact dx) only[wpS,reduceEqDiff,reduceLeDiff,ld44,row_of g0,wdC_len,wd_take]
 refine call (in_ok n hn) ?_
 rintro r1 h1 ⟨X1,p1⟩
 have m1:=X1.n
 simp -dsimp (maxSteps:=1000000) (disch:=try exact dx) only[wpS,reduceEqDiff,reduceLeDiff,ld44,row_of (X1.kept (by omega) g1),wdC_len,wd_take]
 refine call (in_ok d hd) ?_
 rintro r2 h2 ⟨hE2,p2⟩
 have X2:=X1.trans hE2
 have m2:=hE2.n
 simp -dsimp (maxSteps:=1000000) (disch:=try exact dx) only[wpS,reduceEqDiff]
 refine call (rlowest_ok (p1.keep hE2.keep) p2 (wdI_small hn) (wdI_small hd) hdI) ?_
 rintro r3 h3 ⟨hE3,p3⟩
 have X3:=X2.trans hE3
 have m3:=hE3.n
 simp -dsimp (maxSteps:=1000000) (disch:=try exact dx) only[wpS,reduceEqDiff]
 refine call (refout_ok p3) ?_
 rintro _ h4 ⟨hE4,rfl⟩
 have X4:=X3.trans hE4
 have m4:=hE4.n
 have kg:=X4.kept (by omega) g2
 by_cases hq:QW (Rat.divInt (wdI n) (wdI d))
 ·rw[if_pos hq]
  simp -dsimp (maxSteps:=1000000) (disch:=try exact dx) only[wpS,wpT,reduceEqDiff,reduceLeDiff,reduceAdd,st48,kg,shV_cells,shC_len,shC_all,sh_sp3]
  refine⟨by repeat' first|refine wpSteady_c2 ?_ ?_|refine wpSteady_t2 ?_ ?_|exact wpSteady_one rfl rfl rfl rfl (steady_ext (H0:=H0) rfl (by omega) (by assumption) (by assumption) (by with_reducible assumption)),?_⟩
  simp -dsimp (maxSteps:=1000000) (disch:=try exact dx) only[wpS,wpT,reduceEqDiff,reduceLeDiff,reduceAdd,ld48,shC_len,sh_take]
  exact⟨(E0.trans X4).put (by omega) _,rfl⟩
 ·rw[if_neg hq]
  simp -dsimp (maxSteps:=1000000) (disch:=try exact dx) only[wpS,wpT,reduceEqDiff,reduceLeDiff,reduceAdd,st48,kg,shV_cells,shC_len,shC_all,sh_sp3]
  refine⟨by repeat' first|refine wpSteady_c2 ?_ ?_|refine wpSteady_t2 ?_ ?_|exact wpSteady_one rfl rfl rfl rfl (steady_ext (H0:=H0) rfl (by omega) (by assumption) (by assumption) (by with_reducible assumption)),?_⟩
  simp -dsimp (maxSteps:=1000000) (disch:=try exact dx) only[wpS,wpT,reduceEqDiff,reduceLeDiff,reduceAdd,ld48,shC_len,sh_take]
  exact⟨(E0.trans X4).put (by omega) _,rfl⟩
theorem ref02Of_ok {h:IH} (n d:Int) (hn:In64 n) (hd:In64 d) (d0:d≠0):WV prog (.func (.func 43) #[] #[]) [KI n,KI d] h fun r h'=>Ext h h'∧r=.tuple #[shareV (Rat.divInt n d),KI 0]:=by
 have hd':(d == 0)=false:=by simpa using d0
 refine enter (nt:=15) (rs:=[.cell 4 48,.tmp 5]) Proofs.Tryz.func43 rfl rfl rfl (by simp) ?_
 simp -dsimp (maxSteps:=1000000) (disch:=try exact dx) only[wpS,reduceEqDiff,reduceAdd,zc48,hd']
 have E1:Ext h (h.new (.cells Z16 0 none)):=(Ext.refl h).new _
 have g1:(h.new (.cells Z16 0 none)).ext.get h.n=some (.cells Z16 0 none):=by simp (disch:=try exact dx) only[get_new_same]
 refine call (quick_ok n d hn hd d0) ?_
 rintro _ h1 ⟨X1,p1⟩
 simp -dsimp (maxSteps:=1000000) (disch:=try exact dx) only[wpS,reduceEqDiff]
 refine call (refout_ok p1) ?_
 rintro _ h2 ⟨X2,rfl⟩
 rw[if_pos (qw_div hn hd d0)]
 have m1:=X1.n
 have m2:=X2.n
 simp only[new_n] at m1
 have kg:=X2.kept (by omega) (X1.kept (by simp) g1)
 simp -dsimp (maxSteps:=1000000) (disch:=try exact dx) only[wpS,wpT,reduceEqDiff,reduceLeDiff,reduceAdd,st48,ld48,kg,shV_cells,shC_len,shC_all,sh_sp3,sh_take]
 exact⟨((E1.trans X1).trans X2).put (by omega) _,rfl⟩
end Go.Id

namespace Go.Id
open Go
theorem madeS_ok {h:IH} (n d:Nat) (hn:n<W8) (hd:d<W8) (d0:d≠0) (hq:QW (Rat.divInt (wdI n) (wdI d))):WV Proofs.Tryz.prog (.func (.func 110) #[] #[]) [wdV n,wdV d] h fun r h'=>Ext h h'∧r=shareV (Rat.divInt (wdI n) (wdI d)):=by
 refine enter (nt:=22) (rs:=[.cell 4 48]) Proofs.Tryz.func110 rfl rfl rfl (by simp) ?_
 simp -dsimp (maxSteps:=1000000) (disch:=try exact dx) only[wpS,Nat.reduceEqDiff,Nat.reduceLeDiff,Nat.reduceAdd,zc48,ld44,cells8,wdC_len,wd_take]
 obtain⟨H0,hH0,n0,E0,g0,g1,g2⟩:=boxes3 h (wdC n) (wdC d) Z16
 rw[←hH0]
 clear hH0
 refine call (refmake_ok n d hn hd d0) ?_
 rintro _ h1 ⟨X1,rfl⟩
 rw[if_pos hq]
 have m1:=X1.n
 have k2:=X1.kept (by omega) g2
 simp -dsimp (maxSteps:=1000000) (disch:=try exact dx) only[wpS,wpT,Nat.reduceEqDiff,Nat.reduceLeDiff,Nat.reduceAdd,zc48,st48,ld48,k2,shV_cells,shC_len,shC_all,sh_sp3,sh_take]
 exact⟨(((E0.trans X1).new _).put (by omega) _).put (by omega) _,rfl⟩
def shI (n:Int):Nat×Nat:=(wideN n,wideN 1)
theorem shI_lt {n:Int} (hn:In64 n):(shI n).1<W8∧(shI n).2<W8:=⟨wideN_lt (inW64 hn),wideN_lt (z:=1) (inW64 ⟨by omega,by omega⟩)⟩
end Go.Id

namespace Go.Id
open Go
open Go.Proofs.Tryz (prog)
section
variable {P:Program}
theorem pr_program:pureRun P (program)=some P:=rfl
theorem pr_part_agg {e:TypeId} {n:Nat} (hA:isAggT P e=some true) (hs:sizeT P e=some n) (cs:Array Value) (off:Nat):pureRun P (part e cs off)=some (.agg (cs.extract off (off+n))):=by
 unfold part
 have h1:pureRun P (isAgg e)=some true:=by
  unfold isAgg
  simp only[isAggT,Option.map_eq_some_iff] at hA
  obtain⟨d,hd,hA⟩:=hA
  rw[pr_bind (pr_underlying hd)]
  cases d<;>first|rfl|(simp at hA)
 rw[pr_bind h1]
 simp only[if_true]
 rw[pr_bind (pr_sizeOf hs)]
 rfl
theorem binop_eql_gen {t:TypeId} {x y:Array Value} {b:Bool} (hg:P.eqGuardType P.depth t=false) (hx:plain (.agg x)=true) (hy:plain (.agg y)=true) (h:pureRun P (Op.equal t (.agg x) (.agg y))=some b) (ox oy:Operand):binop P .eql t ox oy (.agg x) (.agg y)=some (.bool b):=by
 refine binop_of P t ox oy hx hy rfl ?_
 have h1:pureRun P (eqGuard .eql t ox oy (.agg x) (.agg y))=some ():=by
  show pureRun P (if (!P.eqGuardType P.depth t)=true then _ else _)=_
  rw[hg];rfl
 rw[pr_bind h1]
 show pureRun P (Op.equal t _ _ >>= fun r=>pure (Value.bool r))=_
 rw[pr_bind h];rfl
theorem binop_neq_gen {t:TypeId} {x y:Array Value} {b:Bool} (hg:P.eqGuardType P.depth t=false) (hx:plain (.agg x)=true) (hy:plain (.agg y)=true) (h:pureRun P (Op.equal t (.agg x) (.agg y))=some b) (ox oy:Operand):binop P .neq t ox oy (.agg x) (.agg y)=some (.bool (!b)):=by
 refine binop_of P t ox oy hx hy rfl ?_
 have h1:pureRun P (eqGuard .neq t ox oy (.agg x) (.agg y))=some ():=by
  show pureRun P (if (!P.eqGuardType P.depth t)=true then _ else _)=_
  rw[hg];rfl
 rw[pr_bind h1]
 show pureRun P (Op.equal t _ _ >>= fun r=>pure (Value.bool !r))=_
 rw[pr_bind h];rfl
end
theorem sh_ext1 (n d:Nat):((shC n d).toArray).extract 0 8=(wdC n).toArray:=by
 simp only[List.extract_toArray,List.extract_eq_take_drop]
 rw[show(8 - 0)=8 from rfl,sh_take1]
theorem sh_ext2 (n d:Nat):((shC n d).toArray).extract 8 16=(wdC d).toArray:=by
 simp only[List.extract_toArray,List.extract_eq_take_drop]
 rw[show(16 - 8)=8 from rfl,sh_take2]
theorem wd_equalIn {n m:Nat} (hn:n<W8) (hm:m<W8) (k:Nat):pureRun prog (Op.equalIn (k+2) 44 (.agg (wdC n).toArray) (.agg (wdC m).toArray))=some (decide (n=m)):=by
 rw[wdC_map,wdC_map,pr_equal_arr u44 u42 sz42 _ _ _ (by simp) (by simp),wd_dec hn hm]
theorem sh_equalIn {n d n' d':Nat} (h1:n<W8) (h2:d<W8) (h3:n'<W8) (h4:d'<W8) (k:Nat):pureRun prog (Op.equalIn (k+3) 48 (.agg (shC n d).toArray) (.agg (shC n' d').toArray))=some (decide (n=n'∧d=d')):=by
 unfold Op.equalIn
 rw[pr_bind (pr_underlying (show Program.underlying prog 48=some (.struct { toList:=[{ name := "N",type:=44,offset:=0,embedded:=false,tag := "",pkgPath := "",byteOffset:=0 },{ name := "D",type:=44,offset:=8,embedded:=false,tag := "",pkgPath := "",byteOffset:=64 }] }) by kernel_rfl))]
 simp only
 rw[pr_bind pr_program,show Program.stoodInHeld prog 48=false by kernel_rfl]
 have seq : ∀{α β:Type} (s:Sem α) (f:α→Sem β),pureRun prog (s >>= f)=(pureRun prog s).bind fun a=>pureRun prog (f a):=fun s f=>pureRun_seq _ f s
 have p1:=fun(n d:Nat)=>pr_part_agg (P:=prog) ag44 sz44 (shC n d).toArray 0
 have p2:=fun(n d:Nat)=>pr_part_agg (P:=prog) ag44 sz44 (shC n d).toArray 8
 have n1:("N" ≠ "_")=True:=by simp
 have n2:("D" ≠ "_")=True:=by simp
 simp only[Bool.false_eq_true,if_false,←Array.forIn_toList,List.forIn_cons,List.forIn_nil,seq,n1,n2,if_true,p1,Option.bind_some,Nat.zero_add,sh_ext1,wd_equalIn h1 h3]
 by_cases e1:n=n'
 ·simp only[decide_eq_true e1,Bool.not_true,Bool.false_eq_true,if_false,pr_pure,Option.bind_some,seq,p2,show(8+8:Nat)=16 from rfl,sh_ext2,wd_equalIn h2 h4]
  by_cases e2:d=d'
  ·simp only[decide_eq_true e2,Bool.not_true,Bool.false_eq_true,if_false,pr_pure,Option.bind_some]
   rw[decide_eq_true (And.intro e1 e2)]
  ·simp only[decide_eq_false e2,Bool.not_false,if_true,pr_pure,Option.bind_some]
   rw[decide_eq_false (fun h=>e2 h.2)]
 ·simp only[decide_eq_false e1,Bool.not_false,if_true,pr_pure,Option.bind_some]
  rw[decide_eq_false (fun h=>e1 h.1)]
theorem sh_plain (n d:Nat):plain (.agg (shC n d).toArray)=true:=by
 simp only[plain,shC,wdC]
 simp[scal]
theorem sh_eql {n d n' d':Nat} (h1:n<W8) (h2:d<W8) (h3:n'<W8) (h4:d'<W8) (ox oy:Operand):binop prog .eql 48 ox oy (.agg (shC n d).toArray) (.agg (shC n' d').toArray)=some (.bool (decide (n=n'∧d=d'))):=by
 exact binop_eql_gen (by kernel_rfl) (sh_plain _ _) (sh_plain _ _) (sh_equalIn h1 h2 h3 h4 9997) ox oy
theorem sh_neq {n d n' d':Nat} (h1:n<W8) (h2:d<W8) (h3:n'<W8) (h4:d'<W8) (ox oy:Operand):binop prog .neq 48 ox oy (.agg (shC n d).toArray) (.agg (shC n' d').toArray)=some (.bool (!decide (n=n'∧d=d'))):=by
 exact binop_neq_gen (by kernel_rfl) (sh_plain _ _) (sh_plain _ _) (sh_equalIn h1 h2 h3 h4 9997) ox oy
end Go.Id

namespace Go.Id
open Go
end Go.Id

namespace Go.Id
open Go
end Go.Id

namespace Go.Id
open Go
open Go.Proofs.Tryz (prog)
open Nat (reduceAdd reduceEqDiff reduceLeDiff)
set_option maxHeartbeats 16000000
theorem drsmall_ok {h:IH} {b:Bool} {x:Value} {n:Int} (hx:([x]:List Value).all cellOK=true) (h0:0≤n) (hn:n<4294967296) :
  WV prog (.func (.func 109) #[] #[]) [.agg #[.bool b,x,.int .u32 n]] h fun r h'=>Ext h h' ∧ ∃z:Int,r=KI z ∧ -1000000≤z∧z≤1000000:=by
 have E1:Ext h (h.new (.cells [.bool b,x,.int .u32 n] 0 none)):=(Ext.refl h).new _
 have hm:0≤n % 1000001:=by omega
 have hm2:n % 1000001≤1000000:=by omega
 have hx':cellOK x=true:=by simpa using hx
 refine enter (nt:=13) (rs:=[.tmp 2]) Proofs.Tryz.func109 rfl rfl rfl (by simp) ?_
 simp -dsimp (maxSteps:=1000000) (disch:=try exact dx) only[wpS,reduceEqDiff,fa79_2,ld77,cv77_3,fa79_0,ld4]
 cases b
 ·simp -dsimp (maxSteps:=1000000) (disch:=try exact dx) only[wpS,reduceEqDiff]
  exact⟨E1,_,rfl,by omega,by omega⟩
 ·simp -dsimp (maxSteps:=1000000) (disch:=try exact dx) only[wpS,reduceEqDiff]
  exact⟨E1,_,rfl,by omega,by omega⟩
theorem tmod_small (z:Int) : -1000<z.tmod 1000∧z.tmod 1000<1000:=by
 rcases Int.le_total 0 z with h|h
 ·rw[Int.tmod_eq_emod_of_nonneg h];omega
 ·obtain⟨w,rfl⟩ : ∃w,z = -w:=⟨-z,by omega⟩
  rw[Int.neg_tmod,Int.tmod_eq_emod_of_nonneg (by omega)];omega
theorem shortS_ok {h:IH} (a c:Int) (ha : -1000<a∧a<1000) (hc:0<c∧c<25):WV prog (.func (.func 110) #[] #[]) [wideV a,wideV c] h fun r h'=>Ext h h'∧r=shareV (Rat.divInt a c):=by
 have ia:In64 a:=⟨by omega,by omega⟩
 have ic:In64 c:=⟨by omega,by omega⟩
 have e1:wdI (wideN a)=a:=wdI_wideN (inW64 ia)
 have e2:wdI (wideN c)=c:=wdI_wideN (inW64 ic)
 have hz:wideN c≠0:=by
  intro e
  rw[e] at e2
  have:wdI 0=0:=by decide +kernel
  omega
 have hq:QW (Rat.divInt (wdI (wideN a)) (wdI (wideN c))):=by
  rw[e1,e2]
  exact qw_div ia ic (by omega)
 have:=madeS_ok (h:=h) (wideN a) (wideN c) (wideN_lt (inW64 ia)) (wideN_lt (inW64 ic)) hz hq
 rw[e1,e2] at this
 exact this
theorem drshort_ok {h:IH} {b b2:Bool} {x x2:Value} {n n2:Int} (hx:([x]:List Value).all cellOK=true) (hx2:([x2]:List Value).all cellOK=true) (h0:0≤n) (hn:n<4294967296) (g0:0≤n2) (gn:n2<4294967296) :
  WV prog (.func (.func 101) #[] #[]) [.agg #[.bool b,x,.int .u32 n,.bool b2,x2,.int .u32 n2]] h fun r h'=>Ext h h' ∧ ∃a c:Int,(-1000<a∧a<1000)∧(0<c∧c<25)∧r=shareV (Rat.divInt a c):=by
 have hx':cellOK x=true:=by simpa using hx
 have hx2':cellOK x2=true:=by simpa using hx2
 obtain⟨H0,hH0,n0,E0,k0,k1⟩:=boxes2 h [.bool b,x,.int .u32 n,.bool b2,x2,.int .u32 n2] Z16
 refine enter (nt:=21) (rs:=[.cell 2 48]) Proofs.Tryz.func101 rfl rfl rfl (by simp) ?_
 simp -dsimp (maxSteps:=1000000) (disch:=try exact dx) only[wpS,wpT,reduceEqDiff,reduceLeDiff,reduceAdd,zc48,fa81_1,ld79]
 rw[←hH0]
 clear hH0
 refine call (drsmall_ok hx2 g0 gn) ?_
 rintro _ h1 ⟨X1,z,rfl,z0,z1⟩
 have m1:=X1.n
 have kx:=X1.kept (by omega) k0
 have cases2:z<0∨0≤z:=by omega
 rcases cases2 with hz|hz
 ·obtain⟨w,hw⟩ : ∃w,w = -z:=⟨_,rfl⟩
  have c1:decide (z<0)=true:=decide_eq_true hz
  simp -dsimp (maxSteps:=1000000) (disch:=try exact dx) only[wpS,wpT,reduceEqDiff,reduceLeDiff,reduceAdd,ld79,fa81_0,c1,row_of kx]
  rw[←hw]
  refine call (drsmall_ok hx h0 hn) ?_
  rintro _ h2 ⟨X2,y,rfl,y0,y1⟩
  have m2:=X2.n
  have hr : ∀ox oy,binop prog .rem 3 ox oy (KI y) (KI 1000)=some (KI (y.tmod 1000)):=fun _ _=>binop_rem _ _ _ _ (by decide)
  have hy:=tmod_small y
  simp -dsimp (maxSteps:=1000000) (disch:=try exact dx) only[wpS,reduceEqDiff,hr]
  refine call (refOf_ok (y.tmod 1000) ⟨by omega,by omega⟩) ?_
  rintro _ h3 ⟨X3,rfl⟩
  have m3:=X3.n
  simp -dsimp (maxSteps:=1000000) (disch:=try exact dx) only[wpS,reduceEqDiff]
  refine call (refOf_ok (1+w % 24) ⟨by omega,by omega⟩) ?_
  rintro _ h4 ⟨X4,rfl⟩
  have m4:=X4.n
  simp -dsimp (maxSteps:=1000000) (disch:=try exact dx) only[wpS,reduceEqDiff]
  refine call (shortS_ok (y.tmod 1000) (1+w % 24) hy ⟨by omega,by omega⟩) ?_
  rintro _ h5 ⟨X5,rfl⟩
  have m5:=X5.n
  have XX:=(((X1.trans X2).trans X3).trans X4).trans X5
  have k2:=XX.kept (by omega) k1
  simp -dsimp (maxSteps:=1000000) (disch:=try exact dx) only[wpS,wpT,reduceEqDiff,reduceLeDiff,reduceAdd,st48,ld48,k2,shV_cells,shC_len,shC_all,sh_sp3,sh_take]
  exact⟨(E0.trans XX).put (by omega) _,_,_,hy,⟨by omega,by omega⟩,rfl⟩
 ·obtain⟨w,hw⟩ : ∃w,w=z:=⟨_,rfl⟩
  have c1:decide (z<0)=false:=decide_eq_false (by omega)
  simp -dsimp (maxSteps:=1000000) (disch:=try exact dx) only[wpS,wpT,reduceEqDiff,reduceLeDiff,reduceAdd,ld79,fa81_0,c1,row_of kx]
  rw[←hw]
  refine call (drsmall_ok hx h0 hn) ?_
  rintro _ h2 ⟨X2,y,rfl,y0,y1⟩
  have m2:=X2.n
  have hr : ∀ox oy,binop prog .rem 3 ox oy (KI y) (KI 1000)=some (KI (y.tmod 1000)):=fun _ _=>binop_rem _ _ _ _ (by decide)
  have hy:=tmod_small y
  simp -dsimp (maxSteps:=1000000) (disch:=try exact dx) only[wpS,reduceEqDiff,hr]
  refine call (refOf_ok (y.tmod 1000) ⟨by omega,by omega⟩) ?_
  rintro _ h3 ⟨X3,rfl⟩
  have m3:=X3.n
  simp -dsimp (maxSteps:=1000000) (disch:=try exact dx) only[wpS,reduceEqDiff]
  refine call (refOf_ok (1+w % 24) ⟨by omega,by omega⟩) ?_
  rintro _ h4 ⟨X4,rfl⟩
  have m4:=X4.n
  simp -dsimp (maxSteps:=1000000) (disch:=try exact dx) only[wpS,reduceEqDiff]
  refine call (shortS_ok (y.tmod 1000) (1+w % 24) hy ⟨by omega,by omega⟩) ?_
  rintro _ h5 ⟨X5,rfl⟩
  have m5:=X5.n
  have XX:=(((X1.trans X2).trans X3).trans X4).trans X5
  have k2:=XX.kept (by omega) k1
  simp -dsimp (maxSteps:=1000000) (disch:=try exact dx) only[wpS,wpT,reduceEqDiff,reduceLeDiff,reduceAdd,st48,ld48,k2,shV_cells,shC_len,shC_all,sh_sp3,sh_take]
  exact⟨(E0.trans XX).put (by omega) _,_,_,hy,⟨by omega,by omega⟩,rfl⟩
end Go.Id

namespace Go.Id
open Go
end Go.Id

namespace Go.Id
open Go
open Go.Proofs.Tryz (prog)
open Nat (reduceAdd reduceEqDiff reduceLeDiff)
set_option maxHeartbeats 16000000
theorem one_ok {h:IH} {v:Value} {z:Int} (hv:LongIs h v z):WV prog (.func (.func 205) #[] #[]) [v] h fun r h'=>Ext h h'∧r=.bool (decide (z=1)):=by
 obtain⟨s,rfl,ds,hD,hN,hx⟩:=hv
 have E1:Ext h (h.new (.cells [.bool (decide (z<0)),s] 0 none)):=(Ext.refl h).new _
 refine enter (nt:=19) (rs:=[.tmp 2]) Proofs.Tryz.func205 rfl rfl rfl (by simp) ?_
 by_cases h1:ds.length=1
 ·obtain⟨x,rfl⟩:=List.length_eq_one_iff.1 h1
  have hv:valD [x]=x:=by simp[valD,valT]
  rw[hv] at hx
  have ib:indexAddr prog 25 s (.int .i64 0)=some (elemAddr s 0):=by
   simpa using hD.1.idxI (P:=prog) (t:=25) es25 (k:=.i64) (i:=0) (by omega) (by simp)
  have l0:load prog (h.new (.cells [.bool (decide (z<0)),s] 0 none)) 3 (elemAddr s 0)=some (KN x):=hD.1.ld E1.keep (P:=prog) (t:=3) (c:=0) (by simp) ag3
  have hl:=fun h'=>hD.1.len (P:=prog) sl25 h'
  have hl' : ∀h',lenB prog h' 25 s=some (.int .i64 1):=fun h'=>hl h'
  by_cases hx1:x=1
  ·subst hx1
   have l0':load prog (h.new (.cells [.bool (decide (z<0)),s] 0 none)) 3 (elemAddr s 0)=some (KI 1):=l0
   simp -dsimp (maxSteps:=1000000) (disch:=try exact dx) only[wpS,wpT,reduceEqDiff,fa131_1,ld25,fa131_0,ld4,hl',ib,l0']
   refine⟨E1,congrArg Value.bool ?_⟩
   by_cases h0:z<0
   ·rw[decide_eq_true h0,decide_eq_false (by omega)];rfl
   ·rw[decide_eq_false h0,decide_eq_true (by omega)];rfl
  ·have c1:((x:Int) == 1)=false:=by simp;omega
   simp -dsimp (maxSteps:=1000000) (disch:=try exact dx) only[wpS,wpT,reduceEqDiff,fa131_1,ld25,hl',ib,l0,c1]
   exact⟨E1,by rw[decide_eq_false (by omega)]⟩
 ·have c1:((ds.length:Int) == 1)=false:=by simp;omega
  simp -dsimp (maxSteps:=1000000) (disch:=try exact dx) only[wpS,wpT,reduceEqDiff,fa131_1,ld25,hD.1.len sl25,c1]
  refine⟨E1,?_⟩
  rw[decide_eq_false]
  rintro rfl
  have h2:valD ds=1:=hx
  have h3:=hN.len_le (b:=[1]) (by intro d hd;simp at hd;omega) (by rw[h2];simp[valD,valT])
  have h4:=hN.nil_iff
  rcases Nat.lt_or_ge 0 ds.length with h5|h5
  ·simp at h3;omega
  ·have:ds = []:=List.length_eq_zero_iff.1 (by omega)
   rw[this] at h2;simp[valD,valT] at h2
theorem refright_ok {h:IH} (n d:Nat) (hn:n<W8) (hd:d<W8):WV prog (.func (.func 126) #[] #[]) [shV n d] h fun r h'=>Ext h h'∧r=.bool (decide (okS n d)):=by
 refine enter (nt:=26) (rs:=[.tmp 2]) Proofs.Tryz.func126 rfl rfl rfl (by simp) ?_
 simp -dsimp (maxSteps:=1000000) (disch:=try exact dx) only[wpS,shV_cells]
 obtain⟨H0,hH0⟩ : ∃H0,H0=h.new (.cells (shC n d) 0 none):=⟨_,rfl⟩
 have E0:Ext h H0:=by rw[hH0];exact(Ext.refl h).new _
 have n0:H0.n=h.n+1:=by rw[hH0];rfl
 have g0:H0.ext.get h.n=some (.cells (shC n d) 0 none):=by rw[hH0];simp (disch:=try exact dx) only[get_new_same]
 rw[←hH0]
 clear hH0
 have X0:=Ext.refl H0
 obtain⟨L1,L2,_⟩:=psh g0
 refine drawn [(4,[2])] (by kernel_rfl) (by kernel_rfl) rfl ?_
 simp -dsimp (maxSteps:=1000000) (disch:=try exact dx) only[wpS,reduceEqDiff,reduceLeDiff,fa48_0,ld44,row_of g0,shC_len,sh_take1]
 refine call (in_ok n hn) ?_
 rintro _ h1 ⟨X1,p1⟩
 have m1:=X1.n
 simp -dsimp (maxSteps:=1000000) (disch:=try exact dx) only[wpS,reduceEqDiff,reduceLeDiff,reduceAdd,ld44,fa48_1,row_of (X1.kept (by omega) g0),shC_len,sh_take2]
 refine call (in_ok d hd) ?_
 rintro _ h2 ⟨X2,p2⟩
 have m2:=X2.n
 have X12:=X1.trans X2
 obtain⟨s1,n1',rfl,c1,o1,_,_⟩:=p1.form
 obtain⟨s2,n2',rfl,c2,o2,lenD,zD⟩:=p2.form
 simp -dsimp (maxSteps:=1000000) (disch:=try exact dx) only[wpS,wpT,reduceEqDiff,reduceLeDiff,reduceAdd,zc131,st131,o1,o2]
 refine⟨by repeat' first|refine wpSteady_c2 ?_ ?_|refine wpSteady_t2 ?_ ?_|exact wpSteady_one rfl rfl rfl rfl (steady_ext (H0:=H0) rfl (by omega) (by assumption) (by assumption) (by with_reducible assumption)),?_⟩
 obtain⟨K0,hK0⟩ : ∃K0,K0=((((h2.new (.cells ZL 0 none)).new (.cells ZL 0 none)).put h2.n (.cells [.bool (decide (wdI n<0)),s1] 0 none)).put (h2.n+1) (.cells [.bool (decide (wdI d<0)),s2] 0 none)):=⟨_,rfl⟩
 have e3:Ext h2 K0:=by rw[hK0];exact((((Ext.refl _).new _).new _).put (Nat.le_refl _) _).put (by omega) _
 have n3:K0.n=h2.n+2:=by rw[hK0];rfl
 have ga:K0.ext.get h2.n=some (.cells [.bool (decide (wdI n<0)),s1] 0 none):=by rw[hK0];simp (disch:=try exact dx) only[get_put_same,get_put_old]
 have gb:K0.ext.get (h2.n+1)=some (.cells [.bool (decide (wdI d<0)),s2] 0 none):=by rw[hK0];simp (disch:=try exact dx) only[get_put_same]
 simp -dsimp (maxSteps:=1000000) (disch:=try exact dx) only[wpS,wpT,reduceEqDiff,reduceAdd,fa131_0,ld4]
 rw[←hK0]
 clear hK0
 have q1:=p1.keep (X2.trans e3).keep
 have q2:=p2.keep e3.keep
 have E3:=(E0.trans X12).trans e3
 by_cases hneg:wdI d<0
 ·have cn:decide (wdI d<0)=true:=decide_eq_true hneg
  rw[cn] at gb
  simp -dsimp (maxSteps:=1000000) (disch:=try exact dx) only[wpS,wpT,reduceEqDiff]
  exact⟨E3,by rw[decide_eq_false (fun h=>by have:=h.1;omega)]⟩
 ·have cn:decide (wdI d<0)=false:=decide_eq_false hneg
  rw[cn] at gb q2
  by_cases hz:wdI d=0
  ·have c0:decide ((0:Int)<(n2':Int))=false:=decide_eq_false (by have:=zD.2 hz;omega)
   simp -dsimp (maxSteps:=1000000) (disch:=try exact dx) only[wpS,wpT,reduceEqDiff,fa131_1,ld25,row_of gb,lenD sl25,c0]
   exact⟨E3,by rw[decide_eq_false (fun h=>by have:=h.1;omega)]⟩
  ·have c0:decide ((0:Int)<(n2':Int))=true:=decide_eq_true (by
    have:n2'≠0:=fun h=>hz (zD.1 h)
    omega)
   simp -dsimp (maxSteps:=1000000) (disch:=try exact dx) only[wpS,wpT,reduceEqDiff,reduceLeDiff,reduceAdd,fa131_1,ld25,ld131,row_of ga,row_of gb,lenD sl25,c0,tk2']
   refine call (divisor_ok q1 q2 (wdI_small hn) (wdI_small hd)) ?_
   rintro g h4 ⟨X4,hg⟩
   simp -dsimp (maxSteps:=1000000) (disch:=try exact dx) only[wpS,wpT,reduceEqDiff]
   refine call (one_ok hg) ?_
   rintro _ h5 ⟨X5,rfl⟩
   simp -dsimp (maxSteps:=1000000) (disch:=try exact dx) only[wpS,reduceEqDiff]
   refine⟨(E3.trans X4).trans X5,congrArg Value.bool ?_⟩
   rw[decide_eq_decide]
   unfold okS
   constructor
   ·intro h;exact⟨by omega,by omega⟩
   ·rintro⟨_,h⟩;omega
end Go.Id

namespace Go.Id
open Go
theorem rfright_ok {h:IH} {v:Value} {l:List (Nat×Nat)} (hv:ShSl h v l):WV Proofs.Tryz.prog (.func (.func 204) #[] #[]) [v] h fun r h'=>Ext h h'∧r=KI (chErr l):=by
 have hlb:=hv.2.1
 unfold chErr
 refine enter (nt:=22) (rs:=[.tmp 2]) Proofs.Tryz.func204 rfl rfl rfl (by simp) ?_
 by_cases h2:200<l.length
 ·have c1:decide ((200:Int)<(l.length:Int))=true:=decide_eq_true (by omega)
  rw[if_pos h2]
  simp -dsimp (maxSteps:=1000000) (disch:=try exact dx) only[wpS,wpT,Nat.reduceEqDiff,hv.1.len sl82,c1]
  exact Ext.refl _
 ·have c1:decide ((200:Int)<(l.length:Int))=false:=decide_eq_false (by omega)
  rw[if_neg h2]
  simp -dsimp (maxSteps:=1000000) (disch:=try exact dx) only[wpS,Nat.reduceEqDiff,hv.1.len sl82,c1]
  refine loop (fun m fr h1 => ∃i:Nat,i+m=l.length∧Ext h h1∧(∀j p,j<i→l[j]?=some p→okS p.1 p.2)∧fget fr 0=some v∧fget fr 3=some (KN i)) l.length
   ⟨0,by omega,Ext.refl _,fun j p hj=>by omega,by simp,by simp⟩ ?_
  rintro m fr h1 ⟨i,him,hE,hok,f0,f3⟩
  simp -dsimp (maxSteps:=1000000) (disch:=try exact dx) only[wpS,Nat.reduceEqDiff,f0,f3,hv.1.len sl82]
  refine bq_intro ?_ ?_<;>intro hc<;>simp only[decide_eq_true_eq,decide_eq_false_iff_not] at hc
  ·have hi:i<l.length:=by omega
   obtain⟨p,hp⟩ : ∃p,l[i]?=some p:=⟨_,List.getElem?_eq_getElem hi⟩
   have hpm:=List.mem_of_getElem? hp
   obtain⟨w1,w2⟩:=hv.2.2 p hpm
   simp -dsimp (maxSteps:=1000000) (disch:=try exact dx) only[wpS,wpT,Nat.reduceEqDiff,f0,f3,hv.1.idx es82 hi,hv.ld hE.keep hp]
   refine call (refright_ok p.1 p.2 w1 w2) ?_
   rintro _ h3 ⟨hE2,rfl⟩
   have E2:=hE.trans hE2
   by_cases hk:okS p.1 p.2
   ·rw[decide_eq_true hk]
    simp -dsimp (maxSteps:=1000000) (disch:=try exact dx) only[wpS,wpT,Nat.reduceEqDiff,f3]
    refine⟨m - 1,by omega,i+1,by omega,E2,?_,by simp[f0],by simp⟩
    intro j q hj hq
    by_cases hji:j=i
    ·subst hji;rw[hp] at hq;cases hq;exact hk
    ·exact hok j q (by omega) hq
   ·rw[decide_eq_false hk,if_pos (fun hall=>hk (hall p hpm))]
    simp -dsimp (maxSteps:=1000000) (disch:=try exact dx) only[wpS,wpT,Nat.reduceEqDiff]
    exact E2
  ·have hall:allOk l:=by
    intro p hp
    obtain⟨j,hj⟩:=List.getElem?_of_mem hp
    have:=(List.getElem?_eq_some_iff.1 hj).1
    exact hok j p (by omega) hj
   rw[if_neg (fun hn=>hn hall)]
   by_cases h0:l.length=0
   ·have c2:((l.length:Int) == 0)=true:=by simp;exact List.length_eq_zero_iff.1 h0
    rw[if_pos h0]
    simp -dsimp (maxSteps:=1000000) (disch:=try exact dx) only[wpS,wpT,Nat.reduceEqDiff,f0,hv.1.len sl82,c2]
    exact hE
   ·have c2:((l.length:Int) == 0)=false:=by simp;intro hn;rw[hn] at h0;simp at h0
    rw[if_neg h0]
    simp -dsimp (maxSteps:=1000000) (disch:=try exact dx) only[wpS,wpT,Nat.reduceEqDiff,f0,hv.1.len sl82,c2]
    exact hE
end Go.Id

namespace Go.Id
open Go
theorem shL_take : ∀(i:Nat) (l:List (Nat×Nat)),shL (l.take i)=(shL l).take (i*16)
 | 0,l=>by simp[shL]
 | i+1,[]=>by simp[shL]
 | i+1,a :: l=>by
  have ih:=shL_take i l
  simp only[shL] at ih
  rw[List.take_succ_cons,shL,shL,List.flatMap_cons,List.flatMap_cons,show(i+1)*16=(shC a.1 a.2).length+i*16 by rw[shC_len];omega,List.take_length_add_append,ih]
end Go.Id

namespace Go.Id
open Go
def ShArg (h:IH) (v:Value) (l:List (Nat×Nat)):Prop:=SlOf h 16 v l.length (shL l) ∧ ∀p∈l,p.1<W8∧p.2<W8
theorem ShArg.keep {h h':IH} {v:Value} {l:List (Nat×Nat)} (s:ShArg h v l) (e:Keep h h'):ShArg h' v l:=⟨s.1.keep e,s.2⟩
theorem ShArg.first {h h':IH} {v:Value} {l:List (Nat×Nat)} (s:ShArg h v l) (kp:Keep h h') {m:Nat} (hm:m≤l.length) (hm2:m≤100000) : ∃v',sliceOp Proofs.Tryz.prog h' 82 v none (some (KN m)) none=some v'∧ShSl h v' (l.take m):=by
 obtain⟨a,c⟩:=s
 obtain⟨v',e1,e2⟩:=a.slice kp (P:=Proofs.Tryz.prog) (t:=82) u82 sz48 (l:=0) (m:=m) (Nat.zero_le _) hm (lo:=none) (hi:=some (KN m)) rfl (fun c hc=>natOf_nat (k:=.i64) (by omega))
 refine⟨v',e1,?_,by rw[List.length_take];omega,fun p hp=>c p (List.mem_of_mem_take hp)⟩
 rw[List.length_take,Nat.min_eq_left hm,shL_take]
 simpa using e2
end Go.Id
