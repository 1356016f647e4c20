/-
  Contracts: the reference's shares: in, out, made, valid; fractions of integers. Contracts: the laws' own helpers: shares of integers, lists of them.
-/
import Derived.Test.YtjhnilfelokpcaaGreatOutlierTellsAr
import Derived.Test.YtjhnilfelokpcaaGreatOutlierTellsBg
import Derived.Test.YtjhnilfelokpcaaGreatOutlierTellsBf
import Derived.Test.YtjhnilfelokpcaaGreatOutlierTellsAs
import Derived.Test.YtjhnilfelokpcaaGreatOutlierTellsAq
set_option linter.unusedVariables false
set_option linter.unusedSimpArgs false
set_option linter.defProp false
set_option linter.deprecated false
namespace Go.Id
open Go
open Go.Proofs.Tryz (prog)
open Nat (reduceAdd reduceEqDiff reduceLeDiff)
set_option maxHeartbeats 16000000
theorem quick_ok {h:IH} (n d:Int) (hn:In64 n) (hd:In64 d) (d0:d≠0):WV prog (.func (.func 122) #[] #[]) [KI n,KI d] h fun r h'=>Ext h h'∧RRat h' r (Rat.divInt n d):=by
 refine enter (nt:=10) (rs:=[.cell 4 186]) Proofs.Tryz.func122 rfl rfl rfl (by simp) ?_
 simp -dsimp (maxSteps:=1000000) (disch:=try exact dx) only[wpS,reduceEqDiff,reduceAdd,zc186]
 have E1:Ext h (h.new (.cells ZR 0 none)):=(Ext.refl h).new _
 have g1:(h.new (.cells ZR 0 none)).ext.get h.n=some (.cells ZR 0 none):=by simp (disch:=try exact dx) only[get_new_same]
 refine call (long1_ok n hn) ?_
 rintro _ h1 ⟨X1,p1⟩
 simp -dsimp (maxSteps:=1000000) (disch:=try exact dx) only[wpS,reduceEqDiff]
 refine call (long1_ok d hd) ?_
 rintro _ h2 ⟨X2,p2⟩
 simp -dsimp (maxSteps:=1000000) (disch:=try exact dx) only[wpS,reduceEqDiff]
 have sn:SmallI n:=small64 (by have:=hn.1;have:=hn.2;omega)
 have sd:SmallI d:=small64 (by have:=hd.1;have:=hd.2;omega)
 refine call (rlowest_ok (p1.keep X2.keep) p2 sn sd d0) ?_
 rintro _ h3 ⟨X3,p3⟩
 have m1:=X1.n
 have m2:=X2.n
 have m3:=X3.n
 simp only[new_n] at m1
 obtain⟨a3,s3,b3,t3,rfl,_,_,d1,o1,d2,o2,o3,o4⟩:=p3.parts
 have kg:=X3.kept (by omega) (X2.kept (by omega) (X1.kept (by simp) g1))
 simp -dsimp (maxSteps:=1000000) (disch:=try exact dx) only[wpS,wpT,reduceEqDiff,reduceLeDiff,reduceAdd,st186,ld186,kg,o1,o2,o3,o4,tk4']
 exact⟨(((E1.trans X1).trans X2).trans X3).put (by omega) _,p3.keep ((Keep.refl _).put kg _)⟩
theorem refout_ok {h:IH} {v:Value} {q:Rat} (hv:RRat h v q):WV prog (.func (.func 121) #[] #[]) [v] h fun r h'=>Ext h h'∧r=(open Classical in if QW q then .tuple #[shareV q,KI 0] else .tuple #[shV 0 0,KI 6]):=by
 obtain⟨a1,s1,b1,t1,rfl,hn1,hd1,c1,o1,c2,o2,o3,o4⟩:=hv.parts
 refine enter (nt:=30) (rs:=[.cell 2 48,.tmp 3]) Proofs.Tryz.func121 rfl rfl rfl (by simp) ?_
 simp -dsimp (maxSteps:=1000000) (disch:=try exact dx) only[wpS,wpT,reduceEqDiff,reduceLeDiff,reduceAdd,zc48,fa186_0,ld131]
 obtain⟨H0,hH0,n0,E0,g0,g1⟩:=boxes2 h [a1,s1,b1,t1] Z16
 rw[←hH0]
 clear hH0
 simp -dsimp (maxSteps:=1000000) (disch:=try exact dx) only[tkA]
 refine call (out_ok (hn1.keep E0.keep)) ?_
 rintro _ h1 ⟨X1,rfl⟩
 have m1:=X1.n
 obtain⟨w1,e1,hw⟩ : ∃w1 e1,(if InW q.num then Value.tuple #[wideV q.num,KI 0] else .tuple #[wdV 0,KI 6])=.tuple #[wdV w1,KI e1]∧(InW q.num∧w1=wideN q.num∧e1=0 ∨ ¬InW q.num∧e1=6):=by
  by_cases hi:InW q.num
  ·exact⟨_,0,by rw[if_pos hi],.inl ⟨hi,rfl,rfl⟩⟩
  ·exact⟨0,6,by rw[if_neg hi],.inr ⟨hi,rfl⟩⟩
 rw[hw.1]
 have k0:=X1.kept (by omega) g0
 have k1:=X1.kept (by omega) g1
 simp -dsimp (maxSteps:=1000000) (disch:=try exact dx) only[wpS,wpT,reduceEqDiff,reduceLeDiff,reduceAdd,ld131,zc44,st44,fa186_1,cells8,wdC_len,wdC_all,wd_spl,row_of k0,tkA,tkB]
 obtain⟨H2,hH2⟩ : ∃H2,H2=(h1.new (.cells [ZW,ZW,ZW,ZW,ZW,ZW,ZW,ZW] 0 none)).put h1.n (.cells (wdC w1) 0 none):=⟨_,rfl⟩
 have e2:Ext h1 H2:=by rw[hH2];exact((Ext.refl _).new _).put (Nat.le_refl _) _
 have n2:H2.n=h1.n+1:=by rw[hH2];rfl
 have ga:H2.ext.get h1.n=some (.cells (wdC w1) 0 none):=by rw[hH2];simp (disch:=try exact dx) only[get_put_same]
 have k1':=e2.kept (by omega) k1
 rw[←hH2]
 clear hH2
 refine call (out_ok (hd1.keep ((E0.trans X1).trans e2).keep)) ?_
 rintro _ h3 ⟨X3,rfl⟩
 have m3:=X3.n
 obtain⟨w2,f2,hw2⟩ : ∃w1 e1,(if InW (q.den:Int) then Value.tuple #[wideV q.den,KI 0] else .tuple #[wdV 0,KI 6])=.tuple #[wdV w1,KI e1]∧(InW (q.den:Int)∧w1=wideN q.den∧e1=0 ∨ ¬InW (q.den:Int)∧e1=6):=by
  by_cases hi:InW (q.den:Int)
  ·exact⟨_,0,by rw[if_pos hi],.inl ⟨hi,rfl,rfl⟩⟩
  ·exact⟨0,6,by rw[if_neg hi],.inr ⟨hi,rfl⟩⟩
 rw[hw2.1]
 have ga3:=X3.kept (by omega) ga
 have k3:=X3.kept (by omega) k1'
 have xx:=((E0.trans X1).trans e2).trans X3
 rcases hw.2 with⟨i1,rfl,rfl⟩|⟨i1,rfl⟩
 ·rcases hw2.2 with⟨i2,rfl,rfl⟩|⟨i2,rfl⟩
  ·rw[if_pos (show QW q from⟨i1,i2⟩)]
   simp -dsimp (maxSteps:=1000000) (disch:=try exact dx) only[wpS,wpT,reduceEqDiff,reduceLeDiff,reduceAdd,zc44,st44,bv48,st48,ld44,pl48_0,pl48_1,ld48,cells8,wdC_len,wdC_all,wd_spl,row_of ga3,k3,wd_take,sh_sp1,sh_sp2,sh_sp3,shC_len,shC_all,sh_take]
   exact⟨(((xx.new _).put (by omega) _).put (by omega) _),rfl⟩
  ·rw[if_neg (show ¬QW q from fun h=>i2 h.2)]
   simp -dsimp (maxSteps:=1000000) (disch:=try exact dx) only[wpS,wpT,reduceEqDiff,reduceLeDiff,reduceAdd,zc44,st44,bv48,st48,ld48,cells8,wdC_len,wdC_all,wd_spl,k3,sh_tz]
   exact⟨(((xx.new _).put (by omega) _).put (by omega) _),by rw[sh_zeroV]⟩
 ·rw[if_neg (show ¬QW q from fun h=>i1 h.1)]
  simp -dsimp (maxSteps:=1000000) (disch:=try exact dx) only[wpS,wpT,reduceEqDiff,reduceLeDiff,reduceAdd,zc44,st44,bv48,st48,ld48,cells8,wdC_len,wdC_all,wd_spl,k3,sh_tz]
  exact⟨(((xx.new _).put (by omega) _).put (by omega) _),by rw[sh_zeroV]⟩
theorem refmake_ok {h:IH} (n d:Nat) (hn:n<W8) (hd:d<W8) (d0:d≠0):WV prog (.func (.func 76) #[] #[]) [wdV n,wdV d] h fun r h'=>Ext h h'∧r=(open Classical in if QW (Rat.divInt (wdI n) (wdI d)) then .tuple #[shareV (Rat.divInt (wdI n) (wdI d)),KI 0] else .tuple #[shV 0 0,KI 6]):=by
 refine enter (nt:=18) (rs:=[.cell 4 48,.tmp 5]) Proofs.Tryz.func76 rfl rfl rfl (by simp) ?_
 simp -dsimp (maxSteps:=1000000) (disch:=try exact dx) only[wpS,wpT,reduceEqDiff,reduceLeDiff,reduceAdd,zc48,ld44,bv44,cells8,wdC_len]
 obtain⟨H0,hH0,n0,E0,g0,g1,g2⟩:=boxes3 h (wdC n) (wdC d) Z16
 rw[←hH0]
 clear hH0
 have X0:=Ext.refl H0
 have L2:load prog H0 44 (ptr (2*(h.n+1)) 0)=some (wdV d):=by
  simp -dsimp (maxSteps:=1000000) (disch:=try exact dx) only[wpS,reduceLeDiff,ld44,row_of g1,wdC_len,wd_take]
  rfl
 have hz:binop prog .eql 44 (.tmp 6) (.tmp 7) (.agg (wdC d).toArray) (.agg #[ZW,ZW,ZW,ZW,ZW,ZW,ZW,ZW])=some (.bool false):=by
  rw[wd_zero,wdV,wd_eql hd (by have:=H8_two;have:=H8_pos;omega)]
  rw[decide_eq_false d0]
 have hdI:wdI d≠0:=fun h=>d0 ((wdI_zero_iff hd).1 h)
 simp -dsimp (maxSteps:=1000000) (disch:=try exact dx) only[wpS,reduceEqDiff,wd_take,hz]
 refine drawn [(2,[1])] (by kernel_rfl) (by kernel_rfl) rfl ?_
 simp -dsimp (maxSteps:=1000000) (disch:=try exact dx) only[wpS,reduceEqDiff,reduceLeDiff,ld44,row_of g0,wdC_len,wd_take]
 refine call (in_ok n hn) ?_
 rintro r1 h1 ⟨X1,p1⟩
 have m1:=X1.n
 simp -dsimp (maxSteps:=1000000) (disch:=try exact dx) only[wpS,reduceEqDiff,reduceLeDiff,ld44,row_of (X1.kept (by omega) g1),wdC_len,wd_take]
 refine call (in_ok d hd) ?_
 rintro r2 h2 ⟨hE2,p2⟩
 have X2:=X1.trans hE2
 have m2:=hE2.n
 simp -dsimp (maxSteps:=1000000) (disch:=try exact dx) only[wpS,reduceEqDiff]
 refine call (rlowest_ok (p1.keep hE2.keep) p2 (wdI_small hn) (wdI_small hd) hdI) ?_
 rintro r3 h3 ⟨hE3,p3⟩
 have X3:=X2.trans hE3
 have m3:=hE3.n
 simp -dsimp (maxSteps:=1000000) (disch:=try exact dx) only[wpS,reduceEqDiff]
 refine call (refout_ok p3) ?_
 rintro _ h4 ⟨hE4,rfl⟩
 have X4:=X3.trans hE4
 have m4:=hE4.n
 have kg:=X4.kept (by omega) g2
 by_cases hq:QW (Rat.divInt (wdI n) (wdI d))
 ·rw[if_pos hq]
  simp -dsimp (maxSteps:=1000000) (disch:=try exact dx) only[wpS,wpT,reduceEqDiff,reduceLeDiff,reduceAdd,st48,kg,shV_cells,shC_len,shC_all,sh_sp3]
  refine⟨by repeat' first|refine wpSteady_c2 ?_ ?_|refine wpSteady_t2 ?_ ?_|exact wpSteady_one rfl rfl rfl rfl (steady_ext (H0:=H0) rfl (by omega) (by assumption) (by assumption) (by with_reducible assumption)),?_⟩
  simp -dsimp (maxSteps:=1000000) (disch:=try exact dx) only[wpS,wpT,reduceEqDiff,reduceLeDiff,reduceAdd,ld48,shC_len,sh_take]
  exact⟨(E0.trans X4).put (by omega) _,rfl⟩
 ·rw[if_neg hq]
  simp -dsimp (maxSteps:=1000000) (disch:=try exact dx) only[wpS,wpT,reduceEqDiff,reduceLeDiff,reduceAdd,st48,kg,shV_cells,shC_len,shC_all,sh_sp3]
  refine⟨by repeat' first|refine wpSteady_c2 ?_ ?_|refine wpSteady_t2 ?_ ?_|exact wpSteady_one rfl rfl rfl rfl (steady_ext (H0:=H0) rfl (by omega) (by assumption) (by assumption) (by with_reducible assumption)),?_⟩
  simp -dsimp (maxSteps:=1000000) (disch:=try exact dx) only[wpS,wpT,reduceEqDiff,reduceLeDiff,reduceAdd,ld48,shC_len,sh_take]
  exact⟨(E0.trans X4).put (by omega) _,rfl⟩
theorem ref02Of_ok {h:IH} (n d:Int) (hn:In64 n) (hd:In64 d) (d0:d≠0):WV prog (.func (.func 43) #[] #[]) [KI n,KI d] h fun r h'=>Ext h h'∧r=.tuple #[shareV (Rat.divInt n d),KI 0]:=by
 have hd':(d == 0)=false:=by simpa using d0
 refine enter (nt:=15) (rs:=[.cell 4 48,.tmp 5]) Proofs.Tryz.func43 rfl rfl rfl (by simp) ?_
 simp -dsimp (maxSteps:=1000000) (disch:=try exact dx) only[wpS,reduceEqDiff,reduceAdd,zc48,hd']
 have E1:Ext h (h.new (.cells Z16 0 none)):=(Ext.refl h).new _
 have g1:(h.new (.cells Z16 0 none)).ext.get h.n=some (.cells Z16 0 none):=by simp (disch:=try exact dx) only[get_new_same]
 refine call (quick_ok n d hn hd d0) ?_
 rintro _ h1 ⟨X1,p1⟩
 simp -dsimp (maxSteps:=1000000) (disch:=try exact dx) only[wpS,reduceEqDiff]
 refine call (refout_ok p1) ?_
 rintro _ h2 ⟨X2,rfl⟩
 rw[if_pos (qw_div hn hd d0)]
 have m1:=X1.n
 have m2:=X2.n
 simp only[new_n] at m1
 have kg:=X2.kept (by omega) (X1.kept (by simp) g1)
 simp -dsimp (maxSteps:=1000000) (disch:=try exact dx) only[wpS,wpT,reduceEqDiff,reduceLeDiff,reduceAdd,st48,ld48,kg,shV_cells,shC_len,shC_all,sh_sp3,sh_take]
 exact⟨((E1.trans X1).trans X2).put (by omega) _,rfl⟩
end Go.Id

namespace Go.Id
open Go
theorem madeS_ok {h:IH} (n d:Nat) (hn:n<W8) (hd:d<W8) (d0:d≠0) (hq:QW (Rat.divInt (wdI n) (wdI d))):WV Proofs.Tryz.prog (.func (.func 110) #[] #[]) [wdV n,wdV d] h fun r h'=>Ext h h'∧r=shareV (Rat.divInt (wdI n) (wdI d)):=by
 refine enter (nt:=22) (rs:=[.cell 4 48]) Proofs.Tryz.func110 rfl rfl rfl (by simp) ?_
 simp -dsimp (maxSteps:=1000000) (disch:=try exact dx) only[wpS,Nat.reduceEqDiff,Nat.reduceLeDiff,Nat.reduceAdd,zc48,ld44,cells8,wdC_len,wd_take]
 obtain⟨H0,hH0,n0,E0,g0,g1,g2⟩:=boxes3 h (wdC n) (wdC d) Z16
 rw[←hH0]
 clear hH0
 refine call (refmake_ok n d hn hd d0) ?_
 rintro _ h1 ⟨X1,rfl⟩
 rw[if_pos hq]
 have m1:=X1.n
 have k2:=X1.kept (by omega) g2
 simp -dsimp (maxSteps:=1000000) (disch:=try exact dx) only[wpS,wpT,Nat.reduceEqDiff,Nat.reduceLeDiff,Nat.reduceAdd,zc48,st48,ld48,k2,shV_cells,shC_len,shC_all,sh_sp3,sh_take]
 exact⟨(((E0.trans X1).new _).put (by omega) _).put (by omega) _,rfl⟩
end Go.Id

namespace Go.Id
open Go
open Go.Proofs.Tryz (prog)
section
variable {P:Program}
theorem pr_program:pureRun P (program)=some P:=rfl
theorem pr_part_agg {e:TypeId} {n:Nat} (hA:isAggT P e=some true) (hs:sizeT P e=some n) (cs:Array Value) (off:Nat):pureRun P (part e cs off)=some (.agg (cs.extract off (off+n))):=by
 unfold part
 have h1:pureRun P (isAgg e)=some true:=by
  unfold isAgg
  simp only[isAggT,Option.map_eq_some_iff] at hA
  obtain⟨d,hd,hA⟩:=hA
  rw[pr_bind (pr_underlying hd)]
  cases d<;>first|rfl|(simp at hA)
 rw[pr_bind h1]
 simp only[if_true]
 rw[pr_bind (pr_sizeOf hs)]
 rfl
theorem binop_eql_gen {t:TypeId} {x y:Array Value} {b:Bool} (hg:P.eqGuardType P.depth t=false) (hx:plain (.agg x)=true) (hy:plain (.agg y)=true) (h:pureRun P (Op.equal t (.agg x) (.agg y))=some b) (ox oy:Operand):binop P .eql t ox oy (.agg x) (.agg y)=some (.bool b):=by
 refine binop_of P t ox oy hx hy rfl ?_
 have h1:pureRun P (eqGuard .eql t ox oy (.agg x) (.agg y))=some ():=by
  show pureRun P (if (!P.eqGuardType P.depth t)=true then _ else _)=_
  rw[hg];rfl
 rw[pr_bind h1]
 show pureRun P (Op.equal t _ _ >>= fun r=>pure (Value.bool r))=_
 rw[pr_bind h];rfl
theorem binop_neq_gen {t:TypeId} {x y:Array Value} {b:Bool} (hg:P.eqGuardType P.depth t=false) (hx:plain (.agg x)=true) (hy:plain (.agg y)=true) (h:pureRun P (Op.equal t (.agg x) (.agg y))=some b) (ox oy:Operand):binop P .neq t ox oy (.agg x) (.agg y)=some (.bool (!b)):=by
 refine binop_of P t ox oy hx hy rfl ?_
 have h1:pureRun P (eqGuard .neq t ox oy (.agg x) (.agg y))=some ():=by
  show pureRun P (if (!P.eqGuardType P.depth t)=true then _ else _)=_
  rw[hg];rfl
 rw[pr_bind h1]
 show pureRun P (Op.equal t _ _ >>= fun r=>pure (Value.bool !r))=_
 rw[pr_bind h];rfl
end
theorem sh_ext1 (n d:Nat):((shC n d).toArray).extract 0 8=(wdC n).toArray:=by
 simp only[List.extract_toArray,List.extract_eq_take_drop]
 rw[show(8 - 0)=8 from rfl,sh_take1]
theorem sh_ext2 (n d:Nat):((shC n d).toArray).extract 8 16=(wdC d).toArray:=by
 simp only[List.extract_toArray,List.extract_eq_take_drop]
 rw[show(16 - 8)=8 from rfl,sh_take2]
theorem wd_equalIn {n m:Nat} (hn:n<W8) (hm:m<W8) (k:Nat):pureRun prog (Op.equalIn (k+2) 44 (.agg (wdC n).toArray) (.agg (wdC m).toArray))=some (decide (n=m)):=by
 rw[wdC_map,wdC_map,pr_equal_arr u44 u42 sz42 _ _ _ (by simp) (by simp),wd_dec hn hm]
theorem sh_equalIn {n d n' d':Nat} (h1:n<W8) (h2:d<W8) (h3:n'<W8) (h4:d'<W8) (k:Nat):pureRun prog (Op.equalIn (k+3) 48 (.agg (shC n d).toArray) (.agg (shC n' d').toArray))=some (decide (n=n'∧d=d')):=by
 unfold Op.equalIn
 rw[pr_bind (pr_underlying (show Program.underlying prog 48=some (.struct { toList:=[{ name := "N",type:=44,offset:=0,embedded:=false,tag := "",pkgPath := "",byteOffset:=0 },{ name := "D",type:=44,offset:=8,embedded:=false,tag := "",pkgPath := "",byteOffset:=64 }] }) by kernel_rfl))]
 simp only
 rw[pr_bind pr_program,show Program.stoodInHeld prog 48=false by kernel_rfl]
 have seq : ∀{α β:Type} (s:Sem α) (f:α→Sem β),pureRun prog (s >>= f)=(pureRun prog s).bind fun a=>pureRun prog (f a):=fun s f=>pureRun_seq _ f s
 have p1:=fun(n d:Nat)=>pr_part_agg (P:=prog) ag44 sz44 (shC n d).toArray 0
 have p2:=fun(n d:Nat)=>pr_part_agg (P:=prog) ag44 sz44 (shC n d).toArray 8
 have n1:("N" ≠ "_")=True:=by simp
 have n2:("D" ≠ "_")=True:=by simp
 simp only[Bool.false_eq_true,if_false,←Array.forIn_toList,List.forIn_cons,List.forIn_nil,seq,n1,n2,if_true,p1,Option.bind_some,Nat.zero_add,sh_ext1,wd_equalIn h1 h3]
 by_cases e1:n=n'
 ·simp only[decide_eq_true e1,Bool.not_true,Bool.false_eq_true,if_false,pr_pure,Option.bind_some,seq,p2,show(8+8:Nat)=16 from rfl,sh_ext2,wd_equalIn h2 h4]
  by_cases e2:d=d'
  ·simp only[decide_eq_true e2,Bool.not_true,Bool.false_eq_true,if_false,pr_pure,Option.bind_some]
   rw[decide_eq_true (And.intro e1 e2)]
  ·simp only[decide_eq_false e2,Bool.not_false,if_true,pr_pure,Option.bind_some]
   rw[decide_eq_false (fun h=>e2 h.2)]
 ·simp only[decide_eq_false e1,Bool.not_false,if_true,pr_pure,Option.bind_some]
  rw[decide_eq_false (fun h=>e1 h.1)]
theorem sh_plain (n d:Nat):plain (.agg (shC n d).toArray)=true:=by
 simp only[plain,shC,wdC]
 simp[scal]
theorem sh_eql {n d n' d':Nat} (h1:n<W8) (h2:d<W8) (h3:n'<W8) (h4:d'<W8) (ox oy:Operand):binop prog .eql 48 ox oy (.agg (shC n d).toArray) (.agg (shC n' d').toArray)=some (.bool (decide (n=n'∧d=d'))):=by
 exact binop_eql_gen (by kernel_rfl) (sh_plain _ _) (sh_plain _ _) (sh_equalIn h1 h2 h3 h4 9997) ox oy
theorem sh_neq {n d n' d':Nat} (h1:n<W8) (h2:d<W8) (h3:n'<W8) (h4:d'<W8) (ox oy:Operand):binop prog .neq 48 ox oy (.agg (shC n d).toArray) (.agg (shC n' d').toArray)=some (.bool (!decide (n=n'∧d=d'))):=by
 exact binop_neq_gen (by kernel_rfl) (sh_plain _ _) (sh_plain _ _) (sh_equalIn h1 h2 h3 h4 9997) ox oy
end Go.Id

namespace Go.Id
open Go
end Go.Id

namespace Go.Id
open Go
end Go.Id

namespace Go.Id
open Go
open Go.Proofs.Tryz (prog)
open Nat (reduceAdd reduceEqDiff reduceLeDiff)
set_option maxHeartbeats 16000000
theorem drsmall_ok {h:IH} {b:Bool} {x:Value} {n:Int} (hx:([x]:List Value).all cellOK=true) (h0:0≤n) (hn:n<4294967296) :
  WV prog (.func (.func 109) #[] #[]) [.agg #[.bool b,x,.int .u32 n]] h fun r h'=>Ext h h' ∧ ∃z:Int,r=KI z ∧ -1000000≤z∧z≤1000000:=by
 have E1:Ext h (h.new (.cells [.bool b,x,.int .u32 n] 0 none)):=(Ext.refl h).new _
 have hm:0≤n % 1000001:=by omega
 have hm2:n % 1000001≤1000000:=by omega
 have hx':cellOK x=true:=by simpa using hx
 refine enter (nt:=13) (rs:=[.tmp 2]) Proofs.Tryz.func109 rfl rfl rfl (by simp) ?_
 simp -dsimp (maxSteps:=1000000) (disch:=try exact dx) only[wpS,reduceEqDiff,fa79_2,ld77,cv77_3,fa79_0,ld4]
 cases b
 ·simp -dsimp (maxSteps:=1000000) (disch:=try exact dx) only[wpS,reduceEqDiff]
  exact⟨E1,_,rfl,by omega,by omega⟩
 ·simp -dsimp (maxSteps:=1000000) (disch:=try exact dx) only[wpS,reduceEqDiff]
  exact⟨E1,_,rfl,by omega,by omega⟩
theorem tmod_small (z:Int) : -1000<z.tmod 1000∧z.tmod 1000<1000:=by
 rcases Int.le_total 0 z with h|h
 ·rw[Int.tmod_eq_emod_of_nonneg h];omega
 ·obtain⟨w,rfl⟩ : ∃w,z = -w:=⟨-z,by omega⟩
  rw[Int.neg_tmod,Int.tmod_eq_emod_of_nonneg (by omega)];omega
theorem shortS_ok {h:IH} (a c:Int) (ha : -1000<a∧a<1000) (hc:0<c∧c<25):WV prog (.func (.func 110) #[] #[]) [wideV a,wideV c] h fun r h'=>Ext h h'∧r=shareV (Rat.divInt a c):=by
 have ia:In64 a:=⟨by omega,by omega⟩
 have ic:In64 c:=⟨by omega,by omega⟩
 have e1:wdI (wideN a)=a:=wdI_wideN (inW64 ia)
 have e2:wdI (wideN c)=c:=wdI_wideN (inW64 ic)
 have hz:wideN c≠0:=by
  intro e
  rw[e] at e2
  have:wdI 0=0:=by decide +kernel
  omega
 have hq:QW (Rat.divInt (wdI (wideN a)) (wdI (wideN c))):=by
  rw[e1,e2]
  exact qw_div ia ic (by omega)
 have:=madeS_ok (h:=h) (wideN a) (wideN c) (wideN_lt (inW64 ia)) (wideN_lt (inW64 ic)) hz hq
 rw[e1,e2] at this
 exact this
theorem drshort_ok {h:IH} {b b2:Bool} {x x2:Value} {n n2:Int} (hx:([x]:List Value).all cellOK=true) (hx2:([x2]:List Value).all cellOK=true) (h0:0≤n) (hn:n<4294967296) (g0:0≤n2) (gn:n2<4294967296) :
  WV prog (.func (.func 101) #[] #[]) [.agg #[.bool b,x,.int .u32 n,.bool b2,x2,.int .u32 n2]] h fun r h'=>Ext h h' ∧ ∃a c:Int,(-1000<a∧a<1000)∧(0<c∧c<25)∧r=shareV (Rat.divInt a c):=by
 have hx':cellOK x=true:=by simpa using hx
 have hx2':cellOK x2=true:=by simpa using hx2
 obtain⟨H0,hH0,n0,E0,k0,k1⟩:=boxes2 h [.bool b,x,.int .u32 n,.bool b2,x2,.int .u32 n2] Z16
 refine enter (nt:=21) (rs:=[.cell 2 48]) Proofs.Tryz.func101 rfl rfl rfl (by simp) ?_
 simp -dsimp (maxSteps:=1000000) (disch:=try exact dx) only[wpS,wpT,reduceEqDiff,reduceLeDiff,reduceAdd,zc48,fa81_1,ld79]
 rw[←hH0]
 clear hH0
 refine call (drsmall_ok hx2 g0 gn) ?_
 rintro _ h1 ⟨X1,z,rfl,z0,z1⟩
 have m1:=X1.n
 have kx:=X1.kept (by omega) k0
 have cases2:z<0∨0≤z:=by omega
 rcases cases2 with hz|hz
 ·obtain⟨w,hw⟩ : ∃w,w = -z:=⟨_,rfl⟩
  have c1:decide (z<0)=true:=decide_eq_true hz
  simp -dsimp (maxSteps:=1000000) (disch:=try exact dx) only[wpS,wpT,reduceEqDiff,reduceLeDiff,reduceAdd,ld79,fa81_0,c1,row_of kx]
  rw[←hw]
  refine call (drsmall_ok hx h0 hn) ?_
  rintro _ h2 ⟨X2,y,rfl,y0,y1⟩
  have m2:=X2.n
  have hr : ∀ox oy,binop prog .rem 3 ox oy (KI y) (KI 1000)=some (KI (y.tmod 1000)):=fun _ _=>binop_rem _ _ _ _ (by decide)
  have hy:=tmod_small y
  simp -dsimp (maxSteps:=1000000) (disch:=try exact dx) only[wpS,reduceEqDiff,hr]
  refine call (refOf_ok (y.tmod 1000) ⟨by omega,by omega⟩) ?_
  rintro _ h3 ⟨X3,rfl⟩
  have m3:=X3.n
  simp -dsimp (maxSteps:=1000000) (disch:=try exact dx) only[wpS,reduceEqDiff]
  refine call (refOf_ok (1+w % 24) ⟨by omega,by omega⟩) ?_
  rintro _ h4 ⟨X4,rfl⟩
  have m4:=X4.n
  simp -dsimp (maxSteps:=1000000) (disch:=try exact dx) only[wpS,reduceEqDiff]
  refine call (shortS_ok (y.tmod 1000) (1+w % 24) hy ⟨by omega,by omega⟩) ?_
  rintro _ h5 ⟨X5,rfl⟩
  have m5:=X5.n
  have XX:=(((X1.trans X2).trans X3).trans X4).trans X5
  have k2:=XX.kept (by omega) k1
  simp -dsimp (maxSteps:=1000000) (disch:=try exact dx) only[wpS,wpT,reduceEqDiff,reduceLeDiff,reduceAdd,st48,ld48,k2,shV_cells,shC_len,shC_all,sh_sp3,sh_take]
  exact⟨(E0.trans XX).put (by omega) _,_,_,hy,⟨by omega,by omega⟩,rfl⟩
 ·obtain⟨w,hw⟩ : ∃w,w=z:=⟨_,rfl⟩
  have c1:decide (z<0)=false:=decide_eq_false (by omega)
  simp -dsimp (maxSteps:=1000000) (disch:=try exact dx) only[wpS,wpT,reduceEqDiff,reduceLeDiff,reduceAdd,ld79,fa81_0,c1,row_of kx]
  rw[←hw]
  refine call (drsmall_ok hx h0 hn) ?_
  rintro _ h2 ⟨X2,y,rfl,y0,y1⟩
  have m2:=X2.n
  have hr : ∀ox oy,binop prog .rem 3 ox oy (KI y) (KI 1000)=some (KI (y.tmod 1000)):=fun _ _=>binop_rem _ _ _ _ (by decide)
  have hy:=tmod_small y
  simp -dsimp (maxSteps:=1000000) (disch:=try exact dx) only[wpS,reduceEqDiff,hr]
  refine call (refOf_ok (y.tmod 1000) ⟨by omega,by omega⟩) ?_
  rintro _ h3 ⟨X3,rfl⟩
  have m3:=X3.n
  simp -dsimp (maxSteps:=1000000) (disch:=try exact dx) only[wpS,reduceEqDiff]
  refine call (refOf_ok (1+w % 24) ⟨by omega,by omega⟩) ?_
  rintro _ h4 ⟨X4,rfl⟩
  have m4:=X4.n
  simp -dsimp (maxSteps:=1000000) (disch:=try exact dx) only[wpS,reduceEqDiff]
  refine call (shortS_ok (y.tmod 1000) (1+w % 24) hy ⟨by omega,by omega⟩) ?_
  rintro _ h5 ⟨X5,rfl⟩
  have m5:=X5.n
  have XX:=(((X1.trans X2).trans X3).trans X4).trans X5
  have k2:=XX.kept (by omega) k1
  simp -dsimp (maxSteps:=1000000) (disch:=try exact dx) only[wpS,wpT,reduceEqDiff,reduceLeDiff,reduceAdd,st48,ld48,k2,shV_cells,shC_len,shC_all,sh_sp3,sh_take]
  exact⟨(E0.trans XX).put (by omega) _,_,_,hy,⟨by omega,by omega⟩,rfl⟩
end Go.Id

namespace Go.Id
open Go
end Go.Id

namespace Go.Id
open Go
end Go.Id

namespace Go.Id
open Go
end Go.Id

namespace Go.Id
open Go
theorem shL_take : ∀(i:Nat) (l:List (Nat×Nat)),shL (l.take i)=(shL l).take (i*16)
 | 0,l=>by simp[shL]
 | i+1,[]=>by simp[shL]
 | i+1,a :: l=>by
  have ih:=shL_take i l
  simp only[shL] at ih
  rw[List.take_succ_cons,shL,shL,List.flatMap_cons,List.flatMap_cons,show(i+1)*16=(shC a.1 a.2).length+i*16 by rw[shC_len];omega,List.take_length_add_append,ih]
end Go.Id

namespace Go.Id
open Go
def ShArg (h:IH) (v:Value) (l:List (Nat×Nat)):Prop:=SlOf h 16 v l.length (shL l) ∧ ∀p∈l,p.1<W8∧p.2<W8
theorem ShArg.keep {h h':IH} {v:Value} {l:List (Nat×Nat)} (s:ShArg h v l) (e:Keep h h'):ShArg h' v l:=⟨s.1.keep e,s.2⟩
theorem ShArg.first {h h':IH} {v:Value} {l:List (Nat×Nat)} (s:ShArg h v l) (kp:Keep h h') {m:Nat} (hm:m≤l.length) (hm2:m≤100000) : ∃v',sliceOp Proofs.Tryz.prog h' 82 v none (some (KN m)) none=some v'∧ShSl h v' (l.take m):=by
 obtain⟨a,c⟩:=s
 obtain⟨v',e1,e2⟩:=a.slice kp (P:=Proofs.Tryz.prog) (t:=82) u82 sz48 (l:=0) (m:=m) (Nat.zero_le _) hm (lo:=none) (hi:=some (KN m)) rfl (fun c hc=>natOf_nat (k:=.i64) (by omega))
 refine⟨v',e1,?_,by rw[List.length_take];omega,fun p hp=>c p (List.mem_of_mem_take hp)⟩
 rw[List.length_take,Nat.min_eq_left hm,shL_take]
 simpa using e2
end Go.Id

namespace Go.Id
open Go
def DrOf (cs:List Value):Prop:=∃b x n b2 x2 n2,cs = [.bool b,x,.int .u32 n,.bool b2,x2,.int .u32 n2]∧cellOK x=true∧cellOK x2=true∧0≤n∧n<4294967296∧0≤n2∧n2<4294967296
def DrSl (h:IH) (v:Value) (n:Nat):Prop:=∃cs,SlOf h 6 v n cs ∧ ∀i,i<n→DrOf ((cs.drop (i*6)).take 6)
theorem DrSl.keep {h h':IH} {v:Value} {n:Nat} (s:DrSl h v n) (e:Keep h h'):DrSl h' v n:=let ⟨cs,a,b⟩:=s;⟨cs,a.keep e,b⟩
def isShort (p:Nat×Nat):Prop:=∃a c:Int,(-1000<a∧a<1000)∧(0<c∧c<25)∧p=shq (Rat.divInt a c)
theorem isShort.lt {p:Nat×Nat} (h:isShort p):p.1<W8∧p.2<W8:=by
 obtain⟨a,c,ha,hc,rfl⟩:=h
 exact shq_lt (qw_div ⟨by omega,by omega⟩ ⟨by omega,by omega⟩ (by omega))
end Go.Id

namespace Go.Proofs.YtjhnilfelokpcaaGreat
open Go.ChangeShapes Go.WideShapes Go.ChangeAt Go.RowKit Go.Id
theorem wf_u8 {x:Int} (h:(Lit.int .u8 x).wf=true):0≤x∧x<256:=by
 simp only[Lit.wf,Bool.and_eq_true,decide_eq_true_eq] at h
 have h1:(0:Int)≤x:=h.1
 have h2:x≤(255:Int):=h.2
 exact⟨h1,by omega⟩
section
variable {H:Type} {enc:TypeId×Value→H} {W:World} {base:Nat} {sp:Nat→Bool} {held:Bool}
end
theorem len3 {α:Type} : ∀{l:List α},l.length=3 → ∃a b c,l = [a,b,c]
 | [a,b,c],_=>⟨a,b,c,rfl⟩
theorem len6 {α:Type} : ∀{l:List α},l.length=6 → ∃a b c d e f,l = [a,b,c,d,e,f]
 | [a,b,c,d,e,f],_=>⟨a,b,c,d,e,f,rfl⟩
theorem u_drafts:Tryz.prog.underlying 75=some (.slice 81):=by kernel_rfl
theorem u_draft:Tryz.prog.underlying 81=some (.struct { toList:=[{ name := "N",type:=79,offset:=0,embedded:=false,tag := "",pkgPath := "",byteOffset:=0 },{ name := "D",type:=79,offset:=3,embedded:=false,tag := "",pkgPath := "",byteOffset:=40 }] }):=by kernel_rfl
theorem u_draft1:Tryz.prog.underlying 79=some (.struct { toList:=[{ name := "Below",type:=4,offset:=0,embedded:=false,tag := "",pkgPath := "",byteOffset:=0 },{ name := "Bits",type:=76,offset:=1,embedded:=false,tag := "",pkgPath := "",byteOffset:=8 },{ name := "Less",type:=77,offset:=2,embedded:=false,tag := "",pkgPath := "",byteOffset:=32 }] }):=by kernel_rfl
theorem u_u16s:Tryz.prog.underlying 76=some (.slice 100):=by kernel_rfl
theorem u_u16:Tryz.prog.underlying 100=some (.int .u16):=by kernel_rfl
theorem u_u32:Tryz.prog.underlying 77=some (.int .u32):=by kernel_rfl
theorem u_bool:Tryz.prog.underlying 4=some .bool:=by kernel_rfl
theorem u_u8:Tryz.prog.underlying 5=some (.int .u8):=by kernel_rfl
theorem c_draft:Tryz.prog.cellsOf 81=6:=by kernel_rfl
theorem c_draft1:Tryz.prog.cellsOf 79=3:=by kernel_rfl
theorem c_u16:Tryz.prog.cellsOf 100=1:=by kernel_rfl
theorem c_u32:Tryz.prog.cellsOf 77=1:=by kernel_rfl
theorem c_bool:Tryz.prog.cellsOf 4=1:=by kernel_rfl
theorem c_u16s:Tryz.prog.cellsOf 76=1:=by kernel_rfl
section
variable {H:Type} {enc:TypeId×Value→H} {W:World} {held:Bool}
theorem half_of (G:Nat→Option (List Value)) {fuel:Nat} {cs:List Value} {x:DataW H×List MemPlace} (h:DataW.trod enc Tryz.prog W 0 (fun _=>true) held fuel 79 cs=some x) :
  ∃b y n,cs = [.bool b,y,.int .u32 n]∧cellOK (trV y)=true∧tellable y=true∧(0≤n∧n<4294967296):=by
 obtain⟨xs,m,_,_,hl,hn,hf⟩:=DataW.trod_struct u_draft1 h
 rw[c_draft1] at hl
 have hn2:xs.length=3:=hn
 obtain⟨x0,hx0⟩ : ∃y,xs[0]?=some y:=⟨_,List.getElem?_eq_getElem (by omega)⟩
 have f0:DataW.trod enc Tryz.prog W 0 (fun _=>true) held m 4 ((cs.drop 0).take (Tryz.prog.cellsOf 4))=some x0:=(hf 0 { name := "Below",type:=4,offset:=0,embedded:=false,tag := "",pkgPath := "",byteOffset:=0 } rfl).trans hx0
 obtain⟨x1,hx1⟩ : ∃y,xs[1]?=some y:=⟨_,List.getElem?_eq_getElem (by omega)⟩
 have f1:DataW.trod enc Tryz.prog W 0 (fun _=>true) held m 76 ((cs.drop 1).take (Tryz.prog.cellsOf 76))=some x1:=(hf 1 { name := "Bits",type:=76,offset:=1,embedded:=false,tag := "",pkgPath := "",byteOffset:=8 } rfl).trans hx1
 obtain⟨x2,hx2⟩ : ∃y,xs[2]?=some y:=⟨_,List.getElem?_eq_getElem (by omega)⟩
 have f2:DataW.trod enc Tryz.prog W 0 (fun _=>true) held m 77 ((cs.drop 2).take (Tryz.prog.cellsOf 77))=some x2:=(hf 2 { name := "Less",type:=77,offset:=2,embedded:=false,tag := "",pkgPath := "",byteOffset:=32 } rfl).trans hx2
 rw[c_bool] at f0
 rw[c_u16s] at f1
 rw[c_u32] at f2
 obtain⟨a,y,c,rfl⟩:=len3 hl
 ·obtain⟨b,e0,_⟩:=DataW.trod_bool u_bool f0
  obtain⟨v,n,cs',e1,ht,hn',hs,_⟩:=tell_slice (R:=fun _=>True) u_u16s c_u16 (by omega) (fun n cs x hx=>by
   obtain⟨k,rfl,_⟩:=trod_nat (m:=65535) rfl rfl u_u16 hx
   exact⟨trivial,fun y hy=>by rw[List.mem_singleton.1 hy];rfl⟩) G f1
  obtain⟨k,e2,hk⟩:=trod_nat (m:=4294967295) rfl rfl u_u32 f2
  cases e0;cases e1;cases e2
  exact⟨b,_,k,rfl,hs.cok,ht,by omega,by omega⟩
theorem tell_drafts (G:Nat→Option (List Value)) {fuel:Nat} {cs0:List Value} {x:DataW H×List MemPlace} (h:DataW.trod enc Tryz.prog W 0 (fun _=>true) held fuel 75 cs0=some x) :
  ∃v n,cs0 = [v]∧tellable v=true∧DrSl (IH.start (tellB G W)) (trV v) n:=by
 obtain⟨v,n,cs,e,ht,hn,hs,hR⟩:=tell_slice (R:=fun cs=>DrOf (cs.map trV)) u_drafts c_draft (by omega) (fun n cs x hx=>by
  obtain⟨xs,m,_,_,hl,hn,hf⟩:=DataW.trod_struct u_draft hx
  rw[c_draft] at hl
  have hn2:xs.length=2:=hn
  obtain⟨x0,hx0⟩ : ∃y,xs[0]?=some y:=⟨_,List.getElem?_eq_getElem (by omega)⟩
  have f0:DataW.trod enc Tryz.prog W 0 (fun _=>true) held m 79 ((cs.drop 0).take (Tryz.prog.cellsOf 79))=some x0:=(hf 0 { name := "N",type:=79,offset:=0,embedded:=false,tag := "",pkgPath := "",byteOffset:=0 } rfl).trans hx0
  obtain⟨x1,hx1⟩ : ∃y,xs[1]?=some y:=⟨_,List.getElem?_eq_getElem (by omega)⟩
  have f1:DataW.trod enc Tryz.prog W 0 (fun _=>true) held m 79 ((cs.drop 3).take (Tryz.prog.cellsOf 79))=some x1:=(hf 1 { name := "D",type:=79,offset:=3,embedded:=false,tag := "",pkgPath := "",byteOffset:=40 } rfl).trans hx1
  rw[c_draft1] at f0 f1
  obtain⟨a,b,c,d,e,f,rfl⟩:=len6 hl
  ·obtain⟨b1,y1,n1,e0,o1,t1,r1⟩:=half_of G f0
   obtain⟨b2,y2,n2,e1,o2,t2,r2⟩:=half_of G f1
   cases e0;cases e1
   refine⟨⟨b1,_,n1,b2,_,n2,rfl,o1,o2,r1.1,r1.2,r2.1,r2.2⟩,fun y hy=>?_⟩
   simp at hy
   rcases hy with rfl|rfl|rfl|rfl|rfl|rfl<;>first|rfl|assumption) G h
 refine⟨v,n,e,ht,cs.map trV,hs,fun i hi=>?_⟩
 rw[←List.map_drop,←List.map_take]
 exact hR i hi
end
end Go.Proofs.YtjhnilfelokpcaaGreat

namespace Go.Proofs.YtjhnilfelokpcaaGreat
open Go.ChangeShapes Go.WideShapes Go.ChangeAt Go.RowKit Go.Id
theorem draft_of {H:Type} {enc:TypeId×Value→H} {W:World} {held:Bool} (G:Nat→Option (List Value)) {fuel:Nat} {cs:List Value} {x:DataW H×List MemPlace} (h:DataW.trod enc Tryz.prog W 0 (fun _=>true) held fuel 81 cs=some x) :
  ∃b1 y1 n1 b2 y2 n2,cs = [.bool b1,y1,.int .u32 n1,.bool b2,y2,.int .u32 n2]∧(tellable y1=true∧tellable y2=true)∧(cellOK (trV y1)=true∧cellOK (trV y2)=true∧(0≤n1∧n1<4294967296)∧(0≤n2∧n2<4294967296)):=by
 obtain⟨xs,m,_,_,hl,hn,hf⟩:=DataW.trod_struct u_draft h
 rw[c_draft] at hl
 have hn2:xs.length=2:=hn
 obtain⟨x0,hx0⟩ : ∃y,xs[0]?=some y:=⟨_,List.getElem?_eq_getElem (by omega)⟩
 have f0:DataW.trod enc Tryz.prog W 0 (fun _=>true) held m 79 ((cs.drop 0).take (Tryz.prog.cellsOf 79))=some x0:=(hf 0 { name := "N",type:=79,offset:=0,embedded:=false,tag := "",pkgPath := "",byteOffset:=0 } rfl).trans hx0
 obtain⟨x1,hx1⟩ : ∃y,xs[1]?=some y:=⟨_,List.getElem?_eq_getElem (by omega)⟩
 have f1:DataW.trod enc Tryz.prog W 0 (fun _=>true) held m 79 ((cs.drop 3).take (Tryz.prog.cellsOf 79))=some x1:=(hf 1 { name := "D",type:=79,offset:=3,embedded:=false,tag := "",pkgPath := "",byteOffset:=40 } rfl).trans hx1
 rw[c_draft1] at f0 f1
 obtain⟨a,b,c,d,e,f,rfl⟩:=len6 hl
 obtain⟨b1,y1,n1,e0,o1,t1,r1⟩:=half_of G f0
 obtain⟨b2,y2,n2,e1,o2,t2,r2⟩:=half_of G f1
 cases e0;cases e1
 exact⟨b1,_,n1,b2,_,n2,rfl,⟨t1,t2⟩,o1,o2,r1,r2⟩
end Go.Proofs.YtjhnilfelokpcaaGreat
