/-
  DiagnoseKnown: the law returns true, and nothing is changed. Conditions: none but the row's own.
-/
import Derived.Test.YthbkinefgmfgeaaDiagnoseKnownAl
import Derived.Test.YthbkinefgmfgeaaDiagnoseKnownAk
set_option linter.unusedVariables false
set_option linter.unusedSimpArgs false
set_option linter.defProp false
set_option linter.deprecated false
/-! DiagnoseKnown, regions 0 to 10. -/
namespace Go.Id
open Go
theorem k0 {hh:IH} {fr:Fr} {Q:IExit→Fr→IH→Prop}:Do (wpC Proofs.Try.prog 3 365 none (partD 0) fr hh) (seqK (fun fr h'=>Pst (h'=hh) nx) Q) nx:=by
 show Do (wpC _ _ _ _ (.region _ _ _) fr hh) _ _
 simp -dsimp (disch:=omega) only[wpS]
theorem k1 {hh:IH} {fr:Fr} {Q:IExit→Fr→IH→Prop}:Do (wpC Proofs.Try.prog 3 365 none (partD 1) fr hh) (seqK (fun fr h'=>Pst (Ext hh h') nx) Q) nx:=by
 show Do (wpC _ _ _ _ (.seq _ _) fr hh) _ _
 simp -dsimp (disch:=omega) only[wpS]
 refine call dgworks_ok ?_
 rintro _ h1 ⟨X1,rfl⟩
 simp -dsimp (disch:=omega) only[wpS,wpT,Nat.reduceEqDiff]
 exact X1
theorem k2 {hh:IH} {fr:Fr} {Q:IExit→Fr→IH→Prop}:Do (wpC Proofs.Try.prog 3 365 none (partD 2) fr hh) (seqK (fun fr h'=>Pst (Ext hh h' ∧ ∃v1,ShSl h' v1 badL∧fget fr 1=some v1) nx) Q) nx:=by
 show Do (wpC _ _ _ _ (.region _ _ _) fr hh) _ _
 have hz:buildV Proofs.Try.prog 27 []=some (shV 0 0):=by kernel_rfl
 have hb:buildSlice Proofs.Try.prog hh 28 1 [(0,shV 0 0)]=some (.slice (some ⟨2*hh.n,0,none⟩) 1 3,hh.new (.cells (shL badL) 16 none)):=by
  rw[bs28 hh 1 _ (by decide)]
  have e:fillP (fun i=>some (i*16,16)) (repl 1 [.int .u64 0,.int .u64 0,.int .u64 0,.int .u64 0,.int .u64 0,.int .u64 0,.int .u64 0,.int .u64 0,.int .u64 0,.int .u64 0,.int .u64 0,.int .u64 0,.int .u64 0,.int .u64 0,.int .u64 0,.int .u64 0]) [(0,shV 0 0)]=some (shL badL):=by kernel_rfl
  rw[e];rfl
 simp -dsimp (disch:=omega) only[wpS,Nat.reduceEqDiff,hz,hb]
 refine⟨(Ext.refl hh).new _,.slice (some ⟨2*hh.n,0,none⟩) 1 3,⟨sl_block (k:=hh.n) (f:=none) (get_new_same _ _ rfl) (by simp) (by decide) (by rw[shL_len];rfl) (by omega) (by decide),by decide,fun p hp=>?_⟩,by simp⟩
 obtain rfl:p=(0,0):=by simpa using hp
 exact⟨by decide +kernel,by decide +kernel⟩
theorem shIq (x:Int):shareV (Rat.divInt x 1)=shV (wideN x) (wideN 1):=by
 have:Rat.divInt x 1=(x:Rat):=Rat.num_divInt_den (x:Rat)
 rw[this];rfl
theorem k3a {hh:IH} {fr:Fr} {Q:IExit→Fr→IH→Prop} {v1:Value} (f1:fget fr 1=some v1):Do (wpC Proofs.Try.prog 3 365 none (partD 3) fr hh) (seqK (fun fr h'=>Pst (h'=hh∧fget fr 1=some v1∧fget fr 2=some (.slice none 0 0)) nx) Q) nx:=by
 show Do (wpC _ _ _ _ (.region _ _ _) fr hh) _ _
 simp -dsimp (disch:=omega) only[wpS]
 exact⟨rfl,by simp[f1],by simp⟩
set_option maxHeartbeats 8000000 in
theorem k3 {hh:IH} {fr:Fr} {Q:IExit→Fr→IH→Prop} {v1:Value} (s1:ShSl hh v1 badL) (f1:fget fr 1=some v1) (f2:fget fr 2=some (.slice none 0 0)):Do (wpC Proofs.Try.prog 3 365 none (partD 4) fr hh) (seqK (fun fr h'=>Pst (Ext hh h' ∧ ∃k,DX h' fr v1 k) nx) Q) nx:=by
 show Do (wpC _ _ _ _ (.seq _ _) fr hh) _ _
 simp -dsimp (disch:=omega) only[wpS]
 refine loop (fun m fr g => ∃(i:Nat) (out:Value),i+m=201∧Ext hh g∧Acc g hh.n 16 out ((List.range i).map fun i=>shI (((i % 2:Nat):Nat):Int)).length (shL ((List.range i).map fun i=>shI (((i % 2:Nat):Nat):Int)))∧fget fr 1=some v1∧fget fr 2=some out∧fget fr 23=some (KN i)) 201
  ⟨0,.slice none 0 0,by omega,Ext.refl _,Acc.nil _ _ (by omega),by simp[f1],by simp[f2],by simp⟩ ?_
 rintro m fr g ⟨i,out,him,hE,hA,f1,f2,f23⟩
 have hnn:=hE.n
 simp -dsimp (disch:=omega) only[wpS,f23]
 refine bq_intro ?_ ?_<;>intro hc<;>simp only[decide_eq_true_eq,decide_eq_false_iff_not] at hc
 ·have hi:i<201:=by omega
  have hrem : ∀ox oy,binop Proofs.Try.prog .rem 3 ox oy (KN i) (.int .i64 2)=some (KN (i % 2)):=fun ox oy=>by
   rw[binop_rem _ _ _ _ (by decide)]
   rw[Int.tmod_eq_emod_of_nonneg (by omega)]
   congr 2
  simp -dsimp (disch:=omega) only[wpS,wpT,Nat.reduceEqDiff,f23,f2,hrem]
  refine call (lawq_ok (((i % 2:Nat):Nat):Int) 1 ⟨by omega,by omega⟩ ⟨by omega,by omega⟩ (by omega)) ?_
  rintro _ h1 ⟨X1,rfl⟩
  have m1:=X1.n
  rw[shIq]
  obtain⟨out',h8,hap,hA8,hG8,hE8⟩:=(hA.ext X1).appN (P:=Proofs.Try.prog) (t:=28) ap28 (m:=1) (new:=shC (wideN (((i % 2:Nat):Nat):Int)) (wideN 1)) (by omega) (by rw[shC_len]) (shC_all _ _) (by rw[List.length_map,List.length_range];omega) (by omega) (hE.trans X1) (Nat.le_refl _)
  have hA8':Acc h8 hh.n 16 out' ((List.range (i+1)).map fun i=>shI (((i % 2:Nat):Nat):Int)).length (shL ((List.range (i+1)).map fun i=>shI (((i % 2:Nat):Nat):Int))):=by
   rw[List.range_succ,List.map_append,List.map_singleton,shL_snoc,List.length_append]
   exact hA8
  have hap':append Proofs.Try.prog (h1.new (.cells (shC (wideN (((i % 2:Nat):Nat):Int)) (wideN 1)) 16 none)) 28 out (.slice (some ⟨2*h1.n,0,none⟩) 1 3)=some (out',h8):=hap
  simp -dsimp (disch:=omega) only[wpS,wpT,Nat.reduceEqDiff,Nat.reduceLeDiff,Nat.reduceAdd,bs28,ba28_28,f23,shV_cells,shC_len,sh_sp3,hap']
  exact⟨m - 1,by omega,i+1,out',by omega,hE8,hA8',by simp[f1],by simp,by simp⟩
 ·obtain rfl:i=201:=by omega
  simp -dsimp (disch:=omega) only[wpS,wpT]
  refine⟨hE,?_⟩
  obtain⟨hz,hl,⟨rfl,h0⟩|⟨k,fam,rfl,hn,h1,h2,h3,h4⟩⟩:=hA
  ·simp at h0
  ·refine⟨k,s1.keep hE.keep,⟨fam,h3⟩,h2,f1,?_⟩
   simp only[List.length_map,List.length_range] at f2;simp[f2]
set_option maxRecDepth 100000 in
set_option maxHeartbeats 8000000 in
theorem k4 {hh:IH} {fr:Fr} {Q:IExit→Fr→IH→Prop} {v1:Value} {k:Nat} (d:DX hh fr v1 k):Do (wpC Proofs.Try.prog 3 365 none (partD 5) fr hh) (seqK (fun fr h'=>Pst (Ext hh h'∧DX h' fr v1 k∧fget fr 4=some (.bool true)) nx) Q) nx:=by
 show Do (wpC _ _ _ _ (.region _ _ _) fr hh) _ _
 obtain⟨vw,sw,ew⟩:=d.part
 have f1:=d.f1
 have f2:=d.f2
 refine drawn [(2,[0]),(20,[18]),(87,[85]),(96,[94])] (by kernel_rfl) (by kernel_rfl) rfl ?_
 try simp only[List.toList_toArray,app_cons,app_nil]
 simp -dsimp (maxSteps:=1000000) (disch:=first|omega|(simp only[new_n,put_n];omega)|decide +kernel|(repeat first|rw[new_n]|rw[put_n])) only[wpS]
 refine call (faC_ok 3) ?_
 rintro _ h1 ⟨X1,i1,rfl,c1⟩
 have E1:=X1
 have E3:=cap3 k
 have A3:append Proofs.Try.prog h1 28 (.slice (some ⟨2*k,0,none⟩) 200 401) v1=some (.slice (some ⟨2*h1.n,0,none⟩) 201 402,h1.new (.cells (shL (L200 ++ badL)) 16 none)):=by
  obtain⟨fam,g2⟩:=(d.mv E1 d.f1 d.f2).g2
  have a:SlNow h1 16 (.slice (some ⟨2*k,0,none⟩) 200 (2*200+1)) 200 (shL L200):=by
   refine⟨by decide,by rw[shL_len];rfl,.inr ⟨2*k,0,401,rfl,.inr ⟨shL mostL,?_,?_,by rw[shL_len];decide⟩⟩⟩
   ·rw[row_even];simp[IH.cells,g2]
   ·rw[List.drop_zero,←L200_eq,shL_take]
  have b:=(d.s1.keep E1.keep).1.now
  have:=append_full ap28 a b (by decide) (by omega) (by decide +kernel) (by decide)
  rw[this,←shL_app]
  rfl
 simp -dsimp (maxSteps:=1000000) (disch:=first|omega|(simp only[new_n,put_n];omega)|decide +kernel|(repeat first|rw[new_n]|rw[put_n])) only[wpS,Nat.reduceEqDiff,ba28_28,f1,f2,E3,A3]
 have s3:ShSl (h1.new (.cells (shL (L200 ++ badL)) 16 none)) (.slice (some ⟨2*h1.n,0,none⟩) 201 402) (L200 ++ badL):=by
  refine⟨sl_block (k:=h1.n) (f:=none) (get_new_same _ _ rfl) (by simp) (by decide) (by rw[shL_len];rfl) (by omega) (by decide),by decide,fun p hp=>?_⟩
  rcases List.mem_append.1 hp with hp|hp
  ·exact(sw.2.2 p hp)
  ·exact(d.s1.2.2 p hp)
 refine call (gMean s3) ?_
 rintro _ h2 ⟨Y2,rfl⟩
 have X2:=((Ext.refl h1).new _).trans Y2
 have E2:=E1.trans X2
 have r2:meanRes (L200 ++ badL)=errV 3:=meanRes_err (by decide +kernel) (by decide)
 rw[r2]
 simp -dsimp (maxSteps:=1000000) (disch:=first|omega|(simp only[new_n,put_n];omega)|decide +kernel|(repeat first|rw[new_n]|rw[put_n])) only[wpS,Nat.reduceEqDiff]
 refine call (faT_ok (c1.ext X2)) ?_
 rintro _ h3 ⟨X3,rfl⟩
 have E3:=E2.trans X3
 simp -dsimp (maxSteps:=1000000) (disch:=first|omega|(simp only[new_n,put_n];omega)|decide +kernel|(repeat first|rw[new_n]|rw[put_n])) only[wpS,wpT,Nat.reduceEqDiff]
 refine call (faC_ok 20) ?_
 rintro _ h4 ⟨X4,i4,rfl,c4⟩
 have E4:=E3.trans X4
 simp -dsimp (maxSteps:=1000000) (disch:=first|omega|(simp only[new_n,put_n];omega)|decide +kernel|(repeat first|rw[new_n]|rw[put_n])) only[wpS,wpT,Nat.reduceEqDiff,f1]
 refine call (gMean (d.s1.keep E4.keep)) ?_
 rintro _ h5 ⟨X5,rfl⟩
 have E5:=E4.trans X5
 have r5:meanRes badL=errV 20:=meanRes_err (by decide +kernel) (by decide)
 rw[r5]
 simp -dsimp (maxSteps:=1000000) (disch:=first|omega|(simp only[new_n,put_n];omega)|decide +kernel|(repeat first|rw[new_n]|rw[put_n])) only[wpS,wpT,Nat.reduceEqDiff]
 refine call (faT_ok (c4.ext X5)) ?_
 rintro _ h6 ⟨X6,rfl⟩
 have E6:=E5.trans X6
 simp -dsimp (maxSteps:=1000000) (disch:=first|omega|(simp only[new_n,put_n];omega)|decide +kernel|(repeat first|rw[new_n]|rw[put_n])) only[wpS,wpT,Nat.reduceEqDiff]
 refine call (isC_ok 1 2) ?_
 rintro _ h7 ⟨X7,i7,j7,rfl,c7⟩
 have E7:=E6.trans X7
 simp -dsimp (maxSteps:=1000000) (disch:=first|omega|(simp only[new_n,put_n];omega)|decide +kernel|(repeat first|rw[new_n]|rw[put_n])) only[wpS,wpT,Nat.reduceEqDiff,f2,ew _ E7.keep]
 refine call (gMean (sw.keep E7.keep)) ?_
 rintro _ h8 ⟨X8,rfl⟩
 have E8:=E7.trans X8
 have r8:meanRes L200=.tuple #[shareV (Rat.divInt (1) 2),KI 0]:=meanRes_of (by decide +kernel) (by decide +kernel) (QW_of (by decide +kernel))
 rw[r8]
 simp -dsimp (maxSteps:=1000000) (disch:=first|omega|(simp only[new_n,put_n];omega)|decide +kernel|(repeat first|rw[new_n]|rw[put_n])) only[wpS,wpT,Nat.reduceEqDiff]
 refine call (isT_ok (q:=(Rat.divInt (1) 2)) (c7.ext X8) (by decide +kernel) (by decide +kernel) (by decide +kernel) (by decide +kernel)) ?_
 rintro _ h9 ⟨X9,rfl⟩
 have E9:=E8.trans X9
 simp -dsimp (maxSteps:=1000000) (disch:=first|omega|(simp only[new_n,put_n];omega)|decide +kernel|(repeat first|rw[new_n]|rw[put_n])) only[wpS,wpT,Nat.reduceEqDiff]
 refine call (faC_ok 20) ?_
 rintro _ h10 ⟨X10,i10,rfl,c10⟩
 have E10:=E9.trans X10
 simp -dsimp (maxSteps:=1000000) (disch:=first|omega|(simp only[new_n,put_n];omega)|decide +kernel|(repeat first|rw[new_n]|rw[put_n])) only[wpS,wpT,Nat.reduceEqDiff,f1]
 refine call (gAuto (d.s1.keep E10.keep) (.inl (by decide +kernel)) (-1)) ?_
 rintro _ h11 ⟨X11,rfl⟩
 have E11:=E10.trans X11
 have r11:autoRes badL (-1)=errV 20:=autoRes_err (by decide +kernel) (by decide)
 rw[r11]
 simp -dsimp (maxSteps:=1000000) (disch:=first|omega|(simp only[new_n,put_n];omega)|decide +kernel|(repeat first|rw[new_n]|rw[put_n])) only[wpS,wpT,Nat.reduceEqDiff]
 refine call (faT_ok (c10.ext X11)) ?_
 rintro _ h12 ⟨X12,rfl⟩
 have E12:=E11.trans X12
 simp -dsimp (maxSteps:=1000000) (disch:=first|omega|(simp only[new_n,put_n];omega)|decide +kernel|(repeat first|rw[new_n]|rw[put_n])) only[wpS,wpT,Nat.reduceEqDiff]
 refine call (faC_ok 4) ?_
 rintro _ h13 ⟨X13,i13,rfl,c13⟩
 have E13:=E12.trans X13
 simp -dsimp (maxSteps:=1000000) (disch:=first|omega|(simp only[new_n,put_n];omega)|decide +kernel|(repeat first|rw[new_n]|rw[put_n])) only[wpS,wpT,Nat.reduceEqDiff]
 refine call (gAuto (nil_shs h13) (.inl (by decide +kernel)) (-1)) ?_
 rintro _ h14 ⟨X14,rfl⟩
 have E14:=E13.trans X14
 have r14:autoRes [] (-1)=errV 4:=autoRes_err (by decide +kernel) (by decide)
 rw[r14]
 simp -dsimp (maxSteps:=1000000) (disch:=first|omega|(simp only[new_n,put_n];omega)|decide +kernel|(repeat first|rw[new_n]|rw[put_n])) only[wpS,wpT,Nat.reduceEqDiff]
 refine call (faT_ok (c13.ext X14)) ?_
 rintro _ h15 ⟨X15,rfl⟩
 have E15:=E14.trans X15
 simp -dsimp (maxSteps:=1000000) (disch:=first|omega|(simp only[new_n,put_n];omega)|decide +kernel|(repeat first|rw[new_n]|rw[put_n])) only[wpS,wpT,Nat.reduceEqDiff]
 refine call (faC_ok 2) ?_
 rintro _ h16 ⟨X16,i16,rfl,c16⟩
 have E16:=E15.trans X16
 simp -dsimp (maxSteps:=1000000) (disch:=first|omega|(simp only[new_n,put_n];omega)|decide +kernel|(repeat first|rw[new_n]|rw[put_n])) only[wpS,wpT,Nat.reduceEqDiff,Nat.reduceLeDiff,Nat.reduceAdd,bs60]
 refine call (lawl_blk [1] (by decide +kernel) (by decide +kernel) (by decide +kernel)) ?_
 rintro v17 h17 ⟨X17,s17⟩
 have E17:=E16.trans X17
 simp -dsimp (maxSteps:=1000000) (disch:=first|omega|(simp only[new_n,put_n];omega)|decide +kernel|(repeat first|rw[new_n]|rw[put_n])) only[wpS,wpT,Nat.reduceEqDiff]
 refine call (gAuto s17 (.inl (by decide +kernel)) (-1)) ?_
 rintro _ h18 ⟨X18,rfl⟩
 have E18:=E17.trans X18
 have r18:autoRes (mI [1]) (-1)=errV 2:=autoRes_no (by decide +kernel) (by decide +kernel)
 rw[r18]
 simp -dsimp (maxSteps:=1000000) (disch:=first|omega|(simp only[new_n,put_n];omega)|decide +kernel|(repeat first|rw[new_n]|rw[put_n])) only[wpS,wpT,Nat.reduceEqDiff]
 refine call (faT_ok ((c16.ext X17).ext X18)) ?_
 rintro _ h19 ⟨X19,rfl⟩
 have E19:=E18.trans X19
 simp -dsimp (maxSteps:=1000000) (disch:=first|omega|(simp only[new_n,put_n];omega)|decide +kernel|(repeat first|rw[new_n]|rw[put_n])) only[wpS,wpT,Nat.reduceEqDiff]
 refine call (isC_ok 0 1) ?_
 rintro _ h20 ⟨X20,i20,j20,rfl,c20⟩
 have E20:=E19.trans X20
 simp -dsimp (maxSteps:=1000000) (disch:=first|omega|(simp only[new_n,put_n];omega)|decide +kernel|(repeat first|rw[new_n]|rw[put_n])) only[wpS,wpT,Nat.reduceEqDiff,Nat.reduceLeDiff,Nat.reduceAdd,bs60]
 refine call (lawl_blk [1] (by decide +kernel) (by decide +kernel) (by decide +kernel)) ?_
 rintro v21 h21 ⟨X21,s21⟩
 have E21:=E20.trans X21
 simp -dsimp (maxSteps:=1000000) (disch:=first|omega|(simp only[new_n,put_n];omega)|decide +kernel|(repeat first|rw[new_n]|rw[put_n])) only[wpS,wpT,Nat.reduceEqDiff]
 refine call (gAuto s21 (.inl (by decide +kernel)) 0) ?_
 rintro _ h22 ⟨X22,rfl⟩
 have E22:=E21.trans X22
 have r22:autoRes (mI [1]) 0=.tuple #[shareV ((0:Int):Rat),KI 0]:=autoRes_of (lag:=0) (by decide +kernel) (by decide +kernel) (by decide +kernel) (QW_of (by decide +kernel))
 rw[r22]
 simp -dsimp (maxSteps:=1000000) (disch:=first|omega|(simp only[new_n,put_n];omega)|decide +kernel|(repeat first|rw[new_n]|rw[put_n])) only[wpS,wpT,Nat.reduceEqDiff]
 refine call (isT_ok (q:=((0:Int):Rat)) ((c20.ext X21).ext X22) (by decide +kernel) (by decide +kernel) (by decide +kernel) (by decide +kernel)) ?_
 rintro _ h23 ⟨X23,rfl⟩
 have E23:=E22.trans X23
 simp -dsimp (maxSteps:=1000000) (disch:=first|omega|(simp only[new_n,put_n];omega)|decide +kernel|(repeat first|rw[new_n]|rw[put_n])) only[wpS,wpT,Nat.reduceEqDiff]
 refine call (faC_ok 2) ?_
 rintro _ h24 ⟨X24,i24,rfl,c24⟩
 have E24:=E23.trans X24
 simp -dsimp (maxSteps:=1000000) (disch:=first|omega|(simp only[new_n,put_n];omega)|decide +kernel|(repeat first|rw[new_n]|rw[put_n])) only[wpS,wpT,Nat.reduceEqDiff,Nat.reduceLeDiff,Nat.reduceAdd,bs60]
 refine call (lawl_blk [1] (by decide +kernel) (by decide +kernel) (by decide +kernel)) ?_
 rintro v25 h25 ⟨X25,s25⟩
 have E25:=E24.trans X25
 simp -dsimp (maxSteps:=1000000) (disch:=first|omega|(simp only[new_n,put_n];omega)|decide +kernel|(repeat first|rw[new_n]|rw[put_n])) only[wpS,wpT,Nat.reduceEqDiff]
 refine call (gAuto s25 (.inl (by decide +kernel)) 1) ?_
 rintro _ h26 ⟨X26,rfl⟩
 have E26:=E25.trans X26
 have r26:autoRes (mI [1]) 1=errV 2:=autoRes_no (by decide +kernel) (by decide +kernel)
 rw[r26]
 simp -dsimp (maxSteps:=1000000) (disch:=first|omega|(simp only[new_n,put_n];omega)|decide +kernel|(repeat first|rw[new_n]|rw[put_n])) only[wpS,wpT,Nat.reduceEqDiff]
 refine call (faT_ok ((c24.ext X25).ext X26)) ?_
 rintro _ h27 ⟨X27,rfl⟩
 have E27:=E26.trans X27
 simp -dsimp (maxSteps:=1000000) (disch:=first|omega|(simp only[new_n,put_n];omega)|decide +kernel|(repeat first|rw[new_n]|rw[put_n])) only[wpS,wpT,Nat.reduceEqDiff]
 refine call (faC_ok 7) ?_
 rintro _ h28 ⟨X28,i28,rfl,c28⟩
 have E28:=E27.trans X28
 simp -dsimp (maxSteps:=1000000) (disch:=first|omega|(simp only[new_n,put_n];omega)|decide +kernel|(repeat first|rw[new_n]|rw[put_n])) only[wpS,wpT,Nat.reduceEqDiff,Nat.reduceLeDiff,Nat.reduceAdd,bs60]
 refine call (lawl_blk [1] (by decide +kernel) (by decide +kernel) (by decide +kernel)) ?_
 rintro v29 h29 ⟨X29,s29⟩
 have E29:=E28.trans X29
 simp -dsimp (maxSteps:=1000000) (disch:=first|omega|(simp only[new_n,put_n];omega)|decide +kernel|(repeat first|rw[new_n]|rw[put_n])) only[wpS,wpT,Nat.reduceEqDiff]
 refine call (gEff s29 (.inl (by decide +kernel))) ?_
 rintro _ h30 ⟨X30,rfl⟩
 have E30:=E29.trans X30
 have r30:effRes (mI [1])=errV 7:=effRes_no (by decide +kernel) (by decide +kernel)
 rw[r30]
 simp -dsimp (maxSteps:=1000000) (disch:=first|omega|(simp only[new_n,put_n];omega)|decide +kernel|(repeat first|rw[new_n]|rw[put_n])) only[wpS,wpT,Nat.reduceEqDiff]
 refine call (faT_ok ((c28.ext X29).ext X30)) ?_
 rintro _ h31 ⟨X31,rfl⟩
 have E31:=E30.trans X31
 simp -dsimp (maxSteps:=1000000) (disch:=first|omega|(simp only[new_n,put_n];omega)|decide +kernel|(repeat first|rw[new_n]|rw[put_n])) only[wpS,wpT,Nat.reduceEqDiff]
 refine call (faC_ok 4) ?_
 rintro _ h32 ⟨X32,i32,rfl,c32⟩
 have E32:=E31.trans X32
 simp -dsimp (maxSteps:=1000000) (disch:=first|omega|(simp only[new_n,put_n];omega)|decide +kernel|(repeat first|rw[new_n]|rw[put_n])) only[wpS,wpT,Nat.reduceEqDiff]
 refine call (gEff (nil_shs h32) (.inl (by decide +kernel))) ?_
 rintro _ h33 ⟨X33,rfl⟩
 have E33:=E32.trans X33
 have r33:effRes []=errV 4:=effRes_err (by decide +kernel) (by decide)
 rw[r33]
 simp -dsimp (maxSteps:=1000000) (disch:=first|omega|(simp only[new_n,put_n];omega)|decide +kernel|(repeat first|rw[new_n]|rw[put_n])) only[wpS,wpT,Nat.reduceEqDiff]
 refine call (faT_ok (c32.ext X33)) ?_
 rintro _ h34 ⟨X34,rfl⟩
 have E34:=E33.trans X34
 simp -dsimp (maxSteps:=1000000) (disch:=first|omega|(simp only[new_n,put_n];omega)|decide +kernel|(repeat first|rw[new_n]|rw[put_n])) only[wpS,wpT,Nat.reduceEqDiff]
 refine call (isC_ok 1 4) ?_
 rintro _ h35 ⟨X35,i35,j35,rfl,c35⟩
 have E35:=E34.trans X35
 simp -dsimp (maxSteps:=1000000) (disch:=first|omega|(simp only[new_n,put_n];omega)|decide +kernel|(repeat first|rw[new_n]|rw[put_n])) only[wpS,wpT,Nat.reduceEqDiff,f2,ew _ E35.keep]
 refine call (dgAuto_ok (lag:=0) (sw.keep E35.keep) (fun _=>qb_one) aB1) ?_
 rintro _ h36 ⟨X36,rfl⟩
 have E36:=E35.trans X36
 have r36:autoRes L200 0=.tuple #[shareV (Rat.divInt (1) 4),KI 0]:=autoRes_of (lag:=0) (by decide +kernel) (by decide +kernel) (by decide +kernel) (QW_of (by decide +kernel))
 rw[r36]
 simp -dsimp (maxSteps:=1000000) (disch:=first|omega|(simp only[new_n,put_n];omega)|decide +kernel|(repeat first|rw[new_n]|rw[put_n])) only[wpS,wpT,Nat.reduceEqDiff]
 refine call (isT_ok (q:=(Rat.divInt (1) 4)) (c35.ext X36) (by decide +kernel) (by decide +kernel) (by decide +kernel) (by decide +kernel)) ?_
 rintro _ h37 ⟨X37,rfl⟩
 have E37:=E36.trans X37
 simp -dsimp (maxSteps:=1000000) (disch:=first|omega|(simp only[new_n,put_n];omega)|decide +kernel|(repeat first|rw[new_n]|rw[put_n])) only[wpS,wpT,Nat.reduceEqDiff]
 refine call (isC_ok (-199) 800) ?_
 rintro _ h38 ⟨X38,i38,j38,rfl,c38⟩
 have E38:=E37.trans X38
 simp -dsimp (maxSteps:=1000000) (disch:=first|omega|(simp only[new_n,put_n];omega)|decide +kernel|(repeat first|rw[new_n]|rw[put_n])) only[wpS,wpT,Nat.reduceEqDiff,f2,ew _ E38.keep]
 refine call (dgAuto_ok (lag:=1) (sw.keep E38.keep) (fun _=>qb_one) aB1) ?_
 rintro _ h39 ⟨X39,rfl⟩
 have E39:=E38.trans X39
 have r39:autoRes L200 1=.tuple #[shareV (Rat.divInt (-199) 800),KI 0]:=autoRes_of (lag:=1) (by decide +kernel) (by decide +kernel) (by decide +kernel) (QW_of (by decide +kernel))
 rw[r39]
 simp -dsimp (maxSteps:=1000000) (disch:=first|omega|(simp only[new_n,put_n];omega)|decide +kernel|(repeat first|rw[new_n]|rw[put_n])) only[wpS,wpT,Nat.reduceEqDiff]
 refine call (isT_ok (q:=(Rat.divInt (-199) 800)) (c38.ext X39) (by decide +kernel) (by decide +kernel) (by decide +kernel) (by decide +kernel)) ?_
 rintro _ h40 ⟨X40,rfl⟩
 have E40:=E39.trans X40
 simp -dsimp (maxSteps:=1000000) (disch:=first|omega|(simp only[new_n,put_n];omega)|decide +kernel|(repeat first|rw[new_n]|rw[put_n])) only[wpS,wpT,Nat.reduceEqDiff]
 refine call (isC_ok 4 1) ?_
 rintro _ h41 ⟨X41,i41,j41,rfl,c41⟩
 have E41:=E40.trans X41
 simp -dsimp (maxSteps:=1000000) (disch:=first|omega|(simp only[new_n,put_n];omega)|decide +kernel|(repeat first|rw[new_n]|rw[put_n])) only[wpS,wpT,Nat.reduceEqDiff,Nat.reduceLeDiff,Nat.reduceAdd,Nat.reduceMul,bs60]
 refine call (lawl_blk [0,1] (by decide +kernel) (by decide +kernel) (by decide +kernel)) ?_
 rintro v42 h42 ⟨X42,s42⟩
 have E42:=E41.trans X42
 simp -dsimp (maxSteps:=1000000) (disch:=first|omega|(simp only[new_n,put_n];omega)|decide +kernel|(repeat first|rw[new_n]|rw[put_n])) only[wpS,wpT,Nat.reduceEqDiff]
 refine call (gEff s42 (.inl (by decide +kernel))) ?_
 rintro _ h43 ⟨X43,rfl⟩
 have E43:=E42.trans X43
 have r43:effRes (mI [0,1])=.tuple #[shareV ((4:Int):Rat),KI 0]:=effRes_of (by decide +kernel) (by decide +kernel) (by decide +kernel) (QW_of (by decide +kernel))
 rw[r43]
 simp -dsimp (maxSteps:=1000000) (disch:=first|omega|(simp only[new_n,put_n];omega)|decide +kernel|(repeat first|rw[new_n]|rw[put_n])) only[wpS,wpT,Nat.reduceEqDiff]
 refine call (isT_ok (q:=((4:Int):Rat)) ((c41.ext X42).ext X43) (by decide +kernel) (by decide +kernel) (by decide +kernel) (by decide +kernel)) ?_
 rintro _ h44 ⟨X44,rfl⟩
 have E44:=E43.trans X44
 simp -dsimp (maxSteps:=1000000) (disch:=first|omega|(simp only[new_n,put_n];omega)|decide +kernel|(repeat first|rw[new_n]|rw[put_n])) only[wpS,Nat.reduceEqDiff]
 refine⟨wpSteady_c2 (wpSteady_one rfl rfl rfl rfl (steady_slice3 rfl rfl rfl rfl (cap3 k _) (cap3 k _))) (wpSteady_c2 (wpSteady_one rfl rfl rfl rfl (steady_slice rfl rfl rfl (ew _ E7.keep) (ew _ E6.keep))) (wpSteady_c2 (wpSteady_one rfl rfl rfl rfl (steady_slice rfl rfl rfl (ew _ E35.keep) (ew _ E34.keep))) (wpSteady_one rfl rfl rfl rfl (steady_slice rfl rfl rfl (ew _ E38.keep) (ew _ E37.keep))))),?_⟩
 simp -dsimp (maxSteps:=1000000) (disch:=first|omega|(simp only[new_n,put_n];omega)|decide +kernel|(repeat first|rw[new_n]|rw[put_n])) only[wpS,wpT,Nat.reduceAdd]
 exact⟨E44,d.mv E44 (by simp[f1]) (by simp[f2]),by simp⟩
end Go.Id

/-! DiagnoseKnown, regions 11 to 18. -/
namespace Go.Id
open Go
abbrev oneL:List (Nat×Nat):=[shq (Rat.divInt 3 2)]
set_option maxRecDepth 100000 in
set_option maxHeartbeats 8000000 in
theorem k5 {hh:IH} {fr:Fr} {Q:IExit→Fr→IH→Prop} {v1:Value} {k:Nat} (d:DX hh fr v1 k) (f4:fget fr 4=some (.bool true)):Do (wpC Proofs.Try.prog 3 365 none (partD 6) fr hh) (seqK (fun fr h'=>Pst (Ext hh h'∧DX h' fr v1 k∧fget fr 4=some (.bool true)∧fget fr 6=some (KI 2)) nx) Q) nx:=by
 show Do (wpC _ _ _ _ (.region _ _ _) fr hh) _ _
 have f1:=d.f1
 have f2:=d.f2
 simp -dsimp (disch:=omega) only[wpS,wpT,Nat.reduceLeDiff,Nat.reduceAdd,Nat.reduceMul,bs60]
 refine call (lawl_blk [1,2] (by decide +kernel) (by decide +kernel) (by decide +kernel)) ?_
 rintro v45 h45 ⟨X45,s45⟩
 have E45:=X45
 simp -dsimp (disch:=omega) only[wpS,Nat.reduceEqDiff]
 refine call (gBat s45 0) ?_
 have b46:batErr (mI [1,2]) 0=2:=batErr_arg (by decide +kernel) (by decide)
 rw[b46]
 rintro _ h46 ⟨X46,v46,rfl,s46⟩
 have E46:=E45.trans X46
 simp -dsimp (disch:=omega) only[wpS,Nat.reduceEqDiff]
 exact⟨E46,d.mv E46 (by simp[f1]) (by simp[f2]),by simp[f4],rfl⟩
set_option maxRecDepth 100000 in
set_option maxHeartbeats 8000000 in
theorem k6 {hh:IH} {fr:Fr} {Q:IExit→Fr→IH→Prop} {v1:Value} {k:Nat} (d:DX hh fr v1 k) (f4:fget fr 4=some (.bool true)) (f6:fget fr 6=some (KI 2)):Do (wpC Proofs.Try.prog 3 365 none (partD 7) fr hh) (seqK (fun fr h'=>Pst (Ext hh h'∧DX h' fr v1 k∧fget fr 4=some (.bool true)∧fget fr 6=some (KI 2)∧fget fr 8=some (KI 2)) nx) Q) nx:=by
 show Do (wpC _ _ _ _ (.region _ _ _) fr hh) _ _
 have f1:=d.f1
 have f2:=d.f2
 simp -dsimp (disch:=omega) only[wpS,wpT,Nat.reduceLeDiff,Nat.reduceAdd,Nat.reduceMul,bs60]
 refine call (lawl_blk [1,2] (by decide +kernel) (by decide +kernel) (by decide +kernel)) ?_
 rintro v47 h47 ⟨X47,s47⟩
 have E47:=X47
 simp -dsimp (disch:=omega) only[wpS,Nat.reduceEqDiff]
 refine call (gBat s47 3) ?_
 have b48:batErr (mI [1,2]) 3=2:=batErr_arg (by decide +kernel) (by decide)
 rw[b48]
 rintro _ h48 ⟨X48,v48,rfl,s48⟩
 have E48:=E47.trans X48
 simp -dsimp (disch:=omega) only[wpS,Nat.reduceEqDiff]
 exact⟨E48,d.mv E48 (by simp[f1]) (by simp[f2]),by simp[f4],by simp[f6],rfl⟩
set_option maxRecDepth 100000 in
set_option maxHeartbeats 8000000 in
theorem k7 {hh:IH} {fr:Fr} {Q:IExit→Fr→IH→Prop} {v1:Value} {k:Nat} (d:DX hh fr v1 k) (f4:fget fr 4=some (.bool true)) (f6:fget fr 6=some (KI 2)) (f8:fget fr 8=some (KI 2)):Do (wpC Proofs.Try.prog 3 365 none (partD 8) fr hh) (seqK (fun fr h'=>Pst (Ext hh h'∧DX h' fr v1 k∧fget fr 4=some (.bool true)∧fget fr 6=some (KI 2)∧fget fr 8=some (KI 2)∧fget fr 10=some (KI 20)) nx) Q) nx:=by
 show Do (wpC _ _ _ _ (.region _ _ _) fr hh) _ _
 have f1:=d.f1
 have f2:=d.f2
 simp -dsimp (disch:=omega) only[wpS,f1]
 refine call (gBat d.s1 0) ?_
 have b49:batErr badL 0=20:=batErr_of (by decide +kernel) (by decide)
 rw[b49]
 rintro _ h49 ⟨X49,v49,rfl,s49⟩
 have E49:=X49
 simp -dsimp (disch:=omega) only[wpS,Nat.reduceEqDiff]
 exact⟨E49,d.mv E49 (by simp[f1]) (by simp[f2]),by simp[f4],by simp[f6],by simp[f8],rfl⟩
set_option maxRecDepth 100000 in
set_option maxHeartbeats 8000000 in
theorem k8 {hh:IH} {fr:Fr} {Q:IExit→Fr→IH→Prop} {v1:Value} {k:Nat} (d:DX hh fr v1 k) (f4:fget fr 4=some (.bool true)) (f6:fget fr 6=some (KI 2)) (f8:fget fr 8=some (KI 2)) (f10:fget fr 10=some (KI 20)):Do (wpC Proofs.Try.prog 3 365 none (partD 9) fr hh) (seqK (fun fr h'=>Pst (Ext hh h'∧DX h' fr v1 k∧(∃v11,ShSl h' v11 oneL∧fget fr 11=some v11)∧fget fr 4=some (.bool true)∧fget fr 6=some (KI 2)∧fget fr 8=some (KI 2)∧fget fr 10=some (KI 20)∧fget fr 12=some (KI 0)) nx) Q) nx:=by
 show Do (wpC _ _ _ _ (.region _ _ _) fr hh) _ _
 have f1:=d.f1
 have f2:=d.f2
 simp -dsimp (disch:=omega) only[wpS,wpT,Nat.reduceLeDiff,Nat.reduceAdd,Nat.reduceMul,bs60]
 refine call (lawl_blk [1,2] (by decide +kernel) (by decide +kernel) (by decide +kernel)) ?_
 rintro v50 h50 ⟨X50,s50⟩
 have E50:=X50
 simp -dsimp (disch:=omega) only[wpS,Nat.reduceEqDiff]
 refine call (gBat s50 2) ?_
 have b51:batErr (mI [1,2]) 2=0:=batErr_ok (by decide +kernel) (by decide +kernel) (by decide +kernel) (by decide +kernel)
 rw[b51]
 rintro _ h51 ⟨X51,v51,rfl,s51⟩
 have E51:=E50.trans X51
 rw[if_pos rfl] at s51
 have e51:(bmeans ((mI [1,2]).map rOf) (2:Int).toNat).map shOf=oneL:=by decide +kernel
 rw[e51] at s51
 simp -dsimp (disch:=omega) only[wpS,Nat.reduceEqDiff]
 exact⟨E51,d.mv E51 (by simp[f1]) (by simp[f2]),⟨v51,s51,rfl⟩,by simp[f4],by simp[f6],by simp[f8],by simp[f10],rfl⟩
set_option maxRecDepth 100000 in
set_option maxHeartbeats 8000000 in
theorem k9 {hh:IH} {fr:Fr} {Q:IExit→Fr→IH→Prop} {v1:Value} {k:Nat} (d:DX hh fr v1 k) {v11:Value} (s11:ShSl hh v11 oneL) (f4:fget fr 4=some (.bool true)) (f11:fget fr 11=some v11) (f6:fget fr 6=some (KI 2)) (f8:fget fr 8=some (KI 2)) (f10:fget fr 10=some (KI 20)) (f12:fget fr 12=some (KI 0)):Do (wpC Proofs.Try.prog 3 365 none (partD 10) fr hh) (seqK (fun fr h'=>Pst (Ext hh h'∧DX h' fr v1 k∧ShSl h' v11 oneL∧fget fr 4=some (.bool true)∧fget fr 11=some v11∧fget fr 6=some (KI 2)∧fget fr 8=some (KI 2)∧fget fr 10=some (KI 20)∧fget fr 12=some (KI 0)∧fget fr 14=some (KI 4)) nx) Q) nx:=by
 show Do (wpC _ _ _ _ (.region _ _ _) fr hh) _ _
 have f1:=d.f1
 have f2:=d.f2
 simp -dsimp (disch:=omega) only[wpS]
 refine call (dgStuck_ok (nil_shs hh)) ?_
 rintro _ h52 ⟨X52,rfl⟩
 have E52:=X52
 have r52:stuckRes []=.tuple #[KI 0,KI 4]:=by unfold stuckRes;rw[if_neg (by decide)];rfl
 rw[r52]
 simp -dsimp (disch:=omega) only[wpS,Nat.reduceEqDiff]
 exact⟨E52,d.mv E52 (by simp[f1]) (by simp[f2]),s11.keep E52.keep,by simp[f4],by simp[f11],by simp[f6],by simp[f8],by simp[f10],by simp[f12],rfl⟩
set_option maxRecDepth 100000 in
set_option maxHeartbeats 8000000 in
theorem k10 {hh:IH} {fr:Fr} {Q:IExit→Fr→IH→Prop} {v1:Value} {k:Nat} (d:DX hh fr v1 k) {v11:Value} (s11:ShSl hh v11 oneL) (f4:fget fr 4=some (.bool true)) (f11:fget fr 11=some v11) (f6:fget fr 6=some (KI 2)) (f8:fget fr 8=some (KI 2)) (f10:fget fr 10=some (KI 20)) (f12:fget fr 12=some (KI 0)) (f14:fget fr 14=some (KI 4)):Do (wpC Proofs.Try.prog 3 365 none (partD 11) fr hh) (seqK (fun fr h'=>Pst (Ext hh h'∧DX h' fr v1 k∧ShSl h' v11 oneL∧fget fr 4=some (.bool true)∧fget fr 11=some v11∧fget fr 6=some (KI 2)∧fget fr 8=some (KI 2)∧fget fr 10=some (KI 20)∧fget fr 12=some (KI 0)∧fget fr 14=some (KI 4)∧fget fr 15=some (KI 1)∧fget fr 16=some (KI 0)) nx) Q) nx:=by
 show Do (wpC _ _ _ _ (.region _ _ _) fr hh) _ _
 have f1:=d.f1
 have f2:=d.f2
 obtain⟨vw,sw,ew⟩:=d.part
 simp -dsimp (disch:=omega) only[wpS,Nat.reduceEqDiff,f2,ew _ (Keep.refl hh)]
 refine call (dgStuck_ok sw) ?_
 rintro _ h53 ⟨X53,rfl⟩
 have E53:=X53
 have r53:stuckRes L200=.tuple #[KI 1,KI 0]:=by unfold stuckRes;rw[if_pos (by decide +kernel),show mostAt L200 L200.length=1 from by decide +kernel];rfl
 rw[r53]
 simp -dsimp (disch:=omega) only[wpS,Nat.reduceEqDiff]
 exact⟨E53,d.mv E53 (by simp[f1]) (by simp[f2]),s11.keep E53.keep,by simp[f4],by simp[f11],by simp[f6],by simp[f8],by simp[f10],by simp[f12],by simp[f14],rfl,rfl⟩
set_option maxRecDepth 100000 in
set_option maxHeartbeats 8000000 in
theorem k11 {hh:IH} {fr:Fr} {Q:IExit→Fr→IH→Prop} {v1:Value} {k:Nat} (d:DX hh fr v1 k) {v11:Value} (s11:ShSl hh v11 oneL) (f4:fget fr 4=some (.bool true)) (f11:fget fr 11=some v11) (f6:fget fr 6=some (KI 2)) (f8:fget fr 8=some (KI 2)) (f10:fget fr 10=some (KI 20)) (f12:fget fr 12=some (KI 0)) (f14:fget fr 14=some (KI 4)) (f15:fget fr 15=some (KI 1)) (f16:fget fr 16=some (KI 0)):Do (wpC Proofs.Try.prog 3 365 none (partD 12) fr hh) (seqK (fun fr h'=>Pst (Ext hh h'∧DX h' fr v1 k∧fget fr 4=some (.bool true)) nx) Q) nx:=by
 show Do (wpC _ _ _ _ (.region _ _ _) fr hh) _ _
 have f1:=d.f1
 have f2:=d.f2
 refine drawn [(21,[42])] (by kernel_rfl) (by kernel_rfl) rfl ?_
 try simp only[List.toList_toArray]
 have hld:load Proofs.Try.prog hh 27 (elemAddr v11 0)=some (shV (shq (Rat.divInt 3 2)).1 (shq (Rat.divInt 3 2)).2):=s11.ld (i:=0) (Keep.refl hh) rfl
 have hix:indexAddr Proofs.Try.prog 28 v11 (.int .i64 0)=some (elemAddr v11 0):=s11.1.idx (P:=Proofs.Try.prog) (t:=28) es28 (k:=.i64) (j:=0) (by decide)
 have hsq:shareV (Rat.divInt 3 2)=shV (shq (Rat.divInt 3 2)).1 (shq (Rat.divInt 3 2)).2:=rfl
 simp -dsimp (disch:=omega) only[wpS,wpT,Nat.reduceEqDiff,f4,f11,f6,f8,f10,s11.1.len sl28,hix,hld]
 refine call (lawq_ok 3 2 (by decide +kernel) (by decide +kernel) (by decide +kernel)) ?_
 rintro _ h1 ⟨X1,rfl⟩
 rw[hsq]
 have hne : ∀ox oy,binop Proofs.Try.prog .eql 27 ox oy (shV (shq (Rat.divInt 3 2)).1 (shq (Rat.divInt 3 2)).2) (shV (shq (Rat.divInt 3 2)).1 (shq (Rat.divInt 3 2)).2)=some (.bool true):=fun ox oy=>(sh_eql (by decide +kernel) (by decide +kernel) (by decide +kernel) (by decide +kernel) ox oy).trans (by simp)
 simp -dsimp (disch:=omega) only[wpS,wpT,Nat.reduceEqDiff,f12,f14,f15,f16,hne]
 refine⟨wpSteady_one rfl rfl rfl rfl (steady_load rfl hld ((s11.ld (i:=0) X1.keep rfl))),?_⟩
 simp -dsimp (disch:=omega) only[wpS,wpT,Nat.reduceAdd]
 exact⟨X1,d.mv X1 (by simp[f1]) (by simp[f2]),by simp⟩
set_option maxRecDepth 100000 in
set_option maxHeartbeats 8000000 in
theorem k12 {hh:IH} {fr:Fr} {Q:IExit→Fr→IH→Prop} {v1:Value} {k:Nat} (d:DX hh fr v1 k) (f4:fget fr 4=some (.bool true)):Do (wpC Proofs.Try.prog 3 365 none (partD 13) fr hh) (seqK (fun fr h'=>Pst (Ext hh h'∧DX h' fr v1 k∧fget fr 4=some (.bool true) ∧ ∃v17,SlOf h' 1 v17 9 (List.replicate 9 (.slice none 0 0))∧fget fr 17=some v17) nx) Q) nx:=by
 show Do (wpC _ _ _ _ (.region _ _ _) fr hh) _ _
 have f1:=d.f1
 have f2:=d.f2
 have E1:Ext hh (hh.new (.cells (List.replicate 9 (.slice none 0 0)) 1 none)):=(Ext.refl hh).new _
 have hm:makeSlice Proofs.Try.prog hh 42 (.int .i64 9) (.int .i64 9)=some (.slice (some ⟨2*hh.n,0,none⟩) 9 19,hh.new (.cells (List.replicate 9 (.slice none 0 0)) 1 none)):=by
  rw[ms42 hh .i64 .i64 (by decide) (by decide) (by decide)];rfl
 simp -dsimp (disch:=omega) only[wpS,hm]
 exact⟨E1,d.mv E1 (by simp[f1]) (by simp[f2]),by simp[f4],_,sl_block (k:=hh.n) (f:=none) (get_new_same _ _ rfl) (by simp) (by decide) (by simp) (by omega) (by decide),rfl⟩
end Go.Id

/-! DiagnoseKnown, regions 19 to 21, and the whole, on the ideal machine. -/
namespace Go.Id
open Go
set_option maxRecDepth 100000 in
set_option maxHeartbeats 8000000 in
theorem k13 {hh:IH} {fr:Fr} {Q:IExit→Fr→IH→Prop} {v1 v17:Value} {k:Nat} (d:DX hh fr v1 k) (f4:fget fr 4=some (.bool true)) (s17:SlOf hh 1 v17 9 (List.replicate 9 (.slice none 0 0))) (f17:fget fr 17=some v17):Do (wpC Proofs.Try.prog 3 365 none (partD 14) fr hh) (seqK (fun fr h'=>Pst (Ext hh h'∧fget fr 4=some (.bool true)) nx) Q) nx:=by
 show Do (wpC _ _ _ _ (.region _ _ _) fr hh) _ _
 have f1:=d.f1
 have f2:=d.f2
 obtain⟨v8,e8,s8⟩:=ShLs.first (m:=9) s17 (Keep.refl hh)
 have E8 : ∀h',Keep hh h'→sliceOp Proofs.Try.prog h' 42 v17 none (some (KI 8)) none=some v8:=fun h' kp=>(s17.slice_same (Keep.refl hh) kp (P:=Proofs.Try.prog) u42 sz28).symm.trans e8
 have s9:ShLs hh v17 (List.replicate 9 []):=by
  refine⟨List.replicate 9 (.slice none 0 0),by simpa using s17,by simp,fun i x hx=>?_⟩
  have hi:=(List.getElem?_eq_some_iff.1 hx).1
  simp only[List.length_replicate] at hi
  obtain rfl:x = []:=by rw[List.getElem?_replicate,if_pos hi] at hx;cases hx;rfl
  exact⟨_,by rw[List.getElem?_replicate,if_pos hi],nil_shs hh⟩
 refine drawn [(12,[10])] (by kernel_rfl) (by kernel_rfl) rfl ?_
 try simp only[List.toList_toArray,app_cons,app_nil]
 simp -dsimp (maxSteps:=1000000) (disch:=first|omega|(simp only[new_n,put_n];omega)|decide +kernel|(repeat first|rw[new_n]|rw[put_n])) only[wpS,wpT,Nat.reduceEqDiff,f4]
 refine call (faC_ok 3) ?_
 rintro _ h54 ⟨X54,i54,rfl,c54⟩
 have E54:=X54
 simp -dsimp (maxSteps:=1000000) (disch:=first|omega|(simp only[new_n,put_n];omega)|decide +kernel|(repeat first|rw[new_n]|rw[put_n])) only[wpS,wpT,Nat.reduceEqDiff,f17]
 refine call (gWithin (s9.keep E54.keep) (fun e=>absurd e (by decide +kernel))) ?_
 rintro _ h55 ⟨X55,rfl⟩
 have E55:=E54.trans X55
 have r55:withinRes (List.replicate 9 [])=errV 3:=withinRes_err (by decide +kernel) (by decide)
 rw[r55]
 simp -dsimp (maxSteps:=1000000) (disch:=first|omega|(simp only[new_n,put_n];omega)|decide +kernel|(repeat first|rw[new_n]|rw[put_n])) only[wpS,wpT,Nat.reduceEqDiff]
 refine call (faT_ok (c54.ext X55)) ?_
 rintro _ h56 ⟨X56,rfl⟩
 have E56:=E55.trans X56
 simp -dsimp (maxSteps:=1000000) (disch:=first|omega|(simp only[new_n,put_n];omega)|decide +kernel|(repeat first|rw[new_n]|rw[put_n])) only[wpS,wpT,Nat.reduceEqDiff]
 refine call (faC_ok 5) ?_
 rintro _ h57 ⟨X57,i57,rfl,c57⟩
 have E57:=E56.trans X57
 simp -dsimp (maxSteps:=1000000) (disch:=first|omega|(simp only[new_n,put_n];omega)|decide +kernel|(repeat first|rw[new_n]|rw[put_n])) only[wpS,wpT,Nat.reduceEqDiff,f17,E8 _ E57.keep]
 refine call (gWithin (s8.keep E57.keep) (fun e=>absurd e (by decide +kernel))) ?_
 rintro _ h58 ⟨X58,rfl⟩
 have E58:=E57.trans X58
 have r58:withinRes (List.replicate 8 [])=errV 5:=withinRes_err (by decide +kernel) (by decide)
 rw[r58]
 simp -dsimp (maxSteps:=1000000) (disch:=first|omega|(simp only[new_n,put_n];omega)|decide +kernel|(repeat first|rw[new_n]|rw[put_n])) only[wpS,wpT,Nat.reduceEqDiff]
 refine call (faT_ok (c57.ext X58)) ?_
 rintro _ h59 ⟨X59,rfl⟩
 have E59:=E58.trans X59
 simp -dsimp (maxSteps:=1000000) (disch:=first|omega|(simp only[new_n,put_n];omega)|decide +kernel|(repeat first|rw[new_n]|rw[put_n])) only[wpS,wpT,Nat.reduceEqDiff]
 refine call (faC_ok 5) ?_
 rintro _ h60 ⟨X60,i60,rfl,c60⟩
 have E60:=E59.trans X60
 simp -dsimp (maxSteps:=1000000) (disch:=first|omega|(simp only[new_n,put_n];omega)|decide +kernel|(repeat first|rw[new_n]|rw[put_n])) only[wpS,wpT,Nat.reduceEqDiff]
 refine call (gWithin (nil_shls h60) (fun e=>absurd e (by decide +kernel))) ?_
 rintro _ h61 ⟨X61,rfl⟩
 have E61:=E60.trans X61
 have r61:withinRes []=errV 5:=withinRes_err (by decide +kernel) (by decide)
 rw[r61]
 simp -dsimp (maxSteps:=1000000) (disch:=first|omega|(simp only[new_n,put_n];omega)|decide +kernel|(repeat first|rw[new_n]|rw[put_n])) only[wpS,wpT,Nat.reduceEqDiff]
 refine call (faT_ok (c60.ext X61)) ?_
 rintro _ h62 ⟨X62,rfl⟩
 have E62:=E61.trans X62
 simp -dsimp (maxSteps:=1000000) (disch:=first|omega|(simp only[new_n,put_n];omega)|decide +kernel|(repeat first|rw[new_n]|rw[put_n])) only[wpS,wpT,Nat.reduceEqDiff]
 refine call (faC_ok 3) ?_
 rintro _ h63 ⟨X63,i63,rfl,c63⟩
 have E63:=E62.trans X63
 simp -dsimp (maxSteps:=1000000) (disch:=first|omega|(simp only[new_n,put_n];omega)|decide +kernel|(repeat first|rw[new_n]|rw[put_n])) only[wpS,wpT,Nat.reduceEqDiff,Nat.reduceLeDiff,Nat.reduceAdd,Nat.reduceMul,bs42,f1,f2,d.s1.1.cells,d.s2.1.cells]
 refine call (gMeans (ll:=[badL,mostL]) (shLs_two (d.s1.keep E63.keep) (d.s2.keep E63.keep)) (fun e=>absurd e (by decide +kernel))) ?_
 rintro _ h64 ⟨Y64,rfl⟩
 have X64:=((Ext.refl _).new _).trans Y64
 have E64:=E63.trans X64
 have r64:meansRes [badL,mostL]=errV 3:=meansRes_err (by decide +kernel) (by decide)
 rw[r64]
 simp -dsimp (maxSteps:=1000000) (disch:=first|omega|(simp only[new_n,put_n];omega)|decide +kernel|(repeat first|rw[new_n]|rw[put_n])) only[wpS,wpT,Nat.reduceEqDiff]
 refine call (faT_ok (c63.ext X64)) ?_
 rintro _ h65 ⟨X65,rfl⟩
 have E65:=E64.trans X65
 simp -dsimp (maxSteps:=1000000) (disch:=first|omega|(simp only[new_n,put_n];omega)|decide +kernel|(repeat first|rw[new_n]|rw[put_n])) only[wpS,wpT,Nat.reduceEqDiff]
 refine call (faC_ok 20) ?_
 rintro _ h66 ⟨X66,i66,rfl,c66⟩
 have E66:=E65.trans X66
 simp -dsimp (maxSteps:=1000000) (disch:=first|omega|(simp only[new_n,put_n];omega)|decide +kernel|(repeat first|rw[new_n]|rw[put_n])) only[wpS,wpT,Nat.reduceEqDiff,Nat.reduceLeDiff,Nat.reduceAdd,bs42,f1,d.s1.1.cells]
 refine call (gMeans (ll:=[badL]) (shLs_one (d.s1.keep E66.keep)) (fun e=>absurd e (by decide +kernel))) ?_
 rintro _ h67 ⟨Y67,rfl⟩
 have X67:=((Ext.refl _).new _).trans Y67
 have E67:=E66.trans X67
 have r67:meansRes [badL]=errV 20:=meansRes_err (by decide +kernel) (by decide)
 rw[r67]
 simp -dsimp (maxSteps:=1000000) (disch:=first|omega|(simp only[new_n,put_n];omega)|decide +kernel|(repeat first|rw[new_n]|rw[put_n])) only[wpS,wpT,Nat.reduceEqDiff]
 refine call (faT_ok (c66.ext X67)) ?_
 rintro _ h68 ⟨X68,rfl⟩
 have E68:=E67.trans X68
 simp -dsimp (maxSteps:=1000000) (disch:=first|omega|(simp only[new_n,put_n];omega)|decide +kernel|(repeat first|rw[new_n]|rw[put_n])) only[wpS,wpT,Nat.reduceEqDiff]
 refine call (faC_ok 5) ?_
 rintro _ h69 ⟨X69,i69,rfl,c69⟩
 have E69:=E68.trans X69
 simp -dsimp (maxSteps:=1000000) (disch:=first|omega|(simp only[new_n,put_n];omega)|decide +kernel|(repeat first|rw[new_n]|rw[put_n])) only[wpS,wpT,Nat.reduceEqDiff,Nat.reduceLeDiff,Nat.reduceAdd,Nat.reduceMul,bs60]
 refine call (lawl_blk [1,2] (by decide +kernel) (by decide +kernel) (by decide +kernel)) ?_
 rintro v70 h70 ⟨X70,s70⟩
 have E70:=E69.trans X70
 simp -dsimp (maxSteps:=1000000) (disch:=first|omega|(simp only[new_n,put_n];omega)|decide +kernel|(repeat first|rw[new_n]|rw[put_n])) only[wpS,wpT,Nat.reduceEqDiff,Nat.reduceLeDiff,Nat.reduceAdd,Nat.reduceMul,bs60]
 refine call (lawl_blk [1,2,3] (by decide +kernel) (by decide +kernel) (by decide +kernel)) ?_
 rintro v71 h71 ⟨X71,s71⟩
 have E71:=E70.trans X71
 simp -dsimp (maxSteps:=1000000) (disch:=first|omega|(simp only[new_n,put_n];omega)|decide +kernel|(repeat first|rw[new_n]|rw[put_n])) only[wpS,wpT,Nat.reduceEqDiff,Nat.reduceLeDiff,Nat.reduceAdd,Nat.reduceMul,bs42,s70.1.cells,s71.1.cells]
 refine call (gMeans (ll:=[mI [1,2],mI [1,2,3]]) (shLs_two (s70.keep X71.keep) s71) (fun e=>absurd e (by decide +kernel))) ?_
 rintro _ h72 ⟨Y72,rfl⟩
 have X72:=((Ext.refl _).new _).trans Y72
 have E72:=E71.trans X72
 have r72:meansRes [mI [1,2],mI [1,2,3]]=errV 5:=meansRes_err (by decide +kernel) (by decide)
 rw[r72]
 simp -dsimp (maxSteps:=1000000) (disch:=first|omega|(simp only[new_n,put_n];omega)|decide +kernel|(repeat first|rw[new_n]|rw[put_n])) only[wpS,wpT,Nat.reduceEqDiff]
 refine call (faT_ok (((c69.ext X70).ext X71).ext X72)) ?_
 rintro _ h73 ⟨X73,rfl⟩
 have E73:=E72.trans X73
 simp -dsimp (maxSteps:=1000000) (disch:=first|omega|(simp only[new_n,put_n];omega)|decide +kernel|(repeat first|rw[new_n]|rw[put_n])) only[wpS,wpT,Nat.reduceEqDiff]
 refine call (faC_ok 5) ?_
 rintro _ h74 ⟨X74,i74,rfl,c74⟩
 have E74:=E73.trans X74
 simp -dsimp (maxSteps:=1000000) (disch:=first|omega|(simp only[new_n,put_n];omega)|decide +kernel|(repeat first|rw[new_n]|rw[put_n])) only[wpS,wpT,Nat.reduceEqDiff,Nat.reduceLeDiff,Nat.reduceAdd,bs60]
 refine call (lawl_blk [1] (by decide +kernel) (by decide +kernel) (by decide +kernel)) ?_
 rintro v75 h75 ⟨X75,s75⟩
 have E75:=E74.trans X75
 simp -dsimp (maxSteps:=1000000) (disch:=first|omega|(simp only[new_n,put_n];omega)|decide +kernel|(repeat first|rw[new_n]|rw[put_n])) only[wpS,wpT,Nat.reduceEqDiff,Nat.reduceLeDiff,Nat.reduceAdd,bs60]
 refine call (lawl_blk [2] (by decide +kernel) (by decide +kernel) (by decide +kernel)) ?_
 rintro v76 h76 ⟨X76,s76⟩
 have E76:=E75.trans X76
 simp -dsimp (maxSteps:=1000000) (disch:=first|omega|(simp only[new_n,put_n];omega)|decide +kernel|(repeat first|rw[new_n]|rw[put_n])) only[wpS,wpT,Nat.reduceEqDiff,Nat.reduceLeDiff,Nat.reduceAdd,Nat.reduceMul,bs42,s75.1.cells,s76.1.cells]
 refine call (gRatio (ll:=[mI [1],mI [2]]) (shLs_two (s75.keep X76.keep) s76) (fun e=>absurd e (by decide +kernel))) ?_
 rintro _ h77 ⟨Y77,rfl⟩
 have X77:=((Ext.refl _).new _).trans Y77
 have E77:=E76.trans X77
 have r77:ratioRes [mI [1],mI [2]]=errV 5:=ratioRes_err (by decide +kernel) (by decide)
 rw[r77]
 simp -dsimp (maxSteps:=1000000) (disch:=first|omega|(simp only[new_n,put_n];omega)|decide +kernel|(repeat first|rw[new_n]|rw[put_n])) only[wpS,wpT,Nat.reduceEqDiff]
 refine call (faT_ok (((c74.ext X75).ext X76).ext X77)) ?_
 rintro _ h78 ⟨X78,rfl⟩
 have E78:=E77.trans X78
 simp -dsimp (maxSteps:=1000000) (disch:=first|omega|(simp only[new_n,put_n];omega)|decide +kernel|(repeat first|rw[new_n]|rw[put_n])) only[wpS,wpT,Nat.reduceEqDiff]
 refine call (isC_ok 0 1) ?_
 rintro _ h79 ⟨X79,i79,j79,rfl,c79⟩
 have E79:=E78.trans X79
 simp -dsimp (maxSteps:=1000000) (disch:=first|omega|(simp only[new_n,put_n];omega)|decide +kernel|(repeat first|rw[new_n]|rw[put_n])) only[wpS,wpT,Nat.reduceEqDiff,Nat.reduceLeDiff,Nat.reduceAdd,Nat.reduceMul,bs60]
 refine call (lawl_blk [1,1] (by decide +kernel) (by decide +kernel) (by decide +kernel)) ?_
 rintro v80 h80 ⟨X80,s80⟩
 have E80:=E79.trans X80
 simp -dsimp (maxSteps:=1000000) (disch:=first|omega|(simp only[new_n,put_n];omega)|decide +kernel|(repeat first|rw[new_n]|rw[put_n])) only[wpS,wpT,Nat.reduceEqDiff,Nat.reduceLeDiff,Nat.reduceAdd,Nat.reduceMul,bs60]
 refine call (lawl_blk [2,2] (by decide +kernel) (by decide +kernel) (by decide +kernel)) ?_
 rintro v81 h81 ⟨X81,s81⟩
 have E81:=E80.trans X81
 simp -dsimp (maxSteps:=1000000) (disch:=first|omega|(simp only[new_n,put_n];omega)|decide +kernel|(repeat first|rw[new_n]|rw[put_n])) only[wpS,wpT,Nat.reduceEqDiff,Nat.reduceLeDiff,Nat.reduceAdd,Nat.reduceMul,bs42,s80.1.cells,s81.1.cells]
 refine call (gWithin (ll:=[mI [1,1],mI [2,2]]) (shLs_two (s80.keep X81.keep) s81) (fun _=>⟨(by decide +kernel),(by decide +kernel)⟩)) ?_
 rintro _ h82 ⟨Y82,rfl⟩
 have X82:=((Ext.refl _).new _).trans Y82
 have E82:=E81.trans X82
 have r82:withinRes [mI [1,1],mI [2,2]]=.tuple #[shareV ((0:Int):Rat),KI 0]:=withinRes_of (by decide +kernel) (by decide +kernel) (QW_of (by decide +kernel))
 rw[r82]
 simp -dsimp (maxSteps:=1000000) (disch:=first|omega|(simp only[new_n,put_n];omega)|decide +kernel|(repeat first|rw[new_n]|rw[put_n])) only[wpS,wpT,Nat.reduceEqDiff]
 refine call (isT_ok (q:=((0:Int):Rat)) (((c79.ext X80).ext X81).ext X82) (by decide +kernel) (by decide +kernel) (by decide +kernel) (by decide +kernel)) ?_
 rintro _ h83 ⟨X83,rfl⟩
 have E83:=E82.trans X83
 simp -dsimp (maxSteps:=1000000) (disch:=first|omega|(simp only[new_n,put_n];omega)|decide +kernel|(repeat first|rw[new_n]|rw[put_n])) only[wpS,wpT,Nat.reduceEqDiff]
 refine call (isC_ok 1 2) ?_
 rintro _ h84 ⟨X84,i84,j84,rfl,c84⟩
 have E84:=E83.trans X84
 simp -dsimp (maxSteps:=1000000) (disch:=first|omega|(simp only[new_n,put_n];omega)|decide +kernel|(repeat first|rw[new_n]|rw[put_n])) only[wpS,wpT,Nat.reduceEqDiff,Nat.reduceLeDiff,Nat.reduceAdd,Nat.reduceMul,bs60]
 refine call (lawl_blk [1,1] (by decide +kernel) (by decide +kernel) (by decide +kernel)) ?_
 rintro v85 h85 ⟨X85,s85⟩
 have E85:=E84.trans X85
 simp -dsimp (maxSteps:=1000000) (disch:=first|omega|(simp only[new_n,put_n];omega)|decide +kernel|(repeat first|rw[new_n]|rw[put_n])) only[wpS,wpT,Nat.reduceEqDiff,Nat.reduceLeDiff,Nat.reduceAdd,Nat.reduceMul,bs60]
 refine call (lawl_blk [2,2] (by decide +kernel) (by decide +kernel) (by decide +kernel)) ?_
 rintro v86 h86 ⟨X86,s86⟩
 have E86:=E85.trans X86
 simp -dsimp (maxSteps:=1000000) (disch:=first|omega|(simp only[new_n,put_n];omega)|decide +kernel|(repeat first|rw[new_n]|rw[put_n])) only[wpS,wpT,Nat.reduceEqDiff,Nat.reduceLeDiff,Nat.reduceAdd,Nat.reduceMul,bs42,s85.1.cells,s86.1.cells]
 refine call (gMeans (ll:=[mI [1,1],mI [2,2]]) (shLs_two (s85.keep X86.keep) s86) (fun _=>⟨(by decide +kernel),(by decide +kernel)⟩)) ?_
 rintro _ h87 ⟨Y87,rfl⟩
 have X87:=((Ext.refl _).new _).trans Y87
 have E87:=E86.trans X87
 have r87:meansRes [mI [1,1],mI [2,2]]=.tuple #[shareV (Rat.divInt (1) 2),KI 0]:=meansRes_of (by decide +kernel) (by decide +kernel) (QW_of (by decide +kernel))
 rw[r87]
 simp -dsimp (maxSteps:=1000000) (disch:=first|omega|(simp only[new_n,put_n];omega)|decide +kernel|(repeat first|rw[new_n]|rw[put_n])) only[wpS,wpT,Nat.reduceEqDiff]
 refine call (isT_ok (q:=(Rat.divInt (1) 2)) (((c84.ext X85).ext X86).ext X87) (by decide +kernel) (by decide +kernel) (by decide +kernel) (by decide +kernel)) ?_
 rintro _ h88 ⟨X88,rfl⟩
 have E88:=E87.trans X88
 simp -dsimp (maxSteps:=1000000) (disch:=first|omega|(simp only[new_n,put_n];omega)|decide +kernel|(repeat first|rw[new_n]|rw[put_n])) only[wpS,wpT,Nat.reduceEqDiff]
 refine call (isC_ok 1 2) ?_
 rintro _ h89 ⟨X89,i89,j89,rfl,c89⟩
 have E89:=E88.trans X89
 simp -dsimp (maxSteps:=1000000) (disch:=first|omega|(simp only[new_n,put_n];omega)|decide +kernel|(repeat first|rw[new_n]|rw[put_n])) only[wpS,wpT,Nat.reduceEqDiff,Nat.reduceLeDiff,Nat.reduceAdd,Nat.reduceMul,bs60]
 refine call (lawl_blk [1,3] (by decide +kernel) (by decide +kernel) (by decide +kernel)) ?_
 rintro v90 h90 ⟨X90,s90⟩
 have E90:=E89.trans X90
 simp -dsimp (maxSteps:=1000000) (disch:=first|omega|(simp only[new_n,put_n];omega)|decide +kernel|(repeat first|rw[new_n]|rw[put_n])) only[wpS,wpT,Nat.reduceEqDiff,Nat.reduceLeDiff,Nat.reduceAdd,Nat.reduceMul,bs60]
 refine call (lawl_blk [3,1] (by decide +kernel) (by decide +kernel) (by decide +kernel)) ?_
 rintro v91 h91 ⟨X91,s91⟩
 have E91:=E90.trans X91
 simp -dsimp (maxSteps:=1000000) (disch:=first|omega|(simp only[new_n,put_n];omega)|decide +kernel|(repeat first|rw[new_n]|rw[put_n])) only[wpS,wpT,Nat.reduceEqDiff,Nat.reduceLeDiff,Nat.reduceAdd,Nat.reduceMul,bs42,s90.1.cells,s91.1.cells]
 refine call (gRatio (ll:=[mI [1,3],mI [3,1]]) (shLs_two (s90.keep X91.keep) s91) (fun _=>⟨(by decide +kernel),(by decide +kernel)⟩)) ?_
 rintro _ h92 ⟨Y92,rfl⟩
 have X92:=((Ext.refl _).new _).trans Y92
 have E92:=E91.trans X92
 have r92:ratioRes [mI [1,3],mI [3,1]]=.tuple #[shareV (Rat.divInt (1) 2),KI 0]:=ratioRes_of (by decide +kernel) (by decide +kernel) (by decide +kernel) (QW_of (by decide +kernel))
 rw[r92]
 simp -dsimp (maxSteps:=1000000) (disch:=first|omega|(simp only[new_n,put_n];omega)|decide +kernel|(repeat first|rw[new_n]|rw[put_n])) only[wpS,wpT,Nat.reduceEqDiff]
 refine call (isT_ok (q:=(Rat.divInt (1) 2)) (((c89.ext X90).ext X91).ext X92) (by decide +kernel) (by decide +kernel) (by decide +kernel) (by decide +kernel)) ?_
 rintro _ h93 ⟨X93,rfl⟩
 have E93:=E92.trans X93
 simp -dsimp (maxSteps:=1000000) (disch:=first|omega|(simp only[new_n,put_n];omega)|decide +kernel|(repeat first|rw[new_n]|rw[put_n])) only[wpS,Nat.reduceEqDiff]
 refine⟨wpSteady_one rfl rfl rfl rfl (steady_slice rfl rfl rfl (E8 _ E57.keep) (E8 _ E56.keep)),?_⟩
 simp -dsimp (maxSteps:=1000000) (disch:=first|omega|(simp only[new_n,put_n];omega)|decide +kernel|(repeat first|rw[new_n]|rw[put_n])) only[wpS,wpT,Nat.reduceAdd]
 exact⟨E93,by simp⟩
@[irreducible] def hugeN:Nat:=2 ^ 510
abbrev hugeL:List (Nat×Nat):=[(hugeN,1),shq (Rat.divInt 0 1)]
set_option maxRecDepth 100000 in
set_option maxHeartbeats 8000000 in
theorem k14 {hh:IH} {fr:Fr} {Q:IExit→Fr→IH→Prop} (f4:fget fr 4=some (.bool true)):Do (wpC Proofs.Try.prog 3 365 none (partD 15) fr hh) (seqK (fun fr h'=>Pst (Ext hh h'∧fget fr 4=some (.bool true) ∧ ∃b,b<h'.n∧h'.ext.get b=some (.cells (shC hugeN 1) 0 none)∧fget fr 18=some (ptr (2*b) 0)) nx) Q) nx:=by
 show Do (wpC _ _ _ _ (.region _ _ _) fr hh) _ _
 have hb1:buildV Proofs.Try.prog 25 [(7,.int .u64 4611686018427387904)]=some (wdV hugeN):=by kernel_rfl
 have hb2:buildV Proofs.Try.prog 25 [(0,.int .u64 1)]=some (wdV 1):=by kernel_rfl
 have hb3:buildV Proofs.Try.prog 27 [(0,wdV hugeN),(1,wdV 1)]=some (shV hugeN 1):=by kernel_rfl
 simp -dsimp (disch:=omega) only[wpS,wpT,Nat.reduceEqDiff,Nat.reduceLeDiff,Nat.reduceAdd,zc27,st27,hb1,hb2,hb3,shV_cells,shC_len,shC_all]
 rw[splice_all (by rw[shC_len];rfl)]
 refine⟨((Ext.refl hh).new _).put (Nat.le_refl _) _,by simp[f4],hh.n,by simp,by simp (disch:=first|omega|(simp only[new_n,put_n];omega)|(repeat first|rw[new_n]|rw[put_n])) only[get_put_same],rfl⟩
set_option maxRecDepth 100000 in
set_option maxHeartbeats 8000000 in
theorem k15 {hh:IH} {fr:Fr} {Q:IExit→Fr→IH→Prop} {b:Nat} (f4:fget fr 4=some (.bool true)) (hb:b<hh.n) (g:hh.ext.get b=some (.cells (shC hugeN 1) 0 none)) (f18:fget fr 18=some (ptr (2*b) 0)):Do (wpC Proofs.Try.prog 3 365 none (partD 16) fr hh) (seqK (fun fr h'=>Pst (fget fr 0=some (.bool true)) nx) Q) nx:=by
 show Do (wpC _ _ _ _ (.region _ _ _) fr hh) _ _
 have Lg : ∀h',Ext hh h'→load Proofs.Try.prog h' 27 (ptr (2*b) 0)=some (shV hugeN 1):=fun h' e=>load_of (psh g).2.2 hb e
 have E0:=Ext.refl hh
 refine drawn [(8,[7,11]),(18,[17,21]),(28,[27,32,34])] (by kernel_rfl) (by kernel_rfl) rfl ?_
 simp -dsimp (disch:=omega) only[wpS,wpT]
 refine call dgworks_ok ?_
 rintro _ h94 ⟨X94,rfl⟩
 have E94:=X94
 simp -dsimp (disch:=omega) only[wpS,wpT,Nat.reduceEqDiff,f4]
 refine call (faC_ok 6) ?_
 rintro _ h95 ⟨X95,i95,rfl,c95⟩
 have E95:=E94.trans X95
 simp -dsimp (disch:=omega) only[wpS,wpT,Nat.reduceEqDiff,f18,Lg _ E95]
 refine call (lawq_ok 0 1 (by decide +kernel) (by decide +kernel) (by decide +kernel)) ?_
 rintro _ h96 ⟨X96,rfl⟩
 have E96:=E95.trans X96
 simp only[shareV_shq]
 simp -dsimp (disch:=omega) only[wpS,wpT,Nat.reduceEqDiff,build2]
 have s96:ShSl (h96.new (.cells (shL hugeL) 16 none)) (.slice (some ⟨2*h96.n,0,none⟩) 2 5) hugeL:=by
  refine⟨sl_block (k:=h96.n) (f:=none) (get_new_same _ _ rfl) (by simp) (by decide) (by rw[shL_len];rfl) (by omega) (by decide),by decide,?_⟩
  decide +kernel
 have F96:=E96.new (.cells (shL hugeL) 16 none)
 refine call (gAuto s96 (.inl (by decide +kernel)) 0) ?_
 rintro _ h97 ⟨Y97,rfl⟩
 have X97:=((Ext.refl h96).new _).trans Y97
 have E97:=E96.trans X97
 have r97:autoRes hugeL 0=errV 6:=autoRes_big (lag:=0) (by decide +kernel) (by decide +kernel) (by decide +kernel)
 rw[r97]
 simp -dsimp (disch:=omega) only[wpS,wpT,Nat.reduceEqDiff]
 refine call (faT_ok ((c95.ext X96).ext X97)) ?_
 rintro _ h98 ⟨X98,rfl⟩
 have E98:=E97.trans X98
 simp -dsimp (disch:=omega) only[wpS,wpT,Nat.reduceEqDiff]
 refine call (isC_ok 4 1) ?_
 rintro _ h99 ⟨X99,i99,j99,rfl,c99⟩
 have E99:=E98.trans X99
 simp -dsimp (disch:=omega) only[wpS,wpT,Nat.reduceEqDiff,f18,Lg _ E99]
 refine call (lawq_ok 0 1 (by decide +kernel) (by decide +kernel) (by decide +kernel)) ?_
 rintro _ h100 ⟨X100,rfl⟩
 have E100:=E99.trans X100
 simp only[shareV_shq]
 simp -dsimp (disch:=omega) only[wpS,wpT,Nat.reduceEqDiff,build2]
 have s100:ShSl (h100.new (.cells (shL hugeL) 16 none)) (.slice (some ⟨2*h100.n,0,none⟩) 2 5) hugeL:=by
  refine⟨sl_block (k:=h100.n) (f:=none) (get_new_same _ _ rfl) (by simp) (by decide) (by rw[shL_len];rfl) (by omega) (by decide),by decide,?_⟩
  decide +kernel
 have F100:=E100.new (.cells (shL hugeL) 16 none)
 refine call (gEff s100 (.inl (by decide +kernel))) ?_
 rintro _ h101 ⟨Y101,rfl⟩
 have X101:=((Ext.refl h100).new _).trans Y101
 have E101:=E100.trans X101
 have r101:effRes hugeL=.tuple #[shareV ((4:Int):Rat),KI 0]:=effRes_of (by decide +kernel) (by decide +kernel) (by decide +kernel) (QW_of (by decide +kernel))
 rw[r101]
 simp -dsimp (disch:=omega) only[wpS,wpT,Nat.reduceEqDiff]
 refine call (isT_ok (q:=((4:Int):Rat)) ((c99.ext X100).ext X101) (by decide +kernel) (by decide +kernel) (by decide +kernel) (by decide +kernel)) ?_
 rintro _ h102 ⟨X102,rfl⟩
 have E102:=E101.trans X102
 simp -dsimp (disch:=omega) only[wpS,wpT,Nat.reduceEqDiff]
 refine call (faC_ok 6) ?_
 rintro _ h103 ⟨X103,i103,rfl,c103⟩
 have E103:=E102.trans X103
 simp -dsimp (disch:=omega) only[wpS,wpT,Nat.reduceEqDiff,f18,Lg _ E103]
 refine call (lawq_ok 0 1 (by decide +kernel) (by decide +kernel) (by decide +kernel)) ?_
 rintro _ h104 ⟨X104,rfl⟩
 have E104:=E103.trans X104
 simp only[shareV_shq]
 simp -dsimp (disch:=omega) only[wpS,wpT,Nat.reduceEqDiff,Nat.reduceLeDiff,Nat.reduceAdd,Nat.reduceMul,bs60,build2]
 have s104:ShSl (h104.new (.cells (shL hugeL) 16 none)) (.slice (some ⟨2*h104.n,0,none⟩) 2 5) hugeL:=by
  refine⟨sl_block (k:=h104.n) (f:=none) (get_new_same _ _ rfl) (by simp) (by decide) (by rw[shL_len];rfl) (by omega) (by decide),by decide,?_⟩
  decide +kernel
 have F104:=E104.new (.cells (shL hugeL) 16 none)
 have G104:=F104.new (.cells ([1,1].map KI) 1 none)
 refine call (lawl_blk (h:=h104.new (.cells (shL hugeL) 16 none)) [1,1] (by decide +kernel) (by decide +kernel) (by decide +kernel)) ?_
 rintro v105 h105 ⟨Y105,s105⟩
 have X105:=((Ext.refl h104).new _).trans Y105
 have E105:=E104.trans X105
 simp -dsimp (disch:=omega) only[wpS,wpT,Nat.reduceEqDiff,Nat.reduceLeDiff,Nat.reduceAdd,Nat.reduceMul,bs42,s104.1.cells,s105.1.cells]
 have H105:=E105.new (.cells [.slice (some ⟨2*h104.n,0,none⟩) 2 5,v105] 1 none)
 refine call (gWithin (ll:=[hugeL,mI [1,1]]) (shLs_two (s104.keep Y105.keep) s105) (fun _=>⟨(by decide +kernel),(by decide +kernel)⟩)) ?_
 rintro _ h106 ⟨Y106,rfl⟩
 have X106:=((Ext.refl h105).new _).trans Y106
 have E106:=E105.trans X106
 have r106:withinRes [hugeL,mI [1,1]]=errV 6:=withinRes_big (by decide +kernel) (by decide +kernel)
 rw[r106]
 simp -dsimp (disch:=omega) only[wpS,wpT,Nat.reduceEqDiff]
 refine call (faT_ok (((c103.ext X104).ext X105).ext X106)) ?_
 rintro _ h107 ⟨X107,rfl⟩
 have E107:=E106.trans X107
 simp -dsimp (disch:=omega) only[wpS,Nat.reduceEqDiff]
 refine⟨by repeat' first|refine wpSteady_c2 ?_ ?_|refine wpSteady_t2 ?_ ?_|exact wpSteady_one rfl rfl rfl rfl (steady_load f18 (Lg _ (by assumption)) (Lg _ (by assumption))),?_⟩
 simp -dsimp (disch:=omega) only[wpS,wpT,Nat.reduceAdd]
 exact rfl
theorem known_ideal {h:IH}:WV Proofs.Try.prog (.func (.func 3) #[] #[]) [] h fun r _=>r=.bool true:=by
 refine enter (nt:=365) (rs:=[.tmp 0]) Proofs.Try.func3 rfl rfl rfl (by simp) ?_
 rw[d_seq];refine cut _ k0 ?_;rintro fr h0 rfl
 rw[d_seq];refine cut _ k1 ?_;intro fr h1 e1
 rw[d_seq];refine cut _ k2 ?_;rintro fr h2 ⟨e2,v1,s1,f1⟩
 rw[d_seq];refine cut _ (k3a f1) ?_;clear f1;rintro fr h3 ⟨rfl,f1,f2⟩
 rw[d_seq];refine cut _ (k3 s1 f1 f2) ?_;clear f1 f2;rintro fr h4 ⟨e4,k,d⟩
 rw[d_seq];refine cut _ (k4 d) ?_;clear d;rintro fr h5 ⟨e5,d,f4⟩
 rw[d_seq];refine cut _ (k5 d f4) ?_;clear d f4;rintro fr h6 ⟨e6,d,f4,f6⟩
 rw[d_seq];refine cut _ (k6 d f4 f6) ?_;clear d f4 f6;rintro fr h7 ⟨e7,d,f4,f6,f8⟩
 rw[d_seq];refine cut _ (k7 d f4 f6 f8) ?_;clear d f4 f6 f8;rintro fr h8 ⟨e8,d,f4,f6,f8,f10⟩
 rw[d_seq];refine cut _ (k8 d f4 f6 f8 f10) ?_;clear d f4 f6 f8 f10;rintro fr h9 ⟨e9,d,⟨v11,s11,f11⟩,f4,f6,f8,f10,f12⟩
 rw[d_seq];refine cut _ (k9 d s11 f4 f11 f6 f8 f10 f12) ?_;clear d s11 f4 f11 f6 f8 f10 f12;rintro fr h10 ⟨e10,d,s11,f4,f11,f6,f8,f10,f12,f14⟩
 rw[d_seq];refine cut _ (k10 d s11 f4 f11 f6 f8 f10 f12 f14) ?_;clear d s11 f4 f11 f6 f8 f10 f12 f14;rintro fr h11 ⟨e11,d,s11,f4,f11,f6,f8,f10,f12,f14,f15,f16⟩
 rw[d_seq];refine cut _ (k11 d s11 f4 f11 f6 f8 f10 f12 f14 f15 f16) ?_;clear d s11 f4 f11 f6 f8 f10 f12 f14 f15 f16;rintro fr h12 ⟨e12,d,f4⟩
 rw[d_seq];refine cut _ (k12 d f4) ?_;clear d f4;rintro fr h13 ⟨e13,d,f4,v17,s17,f17⟩
 rw[d_seq];refine cut _ (k13 d f4 s17 f17) ?_;clear d f4 s17 f17;rintro fr h14 ⟨e14,f4⟩
 rw[d_seq];refine cut _ (k14 f4) ?_;clear f4;rintro fr h15 ⟨e15,f4,b,hb,g,f18⟩
 rw[d_seq];refine cut _ (k15 f4 hb g f18) ?_;clear f4 f18;rintro fr h16 f0
 simp -dsimp (disch:=omega) only[wpS,f0]
end Go.Id

/-! DiagnoseKnown: the law returns true, and nothing is changed. Conditions: none but the row's own. -/
namespace Go.Proofs.Ythbkinefgmfgeaa
open Go.ChangeShapes Go.WideShapes Go.ChangeAt Go.RowKit Go.Id
set_option maxRecDepth 100000 in
theorem diagnoseKnown_lifted (os:Os) (started:os.Started) (H:Type) (enc:TypeId×Value→H) :
  ReturnsInHanded {} Try.checked os 3 .any (Rows.diagnoseKnownSpec.pre6 enc Try.prog Try.f3 Rows.diagnoseKnownRow.domain false) (Rows.diagnoseKnownSpec.post enc Try.prog Try.f3 false true false false):=by
 refine returnsInHanded_of_change (C:=Try.checked) Try.own started (by kernel_rfl) Try.func3
  (ChangeSpec.witness6 (enc:=enc) (C:=Try.checked) false ⟨#[],#[],[]⟩ 8 (by kernel_rfl) (by kernel_rfl) (by kernel_rfl) (by kernel_rfl)) ?_
 intro W base args ds gs before hval0 hW hcnd _
 have hW':=hW
 obtain⟨p,q,hA0,hV,rfl,hfz,hnd⟩:=hW
 have hA:DataW.TrodAll enc Try.prog W 0 (fun _=>true) true Try.f3.params.toList args.toList ds p:=hA0
 have hA1:=hA
 rw[Try.params3] at hA
 obtain⟨ha,rfl,rfl⟩:=trodAll_nil hA
 obtain rfl:args = #[]:=by cases args;simpa using ha
 obtain⟨rfl,rfl⟩:=trodVars_none hV
 have hb:=tell_ok (W:=W) (G:=fun _=>none) (fun b cs h=>by cases h)
 refine(wv_true Try.sound known_ideal hb (args':=#[]) (.nil _)).mono fun e W' ⟨he,hk⟩=>?_
 subst he
 refine⟨_,rfl,post_of_below (pa:=[]) (pv:=[]) hW' (fun _ _ _=>trodAll_mk1 (shut_bool Try.underlying4 _)) (fun sp hs=>?_) (fun _ _=>rfl) hk⟩
 exact trodAll_stays Try.kids Try.pos hk hA1 (fun t ht=>by rw[Try.params3] at ht;simp at ht) (fun x hx=>by cases hx)
theorem diagnoseKnown_row:Rows.DiagnoseKnownSaid :=
 OpenClaim.holds_of_wide 3 Try.f3 rfl rfl rfl rfl rfl rfl rfl ⟨rfl,rfl,rfl,rfl,rfl⟩ rfl rfl rfl rfl rfl (by kernel_rfl) Try.func3 (by kernel_rfl)
  (of_decide_eq_true (by kernel_rfl)) (by unfold Func.isWrapper;first|(rw[if_pos (by decide +kernel)];kernel_rfl)|(rw[if_neg (by decide +kernel)];exact⟨rfl,rfl⟩))
  (fun os started H enc _=>diagnoseKnown_lifted os started H enc)
#print axioms diagnoseKnown_row
end Go.Proofs.Ythbkinefgmfgeaa
