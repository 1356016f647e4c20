/-
  DiagnoseSeveral: for every input the law returns true, and each argument reads as it did. Conditions: none but the row's own.
-/
import Derived.Test.YthbkinefgmfgeaaGreatDiagnoseSeveralAo
import Derived.Test.YthbkinefgmfgeaaGreatDiagnoseSeveralAl
import Derived.Test.YthbkinefgmfgeaaGreatDiagnoseSeveralAk
import Derived.Test.YthbkinefgmfgeaaGreatDiagnoseSeveralAf
import Derived.Test.YthbkinefgmfgeaaGreatDiagnoseSeveralAm
import Derived.Test.YthbkinefgmfgeaaGreatDiagnoseSeveralAn
set_option linter.unusedVariables false
set_option linter.unusedSimpArgs false
set_option linter.defProp false
set_option linter.deprecated false
/-! Contracts: the law's examples (works). -/
namespace Go.Id
open Go
theorem fitB : ∀m,m≤8 → ∀n,n≤12→rfBits m n 512<16000000:=by decide
theorem ShLs.fit {h:IH} {v:Value} {ll:List (List (Nat×Nat))} (s:ShLs h v ll) (f:FitL ll) (e:svErr ll=0):SvOk ll 512∧rfBits ll.length (len0 ll) 512<16000000:=⟨s.sv e,fitB _ (f e).2 _ (f e).1⟩
theorem ShLs.fit' {h:IH} {v:Value} {ll:List (List (Nat×Nat))} (s:ShLs h v ll) (f:FitL ll) (e:svErr ll=0):SvOk ll 512∧rBits ll.length (len0 ll) 512<16000000:=by
 obtain⟨a,b⟩:=s.fit f e
 refine⟨a,?_⟩
 unfold rfBits at b
 omega
section
variable {h:IH} {v:Value} {ll:List (List (Nat×Nat))} (s:ShLs h v ll) (f:FitL ll)
include s f
theorem gWithin:WV Proofs.Tryz.prog (.func (.func 13) #[] #[]) [v] h fun r h'=>Ext h h'∧r=withinRes ll:=dgWithin_ok s (s.fit' f)
theorem rWithin:WV Proofs.Tryz.prog (.func (.func 14) #[] #[]) [v] h fun r h'=>Ext h h'∧r=withinRes ll:=rfWithin_ok s (s.fit f)
theorem gMeans:WV Proofs.Tryz.prog (.func (.func 15) #[] #[]) [v] h fun r h'=>Ext h h'∧r=meansRes ll:=dgMeans_ok s (s.fit' f)
theorem rMeans:WV Proofs.Tryz.prog (.func (.func 16) #[] #[]) [v] h fun r h'=>Ext h h'∧r=meansRes ll:=rfMeans_ok s (s.fit f)
theorem gRatio:WV Proofs.Tryz.prog (.func (.func 17) #[] #[]) [v] h fun r h'=>Ext h h'∧r=ratioRes ll:=dgRatio_ok s (s.fit' f)
theorem rRatio:WV Proofs.Tryz.prog (.func (.func 18) #[] #[]) [v] h fun r h'=>Ext h h'∧r=ratioRes ll:=rfRatio_ok s (s.fit f)
end
theorem withinRes_of {ll:List (List (Nat×Nat))} {q:Rat} (h1:svErr ll=0) (h2:qwithin ll=q) (h3:QW q):withinRes ll=.tuple #[shareV q,KI 0]:=by
 unfold withinRes;rw[if_pos h1,h2,toldV_of h3]
theorem meansRes_of {ll:List (List (Nat×Nat))} {q:Rat} (h1:svErr ll=0) (h2:qmeansV ll=q) (h3:QW q):meansRes ll=.tuple #[shareV q,KI 0]:=by
 unfold meansRes;rw[if_pos h1,h2,toldV_of h3]
theorem ratioRes_of {ll:List (List (Nat×Nat))} {q:Rat} (h1:svErr ll=0) (h0:qwithin ll≠0) (h2:qratioV ll=q) (h3:QW q):ratioRes ll=.tuple #[shareV q,KI 0]:=by
 unfold ratioRes;rw[if_pos h1,if_neg h0,h2,toldV_of h3]
theorem ratioRes_no {ll:List (List (Nat×Nat))} (h1:svErr ll=0) (h0:qwithin ll=0):ratioRes ll=errV 7:=by
 unfold ratioRes;rw[if_pos h1,if_pos h0]
theorem ratioRes_err {ll:List (List (Nat×Nat))} {e:Int} (h1:svErr ll=e) (h0:e≠0):ratioRes ll=errV e:=by
 unfold ratioRes;rw[if_neg (by rw[h1];exact h0),h1]
abbrev mI (xs:List Int):List (Nat×Nat):=xs.map shI
def nthC:Code→Nat→Code
 | .seq a _,0=>a
 | .seq _ b,n+1=>nthC b n
 | c,_=>c
noncomputable def partW (i:Nat):Code:=nthC (Proofs.Tryz.f10.body.getD .skip) i
set_option maxHeartbeats 8000000 in
theorem w1 {hh:IH} {fr:Fr} {Q:IExit→Fr→IH→Prop}:Do (wpC Proofs.Tryz.prog 10 159 none (partW 1) fr hh) (seqK (fun fr h'=>Pst (Ext hh h'∧fget fr 1=some (.bool true)) nx) Q) nx:=by
 show Do (wpC _ _ _ _ (.region _ _ _) fr hh) _ _
 simp -dsimp (disch:=omega) only[wpS]
 refine call (isC_ok 3 1) ?_
 rintro _ h1 ⟨X1,i1,j1,rfl,c1⟩
 have E1:=X1
 simp -dsimp (disch:=omega) only[wpS,wpT,Nat.reduceEqDiff,Nat.reduceLeDiff,Nat.reduceAdd,Nat.reduceMul,bs87]
 refine call (lawl_blk [1,2,6] (by decide +kernel) (by decide +kernel) (by decide +kernel)) ?_
 rintro v2 h2 ⟨X2,s2⟩
 have E2:=E1.trans X2
 simp -dsimp (disch:=omega) only[wpS,Nat.reduceEqDiff]
 refine call (gMean s2) ?_
 rintro _ h3 ⟨X3,rfl⟩
 have E3:=E2.trans X3
 rw[meanRes_of (l:=mI [1,2,6]) (q:=((3:Int):Rat)) (by decide +kernel) (by decide +kernel) (QW_of (by decide +kernel))]
 simp -dsimp (disch:=omega) only[wpS,Nat.reduceEqDiff]
 refine call (isT_ok (q:=((3:Int):Rat)) ((c1.ext X2).ext X3) (by decide +kernel) (by decide +kernel) (by decide +kernel) (by decide +kernel)) ?_
 rintro _ h4 ⟨X4,rfl⟩
 have E4:=E3.trans X4
 simp -dsimp (disch:=omega) only[wpS,wpT,Nat.reduceEqDiff]
 refine call (isC_ok 14 3) ?_
 rintro _ h5 ⟨X5,i5,j5,rfl,c5⟩
 have E5:=E4.trans X5
 simp -dsimp (disch:=omega) only[wpS,wpT,Nat.reduceEqDiff,Nat.reduceLeDiff,Nat.reduceAdd,Nat.reduceMul,bs87]
 refine call (lawl_blk [1,2,6] (by decide +kernel) (by decide +kernel) (by decide +kernel)) ?_
 rintro v6 h6 ⟨X6,s6⟩
 have E6:=E5.trans X6
 simp -dsimp (disch:=omega) only[wpS,wpT,Nat.reduceEqDiff]
 refine call (gAuto s6 (.inl (by decide +kernel)) 0) ?_
 rintro _ h7 ⟨X7,rfl⟩
 have E7:=E6.trans X7
 have r7:autoRes (mI [1,2,6]) 0=.tuple #[shareV (Rat.divInt (14) 3),KI 0]:=autoRes_of (lag:=0) (by decide +kernel) (by decide +kernel) (by decide +kernel) (QW_of (by decide +kernel))
 rw[r7]
 simp -dsimp (disch:=omega) only[wpS,wpT,Nat.reduceEqDiff]
 refine call (isT_ok (q:=(Rat.divInt (14) 3)) ((c5.ext X6).ext X7) (by decide +kernel) (by decide +kernel) (by decide +kernel) (by decide +kernel)) ?_
 rintro _ h8 ⟨X8,rfl⟩
 have E8:=E7.trans X8
 simp -dsimp (disch:=omega) only[wpS,wpT,Nat.reduceEqDiff]
 refine call (isC_ok (-1) 3) ?_
 rintro _ h9 ⟨X9,i9,j9,rfl,c9⟩
 have E9:=E8.trans X9
 simp -dsimp (disch:=omega) only[wpS,wpT,Nat.reduceEqDiff,Nat.reduceLeDiff,Nat.reduceAdd,Nat.reduceMul,bs87]
 refine call (lawl_blk [1,2,6] (by decide +kernel) (by decide +kernel) (by decide +kernel)) ?_
 rintro v10 h10 ⟨X10,s10⟩
 have E10:=E9.trans X10
 simp -dsimp (disch:=omega) only[wpS,wpT,Nat.reduceEqDiff]
 refine call (gAuto s10 (.inl (by decide +kernel)) 1) ?_
 rintro _ h11 ⟨X11,rfl⟩
 have E11:=E10.trans X11
 have r11:autoRes (mI [1,2,6]) 1=.tuple #[shareV (Rat.divInt (-1) 3),KI 0]:=autoRes_of (lag:=1) (by decide +kernel) (by decide +kernel) (by decide +kernel) (QW_of (by decide +kernel))
 rw[r11]
 simp -dsimp (disch:=omega) only[wpS,wpT,Nat.reduceEqDiff]
 refine call (isT_ok (q:=(Rat.divInt (-1) 3)) ((c9.ext X10).ext X11) (by decide +kernel) (by decide +kernel) (by decide +kernel) (by decide +kernel)) ?_
 rintro _ h12 ⟨X12,rfl⟩
 have E12:=E11.trans X12
 simp -dsimp (disch:=omega) only[wpS,wpT,Nat.reduceEqDiff]
 refine call (faC_ok 2) ?_
 rintro _ h13 ⟨X13,i13,rfl,c13⟩
 have E13:=E12.trans X13
 simp -dsimp (disch:=omega) only[wpS,wpT,Nat.reduceEqDiff,Nat.reduceLeDiff,Nat.reduceAdd,Nat.reduceMul,bs87]
 refine call (lawl_blk [1,2,6] (by decide +kernel) (by decide +kernel) (by decide +kernel)) ?_
 rintro v14 h14 ⟨X14,s14⟩
 have E14:=E13.trans X14
 simp -dsimp (disch:=omega) only[wpS,wpT,Nat.reduceEqDiff]
 refine call (gAuto s14 (.inl (by decide +kernel)) 3) ?_
 rintro _ h15 ⟨X15,rfl⟩
 have E15:=E14.trans X15
 have r15:autoRes (mI [1,2,6]) 3=errV 2:=autoRes_no (by decide +kernel) (by decide +kernel)
 rw[r15]
 simp -dsimp (disch:=omega) only[wpS,wpT,Nat.reduceEqDiff]
 refine call (faT_ok ((c13.ext X14).ext X15)) ?_
 rintro _ h16 ⟨X16,rfl⟩
 have E16:=E15.trans X16
 simp -dsimp (disch:=omega) only[wpS,wpT,Nat.reduceEqDiff]
 refine call (isC_ok 8 3) ?_
 rintro _ h17 ⟨X17,i17,j17,rfl,c17⟩
 have E17:=E16.trans X17
 simp -dsimp (disch:=omega) only[wpS,wpT,Nat.reduceEqDiff,Nat.reduceLeDiff,Nat.reduceAdd,Nat.reduceMul,bs87]
 refine call (lawl_blk [0,0,1,1] (by decide +kernel) (by decide +kernel) (by decide +kernel)) ?_
 rintro v18 h18 ⟨X18,s18⟩
 have E18:=E17.trans X18
 simp -dsimp (disch:=omega) only[wpS,wpT,Nat.reduceEqDiff]
 refine call (gEff s18 (.inl (by decide +kernel))) ?_
 rintro _ h19 ⟨X19,rfl⟩
 have E19:=E18.trans X19
 have r19:effRes (mI [0,0,1,1])=.tuple #[shareV (Rat.divInt (8) 3),KI 0]:=effRes_of (by decide +kernel) (by decide +kernel) (by decide +kernel) (QW_of (by decide +kernel))
 rw[r19]
 simp -dsimp (disch:=omega) only[wpS,wpT,Nat.reduceEqDiff]
 refine call (isT_ok (q:=(Rat.divInt (8) 3)) ((c17.ext X18).ext X19) (by decide +kernel) (by decide +kernel) (by decide +kernel) (by decide +kernel)) ?_
 rintro _ h20 ⟨X20,rfl⟩
 have E20:=E19.trans X20
 simp -dsimp (disch:=omega) only[wpS,wpT,Nat.reduceEqDiff]
 refine call (isC_ok 16 1) ?_
 rintro _ h21 ⟨X21,i21,j21,rfl,c21⟩
 have E21:=E20.trans X21
 simp -dsimp (disch:=omega) only[wpS,wpT,Nat.reduceEqDiff,Nat.reduceLeDiff,Nat.reduceAdd,Nat.reduceMul,bs87]
 refine call (lawl_blk [0,1,0,1] (by decide +kernel) (by decide +kernel) (by decide +kernel)) ?_
 rintro v22 h22 ⟨X22,s22⟩
 have E22:=E21.trans X22
 simp -dsimp (disch:=omega) only[wpS,wpT,Nat.reduceEqDiff]
 refine call (gEff s22 (.inl (by decide +kernel))) ?_
 rintro _ h23 ⟨X23,rfl⟩
 have E23:=E22.trans X23
 have r23:effRes (mI [0,1,0,1])=.tuple #[shareV ((16:Int):Rat),KI 0]:=effRes_of (by decide +kernel) (by decide +kernel) (by decide +kernel) (QW_of (by decide +kernel))
 rw[r23]
 simp -dsimp (disch:=omega) only[wpS,wpT,Nat.reduceEqDiff]
 refine call (isT_ok (q:=((16:Int):Rat)) ((c21.ext X22).ext X23) (by decide +kernel) (by decide +kernel) (by decide +kernel) (by decide +kernel)) ?_
 rintro _ h24 ⟨X24,rfl⟩
 have E24:=E23.trans X24
 simp -dsimp (disch:=omega) only[wpS,wpT,Nat.reduceEqDiff]
 refine call (faC_ok 7) ?_
 rintro _ h25 ⟨X25,i25,rfl,c25⟩
 have E25:=E24.trans X25
 simp -dsimp (disch:=omega) only[wpS,wpT,Nat.reduceEqDiff,Nat.reduceLeDiff,Nat.reduceAdd,Nat.reduceMul,bs87]
 refine call (lawl_blk [5,5] (by decide +kernel) (by decide +kernel) (by decide +kernel)) ?_
 rintro v26 h26 ⟨X26,s26⟩
 have E26:=E25.trans X26
 simp -dsimp (disch:=omega) only[wpS,wpT,Nat.reduceEqDiff]
 refine call (gEff s26 (.inl (by decide +kernel))) ?_
 rintro _ h27 ⟨X27,rfl⟩
 have E27:=E26.trans X27
 have r27:effRes (mI [5,5])=errV 7:=effRes_no (by decide +kernel) (by decide +kernel)
 rw[r27]
 simp -dsimp (disch:=omega) only[wpS,wpT,Nat.reduceEqDiff]
 refine call (faT_ok ((c25.ext X26).ext X27)) ?_
 rintro _ h28 ⟨X28,rfl⟩
 have E28:=E27.trans X28
 simp -dsimp (disch:=omega) only[wpS,Nat.reduceEqDiff]
 exact⟨E28,rfl⟩
theorem batErr_ok {l:List (Nat×Nat)} {sz:Int} (h1:chErr l=0) (h2:1≤sz) (h3:sz≤l.length) (h4:((bmeans (l.map rOf) sz.toNat).all fun q=>decide (-(H8:Int)≤q.num) && decide (q.num<H8) && decide ((q.den:Int)<H8))=true):batErr l sz=0:=by
 unfold batErr
 rw[if_pos h1,if_pos ⟨h2,h3⟩,if_pos]
 intro q hq
 exact QW_of (List.all_eq_true.1 h4 q hq)
abbrev twoS:List (Nat×Nat):=[shq (Rat.divInt 3 2),shq (Rat.divInt 5 1)]
set_option maxHeartbeats 8000000 in
theorem w2 {hh:IH} {fr:Fr} {Q:IExit→Fr→IH→Prop} (f1:fget fr 1=some (.bool true)):Do (wpC Proofs.Tryz.prog 10 159 none (partW 2) fr hh) (seqK (fun fr h'=>Pst (Ext hh h' ∧ ∃v,ShSl h' v twoS∧fget fr 2=some v∧fget fr 3=some (KI 0)∧fget fr 1=some (.bool true)) nx) Q) nx:=by
 show Do (wpC _ _ _ _ (.region _ _ _) fr hh) _ _
 simp -dsimp (disch:=omega) only[wpS,wpT,Nat.reduceLeDiff,Nat.reduceAdd,Nat.reduceMul,bs87]
 refine call (lawl_blk [1,2,6,4,9] (by decide +kernel) (by decide +kernel) (by decide +kernel)) ?_
 rintro v29 h29 ⟨X29,s29⟩
 have E29:=X29
 simp -dsimp (disch:=omega) only[wpS,Nat.reduceEqDiff]
 refine call (gBat s29 2) ?_
 have b30:batErr (mI [1,2,6,4,9]) 2=0:=batErr_ok (by decide +kernel) (by decide +kernel) (by decide +kernel) (by decide +kernel)
 rw[b30]
 rintro _ h30 ⟨X30,v30,rfl,s30⟩
 have E30:=E29.trans X30
 rw[if_pos rfl] at s30
 have e30:(bmeans ((mI [1,2,6,4,9]).map rOf) (2:Int).toNat).map shOf = [shq (Rat.divInt 3 2),shq (Rat.divInt 5 1)]:=by decide +kernel
 rw[e30] at s30
 simp -dsimp (disch:=omega) only[wpS,Nat.reduceEqDiff]
 exact⟨E30,v30,s30,rfl,rfl,by simp[f1]⟩
set_option maxHeartbeats 8000000 in
theorem w3 {hh:IH} {fr:Fr} {Q:IExit→Fr→IH→Prop} {v2:Value} (f1:fget fr 1=some (.bool true)) (f2:fget fr 2=some v2) (f3:fget fr 3=some (KI 0)):Do (wpC Proofs.Tryz.prog 10 159 none (partW 3) fr hh) (seqK (fun fr h'=>Pst (Ext hh h'∧fget fr 4=some (KI 3)∧fget fr 5=some (KI 0)∧fget fr 1=some (.bool true)∧fget fr 2=some v2∧fget fr 3=some (KI 0)) nx) Q) nx:=by
 show Do (wpC _ _ _ _ (.region _ _ _) fr hh) _ _
 simp -dsimp (disch:=omega) only[wpS,wpT,Nat.reduceLeDiff,Nat.reduceAdd,Nat.reduceMul,bs87]
 refine call (lawl_blk [1,1,2,2,2,1] (by decide +kernel) (by decide +kernel) (by decide +kernel)) ?_
 rintro v31 h31 ⟨X31,s31⟩
 have E31:=X31
 simp -dsimp (disch:=omega) only[wpS,Nat.reduceEqDiff]
 refine call (dgStuck_ok s31) ?_
 rintro _ h32 ⟨X32,rfl⟩
 have E32:=E31.trans X32
 have r32:stuckRes (mI [1,1,2,2,2,1])=.tuple #[KI 3,KI 0]:=by kernel_rfl
 rw[r32]
 simp -dsimp (disch:=omega) only[wpS,Nat.reduceEqDiff]
 exact⟨E32,rfl,rfl,by simp[f1],by simp[f2],by simp[f3]⟩
set_option maxHeartbeats 8000000 in
theorem w4 {hh:IH} {fr:Fr} {Q:IExit→Fr→IH→Prop} {v2:Value} (hv:ShSl hh v2 twoS) (f1:fget fr 1=some (.bool true)) (f2:fget fr 2=some v2) (f3:fget fr 3=some (KI 0)) (f4:fget fr 4=some (KI 3)) (f5:fget fr 5=some (KI 0)):Do (wpC Proofs.Tryz.prog 10 159 none (partW 4) fr hh) (seqK (fun fr h'=>Pst (Ext hh h'∧fget fr 1=some (.bool true)) nx) Q) nx:=by
 show Do (wpC _ _ _ _ (.region _ _ _) fr hh) _ _
 simp -dsimp (disch:=omega) only[wpS,wpT,Nat.reduceEqDiff,f1,f2]
 refine call (lawq_ok 3 2 (by decide +kernel) (by decide +kernel) (by decide +kernel)) ?_
 rintro _ h33 ⟨X33,rfl⟩
 have E33:=X33
 simp -dsimp (disch:=omega) only[wpS,wpT,Nat.reduceEqDiff]
 refine call (lawq_ok 5 1 (by decide +kernel) (by decide +kernel) (by decide +kernel)) ?_
 rintro _ h34 ⟨X34,rfl⟩
 have E34:=E33.trans X34
 simp only[shareV_shq]
 simp -dsimp (disch:=omega) only[wpS,wpT,Nat.reduceEqDiff,build2]
 have s35:ShSl (h34.new (.cells (shL twoS) 16 none)) (.slice (some ⟨2*h34.n,0,none⟩) 2 5) twoS:=by
  refine⟨sl_block (k:=h34.n) (f:=none) (get_new_same _ _ rfl) (by simp) (by decide) (by decide +kernel) (by omega) (by decide),by decide,?_⟩
  decide +kernel
 have F35:Ext hh (h34.new (.cells (shL twoS) 16 none)):=E34.new _
 refine call (shequal_ok (l:=twoS) (l2:=twoS) (hv.keep F35.keep) s35) ?_
 rintro _ h36 ⟨X36,rfl⟩
 rw[decide_eq_true rfl]
 have E36:=F35.trans X36
 simp -dsimp (disch:=omega) only[wpS,wpT,Nat.reduceEqDiff,f3,f4,f5]
 refine call (faC_ok 4) ?_
 rintro _ h37 ⟨X37,i37,rfl,c37⟩
 have E37:=E36.trans X37
 simp -dsimp (disch:=omega) only[wpS,wpT,Nat.reduceEqDiff]
 refine call (gMean (l:=[]) ⟨SlOf.nil _ (by decide),by simp,(fun p hp=>by cases hp)⟩) ?_
 rintro _ h38 ⟨X38,rfl⟩
 have E38:=E37.trans X38
 have r38:meanRes []=errV 4:=by unfold meanRes;rw[if_neg (by decide)];rfl
 rw[r38]
 simp -dsimp (disch:=omega) only[wpS,wpT,Nat.reduceEqDiff]
 refine call (faT_ok (c37.ext X38)) ?_
 rintro _ h39 ⟨X39,rfl⟩
 have E39:=E38.trans X39
 simp -dsimp (disch:=omega) only[wpS,Nat.reduceEqDiff]
 exact⟨E39,rfl⟩
set_option maxHeartbeats 8000000 in
theorem w5 {hh:IH} {fr:Fr} {Q:IExit→Fr→IH→Prop} (f1:fget fr 1=some (.bool true)):Do (wpC Proofs.Tryz.prog 10 159 none (partW 5) fr hh) (seqK (fun fr h'=>Pst (Ext hh h' ∧ ∃v,ShLs h' v [mI [0,2],mI [1,5]]∧fget fr 6=some v∧fget fr 1=some (.bool true)) nx) Q) nx:=by
 show Do (wpC _ _ _ _ (.region _ _ _) fr hh) _ _
 simp -dsimp (disch:=omega) only[wpS,wpT,Nat.reduceLeDiff,Nat.reduceAdd,Nat.reduceMul,bs87]
 refine call (lawl_blk [0,2] (by decide +kernel) (by decide +kernel) (by decide +kernel)) ?_
 rintro v40 h40 ⟨X40,s40⟩
 have E40:=X40
 simp -dsimp (disch:=omega) only[wpS,wpT,Nat.reduceEqDiff,Nat.reduceLeDiff,Nat.reduceAdd,Nat.reduceMul,bs87]
 refine call (lawl_blk [1,5] (by decide +kernel) (by decide +kernel) (by decide +kernel)) ?_
 rintro v41 h41 ⟨X41,s41⟩
 have E41:=E40.trans X41
 simp -dsimp (disch:=omega) only[wpS,wpT,Nat.reduceEqDiff,Nat.reduceLeDiff,Nat.reduceAdd,Nat.reduceMul,bs22,s40.1.cells,s41.1.cells]
 exact⟨E41.new _,_,shLs_two (s40.keep X41.keep) s41,rfl,by simp[f1]⟩
set_option maxHeartbeats 8000000 in
theorem w6 {hh:IH} {fr:Fr} {Q:IExit→Fr→IH→Prop} {v:Value} (hv:ShLs hh v [mI [0,2],mI [1,5]]) (f1:fget fr 1=some (.bool true)) (f6:fget fr 6=some v):Do (wpC Proofs.Tryz.prog 10 159 none (partW 6) fr hh) (seqK (fun fr h'=>Pst (Ext hh h'∧fget fr 0=some (.bool true)) nx) Q) nx:=by
 show Do (wpC _ _ _ _ (.region _ _ _) fr hh) _ _
 simp -dsimp (disch:=omega) only[wpS,wpT,Nat.reduceEqDiff,f1]
 refine call (isC_ok 5 1) ?_
 rintro _ h42 ⟨X42,i42,j42,rfl,c42⟩
 have E42:=X42
 simp -dsimp (disch:=omega) only[wpS,wpT,Nat.reduceEqDiff,f6]
 refine call (gWithin (ll:=[mI [0,2],mI [1,5]]) (hv.ext E42) (fun _=>⟨by decide +kernel,by decide +kernel⟩)) ?_
 rintro _ h43 ⟨X43,rfl⟩
 have E43:=E42.trans X43
 have r43:withinRes [mI [0,2],mI [1,5]]=.tuple #[shareV ((5:Int):Rat),KI 0]:=withinRes_of (by decide +kernel) (by decide +kernel) (QW_of (by decide +kernel))
 rw[r43]
 simp -dsimp (disch:=omega) only[wpS,wpT,Nat.reduceEqDiff]
 refine call (isT_ok (q:=((5:Int):Rat)) (c42.ext X43) (by decide +kernel) (by decide +kernel) (by decide +kernel) (by decide +kernel)) ?_
 rintro _ h44 ⟨X44,rfl⟩
 have E44:=E43.trans X44
 simp -dsimp (disch:=omega) only[wpS,wpT,Nat.reduceEqDiff]
 refine call (isC_ok 2 1) ?_
 rintro _ h45 ⟨X45,i45,j45,rfl,c45⟩
 have E45:=E44.trans X45
 simp -dsimp (disch:=omega) only[wpS,wpT,Nat.reduceEqDiff,f6]
 refine call (gMeans (ll:=[mI [0,2],mI [1,5]]) (hv.ext E45) (fun _=>⟨by decide +kernel,by decide +kernel⟩)) ?_
 rintro _ h46 ⟨X46,rfl⟩
 have E46:=E45.trans X46
 have r46:meansRes [mI [0,2],mI [1,5]]=.tuple #[shareV ((2:Int):Rat),KI 0]:=meansRes_of (by decide +kernel) (by decide +kernel) (QW_of (by decide +kernel))
 rw[r46]
 simp -dsimp (disch:=omega) only[wpS,wpT,Nat.reduceEqDiff]
 refine call (isT_ok (q:=((2:Int):Rat)) (c45.ext X46) (by decide +kernel) (by decide +kernel) (by decide +kernel) (by decide +kernel)) ?_
 rintro _ h47 ⟨X47,rfl⟩
 have E47:=E46.trans X47
 simp -dsimp (disch:=omega) only[wpS,wpT,Nat.reduceEqDiff]
 refine call (isC_ok 9 10) ?_
 rintro _ h48 ⟨X48,i48,j48,rfl,c48⟩
 have E48:=E47.trans X48
 simp -dsimp (disch:=omega) only[wpS,wpT,Nat.reduceEqDiff,f6]
 refine call (gRatio (ll:=[mI [0,2],mI [1,5]]) (hv.ext E48) (fun _=>⟨by decide +kernel,by decide +kernel⟩)) ?_
 rintro _ h49 ⟨X49,rfl⟩
 have E49:=E48.trans X49
 have r49:ratioRes [mI [0,2],mI [1,5]]=.tuple #[shareV (Rat.divInt (9) 10),KI 0]:=ratioRes_of (by decide +kernel) (by decide +kernel) (by decide +kernel) (QW_of (by decide +kernel))
 rw[r49]
 simp -dsimp (disch:=omega) only[wpS,wpT,Nat.reduceEqDiff]
 refine call (isT_ok (q:=(Rat.divInt (9) 10)) (c48.ext X49) (by decide +kernel) (by decide +kernel) (by decide +kernel) (by decide +kernel)) ?_
 rintro _ h50 ⟨X50,rfl⟩
 have E50:=E49.trans X50
 simp -dsimp (disch:=omega) only[wpS,wpT,Nat.reduceEqDiff]
 refine call (faC_ok 7) ?_
 rintro _ h51 ⟨X51,i51,rfl,c51⟩
 have E51:=E50.trans X51
 simp -dsimp (disch:=omega) only[wpS,wpT,Nat.reduceEqDiff,Nat.reduceLeDiff,Nat.reduceAdd,Nat.reduceMul,bs87]
 refine call (lawl_blk [1,1] (by decide +kernel) (by decide +kernel) (by decide +kernel)) ?_
 rintro v52 h52 ⟨X52,s52⟩
 have E52:=E51.trans X52
 simp -dsimp (disch:=omega) only[wpS,wpT,Nat.reduceEqDiff,Nat.reduceLeDiff,Nat.reduceAdd,Nat.reduceMul,bs87]
 refine call (lawl_blk [2,2] (by decide +kernel) (by decide +kernel) (by decide +kernel)) ?_
 rintro v53 h53 ⟨X53,s53⟩
 have E53:=E52.trans X53
 simp -dsimp (disch:=omega) only[wpS,wpT,Nat.reduceEqDiff,Nat.reduceLeDiff,Nat.reduceAdd,Nat.reduceMul,bs22,s52.1.cells,s53.1.cells]
 refine call (gRatio (ll:=[mI [1,1],mI [2,2]]) (shLs_two (s52.keep X53.keep) s53) (fun _=>⟨by decide +kernel,by decide +kernel⟩)) ?_
 rintro _ h54 ⟨Y54,rfl⟩
 have X54:=((Ext.refl h53).new _).trans Y54
 have E54:=E53.trans X54
 have r54:ratioRes [mI [1,1],mI [2,2]]=errV 7:=ratioRes_no (by decide +kernel) (by decide +kernel)
 rw[r54]
 simp -dsimp (disch:=omega) only[wpS,wpT,Nat.reduceEqDiff]
 refine call (faT_ok (((c51.ext X52).ext X53).ext X54)) ?_
 rintro _ h55 ⟨X55,rfl⟩
 have E55:=E54.trans X55
 simp -dsimp (disch:=omega) only[wpS,wpT,Nat.reduceEqDiff]
 refine call (faC_ok 5) ?_
 rintro _ h56 ⟨X56,i56,rfl,c56⟩
 have E56:=E55.trans X56
 simp -dsimp (disch:=omega) only[wpS,wpT,Nat.reduceEqDiff,Nat.reduceLeDiff,Nat.reduceAdd,Nat.reduceMul,bs87]
 refine call (lawl_blk [1,2] (by decide +kernel) (by decide +kernel) (by decide +kernel)) ?_
 rintro v57 h57 ⟨X57,s57⟩
 have E57:=E56.trans X57
 simp -dsimp (disch:=omega) only[wpS,wpT,Nat.reduceEqDiff,Nat.reduceLeDiff,Nat.reduceAdd,bs22,s57.1.cells]
 refine call (gRatio (ll:=[mI [1,2]]) (shLs_one s57) (fun e=>absurd e (by decide +kernel))) ?_
 rintro _ h58 ⟨Y58,rfl⟩
 have X58:=((Ext.refl h57).new _).trans Y58
 have E58:=E57.trans X58
 have r58:ratioRes [mI [1,2]]=errV 5:=ratioRes_err (by decide +kernel) (by decide)
 rw[r58]
 simp -dsimp (disch:=omega) only[wpS,wpT,Nat.reduceEqDiff]
 refine call (faT_ok ((c56.ext X57).ext X58)) ?_
 rintro _ h59 ⟨X59,rfl⟩
 have E59:=E58.trans X59
 simp -dsimp (disch:=omega) only[wpS,Nat.reduceEqDiff]
 exact⟨E59,rfl⟩
theorem w0 {hh:IH} {fr:Fr} {Q:IExit→Fr→IH→Prop}:Do (wpC Proofs.Tryz.prog 10 159 none (partW 0) fr hh) (seqK (fun fr h'=>Pst (h'=hh) nx) Q) nx:=by
 show Do (wpC _ _ _ _ (.region _ _ _) fr hh) _ _
 simp -dsimp (disch:=omega) only[wpS]
theorem dgworks_ok {h:IH}:WV Proofs.Tryz.prog (.func (.func 10) #[] #[]) [] h fun r h'=>Ext h h'∧r=.bool true:=by
 refine enter (nt:=159) (rs:=[.tmp 0]) Proofs.Tryz.func10 rfl rfl rfl (by simp) ?_
 rw[d_seq];refine cut _ w0 ?_;rintro fr h0 rfl
 rw[d_seq];refine cut _ w1 ?_;rintro fr h1 ⟨x1,f1⟩
 rw[d_seq];refine cut _ (w2 f1) ?_;clear f1;rintro fr h2 ⟨x2,v,s2,f2,f3,f1⟩
 rw[d_seq];refine cut _ (w3 f1 f2 f3) ?_;clear f1 f2 f3;rintro fr h3 ⟨x3,f4,f5,f1,f2,f3⟩
 rw[d_seq];refine cut _ (w4 (s2.keep x3.keep) f1 f2 f3 f4 f5) ?_;clear f1 f2 f3 f4 f5;rintro fr h4 ⟨x4,f1⟩
 rw[d_seq];refine cut _ (w5 f1) ?_;clear f1;rintro fr h5 ⟨x5,v6,s6,f6,f1⟩
 rw[d_seq];refine cut _ (w6 s6 f1 f6) ?_;clear f1 f6;rintro fr h6 ⟨x6,f0⟩
 simp -dsimp (disch:=omega) only[wpS,wpT,f0]
 exact((((x1.trans x2).trans x3).trans x4).trans x5).trans x6
end Go.Id

/-! Weakest preconditions over the ideal machine: appends to slices without room; lengths and parts of slices in regions whose order is open. -/
namespace Go.Id
open Go
theorem append_full {P:Program} {t:TypeId} {sz bytes:Nat} (hT:appT P t=some (sz,bytes)) {h:IH} {b o n:Nat} {cs:List Value} (sv:SlNow h sz (.slice (some ⟨b,o,none⟩) n (2*n+1)) n cs) {x:Value} {m:Nat} {new:List Value} (sx:SlNow h sz x m new) (hm:0<m) (hn:0<n) (hc:new.all cellOK=true) (hsz:(n+m)*(bytes+1)≤1099511627776) :
  append P h t (.slice (some ⟨b,o,none⟩) n (2*n+1)) x=some (.slice (some ⟨2*h.n,0,none⟩) (n+m) (2*(n+m)),h.new (.cells (cs ++ new) sz none)):=by
 unfold appT at hT
 split at hT
 case h_2=>cases hT
 rename_i e hu
 split at hT
 case h_2=>cases hT
 rename_i zs h1 h2 h3
 simp only[cond_eq_ite] at hT
 split at hT
 case isTrue=>cases hT
 rename_i hbad
 cases hT
 have hbad':(sz == 0 || (!(Nat.ble bytes 65536) || !(zs.length == sz)))=false:=by simpa using hbad
 have first : ∀{y:Value} {k:Nat} {l:List Value},0<k→SlNow h sz y k l→firstOf h sz k y=some l∧lenOf y=some k:=by
  intro y k l hk s
  obtain⟨hz,hl,⟨rfl,rfl⟩|⟨b2,o2,k2,rfl,rfl|⟨row,a1,a2,a3⟩⟩⟩:=s
  ·omega
  ·omega
  have hms : ¬k*sz=0:=by
   have:0<k*sz:=Nat.mul_pos hk hz
   omega
  refine⟨?_,rfl⟩
  simp only[firstOf,cond_eq_ite,Nat.ble_eq,Nat.le_refl,if_true,beq_iff_eq,if_neg hms]
  rw[rd_of a1,if_pos a3,a2]
 have hmne:(m == 0)=false:=by simp;omega
 obtain⟨hfx,hlx⟩:=first hm sx
 obtain⟨hfv,_⟩:=first hn sv
 have hble:Nat.ble ((n+m)*(bytes+1)) sizeMost=true:=by rw[Nat.ble_eq];exact hsz
 have hcap:Nat.ble (n+m) ((2*n+1) / 2)=false:=by
  rw[Bool.eq_false_iff];intro hh;rw[Nat.ble_eq] at hh;omega
 have hodd:((2*n+1) % 2 == 1)=true:=by simp
 simp only[Id.append,hu,h1,h2,h3,hlx,hmne,hbad',hfx,hc,hble,hcap,hodd,hfv,cond_true,cond_false,Bool.not_true]
theorem steady_len {P:Program} {fr:Fr} {c:Call} {h h':IH} {v r:Value} {t:TypeId} (hc:c.callee=.builtin .len) (ha:opds fr c.args.toList=some [v]) (ht:c.argTypes[0]?=some t) (h1:lenB P h t v=some r) (h2:lenB P h' t v=some r):steadyAt P fr (.call c) h h'=true :=
 steadyAt_of (v:=r) (x:=h) (y:=h') (by simp[iop,hc,ha,builtin,ht,h1]) (by simp[iop,hc,ha,builtin,ht,h2])
theorem steady_slice {P:Program} {fr:Fr} {t:TypeId} {x:Operand} {lo hi:Option Operand} {h h':IH} {xv r:Value} {lov hiv:Option Value} (hx:opd fr x=some xv) (hl:optOpd fr lo=some lov) (hh:optOpd fr hi=some hiv) (h1:sliceOp P h t xv lov hiv none=some r) (h2:sliceOp P h' t xv lov hiv none=some r):steadyAt P fr (.slice t x lo hi none) h h'=true:=by
 have h0:optOpd fr none=some none:=rfl
 exact steadyAt_of (v:=r) (x:=h) (y:=h') (by simp only[iop,hx,hl,hh,h0,h1,Option.map_some]) (by simp only[iop,hx,hl,hh,h0,h2,Option.map_some])
theorem SlOf.slice_same {h h1 h2:IH} {sz:Nat} {v:Value} {n:Nat} {cs:List Value} (s:SlOf h sz v n cs) (k1:Keep h h1) (k2:Keep h h2) {P:Program} {t e:TypeId} (hu:P.underlying t=some (.slice e)) (hT:sizeT P e=some sz) {lo hi mx:Option Value}:sliceOp P h1 t v lo hi mx=sliceOp P h2 t v lo hi mx:=by
 simp only[sliceOp,hu,hT]
 obtain⟨hz,hl,⟨rfl,rfl⟩|⟨b,o,k,rfl,⟨rfl,rfl⟩|⟨a1,a2,row,a3,h3,h4⟩⟩⟩:=s
 ·rfl
 ·simp[resliced]
 ·rcases a3 with a3|⟨a4,a5,f,a6⟩
  ·simp[resliced,a3.2]
  ·obtain⟨f1,g1⟩:=k1.get (b / 2) row sz f (by omega) a6 (by omega)
   obtain⟨f2,g2⟩:=k2.get (b / 2) row sz f (by omega) a6 (by omega)
   have r1:roomy h1 sz (.slice (some ⟨b,o,none⟩) n k)=true:=by simp[roomy,a4,g1]
   have r2:roomy h2 sz (.slice (some ⟨b,o,none⟩) n k)=true:=by simp[roomy,a4,g2]
   rw[r1,r2]
end Go.Id

/-! The statement DiagnoseBatches, on the ideal machine. -/
namespace Go.Id
open Go
noncomputable def partB (i:Nat):Code:=nthC (Proofs.Tryz.f6.body.getD .skip) i
structure BX (h hh:IH) (fr:Fr) (w:Value) (size:Int) (most more:Bool):Prop where
 e:Ext h hh
 f1:fget fr 1=some w
 f2:fget fr 2=some (KI size)
 f3:fget fr 3=some (.bool most)
 f4:fget fr 4=some (.bool more)
theorem ShLs.mk {h:IH} {v:Value} {ll:List (List (Nat×Nat))} (vs:List Value) (s:SlOf h 1 v ll.length vs) (hl:ll.length<1000) (k : ∀(i:Nat) (x:List (Nat×Nat)),ll[i]?=some x → ∃w,vs[i]?=some w∧ShSl h w x):ShLs h v ll:=⟨vs,s,by omega,k⟩
theorem shLs_three {h:IH} {w1 w2 w3:Value} {x1 x2 x3:List (Nat×Nat)} (s1:ShSl h w1 x1) (s2:ShSl h w2 x2) (s3:ShSl h w3 x3):ShLs (h.new (.cells [w1,w2,w3] 1 none)) (.slice (some ⟨2*h.n,0,none⟩) 3 6) [x1,x2,x3]:=by
 have E:Ext h (h.new (.cells [w1,w2,w3] 1 none)):=(Ext.refl h).new _
 refine .mk [w1,w2,w3] (sl_block (k:=h.n) (f:=none) (get_new_same _ _ rfl) (by simp) (by decide) (by simp) (by omega) (by simp)) (by simp) ?_
 intro i x hx
 match i,hx with
 | 0,hx=>simp at hx;subst hx;exact⟨w1,rfl,s1.keep E.keep⟩
 | 1,hx=>simp at hx;subst hx;exact⟨w2,rfl,s2.keep E.keep⟩
 | 2,hx=>simp at hx;subst hx;exact⟨w3,rfl,s3.keep E.keep⟩
 | i+3,hx=>simp at hx
theorem append_third {h0 h:IH} {w1 w2 w3:Value} {x1 x2 x3:List (Nat×Nat)} (s1:ShSl h0 w1 x1) (s2:ShSl h0 w2 x2) (E:Ext (h0.new (.cells [w1,w2] 1 none)) h) (s3:ShSl h w3 x3) :
  append Proofs.Tryz.prog (h.new (.cells [w3] 1 none)) 22 (.slice (some ⟨2*h0.n,0,none⟩) 2 5) (.slice (some ⟨2*h.n,0,none⟩) 1 3)=some (.slice (some ⟨2*(h.n+1),0,none⟩) 3 6,(h.new (.cells [w3] 1 none)).new (.cells [w1,w2,w3] 1 none)):=by
 have e1:Ext h (h.new (.cells [w3] 1 none)):=(Ext.refl h).new _
 have a:SlOf (h0.new (.cells [w1,w2] 1 none)) 1 (.slice (some ⟨2*h0.n,0,none⟩) 2 5) 2 [w1,w2]:=sl_block (k:=h0.n) (f:=none) (get_new_same _ _ rfl) (by simp) (by decide) (by simp) (by omega) (by omega)
 have b:SlOf (h.new (.cells [w3] 1 none)) 1 (.slice (some ⟨2*h.n,0,none⟩) 1 3) 1 [w3]:=sl_block (k:=h.n) (f:=none) (get_new_same _ _ rfl) (by simp) (by decide) (by simp) (by omega) (by omega)
 exact append_full ap22 ((a.ext E).ext e1).now b.now (by omega) (by omega) (by simp[s3.1.cok]) (by omega)
section
variable {h hh:IH} {fr:Fr} {Q:IExit→Fr→IH→Prop} {v w:Value} {n:Nat} {size:Int} {most more:Bool} {l0:List (Nat×Nat)}
theorem b0 (s:BX h hh fr w size most more) (f0:fget fr 0=some v):Do (wpC Proofs.Tryz.prog 6 99 none (partB 0) fr hh) (seqK (fun fr h'=>Pst (BX h h' fr w size most more∧fget fr 0=some v) nx) Q) nx:=by
 show Do (wpC _ _ _ _ (.region _ _ _) fr hh) _ _
 simp -dsimp (disch:=omega) only[wpS]
 exact⟨⟨s.e,by simp[s.f1],by simp[s.f2],by simp[s.f3],by simp[s.f4]⟩,by simp[f0]⟩
theorem b1 (s:BX h hh fr w size most more) (f0:fget fr 0=some v):Do (wpC Proofs.Tryz.prog 6 99 none (partB 1) fr hh) (seqK (fun fr h'=>Pst (BX h h' fr w size most more∧fget fr 0=some v) nx) Q) nx:=by
 show Do (wpC _ _ _ _ (.seq _ _) fr hh) _ _
 simp -dsimp (disch:=omega) only[wpS]
 refine call dgworks_ok ?_
 rintro _ h1 ⟨X1,rfl⟩
 simp -dsimp (disch:=omega) only[wpS,wpT,Nat.reduceEqDiff]
 exact⟨⟨s.e.trans X1,by simp[s.f1],by simp[s.f2],by simp[s.f3],by simp[s.f4]⟩,by simp[f0]⟩
set_option maxHeartbeats 2000000 in
theorem b2 (hv:ShArg h v l0) (hw:DrSl h w n) (s:BX h hh fr w size most more) (f0:fget fr 0=some v):Do (wpC Proofs.Tryz.prog 6 99 none (partB 2) fr hh) (seqK (fun fr h'=>Pst (BX h h' fr w size most more ∧ ∃hb w1 w2 x1 x2,ShSl hb w1 x1∧ShSl hb w2 x2∧h'=hb.new (.cells [w1,w2] 1 none)∧fget fr 11=some (.slice (some ⟨2*hb.n,0,none⟩) 2 5)) nx) Q) nx:=by
 show Do (wpC _ _ _ _ (.region _ _ _) fr hh) _ _
 obtain⟨M,hM⟩ : ∃M,M=min l0.length 5:=⟨_,rfl⟩
 have hmin:(if (5:Int)<(l0.length:Int) then (5:Int) else (l0.length:Int))=(M:Int):=by split<;>omega
 have hv1:=hv.keep s.e.keep
 obtain⟨v1,e1,s1⟩:=hv1.first (Keep.refl hh) (m:=M) (by omega) (by omega)
 refine drawn [(2,[9]),(4,[9])] (by kernel_rfl) (by kernel_rfl) rfl ?_
 simp -dsimp (disch:=omega) only[wpS,Nat.reduceEqDiff,f0,s.f1,hv.1.len sl25,min_ii,hmin,e1]
 refine call (shorts_ok (hw.keep s.e.keep)) ?_
 rintro w2 h2 ⟨X2,l2,s2,hl2,hsh2,hn2⟩
 simp -dsimp (disch:=omega) only[wpS,wpT,Nat.reduceEqDiff,Nat.reduceLeDiff,Nat.reduceAdd,Nat.reduceMul,bs22,s1.1.cells,s2.1.cells]
 have e3:=(hv1.1.slice_same (Keep.refl hh) (X2.keep.new (.cells [v1,w2] 1 none)) (P:=Proofs.Tryz.prog) u25 sz30).symm.trans e1
 refine⟨wpSteady_c2 (wpSteady_one rfl rfl rfl rfl (steady_len rfl rfl rfl (hv.1.len sl25 _) (hv.1.len sl25 _))) (wpSteady_one rfl rfl rfl rfl (steady_slice rfl rfl rfl e1 e3)),?_⟩
 simp -dsimp (disch:=omega) only[wpS,wpT,Nat.reduceAdd]
 exact⟨⟨(s.e.trans X2).new _,by simp[s.f1],by simp[s.f2],by simp[s.f3],by simp[s.f4]⟩,h2,v1,w2,_,l2,s1.keep X2.keep,s2,rfl,rfl⟩
set_option maxHeartbeats 2000000 in
theorem b3 (hw:DrSl h w n) (s:BX h hh fr w size most more) {hb:IH} {w1 w2:Value} {x1 x2:List (Nat×Nat)} (s1:ShSl hb w1 x1) (s2:ShSl hb w2 x2) (he:hh=hb.new (.cells [w1,w2] 1 none)) (f11:fget fr 11=some (.slice (some ⟨2*hb.n,0,none⟩) 2 5)):Do (wpC Proofs.Tryz.prog 6 99 none (partB 3) fr hh) (seqK (fun fr h'=>Pst (BX h h' fr w size most more ∧ ∃v ll,ShLs h' v ll∧fget fr 11=some v) nx) Q) nx:=by
 show Do (wpC _ _ _ _ (.seq _ _) fr hh) _ _
 subst he
 cases most with
 | false =>
  simp -dsimp (disch:=omega) only[wpS,s.f3]
  exact⟨⟨s.e,by simp[s.f1],by simp[s.f2],by simp[s.f3],by simp[s.f4]⟩,_,_,shLs_two s1 s2,by simp[f11]⟩
 | true =>
  simp -dsimp (disch:=omega) only[wpS,Nat.reduceEqDiff,s.f3,f11,s.f1]
  refine call (shorts_ok (hw.keep s.e.keep)) ?_
  rintro v3 h3 ⟨X3,l3,s3,hl3,hsh3,hn3⟩
  simp -dsimp (disch:=omega) only[wpS,Nat.reduceEqDiff,s.f4]
  refine call (long_ok s3 hn3 (by omega)) ?_
  rintro v4 h4 ⟨X4,s4⟩
  have X34:=X3.trans X4
  simp -dsimp (disch:=omega) only[wpS,wpT,Nat.reduceEqDiff,Nat.reduceLeDiff,Nat.reduceAdd,bs22,ba22_22,s4.1.cells,append_third s1 s2 X34 s4]
  have Y:=((Ext.refl hb).new (.cells [w1,w2] 1 none)).trans (X34.new (.cells [v4] 1 none))
  exact⟨⟨((s.e.trans X34).new _).new _,by simp[s.f1],by simp[s.f2],by simp[s.f3],by simp[s.f4]⟩,_,_,shLs_three (s1.keep Y.keep) (s2.keep Y.keep) (s4.keep ((Ext.refl h4).new _).keep),rfl⟩
end
end Go.Id

/-! The statement DiagnoseChains, on the ideal machine. -/
namespace Go.Id
open Go
noncomputable def partC (i:Nat):Code:=nthC (Proofs.Tryz.f5.body.getD .skip) i
theorem toldP_form (q:Rat) : ∃(p:Nat×Nat) (e:Int),(p.1<W8∧p.2<W8)∧toldV q=.tuple #[shV p.1 p.2,KI e]:=by
 unfold toldV
 split
 ·rename_i h;exact⟨shq q,0,shq_lt h,rfl⟩
 ·exact⟨(0,0),6,⟨by decide +kernel,by decide +kernel⟩,rfl⟩
theorem errP_form (e:Int) : ∃(p:Nat×Nat) (e':Int),(p.1<W8∧p.2<W8)∧errV e=.tuple #[shV p.1 p.2,KI e']:=⟨(0,0),e,⟨by decide +kernel,by decide +kernel⟩,rfl⟩
theorem meanP_form (l:List (Nat×Nat)) : ∃(p:Nat×Nat) (e:Int),(p.1<W8∧p.2<W8)∧meanRes l=.tuple #[shV p.1 p.2,KI e]:=by
 unfold meanRes;split
 ·exact toldP_form _
 ·exact errP_form _
theorem autoP_form (l:List (Nat×Nat)) (k:Int) : ∃(p:Nat×Nat) (e:Int),(p.1<W8∧p.2<W8)∧autoRes l k=.tuple #[shV p.1 p.2,KI e]:=by
 unfold autoRes;split
 ·split
  ·exact toldP_form _
  ·exact errP_form _
 ·exact errP_form _
theorem effP_form (l:List (Nat×Nat)) : ∃(p:Nat×Nat) (e:Int),(p.1<W8∧p.2<W8)∧effRes l=.tuple #[shV p.1 p.2,KI e]:=by
 unfold effRes;split
 ·split
  ·exact errP_form _
  ·exact toldP_form _
 ·exact errP_form _
theorem box_put (h:IH) (p:Nat×Nat) : ∃H0,H0=(h.new (.cells Z16 0 none)).put h.n (.cells (shC p.1 p.2) 0 none)∧H0.n=h.n+1∧Ext h H0∧H0.ext.get h.n=some (.cells (shC p.1 p.2) 0 none):=by
 refine⟨_,rfl,rfl,((Ext.refl h).new _).put (by omega) _,?_⟩
 simp (disch:=first|omega|(simp only[new_n,put_n];omega)|(repeat first|rw[new_n]|rw[put_n])) only[get_put_same]
theorem neq_same {p:Nat×Nat} (h:p.1<W8∧p.2<W8) (ox oy:Operand):binop Proofs.Tryz.prog .neq 30 ox oy (.agg (shC p.1 p.2).toArray) (.agg (shC p.1 p.2).toArray)=some (.bool false):=by
 rw[sh_neq h.1 h.2 h.1 h.2];simp
theorem rem13 (size:Int) : ∃z:Int,(0≤z∧z<13) ∧ ∀ox oy,binop Proofs.Tryz.prog .rem 56 ox oy (.int .u64 (IntKind.u64.wrap size)) (.int .u64 13)=some (.int .u64 z):=by
 obtain⟨y,hy⟩:=u64wrap size
 rw[hy]
 refine⟨(y:Int).tmod 13,?_,fun ox oy=>binop_rem _ _ _ _ (by decide)⟩
 rw[Int.tmod_eq_emod_of_nonneg (by omega)]
 omega
structure CX (h hh:IH) (fr:Fr) (v w:Value) (lag:Int) (most:Bool):Prop where
 e:Ext h hh
 f0:fget fr 0=some v
 f1:fget fr 1=some w
 f2:fget fr 2=some (KI lag)
 f3:fget fr 3=some (.bool most)
section
variable {h hh:IH} {fr:Fr} {Q:IExit→Fr→IH→Prop} {v w:Value} {n:Nat} {lag:Int} {most:Bool} {l0:List (Nat×Nat)}
set_option maxHeartbeats 2000000 in
theorem c0 (s:CX h hh fr v w lag most):Do (wpC Proofs.Tryz.prog 5 115 none (partC 0) fr hh) (seqK (fun fr h'=>Pst (CX h h' fr v w lag most) nx) Q) nx:=by
 show Do (wpC _ _ _ _ (.region _ _ _) fr hh) _ _
 simp -dsimp (disch:=omega) only[wpS]
 exact⟨s.e,by simp[s.f0],by simp[s.f1],by simp[s.f2],by simp[s.f3]⟩
set_option maxHeartbeats 2000000 in
theorem c1 (s:CX h hh fr v w lag most):Do (wpC Proofs.Tryz.prog 5 115 none (partC 1) fr hh) (seqK (fun fr h'=>Pst (CX h h' fr v w lag most) nx) Q) nx:=by
 show Do (wpC _ _ _ _ (.seq _ _) fr hh) _ _
 simp -dsimp (disch:=omega) only[wpS]
 refine call dgworks_ok ?_
 rintro _ h1 ⟨X1,rfl⟩
 simp -dsimp (disch:=omega) only[wpS,wpT,Nat.reduceEqDiff]
 exact⟨s.e.trans X1,by simp[s.f0],by simp[s.f1],by simp[s.f2],by simp[s.f3]⟩
set_option maxHeartbeats 2000000 in
theorem c2 (hv:ShArg h v l0) (hw:DrSl h w n) (s:CX h hh fr v w lag most):Do (wpC Proofs.Tryz.prog 5 115 none (partC 2) fr hh) (seqK (fun fr h'=>Pst (CX h h' fr v w lag most ∧ ∃hb w1 w2 x1 x2,ShSl hb w1 x1∧ShSl hb w2 x2∧x1.length≤3∧x2.length≤12∧h'=hb.new (.cells [w1,w2] 1 none)∧fget fr 9=some (.slice (some ⟨2*hb.n,0,none⟩) 2 5)) nx) Q) nx:=by
 show Do (wpC _ _ _ _ (.region _ _ _) fr hh) _ _
 simp -dsimp (disch:=omega) only[wpS,s.f0]
 refine call (light_ok (hv.keep s.e.keep)) ?_
 rintro w1 h1 ⟨X1,l1,s1,hl1,hn1⟩
 simp -dsimp (disch:=omega) only[wpS,Nat.reduceEqDiff,s.f1]
 refine call (shorts_ok (hw.keep (s.e.trans X1).keep)) ?_
 rintro w2 h2 ⟨X2,l2,s2,hl2,hsh2,hn2⟩
 simp -dsimp (disch:=omega) only[wpS,wpT,Nat.reduceEqDiff,Nat.reduceLeDiff,Nat.reduceAdd,Nat.reduceMul,bs22,s1.1.cells,s2.1.cells]
 exact⟨⟨((s.e.trans X1).trans X2).new _,by simp[s.f0],by simp[s.f1],by simp[s.f2],by simp[s.f3]⟩,h2,w1,w2,l1,l2,s1.keep X2.keep,s2,hl1,by omega,rfl,rfl⟩
set_option maxHeartbeats 2000000 in
theorem c3 (hv:ShArg h v l0) (s:CX h hh fr v w lag most) {hb:IH} {w1 w2:Value} {x1 x2:List (Nat×Nat)} (s1:ShSl hb w1 x1) (s2:ShSl hb w2 x2) (n1:x1.length≤3) (n2:x2.length≤12) (he:hh=hb.new (.cells [w1,w2] 1 none)) (f9:fget fr 9=some (.slice (some ⟨2*hb.n,0,none⟩) 2 5)):Do (wpC Proofs.Tryz.prog 5 115 none (partC 3) fr hh) (seqK (fun fr h'=>Pst (CX h h' fr v w lag most ∧ ∃v ll,ShLs h' v ll∧(∀x∈ll,Fit x.length)∧fget fr 9=some v) nx) Q) nx:=by
 show Do (wpC _ _ _ _ (.seq _ _) fr hh) _ _
 subst he
 cases most with
 | false =>
  simp -dsimp (disch:=omega) only[wpS,s.f3]
  refine⟨⟨s.e,by simp[s.f0],by simp[s.f1],by simp[s.f2],by simp[s.f3]⟩,_,[x1,x2],shLs_two s1 s2,?_,by simp[f9]⟩
  intro x hx
  simp at hx
  rcases hx with rfl|rfl<;>exact .inl (by omega)
 | true =>
  simp -dsimp (disch:=omega) only[wpS,Nat.reduceEqDiff,s.f3,f9,s.f0]
  refine call (light_ok (hv.keep s.e.keep)) ?_
  rintro v3 h3 ⟨X3,l3,s3,hl3,hn3⟩
  simp -dsimp (disch:=omega) only[wpS,Nat.reduceEqDiff]
  refine call (long_ok s3 hn3 (by omega)) ?_
  rintro v4 h4 ⟨X4,s4⟩
  have X34:=X3.trans X4
  simp -dsimp (disch:=omega) only[wpS,wpT,Nat.reduceEqDiff,Nat.reduceLeDiff,Nat.reduceAdd,bs22,ba22_22,s4.1.cells,append_third s1 s2 X34 s4]
  have Y:=((Ext.refl hb).new (.cells [w1,w2] 1 none)).trans (X34.new (.cells [v4] 1 none))
  refine⟨⟨((s.e.trans X34).new _).new _,by simp[s.f0],by simp[s.f1],by simp[s.f2],by simp[s.f3]⟩,_,[x1,x2,longL l3 true],shLs_three (s1.keep Y.keep) (s2.keep Y.keep) (s4.keep ((Ext.refl h4).new _).keep),?_,rfl⟩
  intro x hx
  simp at hx
  rcases hx with rfl|rfl|rfl
  ·exact .inl (by omega)
  ·exact .inl (by omega)
  ·refine .inr ?_
   unfold longL longT
   rw[List.length_append,List.length_replicate]
   simp
   omega
set_option maxHeartbeats 16000000 in
theorem c4 (s:CX h hh fr v w lag most) (hs:In64 lag) {v9:Value} {ll:List (List (Nat×Nat))} (sl:ShLs hh v9 ll) (hf : ∀x∈ll,Fit x.length) (f9:fget fr 9=some v9):Do (wpC Proofs.Tryz.prog 5 115 none (partC 4) fr hh) (seqK (fun fr h'=>Pst (Ext h h') nx) Q) nx:=by
 show Do (wpC _ _ _ _ (.seq _ _) fr hh) _ _
 simp -dsimp (maxSteps:=1000000) (disch:=first|omega|(simp only[new_n,put_n];omega)|decide +kernel|(repeat first|rw[new_n]|rw[put_n])) only[wpS,f9,sl.co.2.2]
 refine loop (fun m fr g => ∃i:Nat,i+m=ll.length∧Ext hh g∧fget fr 2=some (KI lag)∧fget fr 40=some v9∧fget fr 41=some (KN ll.length)∧fget fr 42=some (KN i)) ll.length
  ⟨0,by omega,Ext.refl _,by simp[s.f2],by simp,by simp,by simp⟩ ?_
 rintro m fr g ⟨i,him,E,f2,f40,f41,f42⟩
 simp -dsimp (maxSteps:=1000000) (disch:=first|omega|(simp only[new_n,put_n];omega)|decide +kernel|(repeat first|rw[new_n]|rw[put_n])) only[wpS,f41,f42]
 refine bq_intro ?_ ?_<;>intro hc<;>simp only[decide_eq_true_eq,decide_eq_false_iff_not] at hc
 ·have hi:i<ll.length:=by omega
  obtain⟨x,hx⟩ : ∃x,ll[i]?=some x:=⟨_,List.getElem?_eq_getElem hi⟩
  have fx:=hf x (List.mem_of_getElem? hx)
  obtain⟨wv,ld,sx,ix⟩:=sl.at E.keep hx
  have hlen:ll.length<1152921504606846976:=by obtain⟨_,_,q,_⟩:=sl;exact q
  obtain⟨p,a,pw,hr⟩:=meanP_form x
  obtain⟨p',a',pw',hr'⟩:=effP_form x
  have na:(a != a)=false:=by simp
  have na':(a' != a')=false:=by simp
  simp -dsimp (maxSteps:=1000000) (disch:=first|omega|(simp only[new_n,put_n];omega)|decide +kernel|(repeat first|rw[new_n]|rw[put_n])) only[wpS,wpT,Nat.reduceEqDiff,f40,f42,ix,ld]
  refine call (gMean sx) ?_
  rintro _ g1 ⟨Y1,rfl⟩
  rw[hr]
  obtain⟨G1,hG1,n1,Z1,k1⟩:=box_put g1 p
  simp -dsimp (maxSteps:=1000000) (disch:=first|omega|(simp only[new_n,put_n];omega)|decide +kernel|(repeat first|rw[new_n]|rw[put_n])) only[wpS,wpT,Nat.reduceEqDiff,Nat.reduceLeDiff,Nat.reduceAdd,zc30,st30,shV_cells,shC_len,shC_all,sh_sp3]
  rw[←hG1]
  clear hG1
  have V1:=Y1.trans Z1
  refine call (rMean (sx.keep V1.keep)) ?_
  rintro _ g2 ⟨Y2,rfl⟩
  rw[hr]
  obtain⟨G2,hG2,n2,Z2,k2⟩:=box_put g2 p
  simp -dsimp (maxSteps:=1000000) (disch:=first|omega|(simp only[new_n,put_n];omega)|decide +kernel|(repeat first|rw[new_n]|rw[put_n])) only[wpS,wpT,Nat.reduceEqDiff,Nat.reduceLeDiff,Nat.reduceAdd,zc30,st30,shV_cells,shC_len,shC_all,sh_sp3]
  rw[←hG2]
  clear hG2
  have V2:=V1.trans (Y2.trans Z2)
  refine call (gEff (sx.keep V2.keep) fx) ?_
  rintro _ g3 ⟨Y3,rfl⟩
  rw[hr']
  obtain⟨G3,hG3,n3,Z3,k3⟩:=box_put g3 p'
  simp -dsimp (maxSteps:=1000000) (disch:=first|omega|(simp only[new_n,put_n];omega)|decide +kernel|(repeat first|rw[new_n]|rw[put_n])) only[wpS,wpT,Nat.reduceEqDiff,Nat.reduceLeDiff,Nat.reduceAdd,zc30,st30,shV_cells,shC_len,shC_all,sh_sp3]
  rw[←hG3]
  clear hG3
  have V3:=V2.trans (Y3.trans Z3)
  refine call (rEff (sx.keep V3.keep) fx) ?_
  rintro _ g4 ⟨Y4,rfl⟩
  rw[hr']
  obtain⟨G4,hG4,n4,Z4,k4⟩:=box_put g4 p'
  simp -dsimp (maxSteps:=1000000) (disch:=first|omega|(simp only[new_n,put_n];omega)|decide +kernel|(repeat first|rw[new_n]|rw[put_n])) only[wpS,wpT,Nat.reduceEqDiff,Nat.reduceLeDiff,Nat.reduceAdd,zc30,st30,ld30,shV_cells,shC_len,shC_all,sh_sp3]
  rw[←hG4]
  clear hG4
  have V4:=V3.trans (Y4.trans Z4)
  have y2:=Y2.trans Z2
  have y3:=Y3.trans Z3
  have y4:=Y4.trans Z4
  have m1:=Z1.n
  have q1:=((y2.trans y3).trans y4).kept (by omega) k1
  have q2:=(y3.trans y4).kept (by omega) k2
  have q3:=y4.kept (by omega) k3
  have q4:=k4
  obtain⟨z,hz,hrem⟩:=rem13 lag
  simp -dsimp (maxSteps:=1000000) (disch:=first|omega|(simp only[new_n,put_n];omega)|decide +kernel|(repeat first|rw[new_n]|rw[put_n])) only[wpS,wpT,Nat.reduceEqDiff,Nat.reduceLeDiff,Nat.reduceAdd,ld30,cv3_56,cv56_3,bv57,pl57_0,pl57_1,row_of q1,row_of q2,row_of q3,row_of q4,shC_len,sh_take,neq_same pw,neq_same pw',na,na',f2,hrem]
  refine loop (fun m2 fr gg => ∃j:Nat,j+m2=2∧Ext G4 gg∧fget fr 11=some wv∧fget fr 89=some (.agg #[KI lag,KI z])∧fget fr 90=some (KN j)∧fget fr 2=some (KI lag)∧fget fr 40=some v9∧fget fr 41=some (KN ll.length)∧fget fr 42=some (KN i)) 2
   ⟨0,by omega,Ext.refl _,by simp,by simp,by simp,by simp[f2],by simp[f40],by simp[f41],by simp[f42]⟩ ?_
  rintro m2 fr2 gg ⟨j,hj2,EE,f11,f89,f90,f2,f40,f41,f42⟩
  simp -dsimp (maxSteps:=1000000) (disch:=first|omega|(simp only[new_n,put_n];omega)|decide +kernel|(repeat first|rw[new_n]|rw[put_n])) only[wpS,f90]
  refine bq_intro ?_ ?_<;>intro hcc<;>simp only[decide_eq_true_eq,decide_eq_false_iff_not] at hcc
  ·have sw:=sx.keep (V4.trans EE).keep
   have cases2:j=0∨j=1:=by omega
   rcases cases2 with rfl|rfl
   ·have hi0:indexV Proofs.Tryz.prog 57 (.agg #[KI lag,KI z]) (KN 0)=some (KI lag):=by kernel_rfl
    obtain⟨pa,b,paw,hra⟩:=autoP_form x lag
    have nb:(b != b)=false:=by simp
    simp -dsimp (maxSteps:=1000000) (disch:=first|omega|(simp only[new_n,put_n];omega)|decide +kernel|(repeat first|rw[new_n]|rw[put_n])) only[wpS,wpT,Nat.reduceEqDiff,f11,f89,f90,hi0]
    refine call (gAuto sw fx lag) ?_
    rintro _ g5 ⟨Y5,rfl⟩
    rw[hra]
    obtain⟨G5,hG5,n5,Z5,k5⟩:=box_put g5 pa
    simp -dsimp (maxSteps:=1000000) (disch:=first|omega|(simp only[new_n,put_n];omega)|decide +kernel|(repeat first|rw[new_n]|rw[put_n])) only[wpS,wpT,Nat.reduceEqDiff,Nat.reduceLeDiff,Nat.reduceAdd,zc30,st30,shV_cells,shC_len,shC_all,sh_sp3,f11]
    rw[←hG5]
    clear hG5
    have V5:=Y5.trans Z5
    refine call (rAuto (sw.keep V5.keep) fx lag) ?_
    rintro _ g6 ⟨Y6,rfl⟩
    rw[hra]
    obtain⟨G6,hG6,n6,Z6,k6⟩:=box_put g6 pa
    simp -dsimp (maxSteps:=1000000) (disch:=first|omega|(simp only[new_n,put_n];omega)|decide +kernel|(repeat first|rw[new_n]|rw[put_n])) only[wpS,wpT,Nat.reduceEqDiff,Nat.reduceLeDiff,Nat.reduceAdd,zc30,st30,ld30,shV_cells,shC_len,shC_all,sh_sp3]
    rw[←hG6]
    clear hG6
    have y6:=Y6.trans Z6
    have q5:=y6.kept (by omega) k5
    simp -dsimp (maxSteps:=1000000) (disch:=first|omega|(simp only[new_n,put_n];omega)|decide +kernel|(repeat first|rw[new_n]|rw[put_n])) only[wpS,wpT,Nat.reduceEqDiff,Nat.reduceLeDiff,ld30,row_of q5,row_of k6,shC_len,sh_take,neq_same paw,nb,f90]
    exact⟨1,by omega,1,by omega,EE.trans (V5.trans y6),by simp[f11],by simp[f89],by simp,by simp[f2],by simp[f40],by simp[f41],by simp[f42]⟩
   ·have hi0:indexV Proofs.Tryz.prog 57 (.agg #[KI lag,KI z]) (KN 1)=some (KI z):=by kernel_rfl
    obtain⟨pa,b,paw,hra⟩:=autoP_form x z
    have nb:(b != b)=false:=by simp
    simp -dsimp (maxSteps:=1000000) (disch:=first|omega|(simp only[new_n,put_n];omega)|decide +kernel|(repeat first|rw[new_n]|rw[put_n])) only[wpS,wpT,Nat.reduceEqDiff,f11,f89,f90,hi0]
    refine call (gAuto sw fx z) ?_
    rintro _ g5 ⟨Y5,rfl⟩
    rw[hra]
    obtain⟨G5,hG5,n5,Z5,k5⟩:=box_put g5 pa
    simp -dsimp (maxSteps:=1000000) (disch:=first|omega|(simp only[new_n,put_n];omega)|decide +kernel|(repeat first|rw[new_n]|rw[put_n])) only[wpS,wpT,Nat.reduceEqDiff,Nat.reduceLeDiff,Nat.reduceAdd,zc30,st30,shV_cells,shC_len,shC_all,sh_sp3,f11]
    rw[←hG5]
    clear hG5
    have V5:=Y5.trans Z5
    refine call (rAuto (sw.keep V5.keep) fx z) ?_
    rintro _ g6 ⟨Y6,rfl⟩
    rw[hra]
    obtain⟨G6,hG6,n6,Z6,k6⟩:=box_put g6 pa
    simp -dsimp (maxSteps:=1000000) (disch:=first|omega|(simp only[new_n,put_n];omega)|decide +kernel|(repeat first|rw[new_n]|rw[put_n])) only[wpS,wpT,Nat.reduceEqDiff,Nat.reduceLeDiff,Nat.reduceAdd,zc30,st30,ld30,shV_cells,shC_len,shC_all,sh_sp3]
    rw[←hG6]
    clear hG6
    have y6:=Y6.trans Z6
    have q5:=y6.kept (by omega) k5
    simp -dsimp (maxSteps:=1000000) (disch:=first|omega|(simp only[new_n,put_n];omega)|decide +kernel|(repeat first|rw[new_n]|rw[put_n])) only[wpS,wpT,Nat.reduceEqDiff,Nat.reduceLeDiff,ld30,row_of q5,row_of k6,shC_len,sh_take,neq_same paw,nb,f90]
    exact⟨0,by omega,2,by omega,EE.trans (V5.trans y6),by simp[f11],by simp[f89],by simp,by simp[f2],by simp[f40],by simp[f41],by simp[f42]⟩
  ·simp -dsimp (maxSteps:=1000000) (disch:=first|omega|(simp only[new_n,put_n];omega)|decide +kernel|(repeat first|rw[new_n]|rw[put_n])) only[wpS,wpT,Nat.reduceEqDiff,f42]
   exact⟨m - 1,by omega,i+1,by omega,(E.trans V4).trans EE,by simp[f2],by simp[f40],by simp[f41],by simp⟩
 ·simp -dsimp (maxSteps:=1000000) (disch:=first|omega|(simp only[new_n,put_n];omega)|decide +kernel|(repeat first|rw[new_n]|rw[put_n])) only[wpS,wpT]
  exact s.e.trans E
end
end Go.Id

/-! Contracts: the law's helper cut. -/
namespace Go.Id
open Go
theorem Acc.setN {h:IH} {n0 sz:Nat} {v:Value} {n:Nat} {cs:List Value} (a:Acc h n0 sz v n cs) {P:Program} {t:TypeId} (hT:sizeT P t=some sz) {i:Nat} (hi:i<n) {x:Value} {xs:List Value} (hx:x.cells.toList=xs) (hxl:xs.length=sz) (hc:xs.all cellOK=true) {h0':IH} (e0:Ext h0' h) (hn0:h0'.n≤n0) :
  ∃h',store P h t (elemAddr v (i*sz)) x=some h'∧Acc h' n0 sz v n (IH.splice cs (i*sz) xs)∧Ext h0' h'∧h'.n=h.n:=by
 obtain⟨hz,hl,⟨rfl,rfl⟩|⟨k,fam,rfl,hn,h1,h2,h3,h4⟩⟩:=a
 ·omega
 ·have hle:i*sz+sz≤cs.length:=by
   rw[hl,←Nat.succ_mul];exact Nat.mul_le_mul_right _ hi
  have hsl:(IH.splice cs (i*sz) xs).length=n*sz:=by
   simp only[IH.splice,List.length_append,List.length_take,List.length_drop]
   omega
  have k2:2*k / 2=k:=by omega
  have k1:(2*k % 2 == 1)=false:=by simp
  have hsx:x.cells.size=sz:=by rw[←Array.length_toList,hx,hxl]
  have hst:store P h t (elemAddr (.slice (some ⟨2*k,0,none⟩) n (2*n)) (i*sz)) x=h.wr (2*k) (i*sz) xs:=by
   simp only[elemAddr,Nat.zero_add,store,asAddr,ptr,hT,hx,hsx,hc,beq_self_eq_true,Bool.and_self,cond_true]
  have hle:Nat.ble (i*sz+xs.length) cs.length=true:=by rw[Nat.ble_eq,hxl];exact hle
  rw[hst]
  cases fam with
  | none =>
   refine⟨h.put k (.cells (IH.splice cs (i*sz) xs) sz none),?_,⟨hz,hsl,.inr ⟨k,none,rfl,hn,h1,h2,get_put_same _ _ rfl,trivial⟩⟩,e0.put (by omega) _,rfl⟩
   ·simp only[IH.wr,k1,k2,h3,hle,cond_true,cond_false];rfl
  | some f =>
   obtain⟨a1,a2,rest,a3,a4⟩:=h4
   refine⟨{ h with ext:=(IH.killAll h.ext (((k :: rest).filter (· != k)))).set k (.cells (IH.splice cs (i*sz) xs) sz none) },?_,⟨hz,hsl,.inr ⟨k,none,rfl,hn,h1,h2,?_,trivial⟩⟩,⟨e0.n,e0.base,fun j hj=>?_,e0.fams⟩,rfl⟩
   ·simp only[IH.wr,k1,k2,h3,hle,cond_true,cond_false,a3]
   ·simp[Tr.get_set]
   ·have hjk:j≠k:=by omega
    rw[Tr.get_set,if_neg hjk,get_killAll,if_neg]
    ·exact e0.get j hj
    ·intro hm
     simp only[List.mem_filter,List.mem_cons,bne_iff_ne,ne_eq] at hm
     rcases hm with⟨rfl|hm,hne⟩
     ·exact hne rfl
     ·have:=a4 j hm;omega
def ChArg (h:IH) (v:Value) (ll:List (List (Nat×Nat))):Prop:=∃vs:List Value,SlOf h 1 v ll.length vs ∧ ∀(i:Nat) (x:List (Nat×Nat)),ll[i]?=some x → ∃w,vs[i]?=some w∧ShArg h w x
theorem ChArg.keep {h h':IH} {v:Value} {ll:List (List (Nat×Nat))} (s:ChArg h v ll) (e:Keep h h'):ChArg h' v ll:=by
 obtain⟨vs,a,c⟩:=s
 refine⟨vs,a.keep e,fun i x hx=>?_⟩
 obtain⟨w,h1,h2⟩:=c i x hx
 exact⟨w,h1,h2.keep e⟩
theorem shL_set : ∀(l:List (Nat×Nat)) (i:Nat) (p:Nat×Nat),i<l.length→IH.splice (shL l) (i*16) (shC p.1 p.2)=shL (l.set i p)
 | [],i,p,h=>by simp at h
 | a :: l,0,p,_=>by
  show IH.splice (shC a.1 a.2 ++ shL l) (0*16) (shC p.1 p.2)=shC p.1 p.2 ++ shL l
  simp only[IH.splice,Nat.zero_mul,List.take_zero,List.nil_append,Nat.zero_add]
  rw[List.drop_append_of_le_length (by rw[shC_len,shC_len];omega),List.drop_of_length_le (by rw[shC_len,shC_len];omega),List.nil_append]
 | a :: l,i+1,p,h=>by
  have ih:=shL_set l i p (by simpa using h)
  show IH.splice (shC a.1 a.2 ++ shL l) ((i+1)*16) (shC p.1 p.2)=shC a.1 a.2 ++ shL (l.set i p)
  rw[←ih]
  have e1:(i+1)*16=(shC a.1 a.2).length+i*16:=by rw[shC_len];omega
  simp only[IH.splice]
  rw[e1,List.take_length_add_append,Nat.add_assoc,List.drop_length_add_append,List.append_assoc]
theorem ShSl_acc {h:IH} {n0:Nat} {v:Value} {l:List (Nat×Nat)} (a:Acc h n0 16 v l.length (shL l)) (b : ∀p∈l,p.1<W8∧p.2<W8) (hl:l.length≤1000):ShSl h v l:=⟨a.sl,by omega,b⟩
set_option maxHeartbeats 4000000 in
theorem lawcut_ok {h:IH} {v:Value} {ll0:List (List (Nat×Nat))} (hv:ChArg h v ll0) :
  WV Proofs.Tryz.prog (.func (.func 12) #[] #[]) [v] h fun r h'=>Ext h h' ∧ ∃ll,ShLs h' r ll∧(∀x∈ll,x.length≤3)∧ll.length≤9:=by
 obtain⟨M,hM⟩ : ∃M,M=min ll0.length 9:=⟨_,rfl⟩
 have hmin:(if (9:Int)<(ll0.length:Int) then (9:Int) else (ll0.length:Int))=(M:Int):=by split<;>omega
 refine enter (nt:=52) (rs:=[.tmp 2]) Proofs.Tryz.func12 rfl rfl rfl (by simp) ?_
 simp -dsimp (disch:=omega) only[wpS]
 refine call (ref02Of_ok 1 1 ⟨by omega,by omega⟩ ⟨by omega,by omega⟩ (by omega)) ?_
 rintro _ h1 ⟨X1,rfl⟩
 rw[one_shV]
 obtain⟨G1,hG1,n1,Z1,k1⟩:=box_put h1 oneS
 have XG:=X1.trans Z1
 have m1:=X1.n
 obtain⟨vs,hs,hat⟩:=hv.keep XG.keep
 obtain⟨w,hw,hsw⟩:=hs.slice (Keep.refl G1) (P:=Proofs.Tryz.prog) (t:=22) u22 sz25 (l:=0) (m:=M) (Nat.zero_le _) (by omega) (lo:=none) (hi:=some (KN M)) rfl (fun c hc=>natOf_nat (k:=.i64) (by omega))
 rw[Nat.sub_zero,Nat.zero_mul,List.drop_zero,Nat.mul_one] at hsw
 have hcl:=hs.2.1
 simp -dsimp (disch:=omega) only[wpS,wpT,Nat.reduceEqDiff,Nat.reduceLeDiff,Nat.reduceAdd,zc30,st30,shV_cells,shC_len,shC_all,sh_sp3]
 rw[←hG1]
 clear hG1
 simp -dsimp (disch:=omega) only[wpS,Nat.reduceEqDiff,hs.len sl22,min_ii,hmin,hw,hsw.len sl22]
 refine loop (fun m fr hh => ∃(i:Nat) (out:Value) (ys:List Value) (lls:List (List (Nat×Nat))),i+m=M∧ys.length=i∧lls.length=i∧Keep G1 hh∧G1.n≤hh.n∧hh.ext.get h1.n=some (.cells (shC oneS.1 oneS.2) 0 none)∧Ext h hh∧Acc hh h.n 1 out i ys∧(∀(j:Nat) (x:List (Nat×Nat)),lls[j]?=some x→x.length≤3 ∧ ∃y,ys[j]?=some y∧ShSl hh y x)∧fget fr 3=some (ptr (2*h1.n) 0)∧fget fr 5=some out∧fget fr 18=some w∧fget fr 19=some (KN M)∧fget fr 20=some (KN i)) M
  ⟨0,.slice none 0 0,[],[],by omega,rfl,rfl,Keep.refl _,Nat.le_refl _,k1,XG,Acc.nil _ _ (by omega),(fun j x hx=>by simp at hx),by simp,by simp,by simp,by simp,by simp⟩ ?_
 rintro m fr hh ⟨i,out,ys,lls,him,hyl,hll,hK,hn,hk,hE,hA,hat2,f3,f5,f18,f19,f20⟩
 simp -dsimp (disch:=omega) only[wpS,f19,f20]
 refine bq_intro ?_ ?_<;>intro hc<;>simp only[decide_eq_true_eq,decide_eq_false_iff_not] at hc
 ·have hi:i<M:=by omega
  obtain⟨x0,hx0⟩ : ∃x,ll0[i]?=some x:=⟨_,List.getElem?_eq_getElem (by omega)⟩
  obtain⟨vi,hvi,hsi⟩:=hat i x0 hx0
  have hld:=hsw.ld hK (c:=i) (by rw[List.length_take];omega) (P:=Proofs.Tryz.prog) (t:=25) ag25
  rw[List.getElem?_take,if_pos hi,hvi] at hld
  simp -dsimp (disch:=omega) only[wpS,wpT,Nat.reduceEqDiff,f18,f20,hsw.idx es22 hi,hld]
  refine call (light_acc (hsi.keep hK)) ?_
  rintro y0 h2 ⟨X2,l2,A2,b2,c2,d2⟩
  have m2:=X2.n
  simp -dsimp (disch:=omega) only[wpS,Nat.reduceEqDiff,A2.sl.len sl25]
  refine loop (fun m3 fr3 gg => ∃(k:Nat) (l3:List (Nat×Nat)),k+m3=l2.length∧l3.length=l2.length∧(∀p∈l3,p.1<W8∧p.2<W8)∧Ext hh gg∧Acc gg hh.n 16 y0 l3.length (shL l3)∧fget fr3 3=some (ptr (2*h1.n) 0)∧fget fr3 5=some out∧fget fr3 6=some (KN i)∧fget fr3 8=some y0∧fget fr3 18=some w∧fget fr3 19=some (KN M)∧fget fr3 20=some (KN i)∧fget fr3 28=some (KN l2.length)∧fget fr3 29=some (KN k)) l2.length
   ⟨0,l2,by omega,rfl,b2,X2,A2,by simp[f3],by simp[f5],by simp,by simp,by simp[f18],by simp[f19],by simp[f20],by simp,by simp⟩ ?_
  rintro m3 fr3 gg ⟨k,l3,hkm,hl3,b3,X3,A3,g3,g5,g6,g8,g18,g19,g20,g28,g29⟩
  have m3':=X3.n
  simp -dsimp (disch:=omega) only[wpS,g28,g29]
  refine bq_intro ?_ ?_<;>intro hck<;>simp only[decide_eq_true_eq,decide_eq_false_iff_not] at hck
  ·have hkl:k<l3.length:=by omega
   obtain⟨p,hp⟩ : ∃p,l3[k]?=some p:=⟨_,List.getElem?_eq_getElem hkl⟩
   have pw:=b3 p (List.mem_of_getElem? hp)
   have S3:=ShSl_acc A3 b3 (by omega)
   by_cases h1i:1<i
   ·have d1:decide ((1:Int)<(i:Int))=true:=decide_eq_true (by omega)
    simp -dsimp (disch:=omega) only[wpS,wpT,Nat.reduceEqDiff,g6,g8,g29,d1,S3.1.idx es25 hkl,S3.ld (Keep.refl gg) hp]
    refine call (refright_ok p.1 p.2 pw.1 pw.2) ?_
    rintro _ g1 ⟨Y1,rfl⟩
    have mY:=Y1.n
    by_cases ok:okS p.1 p.2
    ·rw[decide_eq_true ok]
     have hk1:=(X3.trans Y1).kept (by omega) hk
     obtain⟨h5,st5,A5,E5,n5⟩:=(A3.ext Y1).setN (P:=Proofs.Tryz.prog) (t:=30) sz30 hkl (x:=shV oneS.1 oneS.2) (shV_cells _ _) (shC_len _ _) (shC_all _ _) (X3.trans Y1) (Nat.le_refl _)
     rw[shL_set l3 k oneS hkl] at A5
     have st5':store Proofs.Tryz.prog g1 30 (elemAddr y0 (k*16)) (.agg (shC oneS.1 oneS.2).toArray)=some h5:=st5
     simp -dsimp (disch:=omega) only[wpS,Nat.reduceEqDiff,Nat.reduceLeDiff,ld30,g3,g8,g29,row_of hk1,shC_len,sh_take,S3.1.idx es25 hkl,st5']
     refine⟨m3 - 1,by omega,k+1,l3.set k oneS,by omega,by simp[hl3],?_,E5,by simpa using A5,by simp[g3],by simp[g5],by simp[g6],by simp[g8],by simp[g18],by simp[g19],by simp[g20],by simp[g28],by simp⟩
     intro q hq
     rcases List.mem_or_eq_of_mem_set hq with hq|rfl
     ·exact b3 q hq
     ·exact oneS_lt
    ·rw[decide_eq_false ok]
     simp -dsimp (disch:=omega) only[wpS,Nat.reduceEqDiff,g29]
     exact⟨m3 - 1,by omega,k+1,l3,by omega,hl3,b3,X3.trans Y1,A3.ext Y1,by simp[g3],by simp[g5],by simp[g6],by simp[g8],by simp[g18],by simp[g19],by simp[g20],by simp[g28],by simp⟩
   ·have d1:decide ((1:Int)<(i:Int))=false:=decide_eq_false (by omega)
    simp -dsimp (disch:=omega) only[wpS,wpT,Nat.reduceEqDiff,g6,g29,d1]
    exact⟨m3 - 1,by omega,k+1,l3,by omega,hl3,b3,X3,A3,by simp[g3],by simp[g5],by simp[g6],by simp[g8],by simp[g18],by simp[g19],by simp[g20],by simp[g28],by simp⟩
  ·have S3:=ShSl_acc A3 b3 (by omega)
   have mh:=hE.n
   obtain⟨out',h8,hap,hA8,hG8,hE8⟩:=(hA.ext X3).app1 (P:=Proofs.Tryz.prog) (t:=22) ap22 (x:=y0) S3.1.cok (by omega) (by omega) (hE.trans X3) (Nat.le_refl _)
   have hap':append Proofs.Tryz.prog (gg.new (.cells [y0] 1 none)) 22 out (.slice (some ⟨2*gg.n,0,none⟩) 1 3)=some (out',h8):=hap
   have g8n:=hG8.n
   simp -dsimp (disch:=omega) only[wpS,wpT,Nat.reduceEqDiff,Nat.reduceLeDiff,Nat.reduceAdd,bs22,ba22_22,g5,g8,g20,S3.1.cells,hap']
   refine⟨m - 1,by omega,i+1,out',ys ++ [y0],lls ++ [l3],by omega,by simp[hyl],by simp[hll],(hK.trans X3.keep).trans hG8.keep,by omega,hG8.var (by omega) (X3.kept (by omega) hk),hE8,hA8,?_,by simp[g3],by simp,by simp[g18],by simp[g19],by simp⟩
   intro j x hx
   by_cases hj:j<i
   ·rw[List.getElem?_append_left (by omega)] at hx
    obtain⟨c1,y,c3,c4⟩:=hat2 j x hx
    exact⟨c1,y,by rw[List.getElem?_append_left (by omega)];exact c3,c4.keep (X3.keep.trans hG8.keep)⟩
   ·have hji:j=i:=by
     have:=(List.getElem?_eq_some_iff.1 hx).1
     simp at this
     omega
    subst hji
    rw[List.getElem?_append_right (by omega),hll,Nat.sub_self] at hx
    simp at hx
    subst hx
    exact⟨by omega,y0,by rw[List.getElem?_append_right (by omega),hyl,Nat.sub_self];rfl,S3.keep hG8.keep⟩
 ·obtain rfl:i=M:=by omega
  simp -dsimp (disch:=omega) only[wpS,wpT,Nat.reduceEqDiff,f5]
  refine⟨hE,lls,⟨ys,by rw[hll];exact hA.sl,by omega,fun j x hx=>(hat2 j x hx).2⟩,?_,by omega⟩
  intro x hx
  obtain⟨j,hj⟩:=List.mem_iff_getElem?.1 hx
  exact(hat2 j x hj).1
end Go.Id

/-! The rows' common part: chains of shares that came in. -/
namespace Go.Proofs.YthbkinefgmfgeaaGreat
open Go.ChangeShapes Go.WideShapes Go.ChangeAt Go.RowKit Go.Id
theorem u_chains:Tryz.prog.underlying 22=some (.slice 25):=by kernel_rfl
theorem c_shares:Tryz.prog.cellsOf 25=1:=by kernel_rfl
theorem chains_of {P:Value→List (Nat×Nat)→Prop} : ∀(n:Nat) (cs:List Value),cs.length=n→(∀i,i<n → ∃y l,(cs.drop (i*1)).take 1 = [y]∧P (trV y) l) → ∃ll:List (List (Nat×Nat)),ll.length=n ∧ ∀(i:Nat) (x:List (Nat×Nat)),ll[i]?=some x → ∃w,(cs.map trV)[i]?=some w∧P w x
 | 0,_,_,_=>⟨[],rfl,fun i x hx=>by simp at hx⟩
 | n+1,[],hl,_=>by simp at hl
 | n+1,c :: cs,hl,h=>by
  obtain⟨y,l,e,hp⟩:=h 0 (by omega)
  simp at e
  subst e
  obtain⟨ll,h1,h2⟩:=chains_of n cs (by simpa using hl) fun i hi=>by
   obtain⟨y,l,e,hp⟩:=h (i+1) (by omega)
   rw[Nat.mul_one,List.drop_succ_cons] at e
   exact⟨y,l,by rw[Nat.mul_one];exact e,hp⟩
  refine⟨l :: ll,by simp[h1],fun i x hx=>?_⟩
  match i,hx with
  | 0,hx=>simp at hx;subst hx;exact⟨_,rfl,hp⟩
  | i+1,hx=>simpa using h2 i x (by simpa using hx)
section
variable {H:Type} {enc:TypeId×Value→H} {W:World} {held:Bool}
theorem tell_chains (G:Nat→Option (List Value)) {fuel:Nat} {cs0:List Value} {x:DataW H×List MemPlace} (h:DataW.trod enc Tryz.prog W 0 (fun _=>true) held fuel 22 cs0=some x) :
  ∃v ll,cs0 = [v]∧tellable v=true∧ChArg (IH.start (tellB G W)) (trV v) ll:=by
 obtain⟨v,n,cs,e,ht,hn,hs,hR⟩:=tell_slice (R:=fun cs => ∃y l,cs = [y]∧ShArg (IH.start (tellB G W)) (trV y) l) u_chains c_shares (by omega) (fun n cs x hx=>by
  obtain⟨y,l,e1,e2,e3⟩:=tell_shares G hx
  exact⟨⟨y,l,e1,e3⟩,fun z hz=>by rw[e1,List.mem_singleton] at hz;rw[hz];exact e2⟩) G h
 obtain⟨ll,h1,h2⟩:=chains_of n cs (by have:=hs.2.1;simpa using this) hR
 refine⟨v,ll,e,ht,cs.map trV,?_,h2⟩
 rw[h1];exact hs
end
end Go.Proofs.YthbkinefgmfgeaaGreat

/-! The statement DiagnoseSeveral, on the ideal machine. -/
namespace Go.Id
open Go
noncomputable def partE (i:Nat):Code:=nthC (Proofs.Tryz.f3.body.getD .skip) i
theorem withinP_form (l:List (List (Nat×Nat))) : ∃(p:Nat×Nat) (e:Int),(p.1<W8∧p.2<W8)∧withinRes l=.tuple #[shV p.1 p.2,KI e]:=by
 unfold withinRes;split
 ·exact toldP_form _
 ·exact errP_form _
theorem meansP_form (l:List (List (Nat×Nat))) : ∃(p:Nat×Nat) (e:Int),(p.1<W8∧p.2<W8)∧meansRes l=.tuple #[shV p.1 p.2,KI e]:=by
 unfold meansRes;split
 ·exact toldP_form _
 ·exact errP_form _
theorem ratioP_form (l:List (List (Nat×Nat))) : ∃(p:Nat×Nat) (e:Int),(p.1<W8∧p.2<W8)∧ratioRes l=.tuple #[shV p.1 p.2,KI e]:=by
 unfold ratioRes;split
 ·split
  ·exact errP_form _
  ·exact toldP_form _
 ·exact errP_form _
theorem fitL_of {ll:List (List (Nat×Nat))} (h : ∀x∈ll,x.length≤4):FitL ll:=fun e=>by
 obtain⟨h1,h2,_⟩:=sv_zero e
 obtain⟨x,hx,hxm,hx0⟩:=len0_at h1
 have:=h x hxm
 exact⟨by omega,h2⟩
theorem DrSl.at {h hh:IH} {v:Value} {n:Nat} (s:DrSl h v n) (e:Keep h hh) {i:Nat} (hi:i<n) : ∃b x n1 b2 x2 n2,load Proofs.Tryz.prog hh 36 (elemAddr v (i*6))=some (.agg #[.bool b,x,.int .u32 n1,.bool b2,x2,.int .u32 n2])∧cellOK x=true∧cellOK x2=true∧0≤n1∧n1<4294967296∧0≤n2∧n2<4294967296 ∧ ∀k:IntKind,indexAddr Proofs.Tryz.prog 23 v (.int k (i:Int))=some (elemAddr v (i*6)):=by
 obtain⟨cs,hsl,hdr⟩:=s
 have hcl:=hsl.2.1
 have hld:=hsl.ldAgg e (c:=i*6) (m:=6) (by omega) (by omega) (P:=Proofs.Tryz.prog) (t:=36) ag36 sz36
 obtain⟨b,x,n1,b2,x2,n2,hcs,hx,hx2,q1,q2,q3,q4⟩:=hdr i hi
 rw[hcs] at hld
 exact⟨b,x,n1,b2,x2,n2,hld,hx,hx2,q1,q2,q3,q4,fun k=>hsl.idx es23 hi⟩
theorem DrSl.len {h:IH} {v:Value} {n:Nat} (s:DrSl h v n) (h':IH):lenB Proofs.Tryz.prog h' 23 v=some (KN n):=by
 obtain⟨cs,hsl,_⟩:=s
 exact hsl.len sl23 h'
structure EX (h hh:IH) (fr:Fr) (v w:Value) (many len:Int):Prop where
 e:Ext h hh
 f0:fget fr 0=some v
 f1:fget fr 1=some w
 f2:fget fr 2=some (.int .u8 many)
 f3:fget fr 3=some (.int .u8 len)
section
variable {h hh:IH} {fr:Fr} {Q:IExit→Fr→IH→Prop} {v w:Value} {n:Nat} {many len:Int} {ll0:List (List (Nat×Nat))}
set_option maxHeartbeats 2000000 in
theorem e0 (s:EX h hh fr v w many len):Do (wpC Proofs.Tryz.prog 3 134 none (partE 0) fr hh) (seqK (fun fr h'=>Pst (EX h h' fr v w many len) nx) Q) nx:=by
 show Do (wpC _ _ _ _ (.region _ _ _) fr hh) _ _
 simp -dsimp (disch:=omega) only[wpS]
 exact⟨s.e,by simp[s.f0],by simp[s.f1],by simp[s.f2],by simp[s.f3]⟩
set_option maxHeartbeats 2000000 in
theorem e1 (s:EX h hh fr v w many len):Do (wpC Proofs.Tryz.prog 3 134 none (partE 1) fr hh) (seqK (fun fr h'=>Pst (EX h h' fr v w many len) nx) Q) nx:=by
 show Do (wpC _ _ _ _ (.seq _ _) fr hh) _ _
 simp -dsimp (disch:=omega) only[wpS]
 refine call dgworks_ok ?_
 rintro _ h1 ⟨X1,rfl⟩
 simp -dsimp (disch:=omega) only[wpS,wpT,Nat.reduceEqDiff]
 exact⟨s.e.trans X1,by simp[s.f0],by simp[s.f1],by simp[s.f2],by simp[s.f3]⟩
set_option maxHeartbeats 2000000 in
theorem e2 (s:EX h hh fr v w many len):Do (wpC Proofs.Tryz.prog 3 134 none (partE 2) fr hh) (seqK (fun fr h'=>Pst (EX h h' fr v w many len∧fget fr 9=some (.slice none 0 0)) nx) Q) nx:=by
 show Do (wpC _ _ _ _ (.region _ _ _) fr hh) _ _
 simp -dsimp (disch:=omega) only[wpS]
 exact⟨⟨s.e,by simp[s.f0],by simp[s.f1],by simp[s.f2],by simp[s.f3]⟩,rfl⟩
set_option maxHeartbeats 2000000 in
theorem e3 (s:EX h hh fr v w many len) (hl:0≤len∧len<256) (f9:fget fr 9=some (.slice none 0 0)):Do (wpC Proofs.Tryz.prog 3 134 none (partE 3) fr hh) (seqK (fun fr h'=>Pst (EX h h' fr v w many len∧fget fr 9=some (.slice none 0 0) ∧ ∃N:Nat,N≤4∧fget fr 10=some (KN N)) nx) Q) nx:=by
 show Do (wpC _ _ _ _ (.region _ _ _) fr hh) _ _
 obtain⟨N,hN⟩ : ∃N:Nat,(N:Int)=1+len % 4:=⟨(1+len % 4).toNat,by omega⟩
 simp -dsimp (disch:=omega) only[wpS,Nat.reduceEqDiff,cv5_3,s.f3,←hN]
 exact⟨⟨s.e,by simp[s.f0],by simp[s.f1],by simp[s.f2],by simp[s.f3]⟩,by simp[f9],N,by omega,rfl⟩
set_option maxHeartbeats 8000000 in
theorem e4 (hw:DrSl h w n) (s:EX h hh fr v w many len) (hm:0≤many∧many<256) (f9:fget fr 9=some (.slice none 0 0)) {N:Nat} (hN:N≤4) (f10:fget fr 10=some (KN N)):Do (wpC Proofs.Tryz.prog 3 134 none (partE 4) fr hh) (seqK (fun fr h'=>Pst (EX h h' fr v w many len ∧ ∃v9 ll,ShLs h' v9 ll∧(∀x∈ll,x.length≤4)∧fget fr 9=some v9) nx) Q) nx:=by
 show Do (wpC _ _ _ _ (.seq _ _) fr hh) _ _
 obtain⟨M,hM⟩ : ∃M:Nat,(M:Int)=many % 10:=⟨(many % 10).toNat,by omega⟩
 simp -dsimp (disch:=omega) only[wpS,Nat.reduceEqDiff,cv5_3,s.f2,←hM]
 refine loop (fun m fr gg => ∃(i:Nat) (out:Value) (ys:List Value) (lls:List (List (Nat×Nat))),i+m=M∧ys.length=i∧lls.length=i∧Ext hh gg∧Acc gg hh.n 1 out i ys∧(∀(j:Nat) (x:List (Nat×Nat)),lls[j]?=some x→x.length≤4 ∧ ∃y,ys[j]?=some y∧ShSl gg y x)∧fget fr 0=some v∧fget fr 1=some w∧fget fr 2=some (.int .u8 many)∧fget fr 3=some (.int .u8 len)∧fget fr 9=some out∧fget fr 10=some (KN N)∧fget fr 36=some (KN M)∧fget fr 37=some (KN i)) M
  ⟨0,.slice none 0 0,[],[],by omega,rfl,rfl,Ext.refl _,Acc.nil _ _ (by omega),(fun j x hx=>by simp at hx),by simp[s.f0],by simp[s.f1],by simp[s.f2],by simp[s.f3],by simp[f9],by simp[f10],by simp,by simp⟩ ?_
 rintro m fr gg ⟨i,out,ys,lls,him,hyl,hll,hE,hA,hat,g0,g1,g2,g3,g9,g10,g36,g37⟩
 have hEn:=hE.n
 simp -dsimp (disch:=omega) only[wpS,g36,g37]
 refine bq_intro ?_ ?_<;>intro hc<;>simp only[decide_eq_true_eq,decide_eq_false_iff_not] at hc
 ·have hi:i<M:=by omega
  simp -dsimp (disch:=omega) only[wpS,wpT,Nat.reduceEqDiff,g10,g37]
  refine loop (fun m3 fr3 pp => ∃(k:Nat) (xv:Value) (xs:List (Nat×Nat)),k+m3=N∧xs.length≤k∧(∀p∈xs,p.1<W8∧p.2<W8)∧Ext gg pp∧Acc pp gg.n 16 xv xs.length (shL xs)∧fget fr3 0=some v∧fget fr3 1=some w∧fget fr3 2=some (.int .u8 many)∧fget fr3 3=some (.int .u8 len)∧fget fr3 9=some out∧fget fr3 10=some (KN N)∧fget fr3 11=some (KN i)∧fget fr3 12=some xv∧fget fr3 36=some (KN M)∧fget fr3 37=some (KN i)∧fget fr3 40=some (KN N)∧fget fr3 41=some (KN k)) N
   ⟨0,.slice none 0 0,[],by omega,Nat.le_refl _,(fun p hp=>by cases hp),Ext.refl _,Acc.nil _ _ (by omega),by simp[g0],by simp[g1],by simp[g2],by simp[g3],by simp[g9],by simp[g10],by simp,by simp,by simp[g36],by simp[g37],by simp,by simp⟩ ?_
  rintro m3 fr3 pp ⟨k,xv,xs,hkm,hxs,hb,hX,hB,k0,k1,k2,k3,k9,k10,k11,k12,k36,k37,k40,k41⟩
  have hXn:=hX.n
  simp -dsimp (disch:=omega) only[wpS,k40,k41]
  refine bq_intro ?_ ?_<;>intro hck<;>simp only[decide_eq_true_eq,decide_eq_false_iff_not] at hck
  ·have hk:k<N:=by omega
   by_cases hn0:0<n
   ·have d0:decide ((0:Int)<(n:Int))=true:=decide_eq_true (by omega)
    obtain⟨jj,hjj⟩ : ∃jj:Nat,jj=(N*i+k) % n:=⟨_,rfl⟩
    have hjn:jj<n:=by rw[hjj];exact Nat.mod_lt _ hn0
    have hmul:N*i≤36:=Nat.le_trans (Nat.mul_le_mul hN (show i≤9 by omega)) (by omega)
    have e1:(N:Int)*(i:Int)=((N*i:Nat):Int):=by simp
    have e2:((N*i:Nat):Int)+(k:Int)=((N*i+k:Nat):Int):=by simp
    have e3:((N*i+k:Nat):Int) % (n:Int)=(jj:Int):=by rw[hjj];simp
    have w1:IntKind.i64.wrap ((N*i:Nat):Int)=((N*i:Nat):Int):=wrap_i64 (by omega)
    have w2:IntKind.i64.wrap ((N*i+k:Nat):Int)=((N*i+k:Nat):Int):=wrap_i64 (by omega)
    have hr : ∀ox oy,binop Proofs.Tryz.prog .rem 3 ox oy (KN (N*i+k)) (KN n)=some (KN jj):=fun ox oy=>by
     rw[binop_rem _ _ _ _ (show(n:Int)≠0 by omega),Int.tmod_eq_emod_of_nonneg (by omega),e3]
    obtain⟨b,x,n1,b2,x2,n2,ld,hx,hx2,q1,q2,q3,q4,ix⟩:=hw.at ((s.e.trans hE).trans hX).keep hjn
    simp -dsimp (disch:=omega) only[wpS,wpT,Nat.reduceEqDiff,k1,k10,k11,k12,k41,hw.len,d0,e1,w1,e2,w2,hr,ix,ld]
    refine call (drshort_ok (by simpa using hx) (by simpa using hx2) q1 q2 q3 q4) ?_
    rintro _ h1 ⟨X1,a,c,ha,hc2,rfl⟩
    have m1:=X1.n
    have sp:isShort (shq (Rat.divInt a c)):=⟨a,c,ha,hc2,rfl⟩
    rw[shareV_shq]
    generalize shq (Rat.divInt a c)=p at sp ⊢
    obtain⟨out',h8,hap,hA8,hG8,hE8⟩:=(hB.ext X1).appN (P:=Proofs.Tryz.prog) (t:=25) ap25 (m:=1) (new:=shC p.1 p.2) (by omega) (by rw[shC_len]) (shC_all _ _) (by omega) (by omega) (hX.trans X1) (Nat.le_refl _)
    have hap':append Proofs.Tryz.prog (h1.new (.cells (shC p.1 p.2) 16 none)) 25 xv (.slice (some ⟨2*h1.n,0,none⟩) 1 3)=some (out',h8):=hap
    simp -dsimp (disch:=omega) only[wpS,wpT,Nat.reduceEqDiff,Nat.reduceLeDiff,Nat.reduceAdd,bs25,ba25_25,k41,shV_cells,shC_len,sh_sp3,hap']
    refine⟨m3 - 1,by omega,k+1,out',xs ++ [p],by omega,by simp;omega,?_,hE8,?_,by simp[k0],by simp[k1],by simp[k2],by simp[k3],by simp[k9],by simp[k10],by simp[k11],by simp,by simp[k36],by simp[k37],by simp[k40],by simp⟩
    ·intro q hq
     rcases List.mem_append.1 hq with hq|hq
     ·exact hb q hq
     ·obtain rfl:=List.mem_singleton.1 hq
      exact sp.lt
    ·rw[shL_snoc,List.length_append]
     exact hA8
   ·have d0:decide ((0:Int)<(n:Int))=false:=decide_eq_false (by omega)
    simp -dsimp (disch:=omega) only[wpS,wpT,Nat.reduceEqDiff,k1,k41,hw.len,d0]
    exact⟨m3 - 1,by omega,k+1,xv,xs,by omega,by omega,hb,hX,hB,by simp[k0],by simp[k1],by simp[k2],by simp[k3],by simp[k9],by simp[k10],by simp[k11],by simp[k12],by simp[k36],by simp[k37],by simp[k40],by simp⟩
  ·have S3:=ShSl_acc hB hb (by omega)
   obtain⟨out',h8,hap,hA8,hG8,hE8⟩:=(hA.ext hX).app1 (P:=Proofs.Tryz.prog) (t:=22) ap22 (x:=xv) S3.1.cok (by omega) (by omega) (hE.trans hX) (Nat.le_refl _)
   have hap':append Proofs.Tryz.prog (pp.new (.cells [xv] 1 none)) 22 out (.slice (some ⟨2*pp.n,0,none⟩) 1 3)=some (out',h8):=hap
   simp -dsimp (disch:=omega) only[wpS,wpT,Nat.reduceEqDiff,Nat.reduceLeDiff,Nat.reduceAdd,bs22,ba22_22,k9,k12,k37,S3.1.cells,hap']
   refine⟨m - 1,by omega,i+1,out',ys ++ [xv],lls ++ [xs],by omega,by simp[hyl],by simp[hll],hE8,hA8,?_,by simp[k0],by simp[k1],by simp[k2],by simp[k3],by simp,by simp[k10],by simp[k36],by simp⟩
   intro j x hx
   by_cases hj:j<i
   ·rw[List.getElem?_append_left (by omega)] at hx
    obtain⟨c1,y,c3,c4⟩:=hat j x hx
    exact⟨c1,y,by rw[List.getElem?_append_left (by omega)];exact c3,c4.keep (hX.keep.trans hG8.keep)⟩
   ·have hji:j=i:=by
     have:=(List.getElem?_eq_some_iff.1 hx).1
     simp at this
     omega
    subst hji
    rw[List.getElem?_append_right (by omega),hll,Nat.sub_self] at hx
    simp at hx
    subst hx
    exact⟨by omega,xv,by rw[List.getElem?_append_right (by omega),hyl,Nat.sub_self];rfl,S3.keep hG8.keep⟩
 ·obtain rfl:i=M:=by omega
  simp -dsimp (disch:=omega) only[wpS,wpT]
  refine⟨⟨s.e.trans hE,by simp[g0],by simp[g1],by simp[g2],by simp[g3]⟩,out,lls,⟨ys,by rw[hll];exact hA.sl,by omega,fun j x hx=>(hat j x hx).2⟩,?_,by simp[g9]⟩
  intro x hx
  obtain⟨j,hj⟩:=List.mem_iff_getElem?.1 hx
  exact(hat j x hj).1
set_option maxHeartbeats 16000000 in
theorem e5 (hv:ChArg h v ll0) (s:EX h hh fr v w many len) {v9:Value} {ll:List (List (Nat×Nat))} (sl:ShLs hh v9 ll) (hf : ∀x∈ll,x.length≤4) (f9:fget fr 9=some v9):Do (wpC Proofs.Tryz.prog 3 134 none (partE 5) fr hh) (seqK (fun fr h'=>Pst (Ext h h') nx) Q) nx:=by
 show Do (wpC _ _ _ _ (.seq _ _) fr hh) _ _
 simp -dsimp (maxSteps:=1000000) (disch:=first|omega|(simp only[new_n,put_n];omega)|decide +kernel|(repeat first|rw[new_n]|rw[put_n])) only[wpS,s.f0]
 refine call (lawcut_ok (hv.keep s.e.keep)) ?_
 rintro v1 h1 ⟨X1,ll1,sl1,hf1,hn1⟩
 have sl':=sl.ext X1
 obtain⟨ca1,cb1,_⟩:=sl1.co
 obtain⟨ca2,cb2,_⟩:=sl'.co
 have F1:FitL ll1:=fitL_of fun x hx=>by have:=hf1 x hx;omega
 have F2:=fitL_of hf
 simp -dsimp (maxSteps:=1000000) (disch:=first|omega|(simp only[new_n,put_n];omega)|decide +kernel|(repeat first|rw[new_n]|rw[put_n])) only[wpS,wpT,Nat.reduceEqDiff,Nat.reduceLeDiff,Nat.reduceAdd,bv39,pl39_0,pl39_1,f9,ca1,ca2]
 refine loop (fun m2 fr gg => ∃j:Nat,j+m2=2∧Ext h1 gg∧fget fr 71=some (.agg #[v1,v9])∧fget fr 72=some (KN j)) 2
  ⟨0,by omega,Ext.refl _,by simp,by simp⟩ ?_
 rintro m2 fr gg ⟨j,hj2,EE,f71,f72⟩
 simp -dsimp (maxSteps:=1000000) (disch:=first|omega|(simp only[new_n,put_n];omega)|decide +kernel|(repeat first|rw[new_n]|rw[put_n])) only[wpS,f72]
 refine bq_intro ?_ ?_<;>intro hcc<;>simp only[decide_eq_true_eq,decide_eq_false_iff_not] at hcc
 ·have cases2:j=0∨j=1:=by omega
  rcases cases2 with rfl|rfl
  ·have hi0:indexV Proofs.Tryz.prog 39 (.agg #[v1,v9]) (KN 0)=some v1:=by kernel_rfl
   have sw:=sl1.ext EE
   obtain⟨pa,xa,wa,hra⟩:=withinP_form ll1
   have na:(xa != xa)=false:=by simp
   obtain⟨pb,xb,wb,hrb⟩:=meansP_form ll1
   have nb:(xb != xb)=false:=by simp
   obtain⟨pc,xc,wc,hrc⟩:=ratioP_form ll1
   have nc:(xc != xc)=false:=by simp
   simp -dsimp (maxSteps:=1000000) (disch:=first|omega|(simp only[new_n,put_n];omega)|decide +kernel|(repeat first|rw[new_n]|rw[put_n])) only[wpS,wpT,Nat.reduceEqDiff,f71,f72,hi0]
   refine call (gWithin sw F1) ?_
   rintro _ g1 ⟨Y1,rfl⟩
   rw[hra]
   obtain⟨G1,hG1,n1,Z1,k1⟩:=box_put g1 pa
   simp -dsimp (maxSteps:=1000000) (disch:=first|omega|(simp only[new_n,put_n];omega)|decide +kernel|(repeat first|rw[new_n]|rw[put_n])) only[wpS,wpT,Nat.reduceEqDiff,Nat.reduceLeDiff,Nat.reduceAdd,zc30,st30,shV_cells,shC_len,shC_all,sh_sp3]
   rw[←hG1]
   clear hG1
   have y1:=Y1.trans Z1
   have V1:=y1
   refine call (rWithin (sw.ext V1) F1) ?_
   rintro _ g2 ⟨Y2,rfl⟩
   rw[hra]
   obtain⟨G2,hG2,n2,Z2,k2⟩:=box_put g2 pa
   simp -dsimp (maxSteps:=1000000) (disch:=first|omega|(simp only[new_n,put_n];omega)|decide +kernel|(repeat first|rw[new_n]|rw[put_n])) only[wpS,wpT,Nat.reduceEqDiff,Nat.reduceLeDiff,Nat.reduceAdd,zc30,st30,shV_cells,shC_len,shC_all,sh_sp3]
   rw[←hG2]
   clear hG2
   have y2:=Y2.trans Z2
   have V2:=V1.trans y2
   refine call (gMeans (sw.ext V2) F1) ?_
   rintro _ g3 ⟨Y3,rfl⟩
   rw[hrb]
   obtain⟨G3,hG3,n3,Z3,k3⟩:=box_put g3 pb
   simp -dsimp (maxSteps:=1000000) (disch:=first|omega|(simp only[new_n,put_n];omega)|decide +kernel|(repeat first|rw[new_n]|rw[put_n])) only[wpS,wpT,Nat.reduceEqDiff,Nat.reduceLeDiff,Nat.reduceAdd,zc30,st30,shV_cells,shC_len,shC_all,sh_sp3]
   rw[←hG3]
   clear hG3
   have y3:=Y3.trans Z3
   have V3:=V2.trans y3
   refine call (rMeans (sw.ext V3) F1) ?_
   rintro _ g4 ⟨Y4,rfl⟩
   rw[hrb]
   obtain⟨G4,hG4,n4,Z4,k4⟩:=box_put g4 pb
   simp -dsimp (maxSteps:=1000000) (disch:=first|omega|(simp only[new_n,put_n];omega)|decide +kernel|(repeat first|rw[new_n]|rw[put_n])) only[wpS,wpT,Nat.reduceEqDiff,Nat.reduceLeDiff,Nat.reduceAdd,zc30,st30,shV_cells,shC_len,shC_all,sh_sp3]
   rw[←hG4]
   clear hG4
   have y4:=Y4.trans Z4
   have V4:=V3.trans y4
   refine call (gRatio (sw.ext V4) F1) ?_
   rintro _ g5 ⟨Y5,rfl⟩
   rw[hrc]
   obtain⟨G5,hG5,n5,Z5,k5⟩:=box_put g5 pc
   simp -dsimp (maxSteps:=1000000) (disch:=first|omega|(simp only[new_n,put_n];omega)|decide +kernel|(repeat first|rw[new_n]|rw[put_n])) only[wpS,wpT,Nat.reduceEqDiff,Nat.reduceLeDiff,Nat.reduceAdd,zc30,st30,shV_cells,shC_len,shC_all,sh_sp3]
   rw[←hG5]
   clear hG5
   have y5:=Y5.trans Z5
   have V5:=V4.trans y5
   refine call (rRatio (sw.ext V5) F1) ?_
   rintro _ g6 ⟨Y6,rfl⟩
   rw[hrc]
   obtain⟨G6,hG6,n6,Z6,k6⟩:=box_put g6 pc
   simp -dsimp (maxSteps:=1000000) (disch:=first|omega|(simp only[new_n,put_n];omega)|decide +kernel|(repeat first|rw[new_n]|rw[put_n])) only[wpS,wpT,Nat.reduceEqDiff,Nat.reduceLeDiff,Nat.reduceAdd,zc30,st30,ld30,shV_cells,shC_len,shC_all,sh_sp3]
   rw[←hG6]
   clear hG6
   have y6:=Y6.trans Z6
   have V6:=V5.trans y6
   have q5:=y6.kept (by omega) k5
   have z5:=y5.trans y6
   have q4:=z5.kept (by omega) k4
   have z4:=y4.trans z5
   have q3:=z4.kept (by omega) k3
   have z3:=y3.trans z4
   have q2:=z3.kept (by omega) k2
   have z2:=y2.trans z3
   have q1:=z2.kept (by omega) k1
   simp -dsimp (maxSteps:=1000000) (disch:=first|omega|(simp only[new_n,put_n];omega)|decide +kernel|(repeat first|rw[new_n]|rw[put_n])) only[wpS,wpT,Nat.reduceEqDiff,Nat.reduceLeDiff,ld30,row_of q1,row_of q2,row_of q3,row_of q4,row_of q5,row_of k6,shC_len,sh_take,neq_same wa,neq_same wb,neq_same wc,na,nb,nc,f72]
   exact⟨1,by omega,1,by omega,EE.trans V6,by simp[f71],by simp⟩
  ·have hi0:indexV Proofs.Tryz.prog 39 (.agg #[v1,v9]) (KN 1)=some v9:=by kernel_rfl
   have sw:=sl'.ext EE
   obtain⟨pa,xa,wa,hra⟩:=withinP_form ll
   have na:(xa != xa)=false:=by simp
   obtain⟨pb,xb,wb,hrb⟩:=meansP_form ll
   have nb:(xb != xb)=false:=by simp
   obtain⟨pc,xc,wc,hrc⟩:=ratioP_form ll
   have nc:(xc != xc)=false:=by simp
   simp -dsimp (maxSteps:=1000000) (disch:=first|omega|(simp only[new_n,put_n];omega)|decide +kernel|(repeat first|rw[new_n]|rw[put_n])) only[wpS,wpT,Nat.reduceEqDiff,f71,f72,hi0]
   refine call (gWithin sw F2) ?_
   rintro _ g1 ⟨Y1,rfl⟩
   rw[hra]
   obtain⟨G1,hG1,n1,Z1,k1⟩:=box_put g1 pa
   simp -dsimp (maxSteps:=1000000) (disch:=first|omega|(simp only[new_n,put_n];omega)|decide +kernel|(repeat first|rw[new_n]|rw[put_n])) only[wpS,wpT,Nat.reduceEqDiff,Nat.reduceLeDiff,Nat.reduceAdd,zc30,st30,shV_cells,shC_len,shC_all,sh_sp3]
   rw[←hG1]
   clear hG1
   have y1:=Y1.trans Z1
   have V1:=y1
   refine call (rWithin (sw.ext V1) F2) ?_
   rintro _ g2 ⟨Y2,rfl⟩
   rw[hra]
   obtain⟨G2,hG2,n2,Z2,k2⟩:=box_put g2 pa
   simp -dsimp (maxSteps:=1000000) (disch:=first|omega|(simp only[new_n,put_n];omega)|decide +kernel|(repeat first|rw[new_n]|rw[put_n])) only[wpS,wpT,Nat.reduceEqDiff,Nat.reduceLeDiff,Nat.reduceAdd,zc30,st30,shV_cells,shC_len,shC_all,sh_sp3]
   rw[←hG2]
   clear hG2
   have y2:=Y2.trans Z2
   have V2:=V1.trans y2
   refine call (gMeans (sw.ext V2) F2) ?_
   rintro _ g3 ⟨Y3,rfl⟩
   rw[hrb]
   obtain⟨G3,hG3,n3,Z3,k3⟩:=box_put g3 pb
   simp -dsimp (maxSteps:=1000000) (disch:=first|omega|(simp only[new_n,put_n];omega)|decide +kernel|(repeat first|rw[new_n]|rw[put_n])) only[wpS,wpT,Nat.reduceEqDiff,Nat.reduceLeDiff,Nat.reduceAdd,zc30,st30,shV_cells,shC_len,shC_all,sh_sp3]
   rw[←hG3]
   clear hG3
   have y3:=Y3.trans Z3
   have V3:=V2.trans y3
   refine call (rMeans (sw.ext V3) F2) ?_
   rintro _ g4 ⟨Y4,rfl⟩
   rw[hrb]
   obtain⟨G4,hG4,n4,Z4,k4⟩:=box_put g4 pb
   simp -dsimp (maxSteps:=1000000) (disch:=first|omega|(simp only[new_n,put_n];omega)|decide +kernel|(repeat first|rw[new_n]|rw[put_n])) only[wpS,wpT,Nat.reduceEqDiff,Nat.reduceLeDiff,Nat.reduceAdd,zc30,st30,shV_cells,shC_len,shC_all,sh_sp3]
   rw[←hG4]
   clear hG4
   have y4:=Y4.trans Z4
   have V4:=V3.trans y4
   refine call (gRatio (sw.ext V4) F2) ?_
   rintro _ g5 ⟨Y5,rfl⟩
   rw[hrc]
   obtain⟨G5,hG5,n5,Z5,k5⟩:=box_put g5 pc
   simp -dsimp (maxSteps:=1000000) (disch:=first|omega|(simp only[new_n,put_n];omega)|decide +kernel|(repeat first|rw[new_n]|rw[put_n])) only[wpS,wpT,Nat.reduceEqDiff,Nat.reduceLeDiff,Nat.reduceAdd,zc30,st30,shV_cells,shC_len,shC_all,sh_sp3]
   rw[←hG5]
   clear hG5
   have y5:=Y5.trans Z5
   have V5:=V4.trans y5
   refine call (rRatio (sw.ext V5) F2) ?_
   rintro _ g6 ⟨Y6,rfl⟩
   rw[hrc]
   obtain⟨G6,hG6,n6,Z6,k6⟩:=box_put g6 pc
   simp -dsimp (maxSteps:=1000000) (disch:=first|omega|(simp only[new_n,put_n];omega)|decide +kernel|(repeat first|rw[new_n]|rw[put_n])) only[wpS,wpT,Nat.reduceEqDiff,Nat.reduceLeDiff,Nat.reduceAdd,zc30,st30,ld30,shV_cells,shC_len,shC_all,sh_sp3]
   rw[←hG6]
   clear hG6
   have y6:=Y6.trans Z6
   have V6:=V5.trans y6
   have q5:=y6.kept (by omega) k5
   have z5:=y5.trans y6
   have q4:=z5.kept (by omega) k4
   have z4:=y4.trans z5
   have q3:=z4.kept (by omega) k3
   have z3:=y3.trans z4
   have q2:=z3.kept (by omega) k2
   have z2:=y2.trans z3
   have q1:=z2.kept (by omega) k1
   simp -dsimp (maxSteps:=1000000) (disch:=first|omega|(simp only[new_n,put_n];omega)|decide +kernel|(repeat first|rw[new_n]|rw[put_n])) only[wpS,wpT,Nat.reduceEqDiff,Nat.reduceLeDiff,ld30,row_of q1,row_of q2,row_of q3,row_of q4,row_of q5,row_of k6,shC_len,sh_take,neq_same wa,neq_same wb,neq_same wc,na,nb,nc,f72]
   exact⟨0,by omega,2,by omega,EE.trans V6,by simp[f71],by simp⟩
 ·simp -dsimp (maxSteps:=1000000) (disch:=first|omega|(simp only[new_n,put_n];omega)|decide +kernel|(repeat first|rw[new_n]|rw[put_n])) only[wpS,wpT]
  exact(s.e.trans X1).trans EE
end
theorem several_ideal {h:IH} {v w:Value} {n:Nat} {many len:Int} {ll0:List (List (Nat×Nat))} (hv:ChArg h v ll0) (hw:DrSl h w n) (hm:0≤many∧many<256) (hl:0≤len∧len<256) :
  WV Proofs.Tryz.prog (.func (.func 3) #[] #[]) [v,w,.int .u8 many,.int .u8 len] h fun r _=>r=.bool true:=by
 refine enter (nt:=134) (rs:=[.tmp 8]) Proofs.Tryz.func3 rfl rfl rfl (by simp) ?_
 rw[d_seq];refine cut _ (e0 (h:=h) (v:=v) (w:=w) (many:=many) (len:=len) ⟨Ext.refl _,by simp,by simp,by simp,by simp⟩) ?_;intro fr h0 s
 rw[d_seq];refine cut _ (e1 s) ?_;clear s;intro fr h1 s
 rw[d_seq];refine cut _ (e2 s) ?_;clear s;rintro fr h2 ⟨s,f9⟩
 rw[d_seq];refine cut _ (e3 s hl f9) ?_;clear s f9;rintro fr h3 ⟨s,f9,N,hN,f10⟩
 rw[d_seq];refine cut _ (e4 hw s hm f9 hN f10) ?_;clear s f9 f10;rintro fr h4 ⟨s,v9,ll,sl,hf,f9⟩
 rw[d_seq];refine cut _ (e5 hv s sl hf f9) ?_;clear s sl f9;intro fr h5 e5
 simp -dsimp (disch:=omega) only[wpS]
end Go.Id

/-! DiagnoseSeveral: for every input the law returns true, and each argument reads as it did. Conditions: none but the row's own. -/
namespace Go.Proofs.YthbkinefgmfgeaaGreat
open Go.ChangeShapes Go.WideShapes Go.ChangeAt Go.RowKit Go.Id
set_option maxRecDepth 100000 in
theorem diagnoseSeveral_lifted (os:Os) (started:os.Started) (H:Type) (enc:TypeId×Value→H) :
  ReturnsInHanded {} Tryz.checked os 3 .any (Rows.diagnoseSeveralSpec.pre6 enc Tryz.prog Tryz.f3 Rows.diagnoseSeveralRow.domain false) (Rows.diagnoseSeveralSpec.post enc Tryz.prog Tryz.f3 false true false false):=by
 refine returnsInHanded_of_change (C:=Tryz.checked) Tryz.own started (by kernel_rfl) Tryz.func3
  (ChangeSpec.witness6 (enc:=enc) (C:=Tryz.checked) false ⟨#[],#[.slice none 0 0,.slice none 0 0,.int .u8 0,.int .u8 0],[]⟩ 8 (by kernel_rfl) (by kernel_rfl) (by kernel_rfl) (by kernel_rfl)) ?_
 intro W base args ds gs before hval0 hW hcnd _
 have hval : ∀(j:Nat) t v,Tryz.f3.params[j]?=some t→args[j]?=some v→Value.okWide Tryz.prog W .any base t v:=hval0
 have hW':=hW
 obtain⟨p,q,hA0,hV,rfl,hfz,hnd⟩:=hW
 have hA:DataW.TrodAll enc Tryz.prog W 0 (fun _=>true) true Tryz.f3.params.toList args.toList ds p:=hA0
 have hA1:=hA
 rw[Tryz.params3] at hA hval
 obtain⟨a0,r0,d0,ds0,p0,q0,e0,rfl,rfl,t0,h0A⟩:=trodAll_cons hA
 obtain⟨a1,r1,d1,ds1,p1,q1,rfl,rfl,rfl,t1,h1A⟩:=trodAll_cons h0A
 obtain⟨a2,r2,d2,ds2,p2,q2,rfl,rfl,rfl,t2,h2A⟩:=trodAll_cons h1A
 obtain⟨a3,r3,d3,ds3,p3,q3,rfl,rfl,rfl,t3,h3A⟩:=trodAll_cons h2A
 obtain⟨rfl,rfl,rfl⟩:=trodAll_nil h3A
 obtain⟨rfl,rfl⟩:=trodVars_none hV
 obtain rfl:args = #[a0,a1,a2,a3]:=by cases args;simpa using e0
 obtain⟨b0,n0,c0,rfl⟩:=okWide_slice u_chains (hval 0 _ _ rfl rfl)
 obtain⟨fu0,t0⟩:=t0
 obtain⟨v0,l0,g0,m0,s0⟩:=tell_chains (fun _=>none) t0
 cases g0
 obtain⟨b1,n1,c1,rfl⟩:=okWide_slice u_drafts (hval 1 _ _ rfl rfl)
 obtain⟨fu1,t1⟩:=t1
 obtain⟨v1,l1,g1,m1,s1⟩:=tell_drafts (fun _=>none) t1
 cases g1
 obtain⟨x2,rfl,_,_,w2⟩:=open_int u_u8 (hval 2 _ _ rfl rfl) t2
 have i2:0≤x2∧x2<256:=wf_u8 w2
 obtain⟨x3,rfl,_,_,w3⟩:=open_int u_u8 (hval 3 _ _ rfl rfl) t3
 have i3:0≤x3∧x3<256:=wf_u8 w3
 have hb:=tell_ok (W:=W) (G:=fun _=>none) (fun b cs h=>by cases h)
 refine(wv_true Tryz.sound (several_ideal s0 s1 i2 i3) hb (args':=#[.slice b0 n0 c0,.slice b1 n1 c1,.int .u8 x2,.int .u8 x3]) (.cons (trV_rel m0) (.cons (trV_rel m1) (.cons (.scal rfl) (.cons (.scal rfl) (.nil _)))))).mono fun e W' ⟨he,hk⟩=>?_
 subst he
 refine⟨_,rfl,post_of_below (pa:=p0 ++ (p1 ++ (p2 ++ (p3 ++ [])))) (pv:=[]) hW' (fun _ _ _=>trodAll_mk1 (shut_bool Tryz.underlying4 _)) (fun sp hs=>?_) (fun _ _=>rfl) hk⟩
 exact trodAll_stays Tryz.kids Tryz.pos hk hA1 (fun t ht=>by
  rw[Tryz.params3] at ht
  simp at ht
  rcases ht with rfl|rfl|rfl|rfl<;>exact of_decide_eq_true (by kernel_rfl)) (fun x hx=>hs x (by simpa using hx))
theorem diagnoseSeveral_row:Rows.DiagnoseSeveralSaid :=
 OpenClaim.holds_of_wide 3 Tryz.f3 rfl rfl rfl rfl rfl rfl rfl ⟨rfl,rfl,rfl,rfl,rfl⟩ rfl rfl rfl rfl rfl (by kernel_rfl) Tryz.func3 (by kernel_rfl)
  (of_decide_eq_true (by kernel_rfl)) (by unfold Func.isWrapper;first|(rw[if_pos (by decide +kernel)];kernel_rfl)|(rw[if_neg (by decide +kernel)];exact⟨rfl,rfl⟩))
  (fun os started H enc _=>diagnoseSeveral_lifted os started H enc)
#print axioms diagnoseSeveral_row
end Go.Proofs.YthbkinefgmfgeaaGreat
