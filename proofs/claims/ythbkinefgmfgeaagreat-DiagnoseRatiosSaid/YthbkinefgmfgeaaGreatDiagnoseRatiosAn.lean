/-
  Contracts: what the law's examples use. Contracts: the law's examples (works). Weakest preconditions over the ideal machine: appends to slices without room; lengths and parts of slices in regions whose order is open. The statement DiagnoseBatches, on the ideal machine. Fractions over a common denominator; sums of lists of fractions (no program in sight). DiagnoseParts: what the law needs of numbers (no program in sight). Contracts: share's operations on two shares. The statement DiagnoseChains, on the ideal machine. Contracts: share.Sum. DiagnoseSums: what the law needs of numbers (no program in sight). The statement DiagnoseParts, on the ideal machine. DiagnoseRatios: what the law needs of numbers (no program in sight).
-/
import Derived.Test.YthbkinefgmfgeaaGreatDiagnoseRatiosAm
import Derived.Test.YthbkinefgmfgeaaGreatDiagnoseRatiosAl
import Derived.Test.YthbkinefgmfgeaaGreatDiagnoseRatiosAk
set_option linter.unusedVariables false
set_option linter.unusedSimpArgs false
set_option linter.defProp false
set_option linter.deprecated false
/-! Contracts: what the law's examples use. -/
namespace Go.Id
open Go
structure IsC (h:IH) (i j:Nat) (a b:Int):Prop where
 hi:i<h.n
 hj:j<h.n
 gi:h.ext.get i=some (.cells [KI a] 0 none)
 gj:h.ext.get j=some (.cells [KI b] 0 none)
theorem IsC.ext {h h':IH} {i j:Nat} {a b:Int} (c:IsC h i j a b) (e:Ext h h'):IsC h' i j a b:=⟨Nat.lt_of_lt_of_le c.hi e.n,Nat.lt_of_lt_of_le c.hj e.n,e.kept c.hi c.gi,e.kept c.hj c.gj⟩
abbrev isV (i j:Nat):Value:=.func (.func 88) #[] #[ptr (2*i) 0,ptr (2*j) 0]
abbrev failsV (i:Nat):Value:=.func (.func 87) #[] #[ptr (2*i) 0]
theorem isC_ok {h:IH} (a b:Int):WV Proofs.Tryz.prog (.func (.func 36) #[] #[]) [KI a,KI b] h fun r h'=>Ext h h' ∧ ∃i j,r=isV i j∧IsC h' i j a b:=by
 refine(is_ok a b).mono ?_
 rintro _ _ ⟨rfl,rfl⟩
 refine⟨((Ext.refl h).new _).new _,h.n,h.n+1,rfl,?_⟩
 refine⟨by simp<;>omega,by simp,?_,?_⟩<;>simp (disch:=first|omega|(simp only[new_n,put_n];omega)|(repeat first|rw[new_n]|rw[put_n])) only[get_new_same,get_new_old]
theorem isT_ok {h:IH} {i j:Nat} {a b:Int} {q:Rat} (c:IsC h i j a b) (hq:Rat.divInt a b=q) (ha:In64 a) (hb:In64 b) (b0:b≠0):WV Proofs.Tryz.prog (isV i j) [shareV q,KI 0] h fun r h'=>Ext h h'∧r=.bool true:=by
 obtain⟨h1,h2⟩:=shq_lt (qw_div ha hb b0)
 rw[hq] at h1 h2
 refine(is1_ok (n:=(shq q).1) (d:=(shq q).2) (e:=0) h1 h2 ha hb b0 c.hi c.gi c.hj c.gj).mono ?_
 rintro _ h' ⟨X,rfl⟩
 exact⟨X,by rw[hq];simp⟩
structure FaC (h:IH) (i:Nat) (e:Int):Prop where
 hi:i<h.n
 gi:h.ext.get i=some (.cells [KI e] 0 none)
theorem FaC.ext {h h':IH} {i:Nat} {a:Int} (c:FaC h i a) (e:Ext h h'):FaC h' i a:=⟨Nat.lt_of_lt_of_le c.hi e.n,e.kept c.hi c.gi⟩
theorem faC_ok {h:IH} (a:Int):WV Proofs.Tryz.prog (.func (.func 35) #[] #[]) [KI a] h fun r h'=>Ext h h' ∧ ∃i,r=failsV i∧FaC h' i a:=by
 refine(fails_ok a).mono ?_
 rintro _ _ ⟨rfl,rfl⟩
 refine⟨(Ext.refl h).new _,h.n,rfl,?_⟩
 refine⟨by simp,?_⟩
 simp (disch:=first|omega|(simp only[new_n,put_n];omega)|(repeat first|rw[new_n]|rw[put_n])) only[get_new_same]
theorem faT_ok {h:IH} {i:Nat} {a:Int} (c:FaC h i a):WV Proofs.Tryz.prog (failsV i) [shV 0 0,KI a] h fun r h'=>Ext h h'∧r=.bool true:=by
 refine(fails1_ok (n:=0) (d:=0) (e:=a) (by decide +kernel) (by decide +kernel) c.hi c.gi).mono ?_
 rintro _ h' ⟨X,rfl⟩
 exact⟨X,by simp⟩
theorem lawl_blk {h:IH} (xs:List Int) (hx : ∀x∈xs,In64 x) (hl:xs.length≤1000) (h0:0<xs.length):WV Proofs.Tryz.prog (.func (.func 45) #[] #[]) [.slice (some ⟨2*h.n,0,none⟩) xs.length (2*xs.length+1)] (h.new (.cells (xs.map KI) 1 none)) fun r h'=>Ext h h'∧ShSl h' r (xs.map shI):=by
 refine(lawl_ok (xs:=xs) (sl_block (k:=h.n) (f:=none) (get_new_same _ _ rfl) (by simp) (by decide) (by simp) (by omega) (by omega)) hx hl).mono ?_
 rintro r h' ⟨X,s⟩
 exact⟨((Ext.refl h).new _).trans X,s⟩
theorem build2 {h:IH} (a b c d:Nat):buildSlice Proofs.Tryz.prog h 25 2 [(0,shV a b),(1,shV c d)]=some (.slice (some ⟨2*h.n,0,none⟩) 2 5,h.new (.cells (shL [(a,b),(c,d)]) 16 none)):=by
 rw[bs25 h 2 _ (by decide)]
 have e:fillP (fun i=>some (i*16,16)) (repl 2 [.int .u64 0,.int .u64 0,.int .u64 0,.int .u64 0,.int .u64 0,.int .u64 0,.int .u64 0,.int .u64 0,.int .u64 0,.int .u64 0,.int .u64 0,.int .u64 0,.int .u64 0,.int .u64 0,.int .u64 0,.int .u64 0]) [(0,shV a b),(1,shV c d)]=some (shL [(a,b),(c,d)]):=by kernel_rfl
 rw[e];rfl
theorem shLs_two {h:IH} {w1 w2:Value} {x1 x2:List (Nat×Nat)} (s1:ShSl h w1 x1) (s2:ShSl h w2 x2):ShLs (h.new (.cells [w1,w2] 1 none)) (.slice (some ⟨2*h.n,0,none⟩) 2 5) [x1,x2]:=by
 have E:Ext h (h.new (.cells [w1,w2] 1 none)):=(Ext.refl h).new _
 refine⟨[w1,w2],sl_block (k:=h.n) (f:=none) (get_new_same _ _ rfl) (by simp) (by decide) (by simp) (by omega) (by omega),by simp,?_⟩
 intro i x hx
 match i,hx with
 | 0,hx=>simp at hx;subst hx;exact⟨w1,rfl,s1.keep E.keep⟩
 | 1,hx=>simp at hx;subst hx;exact⟨w2,rfl,s2.keep E.keep⟩
 | i+2,hx=>simp at hx
theorem shLs_one {h:IH} {w1:Value} {x1:List (Nat×Nat)} (s1:ShSl h w1 x1):ShLs (h.new (.cells [w1] 1 none)) (.slice (some ⟨2*h.n,0,none⟩) 1 3) [x1]:=by
 have E:Ext h (h.new (.cells [w1] 1 none)):=(Ext.refl h).new _
 refine⟨[w1],sl_block (k:=h.n) (f:=none) (get_new_same _ _ rfl) (by simp) (by decide) (by simp) (by omega) (by omega),by simp,?_⟩
 intro i x hx
 match i,hx with
 | 0,hx=>simp at hx;subst hx;exact⟨w1,rfl,s1.keep E.keep⟩
 | i+1,hx=>simp at hx
theorem ShLs.ext {h h':IH} {v:Value} {ll:List (List (Nat×Nat))} (s:ShLs h v ll) (e:Ext h h'):ShLs h' v ll:=by
 obtain⟨vs,a,b,c⟩:=s
 refine⟨vs,a.ext e,b,fun i x hx=>?_⟩
 obtain⟨w,h1,h2⟩:=c i x hx
 exact⟨w,h1,h2.keep e.keep⟩
def FitL (ll:List (List (Nat×Nat))):Prop:=svErr ll=0→len0 ll≤12∧ll.length≤8
theorem ShLs.sv {h:IH} {v:Value} {ll:List (List (Nat×Nat))} (s:ShLs h v ll) (e:svErr ll=0):SvOk ll 512:=by
 refine⟨e,fun x hx q hq=>?_⟩
 obtain⟨_,_,hh⟩:=sv_zero e
 obtain⟨h1,h2,h3,h4⟩:=hh x hx
 obtain⟨vs,a,b,c⟩:=s
 obtain⟨i,hi⟩:=List.mem_iff_getElem?.1 hx
 obtain⟨w,_,s2⟩:=c i x hi
 exact s2.qb (by assumption) q hq
end Go.Id

/-! Contracts: the law's examples (works). -/
namespace Go.Id
open Go
theorem fitB : ∀m,m≤8 → ∀n,n≤12→rfBits m n 512<16000000:=by decide
theorem ShLs.fit {h:IH} {v:Value} {ll:List (List (Nat×Nat))} (s:ShLs h v ll) (f:FitL ll) (e:svErr ll=0):SvOk ll 512∧rfBits ll.length (len0 ll) 512<16000000:=⟨s.sv e,fitB _ (f e).2 _ (f e).1⟩
theorem ShLs.fit' {h:IH} {v:Value} {ll:List (List (Nat×Nat))} (s:ShLs h v ll) (f:FitL ll) (e:svErr ll=0):SvOk ll 512∧rBits ll.length (len0 ll) 512<16000000:=by
 obtain⟨a,b⟩:=s.fit f e
 refine⟨a,?_⟩
 unfold rfBits at b
 omega
section
variable {h:IH} {v:Value} {ll:List (List (Nat×Nat))} (s:ShLs h v ll) (f:FitL ll)
include s f
theorem gWithin:WV Proofs.Tryz.prog (.func (.func 13) #[] #[]) [v] h fun r h'=>Ext h h'∧r=withinRes ll:=dgWithin_ok s (s.fit' f)
theorem gMeans:WV Proofs.Tryz.prog (.func (.func 15) #[] #[]) [v] h fun r h'=>Ext h h'∧r=meansRes ll:=dgMeans_ok s (s.fit' f)
theorem gRatio:WV Proofs.Tryz.prog (.func (.func 17) #[] #[]) [v] h fun r h'=>Ext h h'∧r=ratioRes ll:=dgRatio_ok s (s.fit' f)
end
theorem withinRes_of {ll:List (List (Nat×Nat))} {q:Rat} (h1:svErr ll=0) (h2:qwithin ll=q) (h3:QW q):withinRes ll=.tuple #[shareV q,KI 0]:=by
 unfold withinRes;rw[if_pos h1,h2,toldV_of h3]
theorem meansRes_of {ll:List (List (Nat×Nat))} {q:Rat} (h1:svErr ll=0) (h2:qmeansV ll=q) (h3:QW q):meansRes ll=.tuple #[shareV q,KI 0]:=by
 unfold meansRes;rw[if_pos h1,h2,toldV_of h3]
theorem ratioRes_of {ll:List (List (Nat×Nat))} {q:Rat} (h1:svErr ll=0) (h0:qwithin ll≠0) (h2:qratioV ll=q) (h3:QW q):ratioRes ll=.tuple #[shareV q,KI 0]:=by
 unfold ratioRes;rw[if_pos h1,if_neg h0,h2,toldV_of h3]
theorem ratioRes_no {ll:List (List (Nat×Nat))} (h1:svErr ll=0) (h0:qwithin ll=0):ratioRes ll=errV 7:=by
 unfold ratioRes;rw[if_pos h1,if_pos h0]
theorem ratioRes_err {ll:List (List (Nat×Nat))} {e:Int} (h1:svErr ll=e) (h0:e≠0):ratioRes ll=errV e:=by
 unfold ratioRes;rw[if_neg (by rw[h1];exact h0),h1]
abbrev mI (xs:List Int):List (Nat×Nat):=xs.map shI
def nthC:Code→Nat→Code
 | .seq a _,0=>a
 | .seq _ b,n+1=>nthC b n
 | c,_=>c
noncomputable def partW (i:Nat):Code:=nthC (Proofs.Tryz.f10.body.getD .skip) i
set_option maxHeartbeats 8000000 in
theorem w1 {hh:IH} {fr:Fr} {Q:IExit→Fr→IH→Prop}:Do (wpC Proofs.Tryz.prog 10 159 none (partW 1) fr hh) (seqK (fun fr h'=>Pst (Ext hh h'∧fget fr 1=some (.bool true)) nx) Q) nx:=by
 show Do (wpC _ _ _ _ (.region _ _ _) fr hh) _ _
 simp -dsimp (disch:=omega) only[wpS]
 refine call (isC_ok 3 1) ?_
 rintro _ h1 ⟨X1,i1,j1,rfl,c1⟩
 have E1:=X1
 simp -dsimp (disch:=omega) only[wpS,wpT,Nat.reduceEqDiff,Nat.reduceLeDiff,Nat.reduceAdd,Nat.reduceMul,bs87]
 refine call (lawl_blk [1,2,6] (by decide +kernel) (by decide +kernel) (by decide +kernel)) ?_
 rintro v2 h2 ⟨X2,s2⟩
 have E2:=E1.trans X2
 simp -dsimp (disch:=omega) only[wpS,Nat.reduceEqDiff]
 refine call (gMean s2) ?_
 rintro _ h3 ⟨X3,rfl⟩
 have E3:=E2.trans X3
 rw[meanRes_of (l:=mI [1,2,6]) (q:=((3:Int):Rat)) (by decide +kernel) (by decide +kernel) (QW_of (by decide +kernel))]
 simp -dsimp (disch:=omega) only[wpS,Nat.reduceEqDiff]
 refine call (isT_ok (q:=((3:Int):Rat)) ((c1.ext X2).ext X3) (by decide +kernel) (by decide +kernel) (by decide +kernel) (by decide +kernel)) ?_
 rintro _ h4 ⟨X4,rfl⟩
 have E4:=E3.trans X4
 simp -dsimp (disch:=omega) only[wpS,wpT,Nat.reduceEqDiff]
 refine call (isC_ok 14 3) ?_
 rintro _ h5 ⟨X5,i5,j5,rfl,c5⟩
 have E5:=E4.trans X5
 simp -dsimp (disch:=omega) only[wpS,wpT,Nat.reduceEqDiff,Nat.reduceLeDiff,Nat.reduceAdd,Nat.reduceMul,bs87]
 refine call (lawl_blk [1,2,6] (by decide +kernel) (by decide +kernel) (by decide +kernel)) ?_
 rintro v6 h6 ⟨X6,s6⟩
 have E6:=E5.trans X6
 simp -dsimp (disch:=omega) only[wpS,wpT,Nat.reduceEqDiff]
 refine call (gAuto s6 (.inl (by decide +kernel)) 0) ?_
 rintro _ h7 ⟨X7,rfl⟩
 have E7:=E6.trans X7
 have r7:autoRes (mI [1,2,6]) 0=.tuple #[shareV (Rat.divInt (14) 3),KI 0]:=autoRes_of (lag:=0) (by decide +kernel) (by decide +kernel) (by decide +kernel) (QW_of (by decide +kernel))
 rw[r7]
 simp -dsimp (disch:=omega) only[wpS,wpT,Nat.reduceEqDiff]
 refine call (isT_ok (q:=(Rat.divInt (14) 3)) ((c5.ext X6).ext X7) (by decide +kernel) (by decide +kernel) (by decide +kernel) (by decide +kernel)) ?_
 rintro _ h8 ⟨X8,rfl⟩
 have E8:=E7.trans X8
 simp -dsimp (disch:=omega) only[wpS,wpT,Nat.reduceEqDiff]
 refine call (isC_ok (-1) 3) ?_
 rintro _ h9 ⟨X9,i9,j9,rfl,c9⟩
 have E9:=E8.trans X9
 simp -dsimp (disch:=omega) only[wpS,wpT,Nat.reduceEqDiff,Nat.reduceLeDiff,Nat.reduceAdd,Nat.reduceMul,bs87]
 refine call (lawl_blk [1,2,6] (by decide +kernel) (by decide +kernel) (by decide +kernel)) ?_
 rintro v10 h10 ⟨X10,s10⟩
 have E10:=E9.trans X10
 simp -dsimp (disch:=omega) only[wpS,wpT,Nat.reduceEqDiff]
 refine call (gAuto s10 (.inl (by decide +kernel)) 1) ?_
 rintro _ h11 ⟨X11,rfl⟩
 have E11:=E10.trans X11
 have r11:autoRes (mI [1,2,6]) 1=.tuple #[shareV (Rat.divInt (-1) 3),KI 0]:=autoRes_of (lag:=1) (by decide +kernel) (by decide +kernel) (by decide +kernel) (QW_of (by decide +kernel))
 rw[r11]
 simp -dsimp (disch:=omega) only[wpS,wpT,Nat.reduceEqDiff]
 refine call (isT_ok (q:=(Rat.divInt (-1) 3)) ((c9.ext X10).ext X11) (by decide +kernel) (by decide +kernel) (by decide +kernel) (by decide +kernel)) ?_
 rintro _ h12 ⟨X12,rfl⟩
 have E12:=E11.trans X12
 simp -dsimp (disch:=omega) only[wpS,wpT,Nat.reduceEqDiff]
 refine call (faC_ok 2) ?_
 rintro _ h13 ⟨X13,i13,rfl,c13⟩
 have E13:=E12.trans X13
 simp -dsimp (disch:=omega) only[wpS,wpT,Nat.reduceEqDiff,Nat.reduceLeDiff,Nat.reduceAdd,Nat.reduceMul,bs87]
 refine call (lawl_blk [1,2,6] (by decide +kernel) (by decide +kernel) (by decide +kernel)) ?_
 rintro v14 h14 ⟨X14,s14⟩
 have E14:=E13.trans X14
 simp -dsimp (disch:=omega) only[wpS,wpT,Nat.reduceEqDiff]
 refine call (gAuto s14 (.inl (by decide +kernel)) 3) ?_
 rintro _ h15 ⟨X15,rfl⟩
 have E15:=E14.trans X15
 have r15:autoRes (mI [1,2,6]) 3=errV 2:=autoRes_no (by decide +kernel) (by decide +kernel)
 rw[r15]
 simp -dsimp (disch:=omega) only[wpS,wpT,Nat.reduceEqDiff]
 refine call (faT_ok ((c13.ext X14).ext X15)) ?_
 rintro _ h16 ⟨X16,rfl⟩
 have E16:=E15.trans X16
 simp -dsimp (disch:=omega) only[wpS,wpT,Nat.reduceEqDiff]
 refine call (isC_ok 8 3) ?_
 rintro _ h17 ⟨X17,i17,j17,rfl,c17⟩
 have E17:=E16.trans X17
 simp -dsimp (disch:=omega) only[wpS,wpT,Nat.reduceEqDiff,Nat.reduceLeDiff,Nat.reduceAdd,Nat.reduceMul,bs87]
 refine call (lawl_blk [0,0,1,1] (by decide +kernel) (by decide +kernel) (by decide +kernel)) ?_
 rintro v18 h18 ⟨X18,s18⟩
 have E18:=E17.trans X18
 simp -dsimp (disch:=omega) only[wpS,wpT,Nat.reduceEqDiff]
 refine call (gEff s18 (.inl (by decide +kernel))) ?_
 rintro _ h19 ⟨X19,rfl⟩
 have E19:=E18.trans X19
 have r19:effRes (mI [0,0,1,1])=.tuple #[shareV (Rat.divInt (8) 3),KI 0]:=effRes_of (by decide +kernel) (by decide +kernel) (by decide +kernel) (QW_of (by decide +kernel))
 rw[r19]
 simp -dsimp (disch:=omega) only[wpS,wpT,Nat.reduceEqDiff]
 refine call (isT_ok (q:=(Rat.divInt (8) 3)) ((c17.ext X18).ext X19) (by decide +kernel) (by decide +kernel) (by decide +kernel) (by decide +kernel)) ?_
 rintro _ h20 ⟨X20,rfl⟩
 have E20:=E19.trans X20
 simp -dsimp (disch:=omega) only[wpS,wpT,Nat.reduceEqDiff]
 refine call (isC_ok 16 1) ?_
 rintro _ h21 ⟨X21,i21,j21,rfl,c21⟩
 have E21:=E20.trans X21
 simp -dsimp (disch:=omega) only[wpS,wpT,Nat.reduceEqDiff,Nat.reduceLeDiff,Nat.reduceAdd,Nat.reduceMul,bs87]
 refine call (lawl_blk [0,1,0,1] (by decide +kernel) (by decide +kernel) (by decide +kernel)) ?_
 rintro v22 h22 ⟨X22,s22⟩
 have E22:=E21.trans X22
 simp -dsimp (disch:=omega) only[wpS,wpT,Nat.reduceEqDiff]
 refine call (gEff s22 (.inl (by decide +kernel))) ?_
 rintro _ h23 ⟨X23,rfl⟩
 have E23:=E22.trans X23
 have r23:effRes (mI [0,1,0,1])=.tuple #[shareV ((16:Int):Rat),KI 0]:=effRes_of (by decide +kernel) (by decide +kernel) (by decide +kernel) (QW_of (by decide +kernel))
 rw[r23]
 simp -dsimp (disch:=omega) only[wpS,wpT,Nat.reduceEqDiff]
 refine call (isT_ok (q:=((16:Int):Rat)) ((c21.ext X22).ext X23) (by decide +kernel) (by decide +kernel) (by decide +kernel) (by decide +kernel)) ?_
 rintro _ h24 ⟨X24,rfl⟩
 have E24:=E23.trans X24
 simp -dsimp (disch:=omega) only[wpS,wpT,Nat.reduceEqDiff]
 refine call (faC_ok 7) ?_
 rintro _ h25 ⟨X25,i25,rfl,c25⟩
 have E25:=E24.trans X25
 simp -dsimp (disch:=omega) only[wpS,wpT,Nat.reduceEqDiff,Nat.reduceLeDiff,Nat.reduceAdd,Nat.reduceMul,bs87]
 refine call (lawl_blk [5,5] (by decide +kernel) (by decide +kernel) (by decide +kernel)) ?_
 rintro v26 h26 ⟨X26,s26⟩
 have E26:=E25.trans X26
 simp -dsimp (disch:=omega) only[wpS,wpT,Nat.reduceEqDiff]
 refine call (gEff s26 (.inl (by decide +kernel))) ?_
 rintro _ h27 ⟨X27,rfl⟩
 have E27:=E26.trans X27
 have r27:effRes (mI [5,5])=errV 7:=effRes_no (by decide +kernel) (by decide +kernel)
 rw[r27]
 simp -dsimp (disch:=omega) only[wpS,wpT,Nat.reduceEqDiff]
 refine call (faT_ok ((c25.ext X26).ext X27)) ?_
 rintro _ h28 ⟨X28,rfl⟩
 have E28:=E27.trans X28
 simp -dsimp (disch:=omega) only[wpS,Nat.reduceEqDiff]
 exact⟨E28,rfl⟩
theorem batErr_ok {l:List (Nat×Nat)} {sz:Int} (h1:chErr l=0) (h2:1≤sz) (h3:sz≤l.length) (h4:((bmeans (l.map rOf) sz.toNat).all fun q=>decide (-(H8:Int)≤q.num) && decide (q.num<H8) && decide ((q.den:Int)<H8))=true):batErr l sz=0:=by
 unfold batErr
 rw[if_pos h1,if_pos ⟨h2,h3⟩,if_pos]
 intro q hq
 exact QW_of (List.all_eq_true.1 h4 q hq)
abbrev twoS:List (Nat×Nat):=[shq (Rat.divInt 3 2),shq (Rat.divInt 5 1)]
set_option maxHeartbeats 8000000 in
theorem w2 {hh:IH} {fr:Fr} {Q:IExit→Fr→IH→Prop} (f1:fget fr 1=some (.bool true)):Do (wpC Proofs.Tryz.prog 10 159 none (partW 2) fr hh) (seqK (fun fr h'=>Pst (Ext hh h' ∧ ∃v,ShSl h' v twoS∧fget fr 2=some v∧fget fr 3=some (KI 0)∧fget fr 1=some (.bool true)) nx) Q) nx:=by
 show Do (wpC _ _ _ _ (.region _ _ _) fr hh) _ _
 simp -dsimp (disch:=omega) only[wpS,wpT,Nat.reduceLeDiff,Nat.reduceAdd,Nat.reduceMul,bs87]
 refine call (lawl_blk [1,2,6,4,9] (by decide +kernel) (by decide +kernel) (by decide +kernel)) ?_
 rintro v29 h29 ⟨X29,s29⟩
 have E29:=X29
 simp -dsimp (disch:=omega) only[wpS,Nat.reduceEqDiff]
 refine call (gBat s29 2) ?_
 have b30:batErr (mI [1,2,6,4,9]) 2=0:=batErr_ok (by decide +kernel) (by decide +kernel) (by decide +kernel) (by decide +kernel)
 rw[b30]
 rintro _ h30 ⟨X30,v30,rfl,s30⟩
 have E30:=E29.trans X30
 rw[if_pos rfl] at s30
 have e30:(bmeans ((mI [1,2,6,4,9]).map rOf) (2:Int).toNat).map shOf = [shq (Rat.divInt 3 2),shq (Rat.divInt 5 1)]:=by decide +kernel
 rw[e30] at s30
 simp -dsimp (disch:=omega) only[wpS,Nat.reduceEqDiff]
 exact⟨E30,v30,s30,rfl,rfl,by simp[f1]⟩
set_option maxHeartbeats 8000000 in
theorem w3 {hh:IH} {fr:Fr} {Q:IExit→Fr→IH→Prop} {v2:Value} (f1:fget fr 1=some (.bool true)) (f2:fget fr 2=some v2) (f3:fget fr 3=some (KI 0)):Do (wpC Proofs.Tryz.prog 10 159 none (partW 3) fr hh) (seqK (fun fr h'=>Pst (Ext hh h'∧fget fr 4=some (KI 3)∧fget fr 5=some (KI 0)∧fget fr 1=some (.bool true)∧fget fr 2=some v2∧fget fr 3=some (KI 0)) nx) Q) nx:=by
 show Do (wpC _ _ _ _ (.region _ _ _) fr hh) _ _
 simp -dsimp (disch:=omega) only[wpS,wpT,Nat.reduceLeDiff,Nat.reduceAdd,Nat.reduceMul,bs87]
 refine call (lawl_blk [1,1,2,2,2,1] (by decide +kernel) (by decide +kernel) (by decide +kernel)) ?_
 rintro v31 h31 ⟨X31,s31⟩
 have E31:=X31
 simp -dsimp (disch:=omega) only[wpS,Nat.reduceEqDiff]
 refine call (dgStuck_ok s31) ?_
 rintro _ h32 ⟨X32,rfl⟩
 have E32:=E31.trans X32
 have r32:stuckRes (mI [1,1,2,2,2,1])=.tuple #[KI 3,KI 0]:=by kernel_rfl
 rw[r32]
 simp -dsimp (disch:=omega) only[wpS,Nat.reduceEqDiff]
 exact⟨E32,rfl,rfl,by simp[f1],by simp[f2],by simp[f3]⟩
set_option maxHeartbeats 8000000 in
theorem w4 {hh:IH} {fr:Fr} {Q:IExit→Fr→IH→Prop} {v2:Value} (hv:ShSl hh v2 twoS) (f1:fget fr 1=some (.bool true)) (f2:fget fr 2=some v2) (f3:fget fr 3=some (KI 0)) (f4:fget fr 4=some (KI 3)) (f5:fget fr 5=some (KI 0)):Do (wpC Proofs.Tryz.prog 10 159 none (partW 4) fr hh) (seqK (fun fr h'=>Pst (Ext hh h'∧fget fr 1=some (.bool true)) nx) Q) nx:=by
 show Do (wpC _ _ _ _ (.region _ _ _) fr hh) _ _
 simp -dsimp (disch:=omega) only[wpS,wpT,Nat.reduceEqDiff,f1,f2]
 refine call (lawq_ok 3 2 (by decide +kernel) (by decide +kernel) (by decide +kernel)) ?_
 rintro _ h33 ⟨X33,rfl⟩
 have E33:=X33
 simp -dsimp (disch:=omega) only[wpS,wpT,Nat.reduceEqDiff]
 refine call (lawq_ok 5 1 (by decide +kernel) (by decide +kernel) (by decide +kernel)) ?_
 rintro _ h34 ⟨X34,rfl⟩
 have E34:=E33.trans X34
 simp only[shareV_shq]
 simp -dsimp (disch:=omega) only[wpS,wpT,Nat.reduceEqDiff,build2]
 have s35:ShSl (h34.new (.cells (shL twoS) 16 none)) (.slice (some ⟨2*h34.n,0,none⟩) 2 5) twoS:=by
  refine⟨sl_block (k:=h34.n) (f:=none) (get_new_same _ _ rfl) (by simp) (by decide) (by decide +kernel) (by omega) (by decide),by decide,?_⟩
  decide +kernel
 have F35:Ext hh (h34.new (.cells (shL twoS) 16 none)):=E34.new _
 refine call (shequal_ok (l:=twoS) (l2:=twoS) (hv.keep F35.keep) s35) ?_
 rintro _ h36 ⟨X36,rfl⟩
 rw[decide_eq_true rfl]
 have E36:=F35.trans X36
 simp -dsimp (disch:=omega) only[wpS,wpT,Nat.reduceEqDiff,f3,f4,f5]
 refine call (faC_ok 4) ?_
 rintro _ h37 ⟨X37,i37,rfl,c37⟩
 have E37:=E36.trans X37
 simp -dsimp (disch:=omega) only[wpS,wpT,Nat.reduceEqDiff]
 refine call (gMean (l:=[]) ⟨SlOf.nil _ (by decide),by simp,(fun p hp=>by cases hp)⟩) ?_
 rintro _ h38 ⟨X38,rfl⟩
 have E38:=E37.trans X38
 have r38:meanRes []=errV 4:=by unfold meanRes;rw[if_neg (by decide)];rfl
 rw[r38]
 simp -dsimp (disch:=omega) only[wpS,wpT,Nat.reduceEqDiff]
 refine call (faT_ok (c37.ext X38)) ?_
 rintro _ h39 ⟨X39,rfl⟩
 have E39:=E38.trans X39
 simp -dsimp (disch:=omega) only[wpS,Nat.reduceEqDiff]
 exact⟨E39,rfl⟩
set_option maxHeartbeats 8000000 in
theorem w5 {hh:IH} {fr:Fr} {Q:IExit→Fr→IH→Prop} (f1:fget fr 1=some (.bool true)):Do (wpC Proofs.Tryz.prog 10 159 none (partW 5) fr hh) (seqK (fun fr h'=>Pst (Ext hh h' ∧ ∃v,ShLs h' v [mI [0,2],mI [1,5]]∧fget fr 6=some v∧fget fr 1=some (.bool true)) nx) Q) nx:=by
 show Do (wpC _ _ _ _ (.region _ _ _) fr hh) _ _
 simp -dsimp (disch:=omega) only[wpS,wpT,Nat.reduceLeDiff,Nat.reduceAdd,Nat.reduceMul,bs87]
 refine call (lawl_blk [0,2] (by decide +kernel) (by decide +kernel) (by decide +kernel)) ?_
 rintro v40 h40 ⟨X40,s40⟩
 have E40:=X40
 simp -dsimp (disch:=omega) only[wpS,wpT,Nat.reduceEqDiff,Nat.reduceLeDiff,Nat.reduceAdd,Nat.reduceMul,bs87]
 refine call (lawl_blk [1,5] (by decide +kernel) (by decide +kernel) (by decide +kernel)) ?_
 rintro v41 h41 ⟨X41,s41⟩
 have E41:=E40.trans X41
 simp -dsimp (disch:=omega) only[wpS,wpT,Nat.reduceEqDiff,Nat.reduceLeDiff,Nat.reduceAdd,Nat.reduceMul,bs22,s40.1.cells,s41.1.cells]
 exact⟨E41.new _,_,shLs_two (s40.keep X41.keep) s41,rfl,by simp[f1]⟩
set_option maxHeartbeats 8000000 in
theorem w6 {hh:IH} {fr:Fr} {Q:IExit→Fr→IH→Prop} {v:Value} (hv:ShLs hh v [mI [0,2],mI [1,5]]) (f1:fget fr 1=some (.bool true)) (f6:fget fr 6=some v):Do (wpC Proofs.Tryz.prog 10 159 none (partW 6) fr hh) (seqK (fun fr h'=>Pst (Ext hh h'∧fget fr 0=some (.bool true)) nx) Q) nx:=by
 show Do (wpC _ _ _ _ (.region _ _ _) fr hh) _ _
 simp -dsimp (disch:=omega) only[wpS,wpT,Nat.reduceEqDiff,f1]
 refine call (isC_ok 5 1) ?_
 rintro _ h42 ⟨X42,i42,j42,rfl,c42⟩
 have E42:=X42
 simp -dsimp (disch:=omega) only[wpS,wpT,Nat.reduceEqDiff,f6]
 refine call (gWithin (ll:=[mI [0,2],mI [1,5]]) (hv.ext E42) (fun _=>⟨by decide +kernel,by decide +kernel⟩)) ?_
 rintro _ h43 ⟨X43,rfl⟩
 have E43:=E42.trans X43
 have r43:withinRes [mI [0,2],mI [1,5]]=.tuple #[shareV ((5:Int):Rat),KI 0]:=withinRes_of (by decide +kernel) (by decide +kernel) (QW_of (by decide +kernel))
 rw[r43]
 simp -dsimp (disch:=omega) only[wpS,wpT,Nat.reduceEqDiff]
 refine call (isT_ok (q:=((5:Int):Rat)) (c42.ext X43) (by decide +kernel) (by decide +kernel) (by decide +kernel) (by decide +kernel)) ?_
 rintro _ h44 ⟨X44,rfl⟩
 have E44:=E43.trans X44
 simp -dsimp (disch:=omega) only[wpS,wpT,Nat.reduceEqDiff]
 refine call (isC_ok 2 1) ?_
 rintro _ h45 ⟨X45,i45,j45,rfl,c45⟩
 have E45:=E44.trans X45
 simp -dsimp (disch:=omega) only[wpS,wpT,Nat.reduceEqDiff,f6]
 refine call (gMeans (ll:=[mI [0,2],mI [1,5]]) (hv.ext E45) (fun _=>⟨by decide +kernel,by decide +kernel⟩)) ?_
 rintro _ h46 ⟨X46,rfl⟩
 have E46:=E45.trans X46
 have r46:meansRes [mI [0,2],mI [1,5]]=.tuple #[shareV ((2:Int):Rat),KI 0]:=meansRes_of (by decide +kernel) (by decide +kernel) (QW_of (by decide +kernel))
 rw[r46]
 simp -dsimp (disch:=omega) only[wpS,wpT,Nat.reduceEqDiff]
 refine call (isT_ok (q:=((2:Int):Rat)) (c45.ext X46) (by decide +kernel) (by decide +kernel) (by decide +kernel) (by decide +kernel)) ?_
 rintro _ h47 ⟨X47,rfl⟩
 have E47:=E46.trans X47
 simp -dsimp (disch:=omega) only[wpS,wpT,Nat.reduceEqDiff]
 refine call (isC_ok 9 10) ?_
 rintro _ h48 ⟨X48,i48,j48,rfl,c48⟩
 have E48:=E47.trans X48
 simp -dsimp (disch:=omega) only[wpS,wpT,Nat.reduceEqDiff,f6]
 refine call (gRatio (ll:=[mI [0,2],mI [1,5]]) (hv.ext E48) (fun _=>⟨by decide +kernel,by decide +kernel⟩)) ?_
 rintro _ h49 ⟨X49,rfl⟩
 have E49:=E48.trans X49
 have r49:ratioRes [mI [0,2],mI [1,5]]=.tuple #[shareV (Rat.divInt (9) 10),KI 0]:=ratioRes_of (by decide +kernel) (by decide +kernel) (by decide +kernel) (QW_of (by decide +kernel))
 rw[r49]
 simp -dsimp (disch:=omega) only[wpS,wpT,Nat.reduceEqDiff]
 refine call (isT_ok (q:=(Rat.divInt (9) 10)) (c48.ext X49) (by decide +kernel) (by decide +kernel) (by decide +kernel) (by decide +kernel)) ?_
 rintro _ h50 ⟨X50,rfl⟩
 have E50:=E49.trans X50
 simp -dsimp (disch:=omega) only[wpS,wpT,Nat.reduceEqDiff]
 refine call (faC_ok 7) ?_
 rintro _ h51 ⟨X51,i51,rfl,c51⟩
 have E51:=E50.trans X51
 simp -dsimp (disch:=omega) only[wpS,wpT,Nat.reduceEqDiff,Nat.reduceLeDiff,Nat.reduceAdd,Nat.reduceMul,bs87]
 refine call (lawl_blk [1,1] (by decide +kernel) (by decide +kernel) (by decide +kernel)) ?_
 rintro v52 h52 ⟨X52,s52⟩
 have E52:=E51.trans X52
 simp -dsimp (disch:=omega) only[wpS,wpT,Nat.reduceEqDiff,Nat.reduceLeDiff,Nat.reduceAdd,Nat.reduceMul,bs87]
 refine call (lawl_blk [2,2] (by decide +kernel) (by decide +kernel) (by decide +kernel)) ?_
 rintro v53 h53 ⟨X53,s53⟩
 have E53:=E52.trans X53
 simp -dsimp (disch:=omega) only[wpS,wpT,Nat.reduceEqDiff,Nat.reduceLeDiff,Nat.reduceAdd,Nat.reduceMul,bs22,s52.1.cells,s53.1.cells]
 refine call (gRatio (ll:=[mI [1,1],mI [2,2]]) (shLs_two (s52.keep X53.keep) s53) (fun _=>⟨by decide +kernel,by decide +kernel⟩)) ?_
 rintro _ h54 ⟨Y54,rfl⟩
 have X54:=((Ext.refl h53).new _).trans Y54
 have E54:=E53.trans X54
 have r54:ratioRes [mI [1,1],mI [2,2]]=errV 7:=ratioRes_no (by decide +kernel) (by decide +kernel)
 rw[r54]
 simp -dsimp (disch:=omega) only[wpS,wpT,Nat.reduceEqDiff]
 refine call (faT_ok (((c51.ext X52).ext X53).ext X54)) ?_
 rintro _ h55 ⟨X55,rfl⟩
 have E55:=E54.trans X55
 simp -dsimp (disch:=omega) only[wpS,wpT,Nat.reduceEqDiff]
 refine call (faC_ok 5) ?_
 rintro _ h56 ⟨X56,i56,rfl,c56⟩
 have E56:=E55.trans X56
 simp -dsimp (disch:=omega) only[wpS,wpT,Nat.reduceEqDiff,Nat.reduceLeDiff,Nat.reduceAdd,Nat.reduceMul,bs87]
 refine call (lawl_blk [1,2] (by decide +kernel) (by decide +kernel) (by decide +kernel)) ?_
 rintro v57 h57 ⟨X57,s57⟩
 have E57:=E56.trans X57
 simp -dsimp (disch:=omega) only[wpS,wpT,Nat.reduceEqDiff,Nat.reduceLeDiff,Nat.reduceAdd,bs22,s57.1.cells]
 refine call (gRatio (ll:=[mI [1,2]]) (shLs_one s57) (fun e=>absurd e (by decide +kernel))) ?_
 rintro _ h58 ⟨Y58,rfl⟩
 have X58:=((Ext.refl h57).new _).trans Y58
 have E58:=E57.trans X58
 have r58:ratioRes [mI [1,2]]=errV 5:=ratioRes_err (by decide +kernel) (by decide)
 rw[r58]
 simp -dsimp (disch:=omega) only[wpS,wpT,Nat.reduceEqDiff]
 refine call (faT_ok ((c56.ext X57).ext X58)) ?_
 rintro _ h59 ⟨X59,rfl⟩
 have E59:=E58.trans X59
 simp -dsimp (disch:=omega) only[wpS,Nat.reduceEqDiff]
 exact⟨E59,rfl⟩
theorem w0 {hh:IH} {fr:Fr} {Q:IExit→Fr→IH→Prop}:Do (wpC Proofs.Tryz.prog 10 159 none (partW 0) fr hh) (seqK (fun fr h'=>Pst (h'=hh) nx) Q) nx:=by
 show Do (wpC _ _ _ _ (.region _ _ _) fr hh) _ _
 simp -dsimp (disch:=omega) only[wpS]
theorem dgworks_ok {h:IH}:WV Proofs.Tryz.prog (.func (.func 10) #[] #[]) [] h fun r h'=>Ext h h'∧r=.bool true:=by
 refine enter (nt:=159) (rs:=[.tmp 0]) Proofs.Tryz.func10 rfl rfl rfl (by simp) ?_
 rw[d_seq];refine cut _ w0 ?_;rintro fr h0 rfl
 rw[d_seq];refine cut _ w1 ?_;rintro fr h1 ⟨x1,f1⟩
 rw[d_seq];refine cut _ (w2 f1) ?_;clear f1;rintro fr h2 ⟨x2,v,s2,f2,f3,f1⟩
 rw[d_seq];refine cut _ (w3 f1 f2 f3) ?_;clear f1 f2 f3;rintro fr h3 ⟨x3,f4,f5,f1,f2,f3⟩
 rw[d_seq];refine cut _ (w4 (s2.keep x3.keep) f1 f2 f3 f4 f5) ?_;clear f1 f2 f3 f4 f5;rintro fr h4 ⟨x4,f1⟩
 rw[d_seq];refine cut _ (w5 f1) ?_;clear f1;rintro fr h5 ⟨x5,v6,s6,f6,f1⟩
 rw[d_seq];refine cut _ (w6 s6 f1 f6) ?_;clear f1 f6;rintro fr h6 ⟨x6,f0⟩
 simp -dsimp (disch:=omega) only[wpS,wpT,f0]
 exact((((x1.trans x2).trans x3).trans x4).trans x5).trans x6
end Go.Id

/-! Weakest preconditions over the ideal machine: appends to slices without room; lengths and parts of slices in regions whose order is open. -/
namespace Go.Id
open Go
theorem append_full {P:Program} {t:TypeId} {sz bytes:Nat} (hT:appT P t=some (sz,bytes)) {h:IH} {b o n:Nat} {cs:List Value} (sv:SlNow h sz (.slice (some ⟨b,o,none⟩) n (2*n+1)) n cs) {x:Value} {m:Nat} {new:List Value} (sx:SlNow h sz x m new) (hm:0<m) (hn:0<n) (hc:new.all cellOK=true) (hsz:(n+m)*(bytes+1)≤1099511627776) :
  append P h t (.slice (some ⟨b,o,none⟩) n (2*n+1)) x=some (.slice (some ⟨2*h.n,0,none⟩) (n+m) (2*(n+m)),h.new (.cells (cs ++ new) sz none)):=by
 unfold appT at hT
 split at hT
 case h_2=>cases hT
 rename_i e hu
 split at hT
 case h_2=>cases hT
 rename_i zs h1 h2 h3
 simp only[cond_eq_ite] at hT
 split at hT
 case isTrue=>cases hT
 rename_i hbad
 cases hT
 have hbad':(sz == 0 || (!(Nat.ble bytes 65536) || !(zs.length == sz)))=false:=by simpa using hbad
 have first : ∀{y:Value} {k:Nat} {l:List Value},0<k→SlNow h sz y k l→firstOf h sz k y=some l∧lenOf y=some k:=by
  intro y k l hk s
  obtain⟨hz,hl,⟨rfl,rfl⟩|⟨b2,o2,k2,rfl,rfl|⟨row,a1,a2,a3⟩⟩⟩:=s
  ·omega
  ·omega
  have hms : ¬k*sz=0:=by
   have:0<k*sz:=Nat.mul_pos hk hz
   omega
  refine⟨?_,rfl⟩
  simp only[firstOf,cond_eq_ite,Nat.ble_eq,Nat.le_refl,if_true,beq_iff_eq,if_neg hms]
  rw[rd_of a1,if_pos a3,a2]
 have hmne:(m == 0)=false:=by simp;omega
 obtain⟨hfx,hlx⟩:=first hm sx
 obtain⟨hfv,_⟩:=first hn sv
 have hble:Nat.ble ((n+m)*(bytes+1)) sizeMost=true:=by rw[Nat.ble_eq];exact hsz
 have hcap:Nat.ble (n+m) ((2*n+1) / 2)=false:=by
  rw[Bool.eq_false_iff];intro hh;rw[Nat.ble_eq] at hh;omega
 have hodd:((2*n+1) % 2 == 1)=true:=by simp
 simp only[Id.append,hu,h1,h2,h3,hlx,hmne,hbad',hfx,hc,hble,hcap,hodd,hfv,cond_true,cond_false,Bool.not_true]
theorem steady_len {P:Program} {fr:Fr} {c:Call} {h h':IH} {v r:Value} {t:TypeId} (hc:c.callee=.builtin .len) (ha:opds fr c.args.toList=some [v]) (ht:c.argTypes[0]?=some t) (h1:lenB P h t v=some r) (h2:lenB P h' t v=some r):steadyAt P fr (.call c) h h'=true :=
 steadyAt_of (v:=r) (x:=h) (y:=h') (by simp[iop,hc,ha,builtin,ht,h1]) (by simp[iop,hc,ha,builtin,ht,h2])
theorem steady_slice {P:Program} {fr:Fr} {t:TypeId} {x:Operand} {lo hi:Option Operand} {h h':IH} {xv r:Value} {lov hiv:Option Value} (hx:opd fr x=some xv) (hl:optOpd fr lo=some lov) (hh:optOpd fr hi=some hiv) (h1:sliceOp P h t xv lov hiv none=some r) (h2:sliceOp P h' t xv lov hiv none=some r):steadyAt P fr (.slice t x lo hi none) h h'=true:=by
 have h0:optOpd fr none=some none:=rfl
 exact steadyAt_of (v:=r) (x:=h) (y:=h') (by simp only[iop,hx,hl,hh,h0,h1,Option.map_some]) (by simp only[iop,hx,hl,hh,h0,h2,Option.map_some])
theorem SlOf.slice_same {h h1 h2:IH} {sz:Nat} {v:Value} {n:Nat} {cs:List Value} (s:SlOf h sz v n cs) (k1:Keep h h1) (k2:Keep h h2) {P:Program} {t e:TypeId} (hu:P.underlying t=some (.slice e)) (hT:sizeT P e=some sz) {lo hi mx:Option Value}:sliceOp P h1 t v lo hi mx=sliceOp P h2 t v lo hi mx:=by
 simp only[sliceOp,hu,hT]
 obtain⟨hz,hl,⟨rfl,rfl⟩|⟨b,o,k,rfl,⟨rfl,rfl⟩|⟨a1,a2,row,a3,h3,h4⟩⟩⟩:=s
 ·rfl
 ·simp[resliced]
 ·rcases a3 with a3|⟨a4,a5,f,a6⟩
  ·simp[resliced,a3.2]
  ·obtain⟨f1,g1⟩:=k1.get (b / 2) row sz f (by omega) a6 (by omega)
   obtain⟨f2,g2⟩:=k2.get (b / 2) row sz f (by omega) a6 (by omega)
   have r1:roomy h1 sz (.slice (some ⟨b,o,none⟩) n k)=true:=by simp[roomy,a4,g1]
   have r2:roomy h2 sz (.slice (some ⟨b,o,none⟩) n k)=true:=by simp[roomy,a4,g2]
   rw[r1,r2]
end Go.Id

/-! The statement DiagnoseBatches, on the ideal machine. -/
namespace Go.Id
open Go
noncomputable def partB (i:Nat):Code:=nthC (Proofs.Tryz.f6.body.getD .skip) i
structure BX (h hh:IH) (fr:Fr) (w:Value) (size:Int) (most more:Bool):Prop where
 e:Ext h hh
 f1:fget fr 1=some w
 f2:fget fr 2=some (KI size)
 f3:fget fr 3=some (.bool most)
 f4:fget fr 4=some (.bool more)
section
variable {h hh:IH} {fr:Fr} {Q:IExit→Fr→IH→Prop} {v w:Value} {n:Nat} {size:Int} {most more:Bool} {l0:List (Nat×Nat)}
theorem b0 (s:BX h hh fr w size most more) (f0:fget fr 0=some v):Do (wpC Proofs.Tryz.prog 6 99 none (partB 0) fr hh) (seqK (fun fr h'=>Pst (BX h h' fr w size most more∧fget fr 0=some v) nx) Q) nx:=by
 show Do (wpC _ _ _ _ (.region _ _ _) fr hh) _ _
 simp -dsimp (disch:=omega) only[wpS]
 exact⟨⟨s.e,by simp[s.f1],by simp[s.f2],by simp[s.f3],by simp[s.f4]⟩,by simp[f0]⟩
theorem b1 (s:BX h hh fr w size most more) (f0:fget fr 0=some v):Do (wpC Proofs.Tryz.prog 6 99 none (partB 1) fr hh) (seqK (fun fr h'=>Pst (BX h h' fr w size most more∧fget fr 0=some v) nx) Q) nx:=by
 show Do (wpC _ _ _ _ (.seq _ _) fr hh) _ _
 simp -dsimp (disch:=omega) only[wpS]
 refine call dgworks_ok ?_
 rintro _ h1 ⟨X1,rfl⟩
 simp -dsimp (disch:=omega) only[wpS,wpT,Nat.reduceEqDiff]
 exact⟨⟨s.e.trans X1,by simp[s.f1],by simp[s.f2],by simp[s.f3],by simp[s.f4]⟩,by simp[f0]⟩
set_option maxHeartbeats 2000000 in
theorem b2 (hv:ShArg h v l0) (hw:DrSl h w n) (s:BX h hh fr w size most more) (f0:fget fr 0=some v):Do (wpC Proofs.Tryz.prog 6 99 none (partB 2) fr hh) (seqK (fun fr h'=>Pst (BX h h' fr w size most more ∧ ∃hb w1 w2 x1 x2,ShSl hb w1 x1∧ShSl hb w2 x2∧h'=hb.new (.cells [w1,w2] 1 none)∧fget fr 11=some (.slice (some ⟨2*hb.n,0,none⟩) 2 5)) nx) Q) nx:=by
 show Do (wpC _ _ _ _ (.region _ _ _) fr hh) _ _
 obtain⟨M,hM⟩ : ∃M,M=min l0.length 5:=⟨_,rfl⟩
 have hmin:(if (5:Int)<(l0.length:Int) then (5:Int) else (l0.length:Int))=(M:Int):=by split<;>omega
 have hv1:=hv.keep s.e.keep
 obtain⟨v1,e1,s1⟩:=hv1.first (Keep.refl hh) (m:=M) (by omega) (by omega)
 refine drawn [(2,[9]),(4,[9])] (by kernel_rfl) (by kernel_rfl) rfl ?_
 simp -dsimp (disch:=omega) only[wpS,Nat.reduceEqDiff,f0,s.f1,hv.1.len sl25,min_ii,hmin,e1]
 refine call (shorts_ok (hw.keep s.e.keep)) ?_
 rintro w2 h2 ⟨X2,l2,s2,hl2,hsh2,hn2⟩
 simp -dsimp (disch:=omega) only[wpS,wpT,Nat.reduceEqDiff,Nat.reduceLeDiff,Nat.reduceAdd,Nat.reduceMul,bs22,s1.1.cells,s2.1.cells]
 have e3:=(hv1.1.slice_same (Keep.refl hh) (X2.keep.new (.cells [v1,w2] 1 none)) (P:=Proofs.Tryz.prog) u25 sz30).symm.trans e1
 refine⟨wpSteady_c2 (wpSteady_one rfl rfl rfl rfl (steady_len rfl rfl rfl (hv.1.len sl25 _) (hv.1.len sl25 _))) (wpSteady_one rfl rfl rfl rfl (steady_slice rfl rfl rfl e1 e3)),?_⟩
 simp -dsimp (disch:=omega) only[wpS,wpT,Nat.reduceAdd]
 exact⟨⟨(s.e.trans X2).new _,by simp[s.f1],by simp[s.f2],by simp[s.f3],by simp[s.f4]⟩,h2,v1,w2,_,l2,s1.keep X2.keep,s2,rfl,rfl⟩
end
end Go.Id

/-! Fractions over a common denominator; sums of lists of fractions (no program in sight). -/
namespace Go.Id
open Go
abbrev LC:Nat:=5354228880
def Over (L B:Nat) (q:Rat):Prop:=0<L ∧ ∃N:Int,q=Rat.divInt N L∧N.natAbs≤B
theorem Over.frac {L B:Nat} {q:Rat} (h:Over L B q) : ∃N:Int,q=(N:Rat) / ((L:Int):Rat)∧N.natAbs≤B∧((L:Int):Rat)≠0:=by
 obtain⟨hL,N,h1,h2⟩:=h
 refine⟨N,by rw[h1,Rat.divInt_eq_div],h2,?_⟩
 intro e
 have:=Rat.intCast_eq_zero_iff.1 e
 omega
theorem Over.of {L B:Nat} {q:Rat} (N:Int) (hL:0<L) (h1:q=(N:Rat) / ((L:Int):Rat)) (h2:N.natAbs≤B):Over L B q:=⟨hL,N,by rw[h1,Rat.divInt_eq_div],h2⟩
theorem Over.qw {L B:Nat} {q:Rat} (h:Over L B q) (h1:L<H8) (h2:B<H8):QW q:=by
 obtain⟨hL,N,rfl,hN⟩:=h
 obtain⟨e1,e2⟩:=low_pos (n:=N) (d:=(L:Int)) (by omega)
 have a1:=ediv_abs N (Int.gcd N (L:Int))
 have a2:=ediv_abs (L:Int) (Int.gcd N (L:Int))
 rw[e1] at a1
 rw[e2] at a2
 have a3:((Rat.divInt N (L:Int)).den:Int).natAbs=(Rat.divInt N (L:Int)).den:=Int.natAbs_natCast _
 have a4:((L:Int)).natAbs=L:=Int.natAbs_natCast _
 refine⟨⟨?_,?_⟩,?_,?_⟩<;>omega
theorem Over.mono {L B C:Nat} {q:Rat} (h:Over L B q) (k:B≤C):Over L C q:=let ⟨a,N,b,c⟩:=h;⟨a,N,b,Nat.le_trans c k⟩
theorem Over.add {L B C:Nat} {x y:Rat} (hx:Over L B x) (hy:Over L C y):Over L (B+C) (x+y):=by
 obtain⟨N,h1,h2,h3⟩:=hx.frac
 obtain⟨M,k1,k2,_⟩:=hy.frac
 refine .of (N+M) hx.1 ?_ (Nat.le_trans (Int.natAbs_add_le N M) (by omega))
 rw[h1,k1,Rat.intCast_add]
 grind
theorem Over.neg {L B:Nat} {x:Rat} (hx:Over L B x):Over L B (-x):=by
 obtain⟨N,h1,h2,h3⟩:=hx.frac
 refine .of (-N) hx.1 ?_ (by omega)
 rw[h1,Rat.intCast_neg]
 grind
theorem Over.sub {L B C:Nat} {x y:Rat} (hx:Over L B x) (hy:Over L C y):Over L (B+C) (x - y):=by
 rw[Rat.sub_eq_add_neg]
 exact hx.add hy.neg
theorem Over.mul {L K B C:Nat} {x y:Rat} (hx:Over L B x) (hy:Over K C y):Over (L*K) (B*C) (x*y):=by
 obtain⟨N,h1,h2,h3⟩:=hx.frac
 obtain⟨M,k1,k2,k3⟩:=hy.frac
 refine .of (N*M) (Nat.mul_pos hx.1 hy.1) ?_ (by rw[Int.natAbs_mul];exact Nat.mul_le_mul h2 k2)
 rw[h1,k1,Rat.intCast_mul,Int.natCast_mul,Rat.intCast_mul]
 grind
theorem nat_ne {m:Nat} (hm:0<m):((m:Int):Rat)≠0:=by
 intro e
 have:=Rat.intCast_eq_zero_iff.1 e
 omega
theorem Over.divN {L B:Nat} {x:Rat} (hx:Over L B x) {m:Nat} (hm:0<m):Over (L*m) B (x / ((m:Int):Rat)):=by
 obtain⟨N,h1,h2,h3⟩:=hx.frac
 have:=nat_ne hm
 refine .of N (Nat.mul_pos hx.1 hm) ?_ h2
 rw[h1,Int.natCast_mul,Rat.intCast_mul]
 grind
theorem Over.up {L B:Nat} {x:Rat} (hx:Over L B x) {m:Nat} (hm:0<m):Over (L*m) (B*m) x:=by
 obtain⟨N,h1,h2,h3⟩:=hx.frac
 have:=nat_ne hm
 refine .of (N*m) (Nat.mul_pos hx.1 hm) ?_ (by rw[Int.natAbs_mul,Int.natAbs_natCast];exact Nat.mul_le_mul_right _ h2)
 rw[h1,Int.natCast_mul,Rat.intCast_mul,Rat.intCast_mul]
 grind
theorem Over.zero {L:Nat} (h:0<L):Over L 0 0:=.of 0 h (by simp;grind) (by simp)
theorem qsum_cons (x:Rat) (l:List Rat):qsum (x :: l)=x+qsum l:=by
 have key : ∀(l:List Rat) (a:Rat),l.foldl (· + ·) a=a+l.foldl (· + ·) 0:=by
  intro l
  induction l with
  | nil=>intro a;simp[Rat.add_zero]
  | cons y l ih=>intro a;rw[List.foldl_cons,List.foldl_cons,ih,ih (0+y)];grind
 show List.foldl _ _ _=_
 rw[List.foldl_cons,key]
 unfold qsum
 grind
theorem qsum_app (l m:List Rat):qsum (l ++ m)=qsum l+qsum m:=by
 induction l with
 | nil=>rw[List.nil_append,qsum_nil];grind
 | cons x l ih=>rw[List.cons_append,qsum_cons,qsum_cons,ih];grind
theorem Over.qsum {L B:Nat} (hL:0<L) : ∀{l:List Rat},(∀q∈l,Over L B q)→Over L (l.length*B) (qsum l)
 | [],_=>by rw[qsum_nil];simpa using Over.zero hL
 | x :: l,h=>by
  rw[qsum_cons]
  exact((h x (by simp)).add (Over.qsum hL fun q hq=>h q (by simp[hq]))).mono (by rw[List.length_cons,Nat.add_mul];omega)
theorem Over.qmean {L B:Nat} {l:List Rat} (h : ∀q∈l,Over L B q) (h0:l ≠ []):Over (L*l.length) (l.length*B) (qmean l):=by
 cases l with
 | nil=>exact absurd rfl h0
 | cons x l=>exact(Over.qsum (h x (by simp)).1 h).divN (by simp)
theorem isShort.ok {p:Nat×Nat} (h:isShort p):okS p.1 p.2∧Over LC (999*LC) (rOf p)∧shOf (rOf p)=p:=by
 obtain⟨a,c,ha,hc,rfl⟩:=h
 have hq:=qw_div (n:=a) (d:=c) ⟨by omega,by omega⟩ ⟨by omega,by omega⟩ (by omega)
 have e1:wdI (shq (Rat.divInt a c)).1=(Rat.divInt a c).num:=wdI_wideN hq.1
 have e2:wdI (shq (Rat.divInt a c)).2=((Rat.divInt a c).den:Int):=wdI_wideN hq.2
 have e3:rOf (shq (Rat.divInt a c))=Rat.divInt a c:=by
  unfold rOf
  rw[e1,e2,Rat.num_divInt_den]
 refine⟨⟨?_,?_⟩,?_,?_⟩
 ·rw[e2];have:=(Rat.divInt a c).den_pos;omega
 ·rw[e1,e2]
  have:=(Rat.divInt a c).reduced
  exact this
 ·rw[e3]
  have hdv : ∀c:Nat,c<25→0<c→c*(LC / c)=LC:=by decide
  obtain⟨k,rfl⟩:=Int.eq_ofNat_of_zero_le (show 0≤c by omega)
  have hk:=hdv k (by omega) (by omega)
  have hk2:LC / k≤LC:=Nat.div_le_self _ _
  have hk0:0<LC / k:=Nat.pos_of_ne_zero fun e=>by rw[e] at hk;simp at hk
  generalize LC / k=j at hk hk2 hk0
  refine⟨by decide,a*j,?_,?_⟩
  ·have:(LC:Int)=(k:Int)*j:=by rw[←hk,Int.natCast_mul]
   rw[this,Rat.divInt_mul_right (by omega)]
  ·rw[Int.natAbs_mul,Int.natAbs_natCast]
   exact Nat.mul_le_mul (by omega) hk2
 ·rw[e3];rfl
end Go.Id

/-! DiagnoseParts: what the law needs of numbers (no program in sight). -/
namespace Go.Id
open Go
theorem sqr_ge (x:Rat):0≤x*x:=by
 rcases Rat.le_total (a:=0) (b:=x) with h|h
 ·exact Rat.mul_nonneg h h
 ·have:=Rat.mul_nonneg (show 0 ≤ -x by grind) (show 0 ≤ -x by grind)
  grind
theorem sqr_zero {x:Rat} (h:x*x=0):x=0:=by
 rcases Rat.mul_eq_zero.1 h with h|h<;>exact h
theorem qsum_ge : ∀{l:List Rat},(∀q∈l,0≤q)→0≤qsum l
 | [],_=>by rw[qsum_nil];exact Rat.le_refl
 | x :: l,h=>by
  rw[qsum_cons]
  exact Rat.add_nonneg (h x (by simp)) (qsum_ge fun q hq=>h q (by simp[hq]))
theorem qsum_zero : ∀{l:List Rat},(∀q∈l,0≤q)→qsum l=0 → ∀q∈l,q=0
 | [],_,_,q,hq=>by cases hq
 | x :: l,h,e,q,hq=>by
  rw[qsum_cons] at e
  have h1:=h x (by simp)
  have h2:=qsum_ge (l:=l) fun q hq=>h q (by simp[hq])
  rcases List.mem_cons.1 hq with rfl|hq
  ·grind
  ·exact qsum_zero (fun q hq=>h q (by simp[hq])) (by grind) q hq
theorem qsum_const (x:Rat) : ∀l:List Rat,(∀q∈l,q=x)→qsum l=x*((l.length:Int):Rat)
 | [],_=>by rw[qsum_nil];simp
 | y :: l,h=>by
  rw[qsum_cons,qsum_const x l fun q hq=>h q (by simp[hq]),h y (by simp),List.length_cons,Int.natCast_add,Rat.intCast_add]
  grind
theorem qsum_dvd (m:Rat) (f:Nat→Rat) : ∀l:List Nat,qsum (l.map fun j=>f j / m)=qsum (l.map f) / m
 | []=>by simp[qsum_nil];grind
 | x :: l=>by rw[List.map_cons,List.map_cons,qsum_cons,qsum_cons,qsum_dvd m f l];grind
theorem qsum_batches (q:List Rat) (k:Nat) : ∀m,m*k≤q.length→qsum ((List.range m).map fun j=>qsum ((q.drop (j*k)).take k))=qsum (q.take (m*k))
 | 0,_=>by simp
 | m+1,h=>by
  have h1:(m+1)*k=m*k+k:=Nat.succ_mul m k
  rw[List.range_succ,List.map_append,qsum_app,qsum_batches q k m (by omega),List.map_cons,List.map_nil,qsum_cons,qsum_nil,h1,List.take_add,qsum_app]
  grind
theorem qmean_batches {q:List Rat} {k:Nat} (hk:0<k) (h:k≤q.length):qmean (bmeans q k)=qmean (q.take (q.length / k*k)):=by
 have hm:q.length / k*k≤q.length:=Nat.div_mul_le_self _ _
 have hm0:0<q.length / k:=Nat.div_pos h hk
 have e:bmeans q k=(List.range (q.length / k)).map fun j=>qsum ((q.drop (j*k)).take k) / ((k:Int):Rat):=by
  unfold bmeans
  refine List.map_congr_left fun j hj=>?_
  have hj:j<q.length / k:=by simpa using hj
  have h2:(j+1)*k≤q.length / k*k:=Nat.mul_le_mul_right _ hj
  have h3:(j+1)*k=j*k+k:=Nat.succ_mul j k
  unfold bmean qmean qlen
  rw[List.length_take,List.length_drop,Nat.min_eq_left (by omega)]
 have n1:=nat_ne hk
 have n2:=nat_ne hm0
 have n3:=nat_ne (Nat.mul_pos hm0 hk)
 unfold qmean qlen
 rw[e,qsum_dvd,qsum_batches _ _ _ hm,List.length_map,List.length_range,List.length_take,Nat.min_eq_left hm]
 rw[Int.natCast_mul,Rat.intCast_mul] at n3 ⊢
 grind
theorem qprods_zero (l:List Rat) (c:Rat):qprods l c 0=l.map fun x=>(x - c)*(x - c):=by
 unfold qprods
 rw[Nat.sub_zero]
 apply List.ext_getElem?
 intro i
 rw[List.getElem?_map,List.getElem?_map]
 by_cases hi:i<l.length
 ·rw[List.getElem?_range hi,List.getElem?_eq_getElem hi]
  simp only[Option.map_some,qpr,Nat.add_zero,List.getD_eq_getElem?_getD,List.getElem?_eq_getElem hi,Option.getD_some]
 ·rw[List.getElem?_eq_none (by simpa using hi),List.getElem?_eq_none (by omega)];rfl
theorem qmean_const {l:List Rat} {x:Rat} (h0:l ≠ []) (h : ∀q∈l,q=x):qmean l=x:=by
 have:0<l.length:=List.length_pos_iff.2 h0
 have:=nat_ne this
 unfold qmean qlen
 rw[qsum_const x l h]
 grind
theorem qauto_zero {l:List Rat} (h0:l ≠ []):qauto l (qmean l) 0=0 ↔ ∃x,∀q∈l,q=x:=by
 have hl:0<l.length:=List.length_pos_iff.2 h0
 have hn:=nat_ne hl
 constructor
 ·intro e
  refine⟨qmean l,fun q hq=>?_⟩
  unfold qauto qlen at e
  rw[qprods_zero] at e
  have e2:qsum (l.map fun x=>(x - qmean l)*(x - qmean l))=0:=by grind
  have:=qsum_zero (l:=l.map fun x=>(x - qmean l)*(x - qmean l)) (fun y hy=>by
   obtain⟨x,_,rfl⟩:=List.mem_map.1 hy
   exact sqr_ge _) e2 _ (List.mem_map.2 ⟨q,hq,rfl⟩)
  have:=sqr_zero this
  grind
 ·rintro⟨x,h⟩
  have hm:=qmean_const h0 h
  unfold qauto qlen
  rw[qprods_zero,hm,qsum_const 0]
  ·grind
  ·intro y hy
   obtain⟨z,hz,rfl⟩:=List.mem_map.1 hy
   rw[h z hz]
   grind
theorem shq_inj {x y:Rat} (hx:QW x) (hy:QW y) (h:shq x=shq y):x=y:=by
 have h1:wideN x.num=wideN y.num:=congrArg Prod.fst h
 have h2:wideN (x.den:Int)=wideN (y.den:Int):=congrArg Prod.snd h
 have e1:x.num=y.num:=by rw[←wdI_wideN hx.1,←wdI_wideN hy.1,h1]
 have e2:(x.den:Int)=y.den:=by rw[←wdI_wideN hx.2,←wdI_wideN hy.2,h2]
 exact Rat.ext e1 (by omega)
theorem QW_zero:QW 0:=QW_of (by decide +kernel)
theorem shOf_rOf {q:Rat} (h:QW q):rOf (shOf q)=q∧okS (shOf q).1 (shOf q).2:=by
 have e1:wdI (shOf q).1=q.num:=wdI_wideN h.1
 have e2:wdI (shOf q).2=(q.den:Int):=wdI_wideN h.2
 refine⟨?_,?_,?_⟩
 ·unfold rOf;rw[e1,e2,Rat.num_divInt_den]
 ·rw[e2];have:=q.den_pos;omega
 ·rw[e1,e2];have:=q.reduced;exact this
theorem Over.qauto {L B:Nat} {l:List Rat} (h : ∀q∈l,Over L B q) (h0:l ≠ []) (k:Nat):Over (L*l.length*(L*l.length)*l.length) (l.length*((B*l.length+l.length*B)*(B*l.length+l.length*B))) (Id.qauto l (Id.qmean l) k):=by
 have hl:0<l.length:=List.length_pos_iff.2 h0
 have hL:0<L:=by obtain⟨x,hx⟩:=List.exists_mem_of_ne_nil l h0;exact(h x hx).1
 unfold Id.qauto qlen
 refine Over.divN ?_ hl
 refine(Over.qsum (L:=L*l.length*(L*l.length)) (B:=(B*l.length+l.length*B)*(B*l.length+l.length*B)) (Nat.mul_pos (Nat.mul_pos hL hl) (Nat.mul_pos hL hl)) ?_).mono (Nat.mul_le_mul_right _ (by unfold qprods;rw[List.length_map,List.length_range];omega))
 intro q hq
 obtain⟨t,ht,rfl⟩:=List.mem_map.1 hq
 have ht:t<l.length - k:=by simpa using ht
 have key : ∀i,i<l.length→Over (L*l.length) (B*l.length+l.length*B) (l.getD i 0 - Id.qmean l):=fun i hi=>by
  refine Over.sub ((h _ ?_).up hl) (Over.qmean h h0)
  rw[List.getD_eq_getElem?_getD,List.getElem?_eq_getElem hi]
  exact List.getElem_mem hi
 unfold qpr
 exact(key t (by omega)).mul (key (t+k) (by omega))
end Go.Id

/-! Contracts: share's operations on two shares. -/
namespace Go.Id
open Go
theorem PPair.rat {h:IH} {v:Value} {n d:Nat} (p:PPair h v (wdI n) (wdI d)) (ok:okS n d):PRat h v (rOf (n,d)):=by
 obtain⟨e1,e2⟩:=rOf_parts (p:=(n,d)) ok
 unfold PRat
 rw[e1,e2]
 exact p
theorem two_sl {h:IH} {n1 d1 n2 d2:Nat} (h1:n1<W8) (h2:d1<W8) (h3:n2<W8) (h4:d2<W8):ShSl (h.new (.cells (shL [(n1,d1),(n2,d2)]) 16 none)) (.slice (some ⟨2*h.n,0,none⟩) 2 5) [(n1,d1),(n2,d2)]:=by
 refine⟨sl_block (k:=h.n) (f:=none) (get_new_same _ _ rfl) (by simp) (by decide) (by rw[shL_len];rfl) (by omega) (by omega),by simp,?_⟩
 intro p hp
 simp at hp
 rcases hp with rfl|rfl
 ·exact⟨h1,h2⟩
 ·exact⟨h3,h4⟩
set_option maxHeartbeats 2000000 in
theorem rtwo_ok {h:IH} {n1 d1 n2 d2:Nat} {fv:Value} {q:Rat} (h1:n1<W8) (h2:d1<W8) (h3:n2<W8) (h4:d2<W8) (ok1:okS n1 d1) (ok2:okS n2 d2)
  (op : ∀(h':IH) (v w:Value),PRat h' v (rOf (n1,d1))→PRat h' w (rOf (n2,d2))→WV Proofs.Tryz.prog fv [v,w] h' fun r h''=>Ext h' h''∧PRat h'' r q) :
  WV Proofs.Tryz.prog (.func (.func 90) #[] #[]) [shV n1 d1,shV n2 d2,fv] h fun r h'=>Ext h h' ∧ ∃x,r=.tuple #[x,KI 0]∧PRat h' x q:=by
 refine enter (nt:=21) (rs:=[.cell 6 83,.tmp 7]) Proofs.Tryz.func90 rfl rfl rfl (by simp) ?_
 simp -dsimp (maxSteps:=1000000) (disch:=first|omega|(simp only[new_n,put_n];omega)|decide +kernel|(repeat first|rw[new_n]|rw[put_n])) only[wpS,Nat.reduceEqDiff,Nat.reduceAdd,zc83,ld30,shV_cells]
 obtain⟨H0,hH0,n0,E0,g0,g1,g2⟩:=boxes3 h (shC n1 d1) (shC n2 d2) ZR
 rw[←hH0]
 clear hH0
 have X0:=Ext.refl H0
 have bb : ∀hx:IH,buildSlice Proofs.Tryz.prog hx 25 2 [(0,.agg (shC n1 d1).toArray),(1,.agg (shC n2 d2).toArray)]=some (.slice (some ⟨2*hx.n,0,none⟩) 2 5,hx.new (.cells (shL [(n1,d1),(n2,d2)]) 16 none)):=fun hx=>build2 n1 d1 n2 d2
 simp -dsimp (maxSteps:=1000000) (disch:=first|omega|(simp only[new_n,put_n];omega)|decide +kernel|(repeat first|rw[new_n]|rw[put_n])) only[wpS,Nat.reduceEqDiff,Nat.reduceLeDiff,ld30,row_of g1,shC_len,sh_take,bb]
 refine call (shvalid_ok (two_sl h1 h2 h3 h4)) ?_
 rintro _ k1 ⟨Y1,rfl⟩
 have X1:Ext H0 k1:=(X0.new _).trans Y1
 have dt:decide (∀p ∈ [(n1,d1),(n2,d2)],okS p.1 p.2)=true:=decide_eq_true (by
  intro p hp
  simp at hp
  rcases hp with rfl|rfl
  ·exact ok1
  ·exact ok2)
 rw[dt]
 have L2:=(psh g1).2.2
 simp -dsimp (maxSteps:=1000000) (disch:=first|omega|(simp only[new_n,put_n];omega)|decide +kernel|(repeat first|rw[new_n]|rw[put_n])) only[wpS,wpT,Nat.reduceEqDiff]
 refine drawn [(3,[2])] (by kernel_rfl) (by kernel_rfl) rfl ?_
 simp -dsimp (maxSteps:=1000000) (disch:=first|omega|(simp only[new_n,put_n];omega)|decide +kernel|(repeat first|rw[new_n]|rw[put_n])) only[wpS,Nat.reduceEqDiff,Nat.reduceLeDiff,ld30,row_of (X1.kept (by omega) g0),shC_len,sh_take]
 refine call (shread_ok n1 d1 h1 h2) ?_
 rintro v k2 ⟨Y2,p2⟩
 have X2:=X1.trans Y2
 simp -dsimp (maxSteps:=1000000) (disch:=first|omega|(simp only[new_n,put_n];omega)|decide +kernel|(repeat first|rw[new_n]|rw[put_n])) only[wpS,Nat.reduceEqDiff,Nat.reduceLeDiff,ld30,row_of (X2.kept (by omega) g1),shC_len,sh_take]
 refine call (shread_ok n2 d2 h3 h4) ?_
 rintro w k3 ⟨Y3,p3⟩
 have X3:=X2.trans Y3
 simp -dsimp (maxSteps:=1000000) (disch:=first|omega|(simp only[new_n,put_n];omega)|decide +kernel|(repeat first|rw[new_n]|rw[put_n])) only[wpS,Nat.reduceEqDiff]
 refine call (op k3 v w (PRat.keep (p2.rat ok1) Y3.keep) (p3.rat ok2)) ?_
 rintro x k4 ⟨Y4,p4⟩
 have X4:=X3.trans Y4
 have m1:=X4.n
 obtain⟨a1,s1,b1,t1,rfl,hn1,hd1,c1,o1,c2,o2,o3,o4⟩:=p4.parts
 have kg:=X4.kept (by omega) g2
 simp -dsimp (maxSteps:=1000000) (disch:=first|omega|(simp only[new_n,put_n];omega)|decide +kernel|(repeat first|rw[new_n]|rw[put_n])) only[wpS,wpT,Nat.reduceEqDiff,Nat.reduceLeDiff,Nat.reduceAdd,st83,kg,o1,o2,o3,o4]
 refine⟨by repeat' first|refine wpSteady_c2 ?_ ?_|refine wpSteady_t2 ?_ ?_|exact wpSteady_one rfl rfl rfl rfl (steady_ext (H0:=H0) rfl (by omega) (by assumption) (by assumption) (by with_reducible assumption)),?_⟩
 simp -dsimp (maxSteps:=1000000) (disch:=first|omega|(simp only[new_n,put_n];omega)|decide +kernel|(repeat first|rw[new_n]|rw[put_n])) only[wpS,wpT,Nat.reduceEqDiff,Nat.reduceLeDiff,Nat.reduceAdd,ld83,tk4']
 have kp:=(Keep.refl k4).put kg (.cells [a1,s1,b1,t1] 0 none)
 exact⟨(E0.trans X4).put (by omega) _,_,rfl,p4.keep kp⟩
set_option maxHeartbeats 2000000 in
theorem itwo_ok {h:IH} {n1 d1 n2 d2:Nat} {fv:Value} {z:Int} (h1:n1<W8) (h2:d1<W8) (h3:n2<W8) (h4:d2<W8) (ok1:okS n1 d1) (ok2:okS n2 d2)
  (op : ∀(h':IH) (v w:Value),PRat h' v (rOf (n1,d1))→PRat h' w (rOf (n2,d2))→WV Proofs.Tryz.prog fv [v,w] h' fun r h''=>Ext h' h''∧r=KI z) :
  WV Proofs.Tryz.prog (.func (.func 86) #[] #[]) [shV n1 d1,shV n2 d2,fv] h fun r h'=>Ext h h'∧r=.tuple #[KI z,KI 0]:=by
 refine enter (nt:=21) (rs:=[.tmp 6,.tmp 7]) Proofs.Tryz.func86 rfl rfl rfl (by simp) ?_
 simp -dsimp (maxSteps:=1000000) (disch:=first|omega|(simp only[new_n,put_n];omega)|decide +kernel|(repeat first|rw[new_n]|rw[put_n])) only[wpS,Nat.reduceEqDiff,Nat.reduceAdd,ld30,shV_cells]
 obtain⟨H0,hH0,n0,E0,g0,g1⟩:=boxes2 h (shC n1 d1) (shC n2 d2)
 rw[←hH0]
 clear hH0
 have X0:=Ext.refl H0
 have bb : ∀hx:IH,buildSlice Proofs.Tryz.prog hx 25 2 [(0,.agg (shC n1 d1).toArray),(1,.agg (shC n2 d2).toArray)]=some (.slice (some ⟨2*hx.n,0,none⟩) 2 5,hx.new (.cells (shL [(n1,d1),(n2,d2)]) 16 none)):=fun hx=>build2 n1 d1 n2 d2
 simp -dsimp (maxSteps:=1000000) (disch:=first|omega|(simp only[new_n,put_n];omega)|decide +kernel|(repeat first|rw[new_n]|rw[put_n])) only[wpS,Nat.reduceEqDiff,Nat.reduceLeDiff,ld30,row_of g1,shC_len,sh_take,bb]
 refine call (shvalid_ok (two_sl h1 h2 h3 h4)) ?_
 rintro _ k1 ⟨Y1,rfl⟩
 have X1:Ext H0 k1:=(X0.new _).trans Y1
 have dt:decide (∀p ∈ [(n1,d1),(n2,d2)],okS p.1 p.2)=true:=decide_eq_true (by
  intro p hp
  simp at hp
  rcases hp with rfl|rfl
  ·exact ok1
  ·exact ok2)
 rw[dt]
 have L2:=(psh g1).2.2
 simp -dsimp (maxSteps:=1000000) (disch:=first|omega|(simp only[new_n,put_n];omega)|decide +kernel|(repeat first|rw[new_n]|rw[put_n])) only[wpS,wpT,Nat.reduceEqDiff]
 refine drawn [(3,[2])] (by kernel_rfl) (by kernel_rfl) rfl ?_
 simp -dsimp (maxSteps:=1000000) (disch:=first|omega|(simp only[new_n,put_n];omega)|decide +kernel|(repeat first|rw[new_n]|rw[put_n])) only[wpS,Nat.reduceEqDiff,Nat.reduceLeDiff,ld30,row_of (X1.kept (by omega) g0),shC_len,sh_take]
 refine call (shread_ok n1 d1 h1 h2) ?_
 rintro v k2 ⟨Y2,p2⟩
 have X2:=X1.trans Y2
 simp -dsimp (maxSteps:=1000000) (disch:=first|omega|(simp only[new_n,put_n];omega)|decide +kernel|(repeat first|rw[new_n]|rw[put_n])) only[wpS,Nat.reduceEqDiff,Nat.reduceLeDiff,ld30,row_of (X2.kept (by omega) g1),shC_len,sh_take]
 refine call (shread_ok n2 d2 h3 h4) ?_
 rintro w k3 ⟨Y3,p3⟩
 have X3:=X2.trans Y3
 simp -dsimp (maxSteps:=1000000) (disch:=first|omega|(simp only[new_n,put_n];omega)|decide +kernel|(repeat first|rw[new_n]|rw[put_n])) only[wpS,Nat.reduceEqDiff]
 refine call (op k3 v w (PRat.keep (p2.rat ok1) Y3.keep) (p3.rat ok2)) ?_
 rintro _ k4 ⟨Y4,rfl⟩
 have X4:=X3.trans Y4
 simp -dsimp (maxSteps:=1000000) (disch:=first|omega|(simp only[new_n,put_n];omega)|decide +kernel|(repeat first|rw[new_n]|rw[put_n])) only[wpS,Nat.reduceEqDiff]
 refine⟨by repeat' first|refine wpSteady_c2 ?_ ?_|refine wpSteady_t2 ?_ ?_|exact wpSteady_one rfl rfl rfl rfl (steady_ext (H0:=H0) rfl (by omega) (by assumption) (by assumption) (by with_reducible assumption)),?_⟩
 simp -dsimp (maxSteps:=1000000) (disch:=first|omega|(simp only[new_n,put_n];omega)|decide +kernel|(repeat first|rw[new_n]|rw[put_n])) only[wpS,wpT,Nat.reduceEqDiff,Nat.reduceAdd]
 exact E0.trans X4
set_option maxHeartbeats 2000000 in
theorem shtold_ok {h:IH} {v:Value} {q:Rat} (hv:PRat h v q):WV Proofs.Tryz.prog (.func (.func 89) #[] #[]) [v,KI 0] h fun r h'=>Ext h h'∧r=toldV q:=by
 obtain⟨a1,s1,b1,t1,rfl,hn1,hd1,c1,o1,c2,o2,o3,o4⟩:=hv.parts
 obtain⟨n,d,e,ht⟩:=toldV_form q
 refine enter (nt:=14) (rs:=[.cell 4 30,.tmp 5]) Proofs.Tryz.func89 rfl rfl rfl (by simp) ?_
 simp -dsimp (maxSteps:=1000000) (disch:=first|omega|(simp only[new_n,put_n];omega)|decide +kernel|(repeat first|rw[new_n]|rw[put_n])) only[wpS,wpT,Nat.reduceEqDiff,Nat.reduceLeDiff,Nat.reduceAdd,zc30,ld83]
 obtain⟨H0,hH0,n0,E0,g0,g1⟩:=boxes2 h [a1,s1,b1,t1] Z16
 rw[←hH0]
 clear hH0
 simp -dsimp (maxSteps:=1000000) (disch:=first|omega|(simp only[new_n,put_n];omega)|decide +kernel|(repeat first|rw[new_n]|rw[put_n])) only[tk4']
 refine call (rtold_ok (hv.keep E0.keep)) ?_
 rintro _ h1 ⟨X1,rfl⟩
 have hT:(open Classical in if QW q then Value.tuple #[shareV q,KI 0] else .tuple #[shV 0 0,KI 6])=.tuple #[shV n d,KI e]:=ht
 rw[hT,ht]
 have m1:=X1.n
 have kg:=X1.kept (by omega) g1
 simp -dsimp (maxSteps:=1000000) (disch:=first|omega|(simp only[new_n,put_n];omega)|decide +kernel|(repeat first|rw[new_n]|rw[put_n])) only[wpS,wpT,Nat.reduceEqDiff,Nat.reduceLeDiff,Nat.reduceAdd,st30,ld30,kg,shV_cells,shC_len,shC_all,sh_sp3,sh_take]
 exact⟨(E0.trans X1).put (by omega) _,rfl⟩
set_option maxHeartbeats 2000000 in
theorem shcmp_ok {h:IH} {p1 p2:Nat×Nat} (h1:p1.1<W8∧p1.2<W8) (h2:p2.1<W8∧p2.2<W8) (ok1:okS p1.1 p1.2) (ok2:okS p2.1 p2.2):WV Proofs.Tryz.prog (.func (.func 34) #[] #[]) [shV p1.1 p1.2,shV p2.1 p2.2] h fun r h'=>Ext h h'∧r=.tuple #[KI (if rOf p1<rOf p2 then -1 else if rOf p1=rOf p2 then 0 else 1),KI 0]:=by
 have q1:=qb512 (p:=p1) h1.1 h1.2 ok1
 have q2:=qb512 (p:=p2) h2.1 h2.2 ok2
 refine enter (nt:=11) (rs:=[.tmp 4,.tmp 5]) Proofs.Tryz.func34 rfl rfl rfl (by simp) ?_
 simp -dsimp (maxSteps:=1000000) (disch:=first|omega|(simp only[new_n,put_n];omega)|decide +kernel|(repeat first|rw[new_n]|rw[put_n])) only[wpS,Nat.reduceEqDiff,Nat.reduceAdd,ld30,shV_cells]
 obtain⟨H0,hH0,n0,E0,g0,g1⟩:=boxes2 h (shC p1.1 p1.2) (shC p2.1 p2.2)
 rw[←hH0]
 clear hH0
 simp -dsimp (maxSteps:=1000000) (disch:=first|omega|(simp only[new_n,put_n];omega)|decide +kernel|(repeat first|rw[new_n]|rw[put_n])) only[wpS,Nat.reduceEqDiff,Nat.reduceLeDiff,ld30,row_of g1,shC_len,sh_take]
 refine call (itwo_ok h1.1 h1.2 h2.1 h2.2 ok1 ok2 (fun h' v w a b=>rcmp_ok a b q1 q2 (by omega))) ?_
 rintro _ k1 ⟨X1,rfl⟩
 simp -dsimp (maxSteps:=1000000) (disch:=first|omega|(simp only[new_n,put_n];omega)|decide +kernel|(repeat first|rw[new_n]|rw[put_n])) only[wpS,wpT,Nat.reduceEqDiff]
 exact E0.trans X1
theorem rlesser_ok {h:IH} {v w:Value} {x y:Rat} {a b:Nat} (hv:PRat h v x) (hw:PRat h w y) (qx:QB a x) (qy:QB b y) (hk:a+b<16000000):WV Proofs.Tryz.prog (.func (.func 133) #[] #[]) [v,w] h fun r h'=>Ext h h'∧PRat h' r (if x≤y then x else y):=by
 obtain⟨a1,s1,b1,t1,rfl,hn1,hd1,c1,o1,c2,o2,o3,o4⟩:=hv.parts
 obtain⟨a2,s2,b2,t2,rfl,hn2,hd2,c5,o5,c6,o6,o7,o8⟩:=hw.parts
 refine enter (nt:=11) (rs:=[.cell 4 83]) Proofs.Tryz.func133 rfl rfl rfl (by simp) ?_
 simp -dsimp (maxSteps:=1000000) (disch:=first|omega|(simp only[new_n,put_n];omega)|decide +kernel|(repeat first|rw[new_n]|rw[put_n])) only[wpS,wpT,Nat.reduceEqDiff,Nat.reduceLeDiff,Nat.reduceAdd,zc83,ld83]
 obtain⟨H0,hH0,n0,E0,g0,g1,g2⟩:=boxes3 h [a1,s1,b1,t1] [a2,s2,b2,t2] ZR
 rw[←hH0]
 clear hH0
 simp -dsimp (maxSteps:=1000000) (disch:=first|omega|(simp only[new_n,put_n];omega)|decide +kernel|(repeat first|rw[new_n]|rw[put_n])) only[tk4']
 refine call (rcmp_ok (hv.keep E0.keep) (hw.keep E0.keep) qx qy hk) ?_
 rintro _ h1 ⟨X1,rfl⟩
 have m1:=X1.n
 have kg:=X1.kept (by omega) g2
 have XE:=(E0.trans X1).keep
 by_cases hxy:x≤y
 ·have d1:decide ((if x<y then (-1:Int) else if x=y then 0 else 1)≤0)=true:=decide_eq_true (by
   split
   ·omega
   ·split
    ·omega
    ·rename_i h1 h2
     exact absurd (Rat.le_antisymm hxy (Rat.not_lt.1 h1)) h2)
  rw[if_pos hxy]
  simp -dsimp (maxSteps:=1000000) (disch:=first|omega|(simp only[new_n,put_n];omega)|decide +kernel|(repeat first|rw[new_n]|rw[put_n])) only[wpS,wpT,Nat.reduceEqDiff,Nat.reduceLeDiff,Nat.reduceAdd,ld83,st83,d1,row_of (X1.kept (by omega) g0),kg,tk4',o1,o2,o3,o4]
  have kp:=(Keep.refl h1).put kg (.cells [a1,s1,b1,t1] 0 none)
  exact⟨(E0.trans X1).put (by omega) _,PRat.keep (hv.keep XE) kp⟩
 ·have d1:decide ((if x<y then (-1:Int) else if x=y then 0 else 1)≤0)=false:=decide_eq_false (by
   rw[if_neg (fun h=>hxy (Rat.le_of_lt h)),if_neg (fun h=>hxy (by rw[h];exact Rat.le_refl))]
   omega)
  rw[if_neg hxy]
  simp -dsimp (maxSteps:=1000000) (disch:=first|omega|(simp only[new_n,put_n];omega)|decide +kernel|(repeat first|rw[new_n]|rw[put_n])) only[wpS,wpT,Nat.reduceEqDiff,Nat.reduceLeDiff,Nat.reduceAdd,ld83,st83,d1,row_of (X1.kept (by omega) g1),kg,tk4',o5,o6,o7,o8]
  have kp:=(Keep.refl h1).put kg (.cells [a2,s2,b2,t2] 0 none)
  exact⟨(E0.trans X1).put (by omega) _,PRat.keep (hw.keep XE) kp⟩
set_option maxHeartbeats 2000000 in
theorem rgreater_ok {h:IH} {v w:Value} {x y:Rat} {a b:Nat} (hv:PRat h v x) (hw:PRat h w y) (qx:QB a x) (qy:QB b y) (hk:a+b<16000000):WV Proofs.Tryz.prog (.func (.func 94) #[] #[]) [v,w] h fun r h'=>Ext h h'∧PRat h' r (-(if -x ≤ -y then -x else -y)):=by
 obtain⟨a1,s1,b1,t1,rfl,hn1,hd1,c1,o1,c2,o2,o3,o4⟩:=hv.parts
 obtain⟨a2,s2,b2,t2,rfl,hn2,hd2,c5,o5,c6,o6,o7,o8⟩:=hw.parts
 refine enter (nt:=11) (rs:=[.cell 4 83]) Proofs.Tryz.func94 rfl rfl rfl (by simp) ?_
 simp -dsimp (disch:=omega) only[wpS,Nat.reduceEqDiff,Nat.reduceAdd,zc83]
 obtain⟨H0,hH0,n0,E0,g0,g1,g2⟩:=boxes3 h [a1,s1,b1,t1] [a2,s2,b2,t2] ZR
 rw[←hH0]
 clear hH0
 have X0:=Ext.refl H0
 have L2:=(pl4 g1).2.2
 refine drawn [(2,[1])] (by kernel_rfl) (by kernel_rfl) rfl ?_
 simp -dsimp (disch:=omega) only[wpS,wpT,Nat.reduceEqDiff,Nat.reduceLeDiff,Nat.reduceAdd,ld83,row_of g0,tk4']
 refine call (rturned_ok (hv.keep E0.keep)) ?_
 rintro r1 k1 ⟨X1,p1⟩
 simp -dsimp (disch:=omega) only[wpS,wpT,Nat.reduceEqDiff,Nat.reduceLeDiff,Nat.reduceAdd,ld83,row_of (X1.kept (by omega) g1),tk4']
 refine call (rturned_ok (hw.keep (E0.trans X1).keep)) ?_
 rintro r2 k2 ⟨Y2,p2⟩
 have X2:=X1.trans Y2
 simp -dsimp (disch:=omega) only[wpS,Nat.reduceEqDiff]
 refine call (rlesser_ok (p1.keep Y2.keep) p2 qx.neg qy.neg hk) ?_
 rintro r3 k3 ⟨Y3,p3⟩
 have X3:=X2.trans Y3
 simp -dsimp (disch:=omega) only[wpS,Nat.reduceEqDiff]
 refine call (rturned_ok p3) ?_
 rintro r4 k4 ⟨Y4,p4⟩
 have X4:=X3.trans Y4
 have m4:=X4.n
 obtain⟨a9,s9,b9,t9,rfl,hn9,hd9,c9,o9,c10,o10,o11,o12⟩:=p4.parts
 have kg:=X4.kept (by omega) g2
 simp -dsimp (disch:=omega) only[wpS,wpT,Nat.reduceEqDiff,Nat.reduceLeDiff,Nat.reduceAdd,st83,kg,o9,o10,o11,o12]
 refine⟨by repeat' first|refine wpSteady_c2 ?_ ?_|refine wpSteady_t2 ?_ ?_|exact wpSteady_one rfl rfl rfl rfl (steady_ext (H0:=H0) rfl (by omega) (by assumption) (by assumption) (by with_reducible assumption)),?_⟩
 simp -dsimp (disch:=omega) only[wpS,wpT,Nat.reduceEqDiff,Nat.reduceLeDiff,Nat.reduceAdd,ld83,tk4']
 have kp:=(Keep.refl k4).put kg (.cells [a9,s9,b9,t9] 0 none)
 exact⟨(E0.trans X4).put (by omega) _,p4.keep kp⟩
def qabs (x:Rat):Rat:=if x ≤ -x then -x else x
set_option maxHeartbeats 2000000 in
theorem shabs1_ok {h:IH} {v w:Value} {x y:Rat} {a:Nat} (hv:PRat h v x) (hw:PRat h w y) (qx:QB a x) (hk:a+a<16000000):WV Proofs.Tryz.prog (.func (.func 93) #[] #[]) [v,w] h fun r h'=>Ext h h'∧PRat h' r (qabs x):=by
 obtain⟨a1,s1,b1,t1,rfl,hn1,hd1,c1,o1,c2,o2,o3,o4⟩:=hv.parts
 obtain⟨a2,s2,b2,t2,rfl,hn2,hd2,c5,o5,c6,o6,o7,o8⟩:=hw.parts
 refine enter (nt:=9) (rs:=[.cell 4 83]) Proofs.Tryz.func93 rfl rfl rfl (by simp) ?_
 simp -dsimp (disch:=omega) only[wpS,Nat.reduceEqDiff,Nat.reduceAdd,zc83]
 obtain⟨H0,hH0,n0,E0,g0,g1,g2⟩:=boxes3 h [a1,s1,b1,t1] [a2,s2,b2,t2] ZR
 rw[←hH0]
 clear hH0
 have X0:=Ext.refl H0
 have L2:=(pl4 g0).2.2
 refine drawn [(0,[3])] (by kernel_rfl) (by kernel_rfl) rfl ?_
 simp -dsimp (disch:=omega) only[wpS,wpT,Nat.reduceEqDiff,Nat.reduceLeDiff,Nat.reduceAdd,ld83,row_of g0,tk4']
 refine call (rturned_ok (hv.keep E0.keep)) ?_
 rintro r1 k1 ⟨X1,p1⟩
 simp -dsimp (disch:=omega) only[wpS,Nat.reduceEqDiff]
 refine call (rgreater_ok (hv.keep (E0.trans X1).keep) p1 qx qx.neg hk) ?_
 rintro r4 k4 ⟨Y4,p4⟩
 have X4:=X1.trans Y4
 have m4:=X4.n
 have e : -(if -x ≤ - -x then -x else - -x)=qabs x:=by
  unfold qabs
  rw[Rat.neg_neg]
  by_cases c:x ≤ -x
  ·by_cases c2 : -x≤x
   ·have:x = -x:=Rat.le_antisymm c c2
    rw[if_pos c2,if_pos c];grind
   ·rw[if_neg c2,if_pos c]
  ·have c2 : -x≤x:=Rat.le_of_lt (Rat.not_le.1 c)
   rw[if_pos c2,if_neg c];grind
 rw[e] at p4
 obtain⟨a9,s9,b9,t9,rfl,hn9,hd9,c9,o9,c10,o10,o11,o12⟩:=p4.parts
 have kg:=X4.kept (by omega) g2
 simp -dsimp (disch:=omega) only[wpS,wpT,Nat.reduceEqDiff,Nat.reduceLeDiff,Nat.reduceAdd,st83,kg,o9,o10,o11,o12]
 refine⟨by repeat' first|refine wpSteady_c2 ?_ ?_|refine wpSteady_t2 ?_ ?_|exact wpSteady_one rfl rfl rfl rfl (steady_ext (H0:=H0) rfl (by omega) (by assumption) (by assumption) (by with_reducible assumption)),?_⟩
 simp -dsimp (disch:=omega) only[wpS,wpT,Nat.reduceEqDiff,Nat.reduceLeDiff,Nat.reduceAdd,ld83,tk4']
 have kp:=(Keep.refl k4).put kg (.cells [a9,s9,b9,t9] 0 none)
 exact⟨(E0.trans X4).put (by omega) _,p4.keep kp⟩
set_option maxHeartbeats 2000000 in
theorem shabs_ok {h:IH} {p1:Nat×Nat} (h1:p1.1<W8∧p1.2<W8) (ok1:okS p1.1 p1.2):WV Proofs.Tryz.prog (.func (.func 43) #[] #[]) [shV p1.1 p1.2] h fun r h'=>Ext h h'∧r=toldV (qabs (rOf p1)):=by
 have q1:=qb512 (p:=p1) h1.1 h1.2 ok1
 obtain⟨n,d,e,ht⟩:=toldV_form (qabs (rOf p1))
 refine enter (nt:=12) (rs:=[.cell 2 30,.tmp 3]) Proofs.Tryz.func43 rfl rfl rfl (by simp) ?_
 simp -dsimp (disch:=omega) only[wpS,Nat.reduceEqDiff,zc30,ld30,shV_cells]
 obtain⟨H0,hH0,n0,E0,g0,g2⟩:=boxes2 h (shC p1.1 p1.2) Z16
 rw[←hH0]
 clear hH0
 simp -dsimp (disch:=omega) only[wpS,Nat.reduceEqDiff,Nat.reduceLeDiff,ld30,row_of g0,shC_len,sh_take]
 refine call (rtwo_ok (q:=qabs (rOf p1)) h1.1 h1.2 h1.1 h1.2 ok1 ok1 (fun h' v w a b=>shabs1_ok a b q1 (by omega))) ?_
 rintro _ k1 ⟨X1,x,rfl,px⟩
 simp -dsimp (disch:=omega) only[wpS,Nat.reduceEqDiff]
 refine call (shtold_ok px) ?_
 rintro _ k2 ⟨X2,rfl⟩
 rw[ht]
 have X12:=X1.trans X2
 have m1:=X12.n
 have kg:=X12.kept (by omega) g2
 simp -dsimp (disch:=omega) only[wpS,wpT,Nat.reduceEqDiff,Nat.reduceLeDiff,Nat.reduceAdd,ld30,st30,kg,shV_cells,shC_len,shC_all,sh_sp3,sh_take]
 exact⟨(E0.trans X12).put (by omega) _,rfl⟩
end Go.Id

/-! The statement DiagnoseChains, on the ideal machine. -/
namespace Go.Id
open Go
noncomputable def partC (i:Nat):Code:=nthC (Proofs.Tryz.f5.body.getD .skip) i
theorem box_put (h:IH) (p:Nat×Nat) : ∃H0,H0=(h.new (.cells Z16 0 none)).put h.n (.cells (shC p.1 p.2) 0 none)∧H0.n=h.n+1∧Ext h H0∧H0.ext.get h.n=some (.cells (shC p.1 p.2) 0 none):=by
 refine⟨_,rfl,rfl,((Ext.refl h).new _).put (by omega) _,?_⟩
 simp (disch:=first|omega|(simp only[new_n,put_n];omega)|(repeat first|rw[new_n]|rw[put_n])) only[get_put_same]
structure CX (h hh:IH) (fr:Fr) (v w:Value) (lag:Int) (most:Bool):Prop where
 e:Ext h hh
 f0:fget fr 0=some v
 f1:fget fr 1=some w
 f2:fget fr 2=some (KI lag)
 f3:fget fr 3=some (.bool most)
section
variable {h hh:IH} {fr:Fr} {Q:IExit→Fr→IH→Prop} {v w:Value} {n:Nat} {lag:Int} {most:Bool} {l0:List (Nat×Nat)}
set_option maxHeartbeats 2000000 in
theorem c0 (s:CX h hh fr v w lag most):Do (wpC Proofs.Tryz.prog 5 115 none (partC 0) fr hh) (seqK (fun fr h'=>Pst (CX h h' fr v w lag most) nx) Q) nx:=by
 show Do (wpC _ _ _ _ (.region _ _ _) fr hh) _ _
 simp -dsimp (disch:=omega) only[wpS]
 exact⟨s.e,by simp[s.f0],by simp[s.f1],by simp[s.f2],by simp[s.f3]⟩
set_option maxHeartbeats 2000000 in
theorem c1 (s:CX h hh fr v w lag most):Do (wpC Proofs.Tryz.prog 5 115 none (partC 1) fr hh) (seqK (fun fr h'=>Pst (CX h h' fr v w lag most) nx) Q) nx:=by
 show Do (wpC _ _ _ _ (.seq _ _) fr hh) _ _
 simp -dsimp (disch:=omega) only[wpS]
 refine call dgworks_ok ?_
 rintro _ h1 ⟨X1,rfl⟩
 simp -dsimp (disch:=omega) only[wpS,wpT,Nat.reduceEqDiff]
 exact⟨s.e.trans X1,by simp[s.f0],by simp[s.f1],by simp[s.f2],by simp[s.f3]⟩
set_option maxHeartbeats 2000000 in
theorem c2 (hv:ShArg h v l0) (hw:DrSl h w n) (s:CX h hh fr v w lag most):Do (wpC Proofs.Tryz.prog 5 115 none (partC 2) fr hh) (seqK (fun fr h'=>Pst (CX h h' fr v w lag most ∧ ∃hb w1 w2 x1 x2,ShSl hb w1 x1∧ShSl hb w2 x2∧x1.length≤3∧x2.length≤12∧h'=hb.new (.cells [w1,w2] 1 none)∧fget fr 9=some (.slice (some ⟨2*hb.n,0,none⟩) 2 5)) nx) Q) nx:=by
 show Do (wpC _ _ _ _ (.region _ _ _) fr hh) _ _
 simp -dsimp (disch:=omega) only[wpS,s.f0]
 refine call (light_ok (hv.keep s.e.keep)) ?_
 rintro w1 h1 ⟨X1,l1,s1,hl1,hn1⟩
 simp -dsimp (disch:=omega) only[wpS,Nat.reduceEqDiff,s.f1]
 refine call (shorts_ok (hw.keep (s.e.trans X1).keep)) ?_
 rintro w2 h2 ⟨X2,l2,s2,hl2,hsh2,hn2⟩
 simp -dsimp (disch:=omega) only[wpS,wpT,Nat.reduceEqDiff,Nat.reduceLeDiff,Nat.reduceAdd,Nat.reduceMul,bs22,s1.1.cells,s2.1.cells]
 exact⟨⟨((s.e.trans X1).trans X2).new _,by simp[s.f0],by simp[s.f1],by simp[s.f2],by simp[s.f3]⟩,h2,w1,w2,l1,l2,s1.keep X2.keep,s2,hl1,by omega,rfl,rfl⟩
end
end Go.Id

/-! Contracts: share.Sum. -/
namespace Go.Id
open Go
end Go.Id

/-! DiagnoseSums: what the law needs of numbers (no program in sight). -/
namespace Go.Id
open Go
def Sm (m:Nat) (f:Nat→Rat):Rat:=qsum ((List.range m).map f)
theorem Sm_zero (f:Nat→Rat):Sm 0 f=0:=rfl
theorem Sm_succ (m:Nat) (f:Nat→Rat):Sm (m+1) f=Sm m f+f m:=by
 unfold Sm
 rw[List.range_succ,List.map_append,qsum_app,List.map_cons,List.map_nil,qsum_cons,qsum_nil]
 grind
theorem Sm_add (f g:Nat→Rat) : ∀m,Sm m (fun t=>f t+g t)=Sm m f+Sm m g
 | 0=>by rw[Sm_zero,Sm_zero,Sm_zero];grind
 | m+1=>by rw[Sm_succ,Sm_succ,Sm_succ,Sm_add f g m];grind
theorem Sm_mul (c:Rat) (f:Nat→Rat) : ∀m,Sm m (fun t=>c*f t)=c*Sm m f
 | 0=>by rw[Sm_zero,Sm_zero];grind
 | m+1=>by rw[Sm_succ,Sm_succ,Sm_mul c f m];grind
theorem Sm_le {f g:Nat→Rat} : ∀{m:Nat},(∀t,t<m→f t≤g t)→Sm m f≤Sm m g
 | 0,_=>Rat.le_refl
 | m+1,h=>by
  rw[Sm_succ,Sm_succ]
  have h1:=Sm_le (m:=m) (f:=f) (g:=g) fun t ht=>h t (by omega)
  have h2:=h m (by omega)
  grind
theorem Sm_ge {f:Nat→Rat} : ∀{m:Nat},(∀t,t<m→0≤f t)→0≤Sm m f
 | 0,_=>Rat.le_refl
 | m+1,h=>by
  rw[Sm_succ]
  exact Rat.add_nonneg (Sm_ge fun t ht=>h t (by omega)) (h m (by omega))
theorem Sm_split (f:Nat→Rat) (a:Nat) : ∀b,Sm (a+b) f=Sm a f+Sm b (fun t=>f (t+a))
 | 0=>by rw[Sm_zero];grind
 | b+1=>by
  rw[←Nat.add_assoc,Sm_succ,Sm_split f a b,Sm_succ,Nat.add_comm b a]
  grind
def dv (l:List Rat) (t:Nat):Rat:=l.getD t 0 - qmean l
theorem qauto_dv (l:List Rat) (k:Nat):qauto l (qmean l) k=Sm (l.length - k) (fun t=>dv l t*dv l (t+k)) / qlen l:=rfl
theorem qabs_le {x y:Rat} (h1:x≤y) (h2 : -x≤y):qabs x≤y:=by
 unfold qabs;split<;>assumption
theorem qauto_le {l:List Rat} (h0:l ≠ []) (k:Nat) (hk:k≤l.length):qabs (qauto l (qmean l) k)≤qauto l (qmean l) 0:=by
 have hl:0<l.length:=List.length_pos_iff.2 h0
 have hn:(0:Rat)<((l.length:Int):Rat):=by
  have:=Rat.intCast_pos.2 (show(0:Int)<(l.length:Int) by omega)
  exact this
 obtain⟨m,hm⟩ : ∃m,l.length=k+m:=⟨l.length - k,by omega⟩
 have q0:Sm (l.length - 0) (fun t=>dv l t*dv l (t+0))=Sm l.length (fun t=>dv l t*dv l t):=rfl
 obtain⟨W,hW⟩ : ∃W,W=Sm l.length (fun t=>dv l t*dv l t):=⟨_,rfl⟩
 have a1:Sm (l.length - k) (fun t=>dv l t*dv l t)≤W:=by
  rw[hW]
  have:=Sm_split (fun t=>dv l t*dv l t) (l.length - k) k
  rw[show l.length - k+k=l.length from by omega] at this
  rw[this]
  have:=Sm_ge (m:=k) (f:=fun t=>(fun t=>dv l t*dv l t) (t+(l.length - k))) fun t _=>sqr_ge _
  grind
 have a2:Sm (l.length - k) (fun t=>dv l (t+k)*dv l (t+k))≤W:=by
  rw[hW]
  have:=Sm_split (fun t=>dv l t*dv l t) k (l.length - k)
  rw[show k+(l.length - k)=l.length from by omega] at this
  rw[this]
  have:=Sm_ge (m:=k) (f:=fun t=>dv l t*dv l t) fun t _=>sqr_ge _
  grind
 have b1:Sm (l.length - k) (fun t=>2*(dv l t*dv l (t+k)))≤Sm (l.length - k) (fun t=>dv l t*dv l t+dv l (t+k)*dv l (t+k)):=Sm_le fun t _=>by
  have:=sqr_ge (dv l t - dv l (t+k))
  grind
 have b2:Sm (l.length - k) (fun t => -2*(dv l t*dv l (t+k)))≤Sm (l.length - k) (fun t=>dv l t*dv l t+dv l (t+k)*dv l (t+k)):=Sm_le fun t _=>by
  have:=sqr_ge (dv l t+dv l (t+k))
  grind
 rw[Sm_add,Sm_mul] at b1 b2
 rw[qauto_dv,qauto_dv,q0,←hW]
 obtain⟨V,hV⟩ : ∃V,V=Sm (l.length - k) (fun t=>dv l t*dv l (t+k)):=⟨_,rfl⟩
 rw[←hV] at b1 b2 ⊢
 unfold qlen
 obtain⟨n,hnn⟩ : ∃n:Rat,n=((l.length:Int):Rat):=⟨_,rfl⟩
 rw[←hnn] at hn ⊢
 refine qabs_le ?_ ?_
 ·rw[Rat.div_def,Rat.div_def]
  exact Rat.mul_le_mul_of_nonneg_right (by grind) (Rat.le_of_lt (Rat.inv_pos.2 hn))
 ·have : -(V / n) = -V / n:=by rw[Rat.div_def,Rat.div_def];grind
  rw[this,Rat.div_def,Rat.div_def]
  exact Rat.mul_le_mul_of_nonneg_right (by grind) (Rat.le_of_lt (Rat.inv_pos.2 hn))
def allAuto (l:List Rat):Nat→List Rat
 | 0 => [qauto l (qmean l) 0]
 | k+1=>allAuto l k ++ [qauto l (qmean l) (k+1),qauto l (qmean l) (k+1)]
theorem allAuto_len (l:List Rat) : ∀k,(allAuto l k).length=2*k+1
 | 0=>rfl
 | k+1=>by rw[allAuto,List.length_append,allAuto_len l k];simp;omega
end Go.Id

/-! The statement DiagnoseParts, on the ideal machine. -/
namespace Go.Id
open Go
structure ShortL (l:List (Nat×Nat)):Prop where
 s : ∀p∈l,isShort p
 n:l.length≤12
 ne:l ≠ []
theorem allOk_of {l:List (Nat×Nat)} (h : ∀p∈l,isShort p):allOk l:=fun p hp=>(h p hp).ok.1
theorem over_of {l:List (Nat×Nat)} (h : ∀p∈l,isShort p) : ∀q∈l.map rOf,Over LC (999*LC) q:=fun q hq=>by
 obtain⟨p,hp,rfl⟩:=List.mem_map.1 hq
 exact(h p hp).ok.2.1
theorem chErr_none {l:List (Nat×Nat)} (h:allOk l) (hn:l.length≤200) (h0:l ≠ []):chErr l=0:=by
 unfold chErr
 have:l.length≠0:=fun e=>h0 (List.length_eq_zero_iff.1 e)
 rw[if_neg (by omega),if_neg (not_not_intro h),if_neg this]
theorem ShortL.err {l:List (Nat×Nat)} (s:ShortL l):chErr l=0:=chErr_none (allOk_of s.s) (by have:=s.n;omega) s.ne
theorem ShortL.pos {l:List (Nat×Nat)} (s:ShortL l):0<l.length:=List.length_pos_iff.2 s.ne
theorem ShortL.mne {l:List (Nat×Nat)} (s:ShortL l):l.map rOf ≠ []:=by simpa using s.ne
theorem qw_mean {l:List Rat} (h : ∀q∈l,Over LC (999*LC) q) (h0:l ≠ []) (hn:l.length≤12):QW (qmean l):=by
 have : ∀n,n≤12→LC*n<H8∧n*(999*LC)<H8:=by decide +kernel
 obtain⟨h1,h2⟩:=this _ hn
 exact(Over.qmean h h0).qw h1 h2
theorem qw_auto {l:List Rat} (h : ∀q∈l,Over LC (999*LC) q) (h0:l ≠ []) (hn:l.length≤12) (k:Nat):QW (qauto l (qmean l) k):=by
 have : ∀n,n≤12→LC*n*(LC*n)*n<H8∧n*((999*LC*n+n*(999*LC))*(999*LC*n+n*(999*LC)))<H8:=by decide +kernel
 obtain⟨h1,h2⟩:=this _ hn
 exact(Over.qauto h h0 k).qw h1 h2
theorem meanRes_told {l:List (Nat×Nat)} (h1:chErr l=0) (h3:QW (qmean (l.map rOf))):meanRes l=.tuple #[shV (shq (qmean (l.map rOf))).1 (shq (qmean (l.map rOf))).2,KI 0]:=meanRes_of h1 rfl h3
theorem autoRes_told {l:List (Nat×Nat)} {lag:Nat} (h1:chErr l=0) (h0:lag<l.length) (h3:QW (qauto (l.map rOf) (qmean (l.map rOf)) lag)):autoRes l (lag:Int)=.tuple #[shV (shq (qauto (l.map rOf) (qmean (l.map rOf)) lag)).1 (shq (qauto (l.map rOf) (qmean (l.map rOf)) lag)).2,KI 0]:=autoRes_of h1 h0 rfl h3
theorem eql_true {p:Nat×Nat} (h:p.1<W8∧p.2<W8) (ox oy:Operand):binop Proofs.Tryz.prog .eql 30 ox oy (.agg (shC p.1 p.2).toArray) (.agg (shC p.1 p.2).toArray)=some (.bool true):=by
 rw[sh_eql h.1 h.2 h.1 h.2];simp
theorem eql_shq {x y:Rat} (hx:QW x) (hy:QW y) (ox oy:Operand):binop Proofs.Tryz.prog .eql 30 ox oy (.agg (shC (shq x).1 (shq x).2).toArray) (.agg (shC (shq y).1 (shq y).2).toArray)=some (.bool (decide (x=y))):=by
 obtain⟨a1,a2⟩:=shq_lt hx
 obtain⟨b1,b2⟩:=shq_lt hy
 rw[sh_eql a1 a2 b1 b2]
 congr 2
 exact decide_eq_decide.2 ⟨fun h=>shq_inj hx hy (Prod.ext h.1 h.2),fun h=>by rw[h];exact⟨rfl,rfl⟩⟩
noncomputable def partP (i:Nat):Code:=nthC (Proofs.Tryz.f4.body.getD .skip) i
structure PX (h hh:IH) (fr:Fr) (sz:Int) (v:Value) (l:List (Nat×Nat)):Prop where
 e:Ext h hh
 f1:fget fr 1=some (.int .u8 sz)
 f5:fget fr 5=some v
 sl:ShSl hh v l
section
variable {h hh:IH} {fr:Fr} {Q:IExit→Fr→IH→Prop} {v w:Value} {n:Nat} {sz:Int} {l:List (Nat×Nat)}
set_option maxHeartbeats 2000000 in
theorem p0 (f0:fget fr 0=some w) (f1:fget fr 1=some (.int .u8 sz)):Do (wpC Proofs.Tryz.prog 4 129 none (partP 0) fr hh) (seqK (fun fr h'=>Pst (h'=hh∧fget fr 0=some w∧fget fr 1=some (.int .u8 sz)) nx) Q) nx:=by
 show Do (wpC _ _ _ _ (.region _ _ _) fr hh) _ _
 simp -dsimp (disch:=omega) only[wpS]
 exact⟨rfl,by simp[f0],by simp[f1]⟩
set_option maxHeartbeats 2000000 in
theorem p1 (f0:fget fr 0=some w) (f1:fget fr 1=some (.int .u8 sz)):Do (wpC Proofs.Tryz.prog 4 129 none (partP 1) fr hh) (seqK (fun fr h'=>Pst (Ext hh h'∧fget fr 0=some w∧fget fr 1=some (.int .u8 sz)) nx) Q) nx:=by
 show Do (wpC _ _ _ _ (.seq _ _) fr hh) _ _
 simp -dsimp (disch:=omega) only[wpS]
 refine call dgworks_ok ?_
 rintro _ h1 ⟨X1,rfl⟩
 simp -dsimp (disch:=omega) only[wpS,wpT,Nat.reduceEqDiff]
 exact⟨X1,by simp[f0],by simp[f1]⟩
set_option maxHeartbeats 2000000 in
theorem p2 (hw:DrSl hh w n) (f0:fget fr 0=some w) (f1:fget fr 1=some (.int .u8 sz)):Do (wpC Proofs.Tryz.prog 4 129 none (partP 2) fr hh) (seqK (fun fr h'=>Pst (∃v l,PX hh h' fr sz v l∧(∀p∈l,isShort p)∧l.length≤12) nx) Q) nx:=by
 show Do (wpC _ _ _ _ (.region _ _ _) fr hh) _ _
 simp -dsimp (disch:=omega) only[wpS,f0]
 refine call (shorts_ok hw) ?_
 rintro w2 h2 ⟨X2,l2,s2,hl2,hsh2,hn2⟩
 simp -dsimp (disch:=omega) only[wpS,Nat.reduceEqDiff]
 exact⟨w2,l2,⟨X2,by simp[f1],by simp,s2⟩,hsh2,by omega⟩
set_option maxHeartbeats 2000000 in
theorem p8 (s:PX h hh fr sz v l) (sh:ShortL l) {k:Nat} (k0:0<k) (kn:k≤l.length) (f6:fget fr 6=some (KN k)) {b9:Nat} (n9:b9<hh.n) (k9:hh.ext.get b9=some (.cells (shC (shq (qmean (bmeans (l.map rOf) k))).1 (shq (qmean (bmeans (l.map rOf) k))).2) 0 none)) (f9:fget fr 9=some (ptr (2*b9) 0)) (f10:fget fr 10=some (KI 0)):Do (wpC Proofs.Tryz.prog 4 129 none (partP 8) fr hh) (seqK (fun fr h'=>Pst (PX h h' fr sz v l∧(b9<h'.n∧h'.ext.get b9=some (.cells (shC (shq (qmean (bmeans (l.map rOf) k))).1 (shq (qmean (bmeans (l.map rOf) k))).2) 0 none)∧fget fr 9=some (ptr (2*b9) 0))∧fget fr 10=some (KI 0)∧(∃b,b<h'.n∧h'.ext.get b=some (.cells (shC (shq (qmean (bmeans (l.map rOf) k))).1 (shq (qmean (bmeans (l.map rOf) k))).2) 0 none)∧fget fr 11=some (ptr (2*b) 0))∧fget fr 12=some (KI 0)) nx) Q) nx:=by
 show Do (wpC _ _ _ _ (.region _ _ _) fr hh) _ _
 have hn:=sh.n
 obtain⟨m,hm⟩ : ∃m:Nat,m=l.length / k*k:=⟨_,rfl⟩
 have hml:m≤l.length:=by rw[hm];exact Nat.div_mul_le_self _ _
 have hm0:0<m:=by rw[hm];exact Nat.mul_pos (Nat.div_pos kn k0) k0
 have e1:(l.length:Int) / (k:Int)=((l.length / k:Nat):Int):=(Int.natCast_ediv _ _).symm
 have e2:((l.length / k:Nat):Int)*(k:Int)=(m:Int):=by rw[hm];simp
 have hq : ∀ox oy,binop Proofs.Tryz.prog .quo 3 ox oy (KN l.length) (KN k)=some (KN (l.length / k)):=fun ox oy=>by
  have h1:l.length / k≤l.length:=Nat.div_le_self _ _
  rw[binop_quo _ _ _ _ (show(k:Int)≠0 by omega),Int.tdiv_eq_ediv_of_nonneg (by omega),e1]
  generalize l.length / k=d at h1 ⊢
  rw[wrap_i64 (by omega)]
 obtain⟨v1,ev,sv⟩:=s.sl.arg.first (Keep.refl hh) hml (by omega)
 have hr:meanRes (l.take m)=.tuple #[shV (shq (qmean (bmeans (l.map rOf) k))).1 (shq (qmean (bmeans (l.map rOf) k))).2,KI 0]:=by
  have hne:l.take m ≠ []:=fun e=>by
   have:=congrArg List.length e
   rw[List.length_take,List.length_nil] at this
   omega
  have hmap:(l.take m).map rOf=(l.map rOf).take m:=List.map_take
  have hq2:qmean ((l.take m).map rOf)=qmean (bmeans (l.map rOf) k):=by
   rw[hmap,qmean_batches k0 (by rw[List.length_map];exact kn),List.length_map,hm]
  have:=meanRes_told (l:=l.take m) (chErr_none (fun p hp=>(sh.s p (List.mem_of_mem_take hp)).ok.1) (by rw[List.length_take];omega) hne) (qw_mean (fun y hy=>by
   rw[hmap] at hy
   exact over_of sh.s y (List.mem_of_mem_take hy)) (by simpa using hne) (by rw[List.length_map,List.length_take];omega))
  rw[hq2] at this
  exact this
 simp -dsimp (disch:=omega) only[wpS,Nat.reduceEqDiff,s.f5,f6,s.sl.1.len sl25,hq,e2,ev]
 refine call (gMean sv) ?_
 rintro _ h1 ⟨X1,rfl⟩
 rw[hr]
 obtain⟨G1,hG1,n1,Z1,k1⟩:=box_put h1 (shq (qmean (bmeans (l.map rOf) k)))
 simp -dsimp (disch:=omega) only[wpS,wpT,Nat.reduceEqDiff,Nat.reduceLeDiff,Nat.reduceAdd,zc30,st30,shV_cells,shC_len,shC_all,sh_sp3]
 rw[←hG1]
 have V:=X1.trans Z1
 have vn:=V.n
 exact⟨⟨s.e.trans V,by simp[s.f1],by simp[s.f5],s.sl.keep V.keep⟩,⟨by omega,V.kept n9 k9,by simp[f9]⟩,by simp[f10],⟨h1.n,by omega,k1,rfl⟩,rfl⟩
structure PY (h hh:IH) (fr:Fr) (sz:Int) (v:Value) (l:List (Nat×Nat)) (q:Rat) (b9 b11:Nat):Prop where
 s:PX h hh fr sz v l
 n9:b9<hh.n
 k9:hh.ext.get b9=some (.cells (shC (shq q).1 (shq q).2) 0 none)
 f9:fget fr 9=some (ptr (2*b9) 0)
 f10:fget fr 10=some (KI 0)
 n11:b11<hh.n
 k11:hh.ext.get b11=some (.cells (shC (shq q).1 (shq q).2) 0 none)
 f11:fget fr 11=some (ptr (2*b11) 0)
 f12:fget fr 12=some (KI 0)
theorem PY.to {h3:IH} {fr3:Fr} {q:Rat} {b9 b11:Nat} (y:PY h hh fr sz v l q b9 b11) (E:Ext hh h3) (g1:fget fr3 1=fget fr 1) (g5:fget fr3 5=fget fr 5) (g9:fget fr3 9=fget fr 9) (g10:fget fr3 10=fget fr 10) (g11:fget fr3 11=fget fr 11) (g12:fget fr3 12=fget fr 12):PY h h3 fr3 sz v l q b9 b11:=by
 have:=E.n
 have:=y.n9
 have:=y.n11
 exact⟨⟨y.s.e.trans E,by rw[g1];exact y.s.f1,by rw[g5];exact y.s.f5,y.s.sl.keep E.keep⟩,by omega,E.kept y.n9 y.k9,by rw[g9];exact y.f9,by rw[g10];exact y.f10,by omega,E.kept y.n11 y.k11,by rw[g11];exact y.f11,by rw[g12];exact y.f12⟩
end
end Go.Id

/-! DiagnoseRatios: what the law needs of numbers (no program in sight). -/
namespace Go.Id
open Go
theorem qauto_sqm (l:List Rat):qauto l (qmean l) 0=qsqm l / qlen l:=by
 unfold qauto qsqm qsq
 rw[qprods_zero]
theorem qsqm_ge (l:List Rat):0≤qsqm l:=by
 unfold qsqm qsq
 refine qsum_ge fun y hy=>?_
 obtain⟨x,_,rfl⟩:=List.mem_map.1 hy
 exact sqr_ge _
theorem qsqm_zero {l:List Rat} (h0:l ≠ []):qsqm l=0 ↔ ∃x,∀q∈l,q=x:=by
 rw[←qauto_zero h0,qauto_sqm]
 have hn:=nat_ne (List.length_pos_iff.2 h0)
 unfold qlen
 constructor
 ·intro h;rw[h];grind
 ·intro h;grind
theorem Over.qsqm {L B:Nat} {l:List Rat} (h : ∀q∈l,Over L B q) (h0:l ≠ []):Over (L*l.length*(L*l.length)) (l.length*((B*l.length+l.length*B)*(B*l.length+l.length*B))) (Id.qsqm l):=by
 have hl:0<l.length:=List.length_pos_iff.2 h0
 have hL:0<L:=by obtain⟨x,hx⟩:=List.exists_mem_of_ne_nil l h0;exact(h x hx).1
 unfold Id.qsqm qsq
 have:=Over.qsum (L:=L*l.length*(L*l.length)) (B:=(B*l.length+l.length*B)*(B*l.length+l.length*B)) (l:=l.map fun x=>(x - Id.qmean l)*(x - Id.qmean l)) (Nat.mul_pos (Nat.mul_pos hL hl) (Nat.mul_pos hL hl)) (by
  intro q hq
  obtain⟨x,hx,rfl⟩:=List.mem_map.1 hq
  have k:=((h x hx).up hl).sub (Over.qmean h h0)
  exact k.mul k)
 rwa [List.length_map] at this
theorem svErr_none {ll:List (List (Nat×Nat))} (h1:2≤ll.length) (h2:ll.length≤8) (h : ∀x∈ll,x.length≤200∧allOk x∧2≤x.length∧x.length=len0 ll):svErr ll=0:=by
 have a1:ll.any (fun x=>decide (200<x.length))=false:=by
  rw[List.any_eq_false]
  intro x hx
  have:=(h x hx).1
  simp;omega
 have a2:ll.any (fun x=>decide (¬allOk x))=false:=by
  rw[List.any_eq_false]
  intro x hx
  have:=(h x hx).2.1
  rw[decide_eq_true_iff]
  exact not_not_intro this
 have a3:ll.any (fun x=>decide (x.length<2∨x.length≠len0 ll))=false:=by
  rw[List.any_eq_false]
  intro x hx
  have:=(h x hx).2.2
  rw[decide_eq_true_iff]
  omega
 unfold svErr
 rw[a1,a2,a3,if_neg (by simp;omega),if_neg (by simp),if_neg (by simp;omega)]
structure TwoC (A B:List (Nat×Nat)) (n:Nat):Prop where
 a : ∀p∈A,isShort p
 b : ∀p∈B,isShort p
 la:A.length=n
 lb:B.length=n
 n2:2≤n
 n6:n≤6
theorem TwoC.err {A B:List (Nat×Nat)} {n:Nat} (t:TwoC A B n):svErr [A,B]=0:=by
 have h1:=t.n2
 have h2:=t.n6
 refine svErr_none (by simp) (by simp) fun x hx=>?_
 have e:len0 [A,B]=n:=t.la
 rw[e]
 simp at hx
 rcases hx with rfl|rfl
 ·exact⟨by rw[t.la];omega,allOk_of t.a,by rw[t.la];omega,t.la⟩
 ·exact⟨by rw[t.lb];omega,allOk_of t.b,by rw[t.lb];omega,t.lb⟩
theorem TwoC.ne {A B:List (Nat×Nat)} {n:Nat} (t:TwoC A B n):A.map rOf ≠ []∧B.map rOf ≠ []:=by
 have h1:=t.n2
 refine⟨fun e=>?_,fun e=>?_⟩<;>have:=congrArg List.length e<;>simp at this<;>subst this
 ·have:=t.la;simp at this;omega
 ·have:=t.lb;simp at this;omega
theorem TwoC.v {A B:List (Nat×Nat)} {n:Nat} (t:TwoC A B n):qmeansV [A,B]=qsqm [qmean (A.map rOf),qmean (B.map rOf)]:=by
 unfold qmeansV qcentres
 have e:((([A,B].length - 1:Nat):Int):Rat)=1:=rfl
 rw[e]
 simp only[List.map_cons,List.map_nil]
 grind
theorem TwoC.vzero {A B:List (Nat×Nat)} {n:Nat} (t:TwoC A B n):qmeansV [A,B]=0↔qmean (A.map rOf)=qmean (B.map rOf):=by
 rw[t.v,qsqm_zero (by simp)]
 constructor
 ·rintro⟨x,h⟩
  exact(h (qmean (A.map rOf)) (by simp)).trans (h (qmean (B.map rOf)) (by simp)).symm
 ·intro e
  refine⟨qmean (A.map rOf),fun q hq=>?_⟩
  simp at hq
  rcases hq with rfl|rfl
  ·rfl
  ·exact e.symm
theorem TwoC.qwV {A B:List (Nat×Nat)} {n:Nat} (t:TwoC A B n):QW (qmeansV [A,B]):=by
 have hd : ∀n,n≤6→LC*n*2*(LC*n*2)<H8∧2*((n*(999*LC)*2+2*(n*(999*LC)))*(n*(999*LC)*2+2*(n*(999*LC))))<H8:=by decide +kernel
 obtain⟨h1,h2⟩:=hd n t.n6
 rw[t.v]
 have oa:=Over.qmean (over_of t.a) t.ne.1
 have ob:=Over.qmean (over_of t.b) t.ne.2
 rw[List.length_map,t.la] at oa
 rw[List.length_map,t.lb] at ob
 exact(Over.qsqm (l:=[qmean (A.map rOf),qmean (B.map rOf)]) (L:=LC*n) (B:=n*(999*LC)) (fun q hq=>by
  simp at hq
  rcases hq with rfl|rfl
  ·exact oa
  ·exact ob) (by simp)).qw h1 h2
theorem qwithin_ge (ll:List (List (Nat×Nat))):0≤qwithin ll:=by
 unfold qwithin
 rw[Rat.div_def]
 refine Rat.mul_nonneg (qsum_ge fun y hy=>?_) ?_
 ·obtain⟨x,_,rfl⟩:=List.mem_map.1 hy
  exact qsqm_ge _
 ·rcases Nat.eq_zero_or_pos (ll.length*(len0 ll - 1)) with h|h
  ·rw[h];decide +kernel
  ·exact Rat.le_of_lt (Rat.inv_pos.2 (Rat.intCast_pos.2 (by omega)))
theorem TwoC.ratio {A B:List (Nat×Nat)} {n:Nat} (t:TwoC A B n) (hw:qwithin [A,B]≠0):Rat.divInt ((n:Int) - 1) n≤qratioV [A,B]∧(qratioV [A,B]=Rat.divInt ((n:Int) - 1) n↔qmean (A.map rOf)=qmean (B.map rOf)):=by
 have hW:0<qwithin [A,B]:=by
  have:=qwithin_ge [A,B]
  grind
 have hV:0≤qmeansV [A,B]:=by rw[t.v];exact qsqm_ge _
 have e:qratioV [A,B]=Rat.divInt ((n:Int) - 1) n+qmeansV [A,B]*(qwithin [A,B])⁻¹:=by
  have e0:len0 [A,B]=n:=t.la
  have h2:=t.n2
  unfold qratioV
  rw[e0,Rat.divInt_eq_div,show((n - 1:Nat):Int)=(n:Int) - 1 by omega]
  grind
 have hi:=Rat.inv_pos.2 hW
 rw[←t.vzero,e]
 have hvi:=Rat.mul_nonneg hV (Rat.le_of_lt hi)
 refine⟨by grind,fun h=>?_,fun h=>by rw[h];grind⟩
 have h3:qmeansV [A,B]*(qwithin [A,B])⁻¹=0:=by grind
 rcases Rat.mul_eq_zero.1 h3 with h4|h4
 ·exact h4
 ·rw[h4] at hi;exact absurd hi (by decide +kernel)
theorem rep_err {l:List (Nat×Nat)} {m:Nat} (hm:2≤m) (hm8:m≤8) (h : ∀p∈l,isShort p) (h2:2≤l.length) (h12:l.length≤12):svErr (List.replicate m l)=0:=by
 have e:len0 (List.replicate m l)=l.length:=by
  obtain⟨k,rfl⟩ : ∃k,m=k+1:=⟨m - 1,by omega⟩
  rfl
 refine svErr_none (by simpa using hm) (by simpa using hm8) fun x hx=>?_
 obtain⟨_,rfl⟩:=List.mem_replicate.1 hx
 exact⟨by omega,allOk_of h,h2,e.symm⟩
theorem rep_len0 {l:List (Nat×Nat)} {m:Nat} (hm:2≤m):len0 (List.replicate m l)=l.length:=by
 obtain⟨k,rfl⟩ : ∃k,m=k+1:=⟨m - 1,by omega⟩
 rfl
theorem rep_within {l:List (Nat×Nat)} {m:Nat} (hm:2≤m) (h2:2≤l.length):qwithin (List.replicate m l)=qsqm (l.map rOf) / (((l.length - 1:Nat):Int):Rat):=by
 unfold qwithin
 have n1:=nat_ne (show 0<l.length - 1 by omega)
 have n2:=nat_ne (show 0<m by omega)
 rw[rep_len0 hm,List.length_replicate,qsum_const (qsqm (l.map rOf)),List.length_map,List.length_replicate,Int.natCast_mul,Rat.intCast_mul]
 ·grind
 ·intro q hq
  obtain⟨x,hx,rfl⟩:=List.mem_map.1 hq
  obtain⟨_,rfl⟩:=List.mem_replicate.1 hx
  rfl
theorem rep_means {l:List (Nat×Nat)} {m:Nat} (hm:2≤m):qmeansV (List.replicate m l)=0:=by
 unfold qmeansV
 have:qsqm (qcentres (List.replicate m l))=0:=by
  rw[qsqm_zero]
  ·refine⟨qmean (l.map rOf),fun q hq=>?_⟩
   obtain⟨x,hx,rfl⟩:=List.mem_map.1 hq
   obtain⟨_,rfl⟩:=List.mem_replicate.1 hx
   rfl
  ·obtain⟨k,rfl⟩ : ∃k,m=k+1:=⟨m - 1,by omega⟩
   simp[qcentres,List.replicate_succ]
 rw[this]
 grind
theorem rep_ratio {l:List (Nat×Nat)} {m:Nat} (hm:2≤m) (h2:2≤l.length) (hw:qwithin (List.replicate m l)≠0):qratioV (List.replicate m l)=Rat.divInt ((l.length:Int) - 1) l.length:=by
 have n2:=nat_ne (show 0<l.length by omega)
 unfold qratioV
 rw[rep_means hm,rep_len0 hm,Rat.divInt_eq_div,show((l.length - 1:Nat):Int)=(l.length:Int) - 1 by omega]
 grind
theorem rep_zero {l:List (Nat×Nat)} {m:Nat} (hm:2≤m) (h2:2≤l.length):qwithin (List.replicate m l)=0↔qauto (l.map rOf) (qmean (l.map rOf)) 0=0:=by
 have n1:=nat_ne (show 0<l.length - 1 by omega)
 have n2:=nat_ne (show 0<l.length by omega)
 rw[rep_within hm h2,qauto_sqm]
 unfold qlen
 rw[List.length_map]
 constructor<;>intro h<;>grind
end Go.Id
