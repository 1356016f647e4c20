/-
  Contracts: the reference's chapter 35: Effective. Contracts: the reference's chapter 35: Ratio. Contracts: package diagnose: Stuck. Contracts: the reference's Stuck. Contracts of package diagnose and of its reference for lists of shares of any parts. Contracts: what the law's examples use. Contracts: the law's examples (works). Weakest preconditions over the ideal machine: appends to slices without room; lengths and parts of slices in regions whose order is open. The statement DiagnoseBatches, on the ideal machine. Fractions over a common denominator; sums of lists of fractions (no program in sight). DiagnoseParts: what the law needs of numbers (no program in sight).
-/
import Derived.Test.YthbkinefgmfgeaaGreatDiagnoseMovesAn
import Derived.Test.YthbkinefgmfgeaaGreatDiagnoseMovesAl
import Derived.Test.YthbkinefgmfgeaaGreatDiagnoseMovesAm
import Derived.Test.YthbkinefgmfgeaaGreatDiagnoseMovesAk
set_option linter.unusedVariables false
set_option linter.unusedSimpArgs false
set_option linter.defProp false
set_option linter.deprecated false
/-! Contracts: the reference's chapter 35: Effective. -/
namespace Go.Id
open Go
theorem qsum_nonneg {l:List Rat} (h : ∀q∈l,0≤q) : ∀i,i≤l.length→0≤qsum (l.take i)
 | 0,_=>by simp[qsum]
 | i+1,hi=>by
  obtain⟨q,hq⟩ : ∃q,l[i]?=some q:=⟨_,List.getElem?_eq_getElem (by omega)⟩
  rw[take_snoc hq,qsum_snoc]
  exact Rat.add_nonneg (qsum_nonneg h i (by omega)) (h q (List.mem_of_getElem? hq))
theorem sq_nonneg (x:Rat):0≤x*x:=by
 rcases Rat.le_total (a:=0) (b:=x) with h|h
 ·exact Rat.mul_nonneg h h
 ·have h2:0 ≤ -x:=by have:=Rat.neg_le_neg h;simpa using this
  have:=Rat.mul_nonneg h2 h2
  rwa [Rat.neg_mul,Rat.mul_neg,Rat.neg_neg] at this
theorem div_nonneg' {x y:Rat} (hx:0≤x) (hy:0<y):0≤x / y:=by
 rw[Rat.div_def];exact Rat.mul_nonneg hx (Rat.le_of_lt (Rat.inv_pos.2 hy))
theorem qauto0_nonneg {l:List Rat} {c:Rat} (h0:l ≠ []):0≤qauto l c 0:=by
 have:=qsum_nonneg (l:=qprods l c 0) (by
  intro q hq
  obtain⟨t,_,rfl⟩:=List.mem_map.1 hq
  exact sq_nonneg _) _ (Nat.le_refl _)
 rw[List.take_length] at this
 exact div_nonneg' this (qlen_pos h0)
theorem div_pos_iff' {x y:Rat} (hy:0<y):0<x / y↔0<x:=by
 rw[Rat.div_def];exact Rat.mul_pos_iff_of_pos_right (Rat.inv_pos.2 hy)
theorem num_neg_iff (q:Rat):q.num<0↔q<0:=by
 have:=Rat.num_nonneg (q:=q)
 constructor
 ·intro h
  apply Classical.byContradiction;intro hn
  have:=this.2 (Rat.not_lt.1 hn)
  omega
 ·intro h
  apply Classical.byContradiction;intro hn
  exact absurd h (Rat.not_lt.2 (this.1 (by omega)))
theorem two_mul' (s:Rat):s*Rat.divInt 2 1=s+s:=by
 rw[show Rat.divInt 2 1=1+1 by decide +kernel,Rat.mul_add,Rat.mul_one]
theorem divInt_one1:Rat.divInt 1 1=1:=by decide +kernel
theorem divInt_by1 (n:Int):Rat.divInt n 1=(n:Rat):=Rat.num_divInt_den (n:Rat)
set_option maxHeartbeats 8000000 in
theorem rfEff_ok {h:IH} {v:Value} {l:List (Nat×Nat)} (hv:ShSl h v l) {k:Nat} (hk:allOk l → ∀q∈l.map rOf,QB k q) (hb:l.length≤200→eBits l.length k+eBits l.length k+100<16000000) :
  WV Proofs.Tryz.prog (.func (.func 30) #[] #[]) [v] h fun r h'=>Ext h h'∧r=effRes l:=by
 have her:=chErr_range l
 refine enter (nt:=76) (rs:=[.cell 2 30,.tmp 3]) Proofs.Tryz.func30 rfl rfl rfl (by simp) ?_
 simp -dsimp (disch:=omega) only[wpS,Nat.reduceEqDiff,zc30]
 have E1:Ext h (h.new (.cells Z16 0 none)):=(Ext.refl h).new _
 have g1:(h.new (.cells Z16 0 none)).ext.get h.n=some (.cells Z16 0 none):=by simp (disch:=first|omega|(simp only[new_n,put_n];omega)|(repeat first|rw[new_n]|rw[put_n])) only[get_new_same]
 refine call (rfright_ok (hv.keep E1.keep)) ?_
 rintro _ h1 ⟨X1,rfl⟩
 have m1:=X1.n
 simp only[new_n] at m1
 have k1:=X1.kept (by simp) g1
 unfold effRes
 by_cases he:chErr l=0
 case neg =>
  rw[if_neg he]
  have he':(chErr l == 0)=false:=by simpa using he
  simp -dsimp (disch:=omega) only[wpS,wpT,Nat.reduceEqDiff,Nat.reduceLeDiff,Nat.reduceAdd,bv30,st30,ld30,k1,sh_tz]
  exact⟨(E1.trans X1).put (by omega) _,by rw[sh_zeroV]⟩
 rw[if_pos he,he]
 obtain⟨e1,e2,e3⟩:=chErr_iff.1 he
 have hkk:=hk e2
 have hbb:=hb e1
 clear hk hb
 have e3':l.map rOf ≠ []:=by simpa using e3
 have hl0:0<l.length:=List.length_pos_iff.2 e3
 have hlen:(l.map rOf).length=l.length:=List.length_map ..
 obtain⟨ka,hka⟩ : ∃ka,ka=aBits l.length k:=⟨_,rfl⟩
 have hab:aBits l.length k<16000000:=by
  have:1*(aBits l.length k+aBits l.length k+1+aBits l.length k+1)≤eBits l.length k:=Nat.mul_le_mul_right _ (by omega)
  omega
 have hmb:=qmean_bits (l:=l.map rOf) e3' (by simp;omega) hkk
 rw[List.length_map] at hmb
 have haB : ∀j,QB ka (qauto (l.map rOf) (qmean (l.map rOf)) j):=fun j=>by
  have:=qauto_bits (k:=j) hkk hmb (by simp;omega) e3'
  rw[List.length_map] at this
  rw[hka];exact this
 have hEv:eBits l.length k=(l.length+1)*(ka+ka+1+ka+1):=by rw[hka]
 rw[hEv] at hbb
 simp -dsimp (disch:=omega) only[wpS,wpT,Nat.reduceEqDiff]
 refine call (rfvalues_ok (hv.keep (E1.trans X1).keep) e2 (by omega)) ?_
 rintro sl h2 ⟨X2,hs⟩
 have m2:=X2.n
 obtain⟨cs0,hs0,_,_⟩:=id hs
 have hslen:=fun(h':IH)=>hs0.len (P:=Proofs.Tryz.prog) sl111 h'
 rw[hlen] at hslen
 have hauto : ∀(hh:IH) (j:Nat),Ext h2 hh→j≤1000000→WV Proofs.Tryz.prog (.func (.func 83) #[] #[]) [sl,KN j] hh fun r h'=>Ext hh h'∧RRat h' r (qauto (l.map rOf) (qmean (l.map rOf)) j):=fun hh j e hj =>
  rfauto_ok (hs.keep kept_q e.keep) e3' hj hkk (by rw[List.length_map];exact hab)
 have hW0:0≤qauto (l.map rOf) (qmean (l.map rOf)) 0:=qauto0_nonneg e3'
 generalize hA:qauto (l.map rOf) (qmean (l.map rOf))=A at *
 simp -dsimp (disch:=omega) only[wpS,Nat.reduceEqDiff]
 refine call (hauto h2 0 (Ext.refl _) (by omega)) ?_
 rintro r3 h3 ⟨X3,p3⟩
 have m3:=X3.n
 obtain⟨a3,s3,b3,t3,rfl,_,_,_,u1,_,u2,u3,u4⟩:=p3.parts
 simp -dsimp (disch:=omega) only[wpS,wpT,Nat.reduceEqDiff,Nat.reduceLeDiff,Nat.reduceAdd,zc91,st91,ld91,u1,u2,u3,u4,tk4']
 obtain⟨H4,hH4⟩ : ∃H4,H4=(h3.new (.cells ZR 0 none)).put h3.n (.cells [a3,s3,b3,t3] 0 none):=⟨_,rfl⟩
 have x4:Ext h3 H4:=by rw[hH4];exact((Ext.refl _).new _).put (Nat.le_refl _) _
 have n4:H4.n=h3.n+1:=by rw[hH4];rfl
 have g6:H4.ext.get h3.n=some (.cells [a3,s3,b3,t3] 0 none):=by rw[hH4];simp (disch:=first|omega|(simp only[new_n,put_n];omega)|(repeat first|rw[new_n]|rw[put_n])) only[get_put_same]
 have k4:=x4.kept (by omega) (X3.kept (by omega) (X2.kept (by omega) k1))
 have p4:=p3.keep x4.keep
 have E4:=(((E1.trans X1).trans X2).trans X3).trans x4
 rw[←hH4]
 clear hH4
 refine call (zero_ok p4) ?_
 rintro _ h5 ⟨X5,rfl⟩
 have m5:=X5.n
 have k5:=X5.kept (by omega) k4
 have g65:=X5.kept (by omega) g6
 have p5:=p4.keep X5.keep
 have E5:=E4.trans X5
 have E25:Ext h2 h5:=(X3.trans x4).trans X5
 by_cases hw0:A 0=0
 ·rw[if_pos hw0,decide_eq_true hw0]
  simp -dsimp (disch:=omega) only[wpS,wpT,Nat.reduceEqDiff,Nat.reduceLeDiff,Nat.reduceAdd,bv30,st30,ld30,k5,sh_tz]
  exact⟨E5.put (by omega) _,by rw[sh_zeroV]⟩
 rw[if_neg hw0,decide_eq_false hw0]
 have hWp:0<A 0:=by
  rcases Rat.le_iff_lt_or_eq.1 hW0 with h|h
  ·exact h
  ·exact absurd h.symm hw0
 simp -dsimp (disch:=omega) only[wpS,Nat.reduceEqDiff]
 refine call (quick_ok 0 1 ⟨by omega,by omega⟩ ⟨by omega,by omega⟩ (by omega)) ?_
 rintro r8 h8 ⟨X8,p8⟩
 rw[divInt_zero1] at p8
 have m8:=X8.n
 obtain⟨a8,s8,b8,t8,rfl,_,_,_,u1,_,u2,u3,u4⟩:=p8.parts
 simp -dsimp (disch:=omega) only[wpS,wpT,Nat.reduceEqDiff,Nat.reduceLeDiff,Nat.reduceAdd,zc91,st91,u1,u2,u3,u4]
 have x9:Ext h8 ((h8.new (.cells ZR 0 none)).put h8.n (.cells [a8,s8,b8,t8] 0 none)):=((Ext.refl _).new _).put (Nat.le_refl _) _
 obtain⟨W,hW⟩ : ∃W,W=A 0:=⟨_,rfl⟩
 obtain⟨N,hN⟩ : ∃N,N=l.length:=⟨_,rfl⟩
 rw[←hW] at p5 hw0 hWp
 rw[←hN] at hslen
 have St : ∀hh,Ext h8 hh→Ext h hh∧Ext h2 hh∧hh.ext.get h.n=some (.cells Z16 0 none)∧hh.ext.get h3.n=some (.cells [a3,s3,b3,t3] 0 none)∧RRat hh (.agg #[a3,s3,b3,t3]) W:=by
  intro hh e
  have e6:=X8.trans e
  exact⟨E5.trans e6,E25.trans e6,e6.kept (by omega) k5,e6.kept (by omega) g65,p5.keep e6.keep⟩
 have hbN:(N+1)*(ka+ka+1+ka+1)+(N+1)*(ka+ka+1+ka+1)+100<16000000:=by rw[hN];exact hbb
 have hka3:1*(ka+ka+1+ka+1)≤(N+1)*(ka+ka+1+ka+1):=Nat.mul_le_mul_right _ (by omega)
 have hWB:QB ka W:=by rw[hW];exact haB 0
 refine loop_cut (fun fr hh => ∃a s b t,Ext h8 hh∧h8.n<hh.n∧hh.ext.get h8.n=some (.cells [a,s,b,t] 0 none)∧RRat hh (.agg #[a,s,b,t]) (effS A W N (N+1) 0 0)∧QB ((N+1)*(ka+ka+1+ka+1)) (effS A W N (N+1) 0 0)∧fget fr 2=some (ptr (2*h.n) 0)∧fget fr 5=some sl∧fget fr 7=some (ptr (2*h8.n) 0)) ?_ ?_
 ·refine loop (fun m fr hh => ∃(i:Nat) (S:Rat) (a s b t:Value),i+m=N+1∧effS A W N m i S=effS A W N (N+1) 0 0∧QB (i*(ka+ka+1+ka+1)) S∧Ext h8 hh∧h8.n<hh.n∧hh.ext.get h8.n=some (.cells [a,s,b,t] 0 none)∧RRat hh (.agg #[a,s,b,t]) S ∧
    fget fr 2=some (ptr (2*h.n) 0)∧fget fr 5=some sl∧fget fr 6=some (ptr (2*h3.n) 0)∧fget fr 7=some (ptr (2*h8.n) 0)∧fget fr 8=some (KN i)) (N+1)
   ⟨0,0,a8,s8,b8,t8,by omega,rfl,by rw[Nat.zero_mul];exact QB.zero,x9,by simp,by simp (disch:=first|omega|(simp only[new_n,put_n];omega)|(repeat first|rw[new_n]|rw[put_n])) only[get_put_same],p8.keep x9.keep,by simp,by simp,by simp,by simp,by simp⟩ ?_
  rintro m fr hh ⟨i,S,a,s,b,t,him,hS,hSb,e,hn,g8,p8',f2,f5,f6,f7,f8⟩
  have done : ∀(x:S=effS A W N (N+1) 0 0),QB ((N+1)*(ka+ka+1+ka+1)) (effS A W N (N+1) 0 0):=fun x=>by
   rw[←x];exact hSb.mono (Nat.mul_le_mul_right _ (by omega))
  have e2i:(2:Int)*(i:Int)=((2*i:Nat):Int):=by omega
  simp -dsimp (disch:=omega) only[wpS,Nat.reduceEqDiff,f5,f8,hslen,e2i]
  refine bq_intro ?_ ?_<;>intro hc<;>simp only[decide_eq_true_eq,decide_eq_false_iff_not] at hc
  ·have h2i:2*i<N:=by omega
   obtain⟨m',rfl⟩ : ∃m',m=m'+1:=⟨m - 1,by omega⟩
   rw[effS,if_pos h2i] at hS
   obtain⟨y1,y2,y3,y4,y5⟩:=St hh e
   have X0:=Ext.refl hh
   obtain⟨_,_,L1⟩:=ql4 y4
   simp -dsimp (disch:=omega) only[wpS,wpT]
   refine drawn [(10,[3,8,9])] (by kernel_rfl) (by kernel_rfl) rfl ?_
   simp -dsimp (disch:=omega) only[wpS,Nat.reduceEqDiff,f5,f8,e2i]
   refine call (hauto hh (2*i) y2 (by omega)) ?_
   rintro ra z1 ⟨Z1,q1⟩
   have e2j:((2*i:Nat):Int)+1=((2*i+1:Nat):Int):=by omega
   simp -dsimp (disch:=omega) only[wpS,Nat.reduceEqDiff,f5,f8,e2i,e2j]
   refine call (hauto z1 (2*i+1) (y2.trans Z1) (by omega)) ?_
   rintro rb z2 ⟨Z2,q2⟩
   simp -dsimp (disch:=omega) only[wpS,Nat.reduceEqDiff]
   refine call (qplus_ok (q1.keep Z2.keep) q2 (haB _) (haB _) (by omega)) ?_
   rintro rc z3 ⟨Z3,q3⟩
   have hpB:=(haB (2*i)).add (haB (2*i+1))
   have Z12:=Z1.trans Z2
   have Z13:=Z12.trans Z3
   have mz:=Z13.n
   obtain⟨P,hP⟩ : ∃P,P=A (2*i)+A (2*i+1):=⟨_,rfl⟩
   rw[←hP] at q3 hS hpB
   have m38:=e.n
   simp -dsimp (disch:=omega) only[wpS,wpT,Nat.reduceEqDiff,Nat.reduceLeDiff,Nat.reduceAdd,ld91,f6,row_of (Z13.kept (by omega) y4),tk4']
   refine call (qover_ok q3 (y5.keep Z13.keep) hpB hWB (by omega) hw0) ?_
   rintro rd z4 ⟨Z4,q4⟩
   have mz4:=Z4.n
   have Z14:=Z13.trans Z4
   obtain⟨c1,c2,c3,c4,rfl,hG,_,_,u1,_,u2,u3,u4⟩:=q4.parts
   obtain⟨hc1,_,_⟩:=hG.co
   subst hc1
   simp -dsimp (disch:=omega) only[wpS,wpT,Nat.reduceEqDiff,Nat.reduceLeDiff,Nat.reduceAdd,zc91,st91,u1,u2,u3,u4]
   refine⟨wpSteady_t2 (wpSteady_one rfl rfl rfl rfl (steady_ext (H0:=hh) (b:=2*h3.n) (o:=0) f6 (by omega) (by assumption) (by assumption) L1)) (wpSteady_t2 (wpSteady_one rfl rfl rfl rfl (steady_ext (H0:=hh) (b:=2*h3.n) (o:=0) f6 (by omega) (by assumption) (by assumption) L1)) (wpSteady_one rfl rfl rfl rfl (steady_ext (H0:=hh) (b:=2*h3.n) (o:=0) f6 (by omega) (by assumption) (by assumption) L1))),?_⟩
   obtain⟨K0,hK0⟩ : ∃H4,H4=(z4.new (.cells ZR 0 none)).put z4.n (.cells [.bool (decide ((P / W).num<0)),c2,c3,c4] 0 none):=⟨_,rfl⟩
   have w4:Ext z4 K0:=by rw[hK0];exact((Ext.refl _).new _).put (Nat.le_refl _) _
   have nw4:K0.n=z4.n+1:=by rw[hK0];rfl
   have gp:K0.ext.get z4.n=some (.cells [.bool (decide ((P / W).num<0)),c2,c3,c4] 0 none):=by rw[hK0];simp (disch:=first|omega|(simp only[new_n,put_n];omega)|(repeat first|rw[new_n]|rw[put_n])) only[get_put_same]
   have q5:=q4.keep w4.keep
   have e5:Ext hh K0:=Z14.trans w4
   have gs5:=e5.kept hn g8
   have ps5:=p8'.keep e5.keep
   simp -dsimp (disch:=omega) only[wpS,wpT,Nat.reduceEqDiff,Nat.reduceAdd,fa91_0,fa89_0,ld4]
   rw[←hK0]
   clear hK0
   have hdB:=hpB.div hWB hw0
   have hi2:(i+1)*(ka+ka+1+ka+1)=i*(ka+ka+1+ka+1)+(ka+ka+1+ka+1):=by rw[Nat.add_mul,Nat.one_mul]
   have hi1:(i+1)*(ka+ka+1+ka+1)≤(N+1)*(ka+ka+1+ka+1):=Nat.mul_le_mul_right _ (by omega)
   by_cases hneg:(P / W).num<0
   ·have hp0:P≤0:=by
     apply Classical.byContradiction;intro hnp
     have:=(div_pos_iff' hWp).2 (Rat.not_le.1 hnp)
     have h2:=(num_neg_iff _).1 hneg
     exact absurd (Rat.le_of_lt this) (Rat.not_le.2 h2)
    rw[if_pos hp0] at hS
    have gp':=row_of gp
    rw[decide_eq_true hneg] at gp'
    simp -dsimp (disch:=omega) only[wpS,wpT,Nat.reduceEqDiff]
    exact⟨a,s,b,t,e.trans e5,by omega,gs5,hS▸ps5,done hS,by simp[f2],by simp[f5],by simp[f7]⟩
   ·have gp':=row_of gp
    rw[decide_eq_false hneg] at gp' q5
    simp -dsimp (disch:=omega) only[wpS,wpT,Nat.reduceEqDiff,Nat.reduceLeDiff,Nat.reduceAdd,ld91,gp',tk4']
    refine call (zero_ok q5) ?_
    rintro _ z6 ⟨Z6,rfl⟩
    have mz6:=Z6.n
    have e6:=e5.trans Z6
    have gs6:=Z6.kept (by omega) gs5
    have ps6:=ps5.keep Z6.keep
    have gp6:=row_of (Z6.kept (by omega) gp)
    rw[decide_eq_false hneg] at gp6
    by_cases hz0:P / W=0
    ·have hp0:P≤0:=by
      apply Classical.byContradiction;intro hnp
      have:=(div_pos_iff' hWp).2 (Rat.not_le.1 hnp)
      rw[hz0] at this
      exact absurd this Rat.lt_irrefl
     rw[if_pos hp0] at hS
     rw[decide_eq_true hz0]
     simp -dsimp (disch:=omega) only[wpS,Nat.reduceEqDiff]
     exact⟨a,s,b,t,e.trans e6,by omega,gs6,hS▸ps6,done hS,by simp[f2],by simp[f5],by simp[f7]⟩
    ·have hpp:0<P:=by
      refine(div_pos_iff' hWp).1 ?_
      have h1 : ¬P / W<0:=fun hh=>hneg ((num_neg_iff _).2 hh)
      rcases Rat.le_iff_lt_or_eq.1 (Rat.not_lt.1 h1) with h2|h2
      ·exact h2
      ·exact absurd h2.symm hz0
     rw[if_neg (Rat.not_le.2 hpp)] at hS
     rw[decide_eq_false hz0]
     simp -dsimp (disch:=omega) only[wpS,wpT,Nat.reduceEqDiff,Nat.reduceLeDiff,Nat.reduceAdd,ld91,f7,row_of gs6,gp6,tk4']
     refine call (qplus_ok ps6 (q5.keep Z6.keep) hSb hdB (by omega)) ?_
     rintro rf z7 ⟨Z7,q7⟩
     have mz7:=Z7.n
     obtain⟨d1,d2,d3,d4,rfl,_,_,_,u1,_,u2,u3,u4⟩:=q7.parts
     have gs7:=Z7.kept (by omega) gs6
     simp -dsimp (disch:=omega) only[wpS,wpT,Nat.reduceEqDiff,Nat.reduceLeDiff,Nat.reduceAdd,st91,f7,f8,gs7,u1,u2,u3,u4]
     refine⟨m',by omega,i+1,S+P / W,d1,d2,d3,d4,by omega,hS,?_,((e.trans e6).trans Z7).put (by omega) _,by simp only[put_n];omega,get_put_same _ _ rfl,q7.keep ((Keep.refl _).put gs7 _),by simp[f2],by simp[f5],by simp[f6],by simp[f7],by simp⟩
     exact(hSb.add hdB).mono (by omega)
  ·have hSd:S=effS A W N (N+1) 0 0:=by
    rw[←hS]
    cases m with
    | zero=>rfl
    | succ m=>rw[effS,if_neg (by omega)]
   simp -dsimp (disch:=omega) only[wpS,wpT]
   exact⟨a,s,b,t,e,hn,g8,hSd▸p8',done hSd,by simp[f2],by simp[f5],by simp[f7]⟩
 rintro fr hh ⟨a,s,b,t,e,hn,g8,pS,hSB,f2,f5,f7⟩
 obtain⟨S,hS⟩ : ∃S,S=effS A W N (N+1) 0 0:=⟨_,rfl⟩
 have hq:qlen (l.map rOf)=((N:Int):Rat):=by
  show(((l.map rOf).length:Int):Rat)=_
  rw[List.length_map,hN]
 have hres:qeff (l.map rOf)=((N:Int):Rat) / effT S ((N:Int):Rat):=by
  rw[qeff,hA,←hW,hq,List.length_map,←hN,←hS]
 have hn0:((N:Int):Rat)≠0:=by rw[←hq];exact qlen_ne e3'
 have hnp:0<((N:Int):Rat):=by rw[←hq];exact qlen_pos e3'
 have hnB:QB 17 ((N:Int):Rat):=by rw[←hq];exact qlen_bits (by simp;omega)
 rw[hres]
 rw[←hS] at pS hSB
 clear hS hres
 obtain⟨y1,y2,y3,y4,y5⟩:=St hh e
 obtain⟨B,hB⟩ : ∃B,B=(N+1)*(ka+ka+1+ka+1):=⟨_,rfl⟩
 rw[←hB] at hSB hbN
 have o1B:QB 0 ((1:Int):Rat):=QB.int (by decide)
 have o1B':QB 0 (1:Rat):=o1B
 have me:=e.n
 have X0:=Ext.refl hh
 obtain⟨_,_,L1⟩:=ql4 g8
 have h2B:QB 1 (Rat.divInt 2 1):=QB.divInt (by decide) (by decide) (by decide)
 rw[d_seq]
 refine drawn [(0,[2])] (by kernel_rfl) (by kernel_rfl) rfl ?_
 simp -dsimp (disch:=omega) only[wpS,wpT,Nat.reduceLeDiff,Nat.reduceAdd,ld91,f7,row_of g8,tk4']
 refine call (quick_ok 2 1 ⟨by omega,by omega⟩ ⟨by omega,by omega⟩ (by omega)) ?_
 rintro ra z1 ⟨Z1,q1⟩
 simp -dsimp (disch:=omega) only[wpS,Nat.reduceEqDiff]
 refine call (qtimes_ok (pS.keep Z1.keep) q1 hSB h2B (by omega)) ?_
 rintro rb z2 ⟨Z2,q2⟩
 rw[two_mul'] at q2
 simp -dsimp (disch:=omega) only[wpS]
 refine call (quick_ok 1 1 ⟨by omega,by omega⟩ ⟨by omega,by omega⟩ (by omega)) ?_
 rintro rc z3 ⟨Z3,q3⟩
 rw[divInt_one1] at q3
 simp -dsimp (disch:=omega) only[wpS,Nat.reduceEqDiff]
 refine call (qminus_ok (q2.keep Z3.keep) q3 (hSB.add hSB) o1B' (by omega)) ?_
 rintro rd z4 ⟨Z4,q4⟩
 have Z14:=((Z1.trans Z2).trans Z3).trans Z4
 have mz:=Z14.n
 have hTB:=(hSB.add hSB).sub o1B'
 obtain⟨c1,c2,c3,c4,rfl,_,_,_,u1,_,u2,u3,u4⟩:=q4.parts
 simp -dsimp (disch:=omega) only[wpS,wpT,Nat.reduceEqDiff,Nat.reduceLeDiff,Nat.reduceAdd,zc91,st91,u1,u2,u3,u4]
 refine⟨wpSteady_one rfl rfl rfl rfl (steady_ext (H0:=hh) (b:=2*h8.n) (o:=0) f7 (by omega) (by assumption) (by assumption) L1),?_⟩
 obtain⟨K0,hK0⟩ : ∃H4,H4=(z4.new (.cells ZR 0 none)).put z4.n (.cells [c1,c2,c3,c4] 0 none):=⟨_,rfl⟩
 have w4:Ext z4 K0:=by rw[hK0];exact((Ext.refl _).new _).put (Nat.le_refl _) _
 have nw4:K0.n=z4.n+1:=by rw[hK0];rfl
 have gt:K0.ext.get z4.n=some (.cells [c1,c2,c3,c4] 0 none):=by rw[hK0];simp (disch:=first|omega|(simp only[new_n,put_n];omega)|(repeat first|rw[new_n]|rw[put_n])) only[get_put_same]
 have q5:=q4.keep w4.keep
 rw[←hK0]
 clear hK0 X0
 have Y1:=Z14.trans w4
 have X0:=Ext.refl K0
 obtain⟨_,_,L2⟩:=ql4 gt
 have hLB:QB 17 (1 / ((N:Int):Rat)):=(o1B.div hnB hn0).mono (by omega)
 simp -dsimp (disch:=omega) only[wpS,wpT,Nat.reduceAdd]
 refine drawn [(0,[4])] (by kernel_rfl) (by kernel_rfl) rfl ?_
 simp -dsimp (disch:=omega) only[wpS,wpT,Nat.reduceEqDiff,Nat.reduceLeDiff,Nat.reduceAdd,ld91,f5,hslen,row_of gt,tk4']
 refine call (quick_ok 1 (N:Int) ⟨by omega,by omega⟩ ⟨by omega,by omega⟩ (by omega)) ?_
 rintro re z5 ⟨Z5,q6⟩
 rw[divInt_one] at q6
 simp -dsimp (disch:=omega) only[wpS,Nat.reduceEqDiff]
 refine call (qorder_ok (q5.keep Z5.keep) q6 hTB hLB (by omega)) ?_
 rintro _ z6 ⟨Z6,rfl⟩
 have Z56:=Z5.trans Z6
 have mz6:=Z56.n
 have gt6:=Z56.kept (by omega) gt
 have V1:=Y1.trans Z56
 have gz6:=V1.kept (by omega) y3
 have q56:=q5.keep Z56.keep
 have hne:=effT_pos (s:=S) hnp
 by_cases hlt:S+S - 1<1 / ((N:Int):Rat)
 ·have hTT:effT S ((N:Int):Rat)=1 / ((N:Int):Rat):=by rw[effT,if_pos hlt]
  rw[if_pos hlt]
  simp -dsimp (disch:=omega) only[wpS,wpT,Nat.reduceEqDiff]
  refine⟨wpSteady_one rfl rfl rfl rfl (steady_ext (H0:=K0) rfl (by omega) (by assumption) (by assumption) L2),?_⟩
  simp -dsimp (disch:=omega) only[wpS,wpT,Nat.reduceEqDiff,Nat.reduceAdd,f5,hslen]
  refine call (quick_ok 1 (N:Int) ⟨by omega,by omega⟩ ⟨by omega,by omega⟩ (by omega)) ?_
  rintro r7 z7 ⟨Z7,q7⟩
  rw[divInt_one] at q7
  have mz7:=Z7.n
  obtain⟨d1,d2,d3,d4,rfl,_,_,_,v1,_,v2,v3,v4⟩:=q7.parts
  have gt7:=Z7.kept (by omega) gt6
  simp -dsimp (disch:=omega) only[wpS,wpT,Nat.reduceEqDiff,Nat.reduceLeDiff,Nat.reduceAdd,st91,gt7,v1,v2,v3,v4]
  have gbA:(z7.put z4.n (.cells [d1,d2,d3,d4] 0 none)).ext.get z4.n=some (.cells [d1,d2,d3,d4] 0 none):=get_put_same _ _ rfl
  have X9:=Ext.refl (z7.put z4.n (.cells [d1,d2,d3,d4] 0 none))
  obtain⟨_,_,L3⟩:=ql4 gbA
  have nHH:z4.n<(z7.put z4.n (.cells [d1,d2,d3,d4] 0 none)).n:=(by simp only[put_n];omega)
  have gzz:(z7.put z4.n (.cells [d1,d2,d3,d4] 0 none)).ext.get h.n=some (.cells Z16 0 none):=(by simp (disch:=first|omega|(simp only[new_n,put_n];omega)|(repeat first|rw[new_n]|rw[put_n])) only[get_put_old];exact Z7.kept (by omega) gz6)
  have EHH:Ext h (z7.put z4.n (.cells [d1,d2,d3,d4] 0 none)):=((y1.trans V1).trans Z7).put (by omega) _
  have pbb:RRat (z7.put z4.n (.cells [d1,d2,d3,d4] 0 none)) _ _:=q7.keep ((Keep.refl _).put gt7 _)
  have gbb:=gbA
  obtain⟨HH,hHH⟩ : ∃HH,HH=z7.put z4.n (.cells [d1,d2,d3,d4] 0 none):=⟨_,rfl⟩
  rw[←hHH] at X9 L3 nHH gzz EHH pbb gbb ⊢
  clear hHH
  refine drawn [(3,[2])] (by kernel_rfl) (by kernel_rfl) rfl ?_
  simp -dsimp (disch:=omega) only[wpS,Nat.reduceEqDiff,f5,hslen]
  refine call (quick_ok (N:Int) 1 ⟨by omega,by omega⟩ ⟨by omega,by omega⟩ (by omega)) ?_
  rintro rg za ⟨Za,qa⟩
  rw[divInt_by1] at qa
  have mza:=Za.n
  simp -dsimp (disch:=omega) only[wpS,wpT,Nat.reduceEqDiff,Nat.reduceLeDiff,Nat.reduceAdd,ld91,row_of (Za.kept nHH gbb),tk4']
  refine call (qover_ok qa (pbb.keep Za.keep) hnB hLB (by omega) (by rw[←hTT];exact fun h=>absurd hne (by rw[h];exact Rat.lt_irrefl))) ?_
  rintro rh zb ⟨Zb,qb⟩
  rw[←hTT] at qb
  have mzb:=Zb.n
  simp -dsimp (disch:=omega) only[wpS,Nat.reduceEqDiff]
  refine call (refout_ok qb) ?_
  rintro _ zc ⟨Zc,rfl⟩
  have mzc:=Zc.n
  obtain⟨n,d,ee,hf⟩:=toldV_form (((N:Int):Rat) / effT S ((N:Int):Rat))
  have hf':=hf
  unfold toldV at hf'
  rw[hf',hf]
  have Zac:=(Za.trans Zb).trans Zc
  have mn:=EHH.n
  have mhn:h.n<HH.n:=by omega
  have kg:zc.ext.get h.n=some (.cells Z16 0 none):=Zac.kept mhn gzz
  simp -dsimp (disch:=omega) only[wpS,wpT,Nat.reduceEqDiff,Nat.reduceLeDiff,Nat.reduceAdd,st30,kg,f2,shV_cells,shC_len,shC_all,sh_sp3]
  refine⟨wpSteady_one rfl rfl rfl rfl (steady_ext (H0:=HH) rfl (by omega) (by assumption) (by assumption) L3),?_⟩
  simp -dsimp (disch:=omega) only[wpS,wpT,Nat.reduceEqDiff,Nat.reduceLeDiff,Nat.reduceAdd,ld30,f2,shC_len,sh_take]
  exact⟨(EHH.trans Zac).put (by omega) _,rfl⟩
 ·have hTT:effT S ((N:Int):Rat)=S+S - 1:=by rw[effT,if_neg hlt]
  rw[if_neg hlt]
  obtain⟨cx,hcx,hcx0⟩ : ∃c:Int,(if S+S - 1=1 / ((N:Int):Rat) then (0:Int) else 1)=c∧decide (c<0)=false:=⟨_,rfl,by split<;>rfl⟩
  rw[hcx]
  simp -dsimp (disch:=omega) only[wpS,Nat.reduceEqDiff,hcx0]
  refine⟨wpSteady_one rfl rfl rfl rfl (steady_ext (H0:=K0) rfl (by omega) (by assumption) (by assumption) L2),?_⟩
  simp -dsimp (disch:=omega) only[wpS,wpT,Nat.reduceEqDiff,Nat.reduceAdd]
  have X9:=Ext.refl z6
  obtain⟨_,_,L3⟩:=ql4 gt6
  have nHH:z4.n<(z6).n:=(by omega)
  have gzz:(z6).ext.get h.n=some (.cells Z16 0 none):=gz6
  have EHH:Ext h (z6):=y1.trans V1
  have pbb:RRat (z6) _ _:=q56
  have gbb:=gt6
  obtain⟨HH,hHH⟩ : ∃HH,HH=z6:=⟨_,rfl⟩
  rw[←hHH] at X9 L3 nHH gzz EHH pbb gbb ⊢
  clear hHH
  refine drawn [(3,[2])] (by kernel_rfl) (by kernel_rfl) rfl ?_
  simp -dsimp (disch:=omega) only[wpS,Nat.reduceEqDiff,f5,hslen]
  refine call (quick_ok (N:Int) 1 ⟨by omega,by omega⟩ ⟨by omega,by omega⟩ (by omega)) ?_
  rintro rg za ⟨Za,qa⟩
  rw[divInt_by1] at qa
  have mza:=Za.n
  simp -dsimp (disch:=omega) only[wpS,wpT,Nat.reduceEqDiff,Nat.reduceLeDiff,Nat.reduceAdd,ld91,row_of (Za.kept nHH gbb),tk4']
  refine call (qover_ok qa (pbb.keep Za.keep) hnB hTB (by omega) (by rw[←hTT];exact fun h=>absurd hne (by rw[h];exact Rat.lt_irrefl))) ?_
  rintro rh zb ⟨Zb,qb⟩
  rw[←hTT] at qb
  have mzb:=Zb.n
  simp -dsimp (disch:=omega) only[wpS,Nat.reduceEqDiff]
  refine call (refout_ok qb) ?_
  rintro _ zc ⟨Zc,rfl⟩
  have mzc:=Zc.n
  obtain⟨n,d,ee,hf⟩:=toldV_form (((N:Int):Rat) / effT S ((N:Int):Rat))
  have hf':=hf
  unfold toldV at hf'
  rw[hf',hf]
  have Zac:=(Za.trans Zb).trans Zc
  have mn:=EHH.n
  have mhn:h.n<HH.n:=by omega
  have kg:zc.ext.get h.n=some (.cells Z16 0 none):=Zac.kept mhn gzz
  simp -dsimp (disch:=omega) only[wpS,wpT,Nat.reduceEqDiff,Nat.reduceLeDiff,Nat.reduceAdd,st30,kg,f2,shV_cells,shC_len,shC_all,sh_sp3]
  refine⟨wpSteady_one rfl rfl rfl rfl (steady_ext (H0:=HH) rfl (by omega) (by assumption) (by assumption) L3),?_⟩
  simp -dsimp (disch:=omega) only[wpS,wpT,Nat.reduceEqDiff,Nat.reduceLeDiff,Nat.reduceAdd,ld30,f2,shC_len,sh_take]
  exact⟨(EHH.trans Zac).put (by omega) _,rfl⟩
end Go.Id

/-! Contracts: the reference's chapter 35: Ratio. -/
namespace Go.Id
open Go
end Go.Id

/-! Contracts: package diagnose: Stuck. -/
namespace Go.Id
open Go
def nowAt (l:List (Nat×Nat)):Nat→Nat
 | 0=>0
 | i+1=>if 0<i∧l[i]?≠l[i - 1]? then 1 else nowAt l i+1
def mostAt (l:List (Nat×Nat)):Nat→Nat
 | 0=>0
 | i+1=>max (mostAt l i) (nowAt l (i+1))
theorem nowAt_le (l:List (Nat×Nat)) : ∀i,nowAt l i≤i
 | 0=>Nat.le_refl _
 | i+1=>by
  have:=nowAt_le l i
  rw[nowAt];split<;>omega
theorem mostAt_le (l:List (Nat×Nat)) : ∀i,mostAt l i≤i
 | 0=>Nat.le_refl _
 | i+1=>by
  have:=mostAt_le l i
  have:=nowAt_le l (i+1)
  rw[mostAt];omega
def stuckRes (l:List (Nat×Nat)):Value:=if chErr l=0 then .tuple #[KN (mostAt l l.length),KI 0] else .tuple #[KI 0,KI (chErr l)]
set_option maxHeartbeats 1000000 in
theorem dgStuck_ok {h:IH} {v:Value} {l:List (Nat×Nat)} (hv:ShSl h v l) :
  WV Proofs.Tryz.prog (.func (.func 22) #[] #[]) [v] h fun r h'=>Ext h h'∧r=stuckRes l:=by
 have her:=chErr_range l
 refine enter (nt:=39) (rs:=[.tmp 2,.tmp 3]) Proofs.Tryz.func22 rfl rfl rfl (by simp) ?_
 simp -dsimp (maxSteps:=1000000) (disch:=first|omega|(simp only[new_n,put_n];omega)|decide +kernel|(repeat first|rw[new_n]|rw[put_n])) only[wpS,Nat.reduceEqDiff]
 refine call (dgcheck_ok hv) ?_
 rintro _ h1 ⟨X1,rfl⟩
 unfold stuckRes
 by_cases he:chErr l=0
 case neg =>
  rw[if_neg he]
  have he':(chErr l == 0)=false:=by simpa using he
  simp -dsimp (maxSteps:=1000000) (disch:=first|omega|(simp only[new_n,put_n];omega)|decide +kernel|(repeat first|rw[new_n]|rw[put_n])) only[wpS,wpT,Nat.reduceEqDiff]
  exact X1
 rw[if_pos he,he]
 obtain⟨e1,e2,e3⟩:=chErr_iff.1 he
 simp -dsimp (maxSteps:=1000000) (disch:=first|omega|(simp only[new_n,put_n];omega)|decide +kernel|(repeat first|rw[new_n]|rw[put_n])) only[wpS,wpT,Nat.reduceEqDiff,hv.1.len sl25]
 refine loop (fun m fr hh => ∃i:Nat,i+m=l.length∧Ext h hh∧fget fr 0=some v∧fget fr 5=some (KN (mostAt l i))∧fget fr 6=some (KN (nowAt l i))∧fget fr 14=some v∧fget fr 15=some (KN l.length)∧fget fr 16=some (KN i)) l.length
  ⟨0,by omega,X1,by simp,by simp[mostAt],by simp[nowAt],by simp,by simp,by simp⟩ ?_
 rintro m fr hh ⟨i,him,hE,f0,f5,f6,f14,f15,f16⟩
 simp -dsimp (maxSteps:=1000000) (disch:=first|omega|(simp only[new_n,put_n];omega)|decide +kernel|(repeat first|rw[new_n]|rw[put_n])) only[wpS,f15,f16]
 refine bq_intro ?_ ?_<;>intro hc<;>simp only[decide_eq_true_eq,decide_eq_false_iff_not] at hc
 ·have hi:i<l.length:=by omega
  obtain⟨p,hp⟩ : ∃p,l[i]?=some p:=⟨_,List.getElem?_eq_getElem hi⟩
  obtain⟨w1,w2⟩:=hv.2.2 p (List.mem_of_getElem? hp)
  have nl:=nowAt_le l i
  have ml:=mostAt_le l i
  have nl1:=nowAt_le l (i+1)
  have fin : ∀(n':Nat),n'+1=nowAt l (i+1)→(if (mostAt l i:Int)<((n':Int)+1) then ((n':Int)+1) else (mostAt l i:Int))=((mostAt l (i+1):Nat):Int):=by
   intro n' hn'
   rw[mostAt,←hn']
   split<;>omega
  have x1:Ext hh ((hh.new (.cells Z16 0 none)).put hh.n (.cells (shC p.1 p.2) 0 none)):=((Ext.refl _).new _).put (Nat.le_refl _) _
  simp -dsimp (maxSteps:=1000000) (disch:=first|omega|(simp only[new_n,put_n];omega)|decide +kernel|(repeat first|rw[new_n]|rw[put_n])) only[wpS,wpT,Nat.reduceEqDiff,Nat.reduceLeDiff,Nat.reduceAdd,zc30,st30,f14,f16,hv.1.idx es25 hi,hv.ld hE.keep hp,shV_cells,shC_len,shC_all,sh_sp3]
  by_cases h0:i=0
  ·subst h0
   have n0:nowAt l (0+1)=0+1:=by rw[nowAt,if_neg (by omega)];rfl
   have n00:nowAt l 0=0:=rfl
   rw[n00] at f6
   have:=fin 0 n0.symm
   simp -dsimp (maxSteps:=1000000) (disch:=first|omega|(simp only[new_n,put_n];omega)|decide +kernel|(repeat first|rw[new_n]|rw[put_n])) only[wpS,wpT,Nat.reduceEqDiff,f5,f6,f16,max_ii,this]
   exact⟨m - 1,by omega,0+1,by omega,hE.trans x1,by simp[f0],by simp,by simp[n0],by simp[f14],by simp[f15],by simp⟩
  ·obtain⟨q,hq⟩ : ∃p,l[i - 1]?=some p:=⟨_,List.getElem?_eq_getElem (by omega)⟩
   obtain⟨w3,w4⟩:=hv.2.2 q (List.mem_of_getElem? hq)
   have c0:decide ((0:Int)<(i:Int))=true:=decide_eq_true (by omega)
   have ei:(i:Int) - 1=((i - 1:Nat):Int):=by omega
   have hne : ∀ox oy,binop Proofs.Tryz.prog .neq 30 ox oy (.agg (shC p.1 p.2).toArray) (shV q.1 q.2)=some (.bool (!decide (p.1=q.1∧p.2=q.2))):=fun ox oy=>sh_neq w1 w2 w3 w4 ox oy
   have hpq:(p.1=q.1∧p.2=q.2)↔l[i]?=l[i - 1]?:=by
    rw[hp,hq,Option.some.injEq]
    exact Prod.ext_iff.symm
   by_cases hd:p.1=q.1∧p.2=q.2
   ·have n1:nowAt l (i+1)=nowAt l i+1:=by rw[nowAt,if_neg (fun h=>h.2 (hpq.1 hd))]
    have:=fin _ n1.symm
    rw[decide_eq_true hd] at hne
    simp -dsimp (maxSteps:=1000000) (disch:=first|omega|(simp only[new_n,put_n];omega)|decide +kernel|(repeat first|rw[new_n]|rw[put_n])) only[wpS,wpT,Nat.reduceEqDiff,Nat.reduceLeDiff,ld30,f0,f5,f6,f16,c0,ei,shC_len,sh_take,hv.1.idx es25 (show i - 1<l.length by omega),hv.ld (hE.trans x1).keep hq,hne,max_ii,this]
    exact⟨m - 1,by omega,i+1,by omega,hE.trans x1,by simp[f0],by simp,by simp[n1],by simp[f14],by simp[f15],by simp⟩
   ·have n1:nowAt l (i+1)=0+1:=by rw[nowAt,if_pos ⟨by omega,fun h=>hd (hpq.2 h)⟩]
    have:=fin 0 n1.symm
    rw[show((0:Nat):Int)+1=1 from rfl] at this
    rw[decide_eq_false hd] at hne
    simp -dsimp (maxSteps:=1000000) (disch:=first|omega|(simp only[new_n,put_n];omega)|decide +kernel|(repeat first|rw[new_n]|rw[put_n])) only[wpS,wpT,Nat.reduceEqDiff,Nat.reduceLeDiff,ld30,f0,f5,f6,f16,c0,ei,shC_len,sh_take,hv.1.idx es25 (show i - 1<l.length by omega),hv.ld (hE.trans x1).keep hq,hne,max_ii]
    exact⟨m - 1,by omega,i+1,by omega,hE.trans x1,by simp[f0],by simp[this],by simp[n1],by simp[f14],by simp[f15],by simp⟩
 ·obtain rfl:i=l.length:=by omega
  simp -dsimp (maxSteps:=1000000) (disch:=first|omega|(simp only[new_n,put_n];omega)|decide +kernel|(repeat first|rw[new_n]|rw[put_n])) only[wpS,wpT,Nat.reduceEqDiff,f5]
  exact hE
end Go.Id

/-! Contracts: the reference's Stuck. -/
namespace Go.Id
open Go
end Go.Id

/-! Contracts of package diagnose and of its reference for lists of shares of any parts. -/
namespace Go.Id
open Go
theorem qb512 {p:Nat×Nat} (h1:p.1<W8) (h2:p.2<W8) (ok:okS p.1 p.2):QB 512 (rOf p):=by
 obtain⟨e1,e2⟩:=rOf_parts ok
 have hw:W8=2 ^ 512:=by decide +kernel
 have a1:=wdI_small h1
 unfold QB
 have k1:(wdI p.1).natAbs≤2 ^ 512:=by
  rw[←hw]
  unfold wdI
  have:=H8_two
  split<;>omega
 have k2:wdI p.2≤((2 ^ 512:Nat):Int):=by
  rw[←hw]
  unfold wdI
  have:=H8_two
  split<;>omega
 generalize (2 ^ 512:Nat)=B at *
 refine⟨by rw[e1];exact k1,by omega⟩
theorem ShSl.qb {h:IH} {v:Value} {l:List (Nat×Nat)} (s:ShSl h v l):allOk l → ∀q∈l.map rOf,QB 512 q:=by
 intro ok q hq
 obtain⟨p,hp,rfl⟩:=List.mem_map.1 hq
 exact qb512 (s.2.2 p hp).1 (s.2.2 p hp).2 (ok p hp)
theorem mB {n:Nat}:n≤200→mBits n 512<16000000:=fun h=>by
 unfold mBits;omega
def Fit (n:Nat):Prop:=n≤12∨200<n
theorem eB {n:Nat} (f:Fit n):n≤200→eBits n 512+eBits n 512+100<16000000:=fun h=>by
 have h12:n≤12:=by rcases f with f|f<;>omega
 have : ∀m,m≤12→eBits m 512+eBits m 512+100<16000000:=by decide
 exact this n h12
theorem aB {n:Nat} (f:Fit n):n≤200→aBits n 512<16000000:=fun h=>by
 have h12:n≤12:=by rcases f with f|f<;>omega
 have : ∀m,m≤12→aBits m 512<16000000:=by decide
 exact this n h12
section
variable {h:IH} {v:Value} {l:List (Nat×Nat)} (hv:ShSl h v l)
include hv
theorem gMean:WV Proofs.Tryz.prog (.func (.func 21) #[] #[]) [v] h fun r h'=>Ext h h'∧r=meanRes l:=dgMean_ok hv hv.qb mB
theorem rMean:WV Proofs.Tryz.prog (.func (.func 28) #[] #[]) [v] h fun r h'=>Ext h h'∧r=meanRes l:=rfMean_ok hv hv.qb mB
theorem gAuto (f:Fit l.length) (lag:Int):WV Proofs.Tryz.prog (.func (.func 23) #[] #[]) [v,KI lag] h fun r h'=>Ext h h'∧r=autoRes l lag:=dgAuto_ok hv hv.qb (aB f)
theorem rAuto (f:Fit l.length) (lag:Int):WV Proofs.Tryz.prog (.func (.func 31) #[] #[]) [v,KI lag] h fun r h'=>Ext h h'∧r=autoRes l lag:=rfAuto_ok hv hv.qb (aB f)
theorem gEff (f:Fit l.length):WV Proofs.Tryz.prog (.func (.func 29) #[] #[]) [v] h fun r h'=>Ext h h'∧r=effRes l:=dgEff_ok hv hv.qb (eB f)
theorem rEff (f:Fit l.length):WV Proofs.Tryz.prog (.func (.func 30) #[] #[]) [v] h fun r h'=>Ext h h'∧r=effRes l:=rfEff_ok hv hv.qb (eB f)
theorem gBat (size:Int):WV Proofs.Tryz.prog (.func (.func 20) #[] #[]) [v,KI size] h fun r h'=>Ext h h' ∧ ∃s,r=.tuple #[s,KI (batErr l size)]∧if batErr l size=0 then ShSl h' s ((bmeans (l.map rOf) size.toNat).map shOf) else s=.slice none 0 0:=dgBatches_ok hv hv.qb mB
end
theorem QW_of {q:Rat} (h:(decide (-(H8:Int)≤q.num) && decide (q.num<H8) && decide ((q.den:Int)<H8))=true):QW q:=by
 simp only[Bool.and_eq_true,decide_eq_true_eq] at h
 exact⟨⟨h.1.1,h.1.2⟩,by unfold InW;omega⟩
theorem toldV_of {q:Rat} (h:QW q):toldV q=.tuple #[shareV q,KI 0]:=by
 unfold toldV;rw[if_pos h]
theorem meanRes_of {l:List (Nat×Nat)} {q:Rat} (h1:chErr l=0) (h2:qmean (l.map rOf)=q) (h3:QW q):meanRes l=.tuple #[shareV q,KI 0]:=by
 unfold meanRes;rw[if_pos h1,h2,toldV_of h3]
theorem autoRes_of {l:List (Nat×Nat)} {q:Rat} {lag:Nat} (h1:chErr l=0) (h0:lag<l.length) (h2:qauto (l.map rOf) (qmean (l.map rOf)) lag=q) (h3:QW q):autoRes l (lag:Int)=.tuple #[shareV q,KI 0]:=by
 unfold autoRes;rw[if_pos h1,if_pos ⟨by omega,by omega⟩,Int.toNat_natCast,h2,toldV_of h3]
theorem autoRes_no {l:List (Nat×Nat)} {lag:Int} (h1:chErr l=0) (h0 : ¬(0≤lag∧lag<l.length)):autoRes l lag=errV 2:=by
 unfold autoRes;rw[if_pos h1,if_neg h0]
theorem effRes_of {l:List (Nat×Nat)} {q:Rat} (h1:chErr l=0) (h0:qauto (l.map rOf) (qmean (l.map rOf)) 0≠0) (h2:qeff (l.map rOf)=q) (h3:QW q):effRes l=.tuple #[shareV q,KI 0]:=by
 unfold effRes;rw[if_pos h1,if_neg h0,h2,toldV_of h3]
theorem effRes_no {l:List (Nat×Nat)} (h1:chErr l=0) (h0:qauto (l.map rOf) (qmean (l.map rOf)) 0=0):effRes l=errV 7:=by
 unfold effRes;rw[if_pos h1,if_pos h0]
end Go.Id

/-! Contracts: what the law's examples use. -/
namespace Go.Id
open Go
structure IsC (h:IH) (i j:Nat) (a b:Int):Prop where
 hi:i<h.n
 hj:j<h.n
 gi:h.ext.get i=some (.cells [KI a] 0 none)
 gj:h.ext.get j=some (.cells [KI b] 0 none)
theorem IsC.ext {h h':IH} {i j:Nat} {a b:Int} (c:IsC h i j a b) (e:Ext h h'):IsC h' i j a b:=⟨Nat.lt_of_lt_of_le c.hi e.n,Nat.lt_of_lt_of_le c.hj e.n,e.kept c.hi c.gi,e.kept c.hj c.gj⟩
abbrev isV (i j:Nat):Value:=.func (.func 88) #[] #[ptr (2*i) 0,ptr (2*j) 0]
abbrev failsV (i:Nat):Value:=.func (.func 87) #[] #[ptr (2*i) 0]
theorem isC_ok {h:IH} (a b:Int):WV Proofs.Tryz.prog (.func (.func 36) #[] #[]) [KI a,KI b] h fun r h'=>Ext h h' ∧ ∃i j,r=isV i j∧IsC h' i j a b:=by
 refine(is_ok a b).mono ?_
 rintro _ _ ⟨rfl,rfl⟩
 refine⟨((Ext.refl h).new _).new _,h.n,h.n+1,rfl,?_⟩
 refine⟨by simp<;>omega,by simp,?_,?_⟩<;>simp (disch:=first|omega|(simp only[new_n,put_n];omega)|(repeat first|rw[new_n]|rw[put_n])) only[get_new_same,get_new_old]
theorem isT_ok {h:IH} {i j:Nat} {a b:Int} {q:Rat} (c:IsC h i j a b) (hq:Rat.divInt a b=q) (ha:In64 a) (hb:In64 b) (b0:b≠0):WV Proofs.Tryz.prog (isV i j) [shareV q,KI 0] h fun r h'=>Ext h h'∧r=.bool true:=by
 obtain⟨h1,h2⟩:=shq_lt (qw_div ha hb b0)
 rw[hq] at h1 h2
 refine(is1_ok (n:=(shq q).1) (d:=(shq q).2) (e:=0) h1 h2 ha hb b0 c.hi c.gi c.hj c.gj).mono ?_
 rintro _ h' ⟨X,rfl⟩
 exact⟨X,by rw[hq];simp⟩
structure FaC (h:IH) (i:Nat) (e:Int):Prop where
 hi:i<h.n
 gi:h.ext.get i=some (.cells [KI e] 0 none)
theorem FaC.ext {h h':IH} {i:Nat} {a:Int} (c:FaC h i a) (e:Ext h h'):FaC h' i a:=⟨Nat.lt_of_lt_of_le c.hi e.n,e.kept c.hi c.gi⟩
theorem faC_ok {h:IH} (a:Int):WV Proofs.Tryz.prog (.func (.func 35) #[] #[]) [KI a] h fun r h'=>Ext h h' ∧ ∃i,r=failsV i∧FaC h' i a:=by
 refine(fails_ok a).mono ?_
 rintro _ _ ⟨rfl,rfl⟩
 refine⟨(Ext.refl h).new _,h.n,rfl,?_⟩
 refine⟨by simp,?_⟩
 simp (disch:=first|omega|(simp only[new_n,put_n];omega)|(repeat first|rw[new_n]|rw[put_n])) only[get_new_same]
theorem faT_ok {h:IH} {i:Nat} {a:Int} (c:FaC h i a):WV Proofs.Tryz.prog (failsV i) [shV 0 0,KI a] h fun r h'=>Ext h h'∧r=.bool true:=by
 refine(fails1_ok (n:=0) (d:=0) (e:=a) (by decide +kernel) (by decide +kernel) c.hi c.gi).mono ?_
 rintro _ h' ⟨X,rfl⟩
 exact⟨X,by simp⟩
theorem lawl_blk {h:IH} (xs:List Int) (hx : ∀x∈xs,In64 x) (hl:xs.length≤1000) (h0:0<xs.length):WV Proofs.Tryz.prog (.func (.func 45) #[] #[]) [.slice (some ⟨2*h.n,0,none⟩) xs.length (2*xs.length+1)] (h.new (.cells (xs.map KI) 1 none)) fun r h'=>Ext h h'∧ShSl h' r (xs.map shI):=by
 refine(lawl_ok (xs:=xs) (sl_block (k:=h.n) (f:=none) (get_new_same _ _ rfl) (by simp) (by decide) (by simp) (by omega) (by omega)) hx hl).mono ?_
 rintro r h' ⟨X,s⟩
 exact⟨((Ext.refl h).new _).trans X,s⟩
theorem build2 {h:IH} (a b c d:Nat):buildSlice Proofs.Tryz.prog h 25 2 [(0,shV a b),(1,shV c d)]=some (.slice (some ⟨2*h.n,0,none⟩) 2 5,h.new (.cells (shL [(a,b),(c,d)]) 16 none)):=by
 rw[bs25 h 2 _ (by decide)]
 have e:fillP (fun i=>some (i*16,16)) (repl 2 [.int .u64 0,.int .u64 0,.int .u64 0,.int .u64 0,.int .u64 0,.int .u64 0,.int .u64 0,.int .u64 0,.int .u64 0,.int .u64 0,.int .u64 0,.int .u64 0,.int .u64 0,.int .u64 0,.int .u64 0,.int .u64 0]) [(0,shV a b),(1,shV c d)]=some (shL [(a,b),(c,d)]):=by kernel_rfl
 rw[e];rfl
theorem shLs_two {h:IH} {w1 w2:Value} {x1 x2:List (Nat×Nat)} (s1:ShSl h w1 x1) (s2:ShSl h w2 x2):ShLs (h.new (.cells [w1,w2] 1 none)) (.slice (some ⟨2*h.n,0,none⟩) 2 5) [x1,x2]:=by
 have E:Ext h (h.new (.cells [w1,w2] 1 none)):=(Ext.refl h).new _
 refine⟨[w1,w2],sl_block (k:=h.n) (f:=none) (get_new_same _ _ rfl) (by simp) (by decide) (by simp) (by omega) (by omega),by simp,?_⟩
 intro i x hx
 match i,hx with
 | 0,hx=>simp at hx;subst hx;exact⟨w1,rfl,s1.keep E.keep⟩
 | 1,hx=>simp at hx;subst hx;exact⟨w2,rfl,s2.keep E.keep⟩
 | i+2,hx=>simp at hx
theorem shLs_one {h:IH} {w1:Value} {x1:List (Nat×Nat)} (s1:ShSl h w1 x1):ShLs (h.new (.cells [w1] 1 none)) (.slice (some ⟨2*h.n,0,none⟩) 1 3) [x1]:=by
 have E:Ext h (h.new (.cells [w1] 1 none)):=(Ext.refl h).new _
 refine⟨[w1],sl_block (k:=h.n) (f:=none) (get_new_same _ _ rfl) (by simp) (by decide) (by simp) (by omega) (by omega),by simp,?_⟩
 intro i x hx
 match i,hx with
 | 0,hx=>simp at hx;subst hx;exact⟨w1,rfl,s1.keep E.keep⟩
 | i+1,hx=>simp at hx
theorem ShLs.ext {h h':IH} {v:Value} {ll:List (List (Nat×Nat))} (s:ShLs h v ll) (e:Ext h h'):ShLs h' v ll:=by
 obtain⟨vs,a,b,c⟩:=s
 refine⟨vs,a.ext e,b,fun i x hx=>?_⟩
 obtain⟨w,h1,h2⟩:=c i x hx
 exact⟨w,h1,h2.keep e.keep⟩
def FitL (ll:List (List (Nat×Nat))):Prop:=svErr ll=0→len0 ll≤12∧ll.length≤8
theorem ShLs.sv {h:IH} {v:Value} {ll:List (List (Nat×Nat))} (s:ShLs h v ll) (e:svErr ll=0):SvOk ll 512:=by
 refine⟨e,fun x hx q hq=>?_⟩
 obtain⟨_,_,hh⟩:=sv_zero e
 obtain⟨h1,h2,h3,h4⟩:=hh x hx
 obtain⟨vs,a,b,c⟩:=s
 obtain⟨i,hi⟩:=List.mem_iff_getElem?.1 hx
 obtain⟨w,_,s2⟩:=c i x hi
 exact s2.qb (by assumption) q hq
end Go.Id

/-! Contracts: the law's examples (works). -/
namespace Go.Id
open Go
theorem fitB : ∀m,m≤8 → ∀n,n≤12→rfBits m n 512<16000000:=by decide
theorem ShLs.fit {h:IH} {v:Value} {ll:List (List (Nat×Nat))} (s:ShLs h v ll) (f:FitL ll) (e:svErr ll=0):SvOk ll 512∧rfBits ll.length (len0 ll) 512<16000000:=⟨s.sv e,fitB _ (f e).2 _ (f e).1⟩
theorem ShLs.fit' {h:IH} {v:Value} {ll:List (List (Nat×Nat))} (s:ShLs h v ll) (f:FitL ll) (e:svErr ll=0):SvOk ll 512∧rBits ll.length (len0 ll) 512<16000000:=by
 obtain⟨a,b⟩:=s.fit f e
 refine⟨a,?_⟩
 unfold rfBits at b
 omega
section
variable {h:IH} {v:Value} {ll:List (List (Nat×Nat))} (s:ShLs h v ll) (f:FitL ll)
include s f
theorem gWithin:WV Proofs.Tryz.prog (.func (.func 13) #[] #[]) [v] h fun r h'=>Ext h h'∧r=withinRes ll:=dgWithin_ok s (s.fit' f)
theorem gMeans:WV Proofs.Tryz.prog (.func (.func 15) #[] #[]) [v] h fun r h'=>Ext h h'∧r=meansRes ll:=dgMeans_ok s (s.fit' f)
theorem gRatio:WV Proofs.Tryz.prog (.func (.func 17) #[] #[]) [v] h fun r h'=>Ext h h'∧r=ratioRes ll:=dgRatio_ok s (s.fit' f)
end
theorem withinRes_of {ll:List (List (Nat×Nat))} {q:Rat} (h1:svErr ll=0) (h2:qwithin ll=q) (h3:QW q):withinRes ll=.tuple #[shareV q,KI 0]:=by
 unfold withinRes;rw[if_pos h1,h2,toldV_of h3]
theorem meansRes_of {ll:List (List (Nat×Nat))} {q:Rat} (h1:svErr ll=0) (h2:qmeansV ll=q) (h3:QW q):meansRes ll=.tuple #[shareV q,KI 0]:=by
 unfold meansRes;rw[if_pos h1,h2,toldV_of h3]
theorem ratioRes_of {ll:List (List (Nat×Nat))} {q:Rat} (h1:svErr ll=0) (h0:qwithin ll≠0) (h2:qratioV ll=q) (h3:QW q):ratioRes ll=.tuple #[shareV q,KI 0]:=by
 unfold ratioRes;rw[if_pos h1,if_neg h0,h2,toldV_of h3]
theorem ratioRes_no {ll:List (List (Nat×Nat))} (h1:svErr ll=0) (h0:qwithin ll=0):ratioRes ll=errV 7:=by
 unfold ratioRes;rw[if_pos h1,if_pos h0]
theorem ratioRes_err {ll:List (List (Nat×Nat))} {e:Int} (h1:svErr ll=e) (h0:e≠0):ratioRes ll=errV e:=by
 unfold ratioRes;rw[if_neg (by rw[h1];exact h0),h1]
abbrev mI (xs:List Int):List (Nat×Nat):=xs.map shI
def nthC:Code→Nat→Code
 | .seq a _,0=>a
 | .seq _ b,n+1=>nthC b n
 | c,_=>c
noncomputable def partW (i:Nat):Code:=nthC (Proofs.Tryz.f10.body.getD .skip) i
set_option maxHeartbeats 8000000 in
theorem w1 {hh:IH} {fr:Fr} {Q:IExit→Fr→IH→Prop}:Do (wpC Proofs.Tryz.prog 10 159 none (partW 1) fr hh) (seqK (fun fr h'=>Pst (Ext hh h'∧fget fr 1=some (.bool true)) nx) Q) nx:=by
 show Do (wpC _ _ _ _ (.region _ _ _) fr hh) _ _
 simp -dsimp (disch:=omega) only[wpS]
 refine call (isC_ok 3 1) ?_
 rintro _ h1 ⟨X1,i1,j1,rfl,c1⟩
 have E1:=X1
 simp -dsimp (disch:=omega) only[wpS,wpT,Nat.reduceEqDiff,Nat.reduceLeDiff,Nat.reduceAdd,Nat.reduceMul,bs87]
 refine call (lawl_blk [1,2,6] (by decide +kernel) (by decide +kernel) (by decide +kernel)) ?_
 rintro v2 h2 ⟨X2,s2⟩
 have E2:=E1.trans X2
 simp -dsimp (disch:=omega) only[wpS,Nat.reduceEqDiff]
 refine call (gMean s2) ?_
 rintro _ h3 ⟨X3,rfl⟩
 have E3:=E2.trans X3
 rw[meanRes_of (l:=mI [1,2,6]) (q:=((3:Int):Rat)) (by decide +kernel) (by decide +kernel) (QW_of (by decide +kernel))]
 simp -dsimp (disch:=omega) only[wpS,Nat.reduceEqDiff]
 refine call (isT_ok (q:=((3:Int):Rat)) ((c1.ext X2).ext X3) (by decide +kernel) (by decide +kernel) (by decide +kernel) (by decide +kernel)) ?_
 rintro _ h4 ⟨X4,rfl⟩
 have E4:=E3.trans X4
 simp -dsimp (disch:=omega) only[wpS,wpT,Nat.reduceEqDiff]
 refine call (isC_ok 14 3) ?_
 rintro _ h5 ⟨X5,i5,j5,rfl,c5⟩
 have E5:=E4.trans X5
 simp -dsimp (disch:=omega) only[wpS,wpT,Nat.reduceEqDiff,Nat.reduceLeDiff,Nat.reduceAdd,Nat.reduceMul,bs87]
 refine call (lawl_blk [1,2,6] (by decide +kernel) (by decide +kernel) (by decide +kernel)) ?_
 rintro v6 h6 ⟨X6,s6⟩
 have E6:=E5.trans X6
 simp -dsimp (disch:=omega) only[wpS,wpT,Nat.reduceEqDiff]
 refine call (gAuto s6 (.inl (by decide +kernel)) 0) ?_
 rintro _ h7 ⟨X7,rfl⟩
 have E7:=E6.trans X7
 have r7:autoRes (mI [1,2,6]) 0=.tuple #[shareV (Rat.divInt (14) 3),KI 0]:=autoRes_of (lag:=0) (by decide +kernel) (by decide +kernel) (by decide +kernel) (QW_of (by decide +kernel))
 rw[r7]
 simp -dsimp (disch:=omega) only[wpS,wpT,Nat.reduceEqDiff]
 refine call (isT_ok (q:=(Rat.divInt (14) 3)) ((c5.ext X6).ext X7) (by decide +kernel) (by decide +kernel) (by decide +kernel) (by decide +kernel)) ?_
 rintro _ h8 ⟨X8,rfl⟩
 have E8:=E7.trans X8
 simp -dsimp (disch:=omega) only[wpS,wpT,Nat.reduceEqDiff]
 refine call (isC_ok (-1) 3) ?_
 rintro _ h9 ⟨X9,i9,j9,rfl,c9⟩
 have E9:=E8.trans X9
 simp -dsimp (disch:=omega) only[wpS,wpT,Nat.reduceEqDiff,Nat.reduceLeDiff,Nat.reduceAdd,Nat.reduceMul,bs87]
 refine call (lawl_blk [1,2,6] (by decide +kernel) (by decide +kernel) (by decide +kernel)) ?_
 rintro v10 h10 ⟨X10,s10⟩
 have E10:=E9.trans X10
 simp -dsimp (disch:=omega) only[wpS,wpT,Nat.reduceEqDiff]
 refine call (gAuto s10 (.inl (by decide +kernel)) 1) ?_
 rintro _ h11 ⟨X11,rfl⟩
 have E11:=E10.trans X11
 have r11:autoRes (mI [1,2,6]) 1=.tuple #[shareV (Rat.divInt (-1) 3),KI 0]:=autoRes_of (lag:=1) (by decide +kernel) (by decide +kernel) (by decide +kernel) (QW_of (by decide +kernel))
 rw[r11]
 simp -dsimp (disch:=omega) only[wpS,wpT,Nat.reduceEqDiff]
 refine call (isT_ok (q:=(Rat.divInt (-1) 3)) ((c9.ext X10).ext X11) (by decide +kernel) (by decide +kernel) (by decide +kernel) (by decide +kernel)) ?_
 rintro _ h12 ⟨X12,rfl⟩
 have E12:=E11.trans X12
 simp -dsimp (disch:=omega) only[wpS,wpT,Nat.reduceEqDiff]
 refine call (faC_ok 2) ?_
 rintro _ h13 ⟨X13,i13,rfl,c13⟩
 have E13:=E12.trans X13
 simp -dsimp (disch:=omega) only[wpS,wpT,Nat.reduceEqDiff,Nat.reduceLeDiff,Nat.reduceAdd,Nat.reduceMul,bs87]
 refine call (lawl_blk [1,2,6] (by decide +kernel) (by decide +kernel) (by decide +kernel)) ?_
 rintro v14 h14 ⟨X14,s14⟩
 have E14:=E13.trans X14
 simp -dsimp (disch:=omega) only[wpS,wpT,Nat.reduceEqDiff]
 refine call (gAuto s14 (.inl (by decide +kernel)) 3) ?_
 rintro _ h15 ⟨X15,rfl⟩
 have E15:=E14.trans X15
 have r15:autoRes (mI [1,2,6]) 3=errV 2:=autoRes_no (by decide +kernel) (by decide +kernel)
 rw[r15]
 simp -dsimp (disch:=omega) only[wpS,wpT,Nat.reduceEqDiff]
 refine call (faT_ok ((c13.ext X14).ext X15)) ?_
 rintro _ h16 ⟨X16,rfl⟩
 have E16:=E15.trans X16
 simp -dsimp (disch:=omega) only[wpS,wpT,Nat.reduceEqDiff]
 refine call (isC_ok 8 3) ?_
 rintro _ h17 ⟨X17,i17,j17,rfl,c17⟩
 have E17:=E16.trans X17
 simp -dsimp (disch:=omega) only[wpS,wpT,Nat.reduceEqDiff,Nat.reduceLeDiff,Nat.reduceAdd,Nat.reduceMul,bs87]
 refine call (lawl_blk [0,0,1,1] (by decide +kernel) (by decide +kernel) (by decide +kernel)) ?_
 rintro v18 h18 ⟨X18,s18⟩
 have E18:=E17.trans X18
 simp -dsimp (disch:=omega) only[wpS,wpT,Nat.reduceEqDiff]
 refine call (gEff s18 (.inl (by decide +kernel))) ?_
 rintro _ h19 ⟨X19,rfl⟩
 have E19:=E18.trans X19
 have r19:effRes (mI [0,0,1,1])=.tuple #[shareV (Rat.divInt (8) 3),KI 0]:=effRes_of (by decide +kernel) (by decide +kernel) (by decide +kernel) (QW_of (by decide +kernel))
 rw[r19]
 simp -dsimp (disch:=omega) only[wpS,wpT,Nat.reduceEqDiff]
 refine call (isT_ok (q:=(Rat.divInt (8) 3)) ((c17.ext X18).ext X19) (by decide +kernel) (by decide +kernel) (by decide +kernel) (by decide +kernel)) ?_
 rintro _ h20 ⟨X20,rfl⟩
 have E20:=E19.trans X20
 simp -dsimp (disch:=omega) only[wpS,wpT,Nat.reduceEqDiff]
 refine call (isC_ok 16 1) ?_
 rintro _ h21 ⟨X21,i21,j21,rfl,c21⟩
 have E21:=E20.trans X21
 simp -dsimp (disch:=omega) only[wpS,wpT,Nat.reduceEqDiff,Nat.reduceLeDiff,Nat.reduceAdd,Nat.reduceMul,bs87]
 refine call (lawl_blk [0,1,0,1] (by decide +kernel) (by decide +kernel) (by decide +kernel)) ?_
 rintro v22 h22 ⟨X22,s22⟩
 have E22:=E21.trans X22
 simp -dsimp (disch:=omega) only[wpS,wpT,Nat.reduceEqDiff]
 refine call (gEff s22 (.inl (by decide +kernel))) ?_
 rintro _ h23 ⟨X23,rfl⟩
 have E23:=E22.trans X23
 have r23:effRes (mI [0,1,0,1])=.tuple #[shareV ((16:Int):Rat),KI 0]:=effRes_of (by decide +kernel) (by decide +kernel) (by decide +kernel) (QW_of (by decide +kernel))
 rw[r23]
 simp -dsimp (disch:=omega) only[wpS,wpT,Nat.reduceEqDiff]
 refine call (isT_ok (q:=((16:Int):Rat)) ((c21.ext X22).ext X23) (by decide +kernel) (by decide +kernel) (by decide +kernel) (by decide +kernel)) ?_
 rintro _ h24 ⟨X24,rfl⟩
 have E24:=E23.trans X24
 simp -dsimp (disch:=omega) only[wpS,wpT,Nat.reduceEqDiff]
 refine call (faC_ok 7) ?_
 rintro _ h25 ⟨X25,i25,rfl,c25⟩
 have E25:=E24.trans X25
 simp -dsimp (disch:=omega) only[wpS,wpT,Nat.reduceEqDiff,Nat.reduceLeDiff,Nat.reduceAdd,Nat.reduceMul,bs87]
 refine call (lawl_blk [5,5] (by decide +kernel) (by decide +kernel) (by decide +kernel)) ?_
 rintro v26 h26 ⟨X26,s26⟩
 have E26:=E25.trans X26
 simp -dsimp (disch:=omega) only[wpS,wpT,Nat.reduceEqDiff]
 refine call (gEff s26 (.inl (by decide +kernel))) ?_
 rintro _ h27 ⟨X27,rfl⟩
 have E27:=E26.trans X27
 have r27:effRes (mI [5,5])=errV 7:=effRes_no (by decide +kernel) (by decide +kernel)
 rw[r27]
 simp -dsimp (disch:=omega) only[wpS,wpT,Nat.reduceEqDiff]
 refine call (faT_ok ((c25.ext X26).ext X27)) ?_
 rintro _ h28 ⟨X28,rfl⟩
 have E28:=E27.trans X28
 simp -dsimp (disch:=omega) only[wpS,Nat.reduceEqDiff]
 exact⟨E28,rfl⟩
theorem batErr_ok {l:List (Nat×Nat)} {sz:Int} (h1:chErr l=0) (h2:1≤sz) (h3:sz≤l.length) (h4:((bmeans (l.map rOf) sz.toNat).all fun q=>decide (-(H8:Int)≤q.num) && decide (q.num<H8) && decide ((q.den:Int)<H8))=true):batErr l sz=0:=by
 unfold batErr
 rw[if_pos h1,if_pos ⟨h2,h3⟩,if_pos]
 intro q hq
 exact QW_of (List.all_eq_true.1 h4 q hq)
abbrev twoS:List (Nat×Nat):=[shq (Rat.divInt 3 2),shq (Rat.divInt 5 1)]
set_option maxHeartbeats 8000000 in
theorem w2 {hh:IH} {fr:Fr} {Q:IExit→Fr→IH→Prop} (f1:fget fr 1=some (.bool true)):Do (wpC Proofs.Tryz.prog 10 159 none (partW 2) fr hh) (seqK (fun fr h'=>Pst (Ext hh h' ∧ ∃v,ShSl h' v twoS∧fget fr 2=some v∧fget fr 3=some (KI 0)∧fget fr 1=some (.bool true)) nx) Q) nx:=by
 show Do (wpC _ _ _ _ (.region _ _ _) fr hh) _ _
 simp -dsimp (disch:=omega) only[wpS,wpT,Nat.reduceLeDiff,Nat.reduceAdd,Nat.reduceMul,bs87]
 refine call (lawl_blk [1,2,6,4,9] (by decide +kernel) (by decide +kernel) (by decide +kernel)) ?_
 rintro v29 h29 ⟨X29,s29⟩
 have E29:=X29
 simp -dsimp (disch:=omega) only[wpS,Nat.reduceEqDiff]
 refine call (gBat s29 2) ?_
 have b30:batErr (mI [1,2,6,4,9]) 2=0:=batErr_ok (by decide +kernel) (by decide +kernel) (by decide +kernel) (by decide +kernel)
 rw[b30]
 rintro _ h30 ⟨X30,v30,rfl,s30⟩
 have E30:=E29.trans X30
 rw[if_pos rfl] at s30
 have e30:(bmeans ((mI [1,2,6,4,9]).map rOf) (2:Int).toNat).map shOf = [shq (Rat.divInt 3 2),shq (Rat.divInt 5 1)]:=by decide +kernel
 rw[e30] at s30
 simp -dsimp (disch:=omega) only[wpS,Nat.reduceEqDiff]
 exact⟨E30,v30,s30,rfl,rfl,by simp[f1]⟩
set_option maxHeartbeats 8000000 in
theorem w3 {hh:IH} {fr:Fr} {Q:IExit→Fr→IH→Prop} {v2:Value} (f1:fget fr 1=some (.bool true)) (f2:fget fr 2=some v2) (f3:fget fr 3=some (KI 0)):Do (wpC Proofs.Tryz.prog 10 159 none (partW 3) fr hh) (seqK (fun fr h'=>Pst (Ext hh h'∧fget fr 4=some (KI 3)∧fget fr 5=some (KI 0)∧fget fr 1=some (.bool true)∧fget fr 2=some v2∧fget fr 3=some (KI 0)) nx) Q) nx:=by
 show Do (wpC _ _ _ _ (.region _ _ _) fr hh) _ _
 simp -dsimp (disch:=omega) only[wpS,wpT,Nat.reduceLeDiff,Nat.reduceAdd,Nat.reduceMul,bs87]
 refine call (lawl_blk [1,1,2,2,2,1] (by decide +kernel) (by decide +kernel) (by decide +kernel)) ?_
 rintro v31 h31 ⟨X31,s31⟩
 have E31:=X31
 simp -dsimp (disch:=omega) only[wpS,Nat.reduceEqDiff]
 refine call (dgStuck_ok s31) ?_
 rintro _ h32 ⟨X32,rfl⟩
 have E32:=E31.trans X32
 have r32:stuckRes (mI [1,1,2,2,2,1])=.tuple #[KI 3,KI 0]:=by kernel_rfl
 rw[r32]
 simp -dsimp (disch:=omega) only[wpS,Nat.reduceEqDiff]
 exact⟨E32,rfl,rfl,by simp[f1],by simp[f2],by simp[f3]⟩
set_option maxHeartbeats 8000000 in
theorem w4 {hh:IH} {fr:Fr} {Q:IExit→Fr→IH→Prop} {v2:Value} (hv:ShSl hh v2 twoS) (f1:fget fr 1=some (.bool true)) (f2:fget fr 2=some v2) (f3:fget fr 3=some (KI 0)) (f4:fget fr 4=some (KI 3)) (f5:fget fr 5=some (KI 0)):Do (wpC Proofs.Tryz.prog 10 159 none (partW 4) fr hh) (seqK (fun fr h'=>Pst (Ext hh h'∧fget fr 1=some (.bool true)) nx) Q) nx:=by
 show Do (wpC _ _ _ _ (.region _ _ _) fr hh) _ _
 simp -dsimp (disch:=omega) only[wpS,wpT,Nat.reduceEqDiff,f1,f2]
 refine call (lawq_ok 3 2 (by decide +kernel) (by decide +kernel) (by decide +kernel)) ?_
 rintro _ h33 ⟨X33,rfl⟩
 have E33:=X33
 simp -dsimp (disch:=omega) only[wpS,wpT,Nat.reduceEqDiff]
 refine call (lawq_ok 5 1 (by decide +kernel) (by decide +kernel) (by decide +kernel)) ?_
 rintro _ h34 ⟨X34,rfl⟩
 have E34:=E33.trans X34
 simp only[shareV_shq]
 simp -dsimp (disch:=omega) only[wpS,wpT,Nat.reduceEqDiff,build2]
 have s35:ShSl (h34.new (.cells (shL twoS) 16 none)) (.slice (some ⟨2*h34.n,0,none⟩) 2 5) twoS:=by
  refine⟨sl_block (k:=h34.n) (f:=none) (get_new_same _ _ rfl) (by simp) (by decide) (by decide +kernel) (by omega) (by decide),by decide,?_⟩
  decide +kernel
 have F35:Ext hh (h34.new (.cells (shL twoS) 16 none)):=E34.new _
 refine call (shequal_ok (l:=twoS) (l2:=twoS) (hv.keep F35.keep) s35) ?_
 rintro _ h36 ⟨X36,rfl⟩
 rw[decide_eq_true rfl]
 have E36:=F35.trans X36
 simp -dsimp (disch:=omega) only[wpS,wpT,Nat.reduceEqDiff,f3,f4,f5]
 refine call (faC_ok 4) ?_
 rintro _ h37 ⟨X37,i37,rfl,c37⟩
 have E37:=E36.trans X37
 simp -dsimp (disch:=omega) only[wpS,wpT,Nat.reduceEqDiff]
 refine call (gMean (l:=[]) ⟨SlOf.nil _ (by decide),by simp,(fun p hp=>by cases hp)⟩) ?_
 rintro _ h38 ⟨X38,rfl⟩
 have E38:=E37.trans X38
 have r38:meanRes []=errV 4:=by unfold meanRes;rw[if_neg (by decide)];rfl
 rw[r38]
 simp -dsimp (disch:=omega) only[wpS,wpT,Nat.reduceEqDiff]
 refine call (faT_ok (c37.ext X38)) ?_
 rintro _ h39 ⟨X39,rfl⟩
 have E39:=E38.trans X39
 simp -dsimp (disch:=omega) only[wpS,Nat.reduceEqDiff]
 exact⟨E39,rfl⟩
set_option maxHeartbeats 8000000 in
theorem w5 {hh:IH} {fr:Fr} {Q:IExit→Fr→IH→Prop} (f1:fget fr 1=some (.bool true)):Do (wpC Proofs.Tryz.prog 10 159 none (partW 5) fr hh) (seqK (fun fr h'=>Pst (Ext hh h' ∧ ∃v,ShLs h' v [mI [0,2],mI [1,5]]∧fget fr 6=some v∧fget fr 1=some (.bool true)) nx) Q) nx:=by
 show Do (wpC _ _ _ _ (.region _ _ _) fr hh) _ _
 simp -dsimp (disch:=omega) only[wpS,wpT,Nat.reduceLeDiff,Nat.reduceAdd,Nat.reduceMul,bs87]
 refine call (lawl_blk [0,2] (by decide +kernel) (by decide +kernel) (by decide +kernel)) ?_
 rintro v40 h40 ⟨X40,s40⟩
 have E40:=X40
 simp -dsimp (disch:=omega) only[wpS,wpT,Nat.reduceEqDiff,Nat.reduceLeDiff,Nat.reduceAdd,Nat.reduceMul,bs87]
 refine call (lawl_blk [1,5] (by decide +kernel) (by decide +kernel) (by decide +kernel)) ?_
 rintro v41 h41 ⟨X41,s41⟩
 have E41:=E40.trans X41
 simp -dsimp (disch:=omega) only[wpS,wpT,Nat.reduceEqDiff,Nat.reduceLeDiff,Nat.reduceAdd,Nat.reduceMul,bs22,s40.1.cells,s41.1.cells]
 exact⟨E41.new _,_,shLs_two (s40.keep X41.keep) s41,rfl,by simp[f1]⟩
set_option maxHeartbeats 8000000 in
theorem w6 {hh:IH} {fr:Fr} {Q:IExit→Fr→IH→Prop} {v:Value} (hv:ShLs hh v [mI [0,2],mI [1,5]]) (f1:fget fr 1=some (.bool true)) (f6:fget fr 6=some v):Do (wpC Proofs.Tryz.prog 10 159 none (partW 6) fr hh) (seqK (fun fr h'=>Pst (Ext hh h'∧fget fr 0=some (.bool true)) nx) Q) nx:=by
 show Do (wpC _ _ _ _ (.region _ _ _) fr hh) _ _
 simp -dsimp (disch:=omega) only[wpS,wpT,Nat.reduceEqDiff,f1]
 refine call (isC_ok 5 1) ?_
 rintro _ h42 ⟨X42,i42,j42,rfl,c42⟩
 have E42:=X42
 simp -dsimp (disch:=omega) only[wpS,wpT,Nat.reduceEqDiff,f6]
 refine call (gWithin (ll:=[mI [0,2],mI [1,5]]) (hv.ext E42) (fun _=>⟨by decide +kernel,by decide +kernel⟩)) ?_
 rintro _ h43 ⟨X43,rfl⟩
 have E43:=E42.trans X43
 have r43:withinRes [mI [0,2],mI [1,5]]=.tuple #[shareV ((5:Int):Rat),KI 0]:=withinRes_of (by decide +kernel) (by decide +kernel) (QW_of (by decide +kernel))
 rw[r43]
 simp -dsimp (disch:=omega) only[wpS,wpT,Nat.reduceEqDiff]
 refine call (isT_ok (q:=((5:Int):Rat)) (c42.ext X43) (by decide +kernel) (by decide +kernel) (by decide +kernel) (by decide +kernel)) ?_
 rintro _ h44 ⟨X44,rfl⟩
 have E44:=E43.trans X44
 simp -dsimp (disch:=omega) only[wpS,wpT,Nat.reduceEqDiff]
 refine call (isC_ok 2 1) ?_
 rintro _ h45 ⟨X45,i45,j45,rfl,c45⟩
 have E45:=E44.trans X45
 simp -dsimp (disch:=omega) only[wpS,wpT,Nat.reduceEqDiff,f6]
 refine call (gMeans (ll:=[mI [0,2],mI [1,5]]) (hv.ext E45) (fun _=>⟨by decide +kernel,by decide +kernel⟩)) ?_
 rintro _ h46 ⟨X46,rfl⟩
 have E46:=E45.trans X46
 have r46:meansRes [mI [0,2],mI [1,5]]=.tuple #[shareV ((2:Int):Rat),KI 0]:=meansRes_of (by decide +kernel) (by decide +kernel) (QW_of (by decide +kernel))
 rw[r46]
 simp -dsimp (disch:=omega) only[wpS,wpT,Nat.reduceEqDiff]
 refine call (isT_ok (q:=((2:Int):Rat)) (c45.ext X46) (by decide +kernel) (by decide +kernel) (by decide +kernel) (by decide +kernel)) ?_
 rintro _ h47 ⟨X47,rfl⟩
 have E47:=E46.trans X47
 simp -dsimp (disch:=omega) only[wpS,wpT,Nat.reduceEqDiff]
 refine call (isC_ok 9 10) ?_
 rintro _ h48 ⟨X48,i48,j48,rfl,c48⟩
 have E48:=E47.trans X48
 simp -dsimp (disch:=omega) only[wpS,wpT,Nat.reduceEqDiff,f6]
 refine call (gRatio (ll:=[mI [0,2],mI [1,5]]) (hv.ext E48) (fun _=>⟨by decide +kernel,by decide +kernel⟩)) ?_
 rintro _ h49 ⟨X49,rfl⟩
 have E49:=E48.trans X49
 have r49:ratioRes [mI [0,2],mI [1,5]]=.tuple #[shareV (Rat.divInt (9) 10),KI 0]:=ratioRes_of (by decide +kernel) (by decide +kernel) (by decide +kernel) (QW_of (by decide +kernel))
 rw[r49]
 simp -dsimp (disch:=omega) only[wpS,wpT,Nat.reduceEqDiff]
 refine call (isT_ok (q:=(Rat.divInt (9) 10)) (c48.ext X49) (by decide +kernel) (by decide +kernel) (by decide +kernel) (by decide +kernel)) ?_
 rintro _ h50 ⟨X50,rfl⟩
 have E50:=E49.trans X50
 simp -dsimp (disch:=omega) only[wpS,wpT,Nat.reduceEqDiff]
 refine call (faC_ok 7) ?_
 rintro _ h51 ⟨X51,i51,rfl,c51⟩
 have E51:=E50.trans X51
 simp -dsimp (disch:=omega) only[wpS,wpT,Nat.reduceEqDiff,Nat.reduceLeDiff,Nat.reduceAdd,Nat.reduceMul,bs87]
 refine call (lawl_blk [1,1] (by decide +kernel) (by decide +kernel) (by decide +kernel)) ?_
 rintro v52 h52 ⟨X52,s52⟩
 have E52:=E51.trans X52
 simp -dsimp (disch:=omega) only[wpS,wpT,Nat.reduceEqDiff,Nat.reduceLeDiff,Nat.reduceAdd,Nat.reduceMul,bs87]
 refine call (lawl_blk [2,2] (by decide +kernel) (by decide +kernel) (by decide +kernel)) ?_
 rintro v53 h53 ⟨X53,s53⟩
 have E53:=E52.trans X53
 simp -dsimp (disch:=omega) only[wpS,wpT,Nat.reduceEqDiff,Nat.reduceLeDiff,Nat.reduceAdd,Nat.reduceMul,bs22,s52.1.cells,s53.1.cells]
 refine call (gRatio (ll:=[mI [1,1],mI [2,2]]) (shLs_two (s52.keep X53.keep) s53) (fun _=>⟨by decide +kernel,by decide +kernel⟩)) ?_
 rintro _ h54 ⟨Y54,rfl⟩
 have X54:=((Ext.refl h53).new _).trans Y54
 have E54:=E53.trans X54
 have r54:ratioRes [mI [1,1],mI [2,2]]=errV 7:=ratioRes_no (by decide +kernel) (by decide +kernel)
 rw[r54]
 simp -dsimp (disch:=omega) only[wpS,wpT,Nat.reduceEqDiff]
 refine call (faT_ok (((c51.ext X52).ext X53).ext X54)) ?_
 rintro _ h55 ⟨X55,rfl⟩
 have E55:=E54.trans X55
 simp -dsimp (disch:=omega) only[wpS,wpT,Nat.reduceEqDiff]
 refine call (faC_ok 5) ?_
 rintro _ h56 ⟨X56,i56,rfl,c56⟩
 have E56:=E55.trans X56
 simp -dsimp (disch:=omega) only[wpS,wpT,Nat.reduceEqDiff,Nat.reduceLeDiff,Nat.reduceAdd,Nat.reduceMul,bs87]
 refine call (lawl_blk [1,2] (by decide +kernel) (by decide +kernel) (by decide +kernel)) ?_
 rintro v57 h57 ⟨X57,s57⟩
 have E57:=E56.trans X57
 simp -dsimp (disch:=omega) only[wpS,wpT,Nat.reduceEqDiff,Nat.reduceLeDiff,Nat.reduceAdd,bs22,s57.1.cells]
 refine call (gRatio (ll:=[mI [1,2]]) (shLs_one s57) (fun e=>absurd e (by decide +kernel))) ?_
 rintro _ h58 ⟨Y58,rfl⟩
 have X58:=((Ext.refl h57).new _).trans Y58
 have E58:=E57.trans X58
 have r58:ratioRes [mI [1,2]]=errV 5:=ratioRes_err (by decide +kernel) (by decide)
 rw[r58]
 simp -dsimp (disch:=omega) only[wpS,wpT,Nat.reduceEqDiff]
 refine call (faT_ok ((c56.ext X57).ext X58)) ?_
 rintro _ h59 ⟨X59,rfl⟩
 have E59:=E58.trans X59
 simp -dsimp (disch:=omega) only[wpS,Nat.reduceEqDiff]
 exact⟨E59,rfl⟩
theorem w0 {hh:IH} {fr:Fr} {Q:IExit→Fr→IH→Prop}:Do (wpC Proofs.Tryz.prog 10 159 none (partW 0) fr hh) (seqK (fun fr h'=>Pst (h'=hh) nx) Q) nx:=by
 show Do (wpC _ _ _ _ (.region _ _ _) fr hh) _ _
 simp -dsimp (disch:=omega) only[wpS]
theorem dgworks_ok {h:IH}:WV Proofs.Tryz.prog (.func (.func 10) #[] #[]) [] h fun r h'=>Ext h h'∧r=.bool true:=by
 refine enter (nt:=159) (rs:=[.tmp 0]) Proofs.Tryz.func10 rfl rfl rfl (by simp) ?_
 rw[d_seq];refine cut _ w0 ?_;rintro fr h0 rfl
 rw[d_seq];refine cut _ w1 ?_;rintro fr h1 ⟨x1,f1⟩
 rw[d_seq];refine cut _ (w2 f1) ?_;clear f1;rintro fr h2 ⟨x2,v,s2,f2,f3,f1⟩
 rw[d_seq];refine cut _ (w3 f1 f2 f3) ?_;clear f1 f2 f3;rintro fr h3 ⟨x3,f4,f5,f1,f2,f3⟩
 rw[d_seq];refine cut _ (w4 (s2.keep x3.keep) f1 f2 f3 f4 f5) ?_;clear f1 f2 f3 f4 f5;rintro fr h4 ⟨x4,f1⟩
 rw[d_seq];refine cut _ (w5 f1) ?_;clear f1;rintro fr h5 ⟨x5,v6,s6,f6,f1⟩
 rw[d_seq];refine cut _ (w6 s6 f1 f6) ?_;clear f1 f6;rintro fr h6 ⟨x6,f0⟩
 simp -dsimp (disch:=omega) only[wpS,wpT,f0]
 exact((((x1.trans x2).trans x3).trans x4).trans x5).trans x6
end Go.Id

/-! Weakest preconditions over the ideal machine: appends to slices without room; lengths and parts of slices in regions whose order is open. -/
namespace Go.Id
open Go
theorem append_full {P:Program} {t:TypeId} {sz bytes:Nat} (hT:appT P t=some (sz,bytes)) {h:IH} {b o n:Nat} {cs:List Value} (sv:SlNow h sz (.slice (some ⟨b,o,none⟩) n (2*n+1)) n cs) {x:Value} {m:Nat} {new:List Value} (sx:SlNow h sz x m new) (hm:0<m) (hn:0<n) (hc:new.all cellOK=true) (hsz:(n+m)*(bytes+1)≤1099511627776) :
  append P h t (.slice (some ⟨b,o,none⟩) n (2*n+1)) x=some (.slice (some ⟨2*h.n,0,none⟩) (n+m) (2*(n+m)),h.new (.cells (cs ++ new) sz none)):=by
 unfold appT at hT
 split at hT
 case h_2=>cases hT
 rename_i e hu
 split at hT
 case h_2=>cases hT
 rename_i zs h1 h2 h3
 simp only[cond_eq_ite] at hT
 split at hT
 case isTrue=>cases hT
 rename_i hbad
 cases hT
 have hbad':(sz == 0 || (!(Nat.ble bytes 65536) || !(zs.length == sz)))=false:=by simpa using hbad
 have first : ∀{y:Value} {k:Nat} {l:List Value},0<k→SlNow h sz y k l→firstOf h sz k y=some l∧lenOf y=some k:=by
  intro y k l hk s
  obtain⟨hz,hl,⟨rfl,rfl⟩|⟨b2,o2,k2,rfl,rfl|⟨row,a1,a2,a3⟩⟩⟩:=s
  ·omega
  ·omega
  have hms : ¬k*sz=0:=by
   have:0<k*sz:=Nat.mul_pos hk hz
   omega
  refine⟨?_,rfl⟩
  simp only[firstOf,cond_eq_ite,Nat.ble_eq,Nat.le_refl,if_true,beq_iff_eq,if_neg hms]
  rw[rd_of a1,if_pos a3,a2]
 have hmne:(m == 0)=false:=by simp;omega
 obtain⟨hfx,hlx⟩:=first hm sx
 obtain⟨hfv,_⟩:=first hn sv
 have hble:Nat.ble ((n+m)*(bytes+1)) sizeMost=true:=by rw[Nat.ble_eq];exact hsz
 have hcap:Nat.ble (n+m) ((2*n+1) / 2)=false:=by
  rw[Bool.eq_false_iff];intro hh;rw[Nat.ble_eq] at hh;omega
 have hodd:((2*n+1) % 2 == 1)=true:=by simp
 simp only[Id.append,hu,h1,h2,h3,hlx,hmne,hbad',hfx,hc,hble,hcap,hodd,hfv,cond_true,cond_false,Bool.not_true]
theorem steady_len {P:Program} {fr:Fr} {c:Call} {h h':IH} {v r:Value} {t:TypeId} (hc:c.callee=.builtin .len) (ha:opds fr c.args.toList=some [v]) (ht:c.argTypes[0]?=some t) (h1:lenB P h t v=some r) (h2:lenB P h' t v=some r):steadyAt P fr (.call c) h h'=true :=
 steadyAt_of (v:=r) (x:=h) (y:=h') (by simp[iop,hc,ha,builtin,ht,h1]) (by simp[iop,hc,ha,builtin,ht,h2])
theorem steady_slice {P:Program} {fr:Fr} {t:TypeId} {x:Operand} {lo hi:Option Operand} {h h':IH} {xv r:Value} {lov hiv:Option Value} (hx:opd fr x=some xv) (hl:optOpd fr lo=some lov) (hh:optOpd fr hi=some hiv) (h1:sliceOp P h t xv lov hiv none=some r) (h2:sliceOp P h' t xv lov hiv none=some r):steadyAt P fr (.slice t x lo hi none) h h'=true:=by
 have h0:optOpd fr none=some none:=rfl
 exact steadyAt_of (v:=r) (x:=h) (y:=h') (by simp only[iop,hx,hl,hh,h0,h1,Option.map_some]) (by simp only[iop,hx,hl,hh,h0,h2,Option.map_some])
theorem SlOf.slice_same {h h1 h2:IH} {sz:Nat} {v:Value} {n:Nat} {cs:List Value} (s:SlOf h sz v n cs) (k1:Keep h h1) (k2:Keep h h2) {P:Program} {t e:TypeId} (hu:P.underlying t=some (.slice e)) (hT:sizeT P e=some sz) {lo hi mx:Option Value}:sliceOp P h1 t v lo hi mx=sliceOp P h2 t v lo hi mx:=by
 simp only[sliceOp,hu,hT]
 obtain⟨hz,hl,⟨rfl,rfl⟩|⟨b,o,k,rfl,⟨rfl,rfl⟩|⟨a1,a2,row,a3,h3,h4⟩⟩⟩:=s
 ·rfl
 ·simp[resliced]
 ·rcases a3 with a3|⟨a4,a5,f,a6⟩
  ·simp[resliced,a3.2]
  ·obtain⟨f1,g1⟩:=k1.get (b / 2) row sz f (by omega) a6 (by omega)
   obtain⟨f2,g2⟩:=k2.get (b / 2) row sz f (by omega) a6 (by omega)
   have r1:roomy h1 sz (.slice (some ⟨b,o,none⟩) n k)=true:=by simp[roomy,a4,g1]
   have r2:roomy h2 sz (.slice (some ⟨b,o,none⟩) n k)=true:=by simp[roomy,a4,g2]
   rw[r1,r2]
end Go.Id

/-! The statement DiagnoseBatches, on the ideal machine. -/
namespace Go.Id
open Go
noncomputable def partB (i:Nat):Code:=nthC (Proofs.Tryz.f6.body.getD .skip) i
structure BX (h hh:IH) (fr:Fr) (w:Value) (size:Int) (most more:Bool):Prop where
 e:Ext h hh
 f1:fget fr 1=some w
 f2:fget fr 2=some (KI size)
 f3:fget fr 3=some (.bool most)
 f4:fget fr 4=some (.bool more)
section
variable {h hh:IH} {fr:Fr} {Q:IExit→Fr→IH→Prop} {v w:Value} {n:Nat} {size:Int} {most more:Bool} {l0:List (Nat×Nat)}
theorem b0 (s:BX h hh fr w size most more) (f0:fget fr 0=some v):Do (wpC Proofs.Tryz.prog 6 99 none (partB 0) fr hh) (seqK (fun fr h'=>Pst (BX h h' fr w size most more∧fget fr 0=some v) nx) Q) nx:=by
 show Do (wpC _ _ _ _ (.region _ _ _) fr hh) _ _
 simp -dsimp (disch:=omega) only[wpS]
 exact⟨⟨s.e,by simp[s.f1],by simp[s.f2],by simp[s.f3],by simp[s.f4]⟩,by simp[f0]⟩
theorem b1 (s:BX h hh fr w size most more) (f0:fget fr 0=some v):Do (wpC Proofs.Tryz.prog 6 99 none (partB 1) fr hh) (seqK (fun fr h'=>Pst (BX h h' fr w size most more∧fget fr 0=some v) nx) Q) nx:=by
 show Do (wpC _ _ _ _ (.seq _ _) fr hh) _ _
 simp -dsimp (disch:=omega) only[wpS]
 refine call dgworks_ok ?_
 rintro _ h1 ⟨X1,rfl⟩
 simp -dsimp (disch:=omega) only[wpS,wpT,Nat.reduceEqDiff]
 exact⟨⟨s.e.trans X1,by simp[s.f1],by simp[s.f2],by simp[s.f3],by simp[s.f4]⟩,by simp[f0]⟩
set_option maxHeartbeats 2000000 in
theorem b2 (hv:ShArg h v l0) (hw:DrSl h w n) (s:BX h hh fr w size most more) (f0:fget fr 0=some v):Do (wpC Proofs.Tryz.prog 6 99 none (partB 2) fr hh) (seqK (fun fr h'=>Pst (BX h h' fr w size most more ∧ ∃hb w1 w2 x1 x2,ShSl hb w1 x1∧ShSl hb w2 x2∧h'=hb.new (.cells [w1,w2] 1 none)∧fget fr 11=some (.slice (some ⟨2*hb.n,0,none⟩) 2 5)) nx) Q) nx:=by
 show Do (wpC _ _ _ _ (.region _ _ _) fr hh) _ _
 obtain⟨M,hM⟩ : ∃M,M=min l0.length 5:=⟨_,rfl⟩
 have hmin:(if (5:Int)<(l0.length:Int) then (5:Int) else (l0.length:Int))=(M:Int):=by split<;>omega
 have hv1:=hv.keep s.e.keep
 obtain⟨v1,e1,s1⟩:=hv1.first (Keep.refl hh) (m:=M) (by omega) (by omega)
 refine drawn [(2,[9]),(4,[9])] (by kernel_rfl) (by kernel_rfl) rfl ?_
 simp -dsimp (disch:=omega) only[wpS,Nat.reduceEqDiff,f0,s.f1,hv.1.len sl25,min_ii,hmin,e1]
 refine call (shorts_ok (hw.keep s.e.keep)) ?_
 rintro w2 h2 ⟨X2,l2,s2,hl2,hsh2,hn2⟩
 simp -dsimp (disch:=omega) only[wpS,wpT,Nat.reduceEqDiff,Nat.reduceLeDiff,Nat.reduceAdd,Nat.reduceMul,bs22,s1.1.cells,s2.1.cells]
 have e3:=(hv1.1.slice_same (Keep.refl hh) (X2.keep.new (.cells [v1,w2] 1 none)) (P:=Proofs.Tryz.prog) u25 sz30).symm.trans e1
 refine⟨wpSteady_c2 (wpSteady_one rfl rfl rfl rfl (steady_len rfl rfl rfl (hv.1.len sl25 _) (hv.1.len sl25 _))) (wpSteady_one rfl rfl rfl rfl (steady_slice rfl rfl rfl e1 e3)),?_⟩
 simp -dsimp (disch:=omega) only[wpS,wpT,Nat.reduceAdd]
 exact⟨⟨(s.e.trans X2).new _,by simp[s.f1],by simp[s.f2],by simp[s.f3],by simp[s.f4]⟩,h2,v1,w2,_,l2,s1.keep X2.keep,s2,rfl,rfl⟩
end
end Go.Id

/-! Fractions over a common denominator; sums of lists of fractions (no program in sight). -/
namespace Go.Id
open Go
abbrev LC:Nat:=5354228880
def Over (L B:Nat) (q:Rat):Prop:=0<L ∧ ∃N:Int,q=Rat.divInt N L∧N.natAbs≤B
theorem Over.frac {L B:Nat} {q:Rat} (h:Over L B q) : ∃N:Int,q=(N:Rat) / ((L:Int):Rat)∧N.natAbs≤B∧((L:Int):Rat)≠0:=by
 obtain⟨hL,N,h1,h2⟩:=h
 refine⟨N,by rw[h1,Rat.divInt_eq_div],h2,?_⟩
 intro e
 have:=Rat.intCast_eq_zero_iff.1 e
 omega
theorem Over.of {L B:Nat} {q:Rat} (N:Int) (hL:0<L) (h1:q=(N:Rat) / ((L:Int):Rat)) (h2:N.natAbs≤B):Over L B q:=⟨hL,N,by rw[h1,Rat.divInt_eq_div],h2⟩
theorem Over.qw {L B:Nat} {q:Rat} (h:Over L B q) (h1:L<H8) (h2:B<H8):QW q:=by
 obtain⟨hL,N,rfl,hN⟩:=h
 obtain⟨e1,e2⟩:=low_pos (n:=N) (d:=(L:Int)) (by omega)
 have a1:=ediv_abs N (Int.gcd N (L:Int))
 have a2:=ediv_abs (L:Int) (Int.gcd N (L:Int))
 rw[e1] at a1
 rw[e2] at a2
 have a3:((Rat.divInt N (L:Int)).den:Int).natAbs=(Rat.divInt N (L:Int)).den:=Int.natAbs_natCast _
 have a4:((L:Int)).natAbs=L:=Int.natAbs_natCast _
 refine⟨⟨?_,?_⟩,?_,?_⟩<;>omega
theorem Over.mono {L B C:Nat} {q:Rat} (h:Over L B q) (k:B≤C):Over L C q:=let ⟨a,N,b,c⟩:=h;⟨a,N,b,Nat.le_trans c k⟩
theorem Over.add {L B C:Nat} {x y:Rat} (hx:Over L B x) (hy:Over L C y):Over L (B+C) (x+y):=by
 obtain⟨N,h1,h2,h3⟩:=hx.frac
 obtain⟨M,k1,k2,_⟩:=hy.frac
 refine .of (N+M) hx.1 ?_ (Nat.le_trans (Int.natAbs_add_le N M) (by omega))
 rw[h1,k1,Rat.intCast_add]
 grind
theorem Over.neg {L B:Nat} {x:Rat} (hx:Over L B x):Over L B (-x):=by
 obtain⟨N,h1,h2,h3⟩:=hx.frac
 refine .of (-N) hx.1 ?_ (by omega)
 rw[h1,Rat.intCast_neg]
 grind
theorem Over.sub {L B C:Nat} {x y:Rat} (hx:Over L B x) (hy:Over L C y):Over L (B+C) (x - y):=by
 rw[Rat.sub_eq_add_neg]
 exact hx.add hy.neg
theorem Over.mul {L K B C:Nat} {x y:Rat} (hx:Over L B x) (hy:Over K C y):Over (L*K) (B*C) (x*y):=by
 obtain⟨N,h1,h2,h3⟩:=hx.frac
 obtain⟨M,k1,k2,k3⟩:=hy.frac
 refine .of (N*M) (Nat.mul_pos hx.1 hy.1) ?_ (by rw[Int.natAbs_mul];exact Nat.mul_le_mul h2 k2)
 rw[h1,k1,Rat.intCast_mul,Int.natCast_mul,Rat.intCast_mul]
 grind
theorem nat_ne {m:Nat} (hm:0<m):((m:Int):Rat)≠0:=by
 intro e
 have:=Rat.intCast_eq_zero_iff.1 e
 omega
theorem Over.divN {L B:Nat} {x:Rat} (hx:Over L B x) {m:Nat} (hm:0<m):Over (L*m) B (x / ((m:Int):Rat)):=by
 obtain⟨N,h1,h2,h3⟩:=hx.frac
 have:=nat_ne hm
 refine .of N (Nat.mul_pos hx.1 hm) ?_ h2
 rw[h1,Int.natCast_mul,Rat.intCast_mul]
 grind
theorem Over.up {L B:Nat} {x:Rat} (hx:Over L B x) {m:Nat} (hm:0<m):Over (L*m) (B*m) x:=by
 obtain⟨N,h1,h2,h3⟩:=hx.frac
 have:=nat_ne hm
 refine .of (N*m) (Nat.mul_pos hx.1 hm) ?_ (by rw[Int.natAbs_mul,Int.natAbs_natCast];exact Nat.mul_le_mul_right _ h2)
 rw[h1,Int.natCast_mul,Rat.intCast_mul,Rat.intCast_mul]
 grind
theorem Over.zero {L:Nat} (h:0<L):Over L 0 0:=.of 0 h (by simp;grind) (by simp)
theorem qsum_cons (x:Rat) (l:List Rat):qsum (x :: l)=x+qsum l:=by
 have key : ∀(l:List Rat) (a:Rat),l.foldl (· + ·) a=a+l.foldl (· + ·) 0:=by
  intro l
  induction l with
  | nil=>intro a;simp[Rat.add_zero]
  | cons y l ih=>intro a;rw[List.foldl_cons,List.foldl_cons,ih,ih (0+y)];grind
 show List.foldl _ _ _=_
 rw[List.foldl_cons,key]
 unfold qsum
 grind
theorem qsum_app (l m:List Rat):qsum (l ++ m)=qsum l+qsum m:=by
 induction l with
 | nil=>rw[List.nil_append,qsum_nil];grind
 | cons x l ih=>rw[List.cons_append,qsum_cons,qsum_cons,ih];grind
theorem Over.qsum {L B:Nat} (hL:0<L) : ∀{l:List Rat},(∀q∈l,Over L B q)→Over L (l.length*B) (qsum l)
 | [],_=>by rw[qsum_nil];simpa using Over.zero hL
 | x :: l,h=>by
  rw[qsum_cons]
  exact((h x (by simp)).add (Over.qsum hL fun q hq=>h q (by simp[hq]))).mono (by rw[List.length_cons,Nat.add_mul];omega)
theorem Over.qmean {L B:Nat} {l:List Rat} (h : ∀q∈l,Over L B q) (h0:l ≠ []):Over (L*l.length) (l.length*B) (qmean l):=by
 cases l with
 | nil=>exact absurd rfl h0
 | cons x l=>exact(Over.qsum (h x (by simp)).1 h).divN (by simp)
theorem isShort.ok {p:Nat×Nat} (h:isShort p):okS p.1 p.2∧Over LC (999*LC) (rOf p)∧shOf (rOf p)=p:=by
 obtain⟨a,c,ha,hc,rfl⟩:=h
 have hq:=qw_div (n:=a) (d:=c) ⟨by omega,by omega⟩ ⟨by omega,by omega⟩ (by omega)
 have e1:wdI (shq (Rat.divInt a c)).1=(Rat.divInt a c).num:=wdI_wideN hq.1
 have e2:wdI (shq (Rat.divInt a c)).2=((Rat.divInt a c).den:Int):=wdI_wideN hq.2
 have e3:rOf (shq (Rat.divInt a c))=Rat.divInt a c:=by
  unfold rOf
  rw[e1,e2,Rat.num_divInt_den]
 refine⟨⟨?_,?_⟩,?_,?_⟩
 ·rw[e2];have:=(Rat.divInt a c).den_pos;omega
 ·rw[e1,e2]
  have:=(Rat.divInt a c).reduced
  exact this
 ·rw[e3]
  have hdv : ∀c:Nat,c<25→0<c→c*(LC / c)=LC:=by decide
  obtain⟨k,rfl⟩:=Int.eq_ofNat_of_zero_le (show 0≤c by omega)
  have hk:=hdv k (by omega) (by omega)
  have hk2:LC / k≤LC:=Nat.div_le_self _ _
  have hk0:0<LC / k:=Nat.pos_of_ne_zero fun e=>by rw[e] at hk;simp at hk
  generalize LC / k=j at hk hk2 hk0
  refine⟨by decide,a*j,?_,?_⟩
  ·have:(LC:Int)=(k:Int)*j:=by rw[←hk,Int.natCast_mul]
   rw[this,Rat.divInt_mul_right (by omega)]
  ·rw[Int.natAbs_mul,Int.natAbs_natCast]
   exact Nat.mul_le_mul (by omega) hk2
 ·rw[e3];rfl
end Go.Id

/-! DiagnoseParts: what the law needs of numbers (no program in sight). -/
namespace Go.Id
open Go
theorem sqr_ge (x:Rat):0≤x*x:=by
 rcases Rat.le_total (a:=0) (b:=x) with h|h
 ·exact Rat.mul_nonneg h h
 ·have:=Rat.mul_nonneg (show 0 ≤ -x by grind) (show 0 ≤ -x by grind)
  grind
theorem sqr_zero {x:Rat} (h:x*x=0):x=0:=by
 rcases Rat.mul_eq_zero.1 h with h|h<;>exact h
theorem qprods_zero (l:List Rat) (c:Rat):qprods l c 0=l.map fun x=>(x - c)*(x - c):=by
 unfold qprods
 rw[Nat.sub_zero]
 apply List.ext_getElem?
 intro i
 rw[List.getElem?_map,List.getElem?_map]
 by_cases hi:i<l.length
 ·rw[List.getElem?_range hi,List.getElem?_eq_getElem hi]
  simp only[Option.map_some,qpr,Nat.add_zero,List.getD_eq_getElem?_getD,List.getElem?_eq_getElem hi,Option.getD_some]
 ·rw[List.getElem?_eq_none (by simpa using hi),List.getElem?_eq_none (by omega)];rfl
theorem shq_inj {x y:Rat} (hx:QW x) (hy:QW y) (h:shq x=shq y):x=y:=by
 have h1:wideN x.num=wideN y.num:=congrArg Prod.fst h
 have h2:wideN (x.den:Int)=wideN (y.den:Int):=congrArg Prod.snd h
 have e1:x.num=y.num:=by rw[←wdI_wideN hx.1,←wdI_wideN hy.1,h1]
 have e2:(x.den:Int)=y.den:=by rw[←wdI_wideN hx.2,←wdI_wideN hy.2,h2]
 exact Rat.ext e1 (by omega)
theorem QW_zero:QW 0:=QW_of (by decide +kernel)
theorem shOf_rOf {q:Rat} (h:QW q):rOf (shOf q)=q∧okS (shOf q).1 (shOf q).2:=by
 have e1:wdI (shOf q).1=q.num:=wdI_wideN h.1
 have e2:wdI (shOf q).2=(q.den:Int):=wdI_wideN h.2
 refine⟨?_,?_,?_⟩
 ·unfold rOf;rw[e1,e2,Rat.num_divInt_den]
 ·rw[e2];have:=q.den_pos;omega
 ·rw[e1,e2];have:=q.reduced;exact this
theorem Over.qauto {L B:Nat} {l:List Rat} (h : ∀q∈l,Over L B q) (h0:l ≠ []) (k:Nat):Over (L*l.length*(L*l.length)*l.length) (l.length*((B*l.length+l.length*B)*(B*l.length+l.length*B))) (Id.qauto l (Id.qmean l) k):=by
 have hl:0<l.length:=List.length_pos_iff.2 h0
 have hL:0<L:=by obtain⟨x,hx⟩:=List.exists_mem_of_ne_nil l h0;exact(h x hx).1
 unfold Id.qauto qlen
 refine Over.divN ?_ hl
 refine(Over.qsum (L:=L*l.length*(L*l.length)) (B:=(B*l.length+l.length*B)*(B*l.length+l.length*B)) (Nat.mul_pos (Nat.mul_pos hL hl) (Nat.mul_pos hL hl)) ?_).mono (Nat.mul_le_mul_right _ (by unfold qprods;rw[List.length_map,List.length_range];omega))
 intro q hq
 obtain⟨t,ht,rfl⟩:=List.mem_map.1 hq
 have ht:t<l.length - k:=by simpa using ht
 have key : ∀i,i<l.length→Over (L*l.length) (B*l.length+l.length*B) (l.getD i 0 - Id.qmean l):=fun i hi=>by
  refine Over.sub ((h _ ?_).up hl) (Over.qmean h h0)
  rw[List.getD_eq_getElem?_getD,List.getElem?_eq_getElem hi]
  exact List.getElem_mem hi
 unfold qpr
 exact(key t (by omega)).mul (key (t+k) (by omega))
end Go.Id
