/-
  Contracts: package diagnose: Effective. Contracts: the reference's chapter 35: spreads. Contracts: the reference's chapter 35: Mean, Auto. Contracts: the reference's chapter 35: the variance within, and that of the means. Contracts: package diagnose: Within, Means, Ratio. Contracts: the reference's chapter 35: Within, Means. Contracts: the reference's chapter 35: Effective. Contracts: the reference's chapter 35: Ratio. Contracts: package diagnose: Stuck. Contracts: the reference's Stuck. Contracts of package diagnose and of its reference for lists of shares of any parts. Contracts: what the law's examples use. Contracts: the law's examples (works). Weakest preconditions over the ideal machine: appends to slices without room; lengths and parts of slices in regions whose order is open. DiagnoseKnown: the lists that it makes, parts of them, results.
-/
import Derived.Test.YthbkinefgmfgeaaDiagnoseKnownAj
import Derived.Test.YthbkinefgmfgeaaDiagnoseKnownAk
set_option linter.unusedVariables false
set_option linter.unusedSimpArgs false
set_option linter.defProp false
set_option linter.deprecated false
/-! Contracts: package diagnose: Effective. -/
namespace Go.Id
open Go
def effS (a:Nat→Rat) (w:Rat) (n:Nat):Nat→Nat→Rat→Rat
 | 0,_,s=>s
 | f+1,k,s=>if 2*k<n then (if a (2*k)+a (2*k+1)≤0 then s else effS a w n f (k+1) (s+(a (2*k)+a (2*k+1)) / w)) else s
def effT (s:Rat) (n:Rat):Rat:=if s+s - 1<1 / n then 1 / n else s+s - 1
def qeff (l:List Rat):Rat:=qlen l / effT (effS (qauto l (qmean l)) (qauto l (qmean l) 0) l.length (l.length+1) 0 0) (qlen l)
noncomputable def effRes (l:List (Nat×Nat)):Value:=if chErr l=0 then (if qauto (l.map rOf) (qmean (l.map rOf)) 0=0 then errV 7 else toldV (qeff (l.map rOf))) else errV (chErr l)
theorem qauto_far {l:List Rat} {c:Rat} {k:Nat} (h:l.length≤k):qauto l c k=0:=by
 have:l.length - k=0:=by omega
 simp[qauto,qprods,this,qsum,Rat.div_def]
theorem qauto_bits {l:List Rat} {c:Rat} {kb kc k:Nat} (hk : ∀q∈l,QB kb q) (hc:QB kc c) (hl:l.length≤100000) (h0:l ≠ []):QB (l.length*(kb+kc+1+(kb+kc+1)+1)+17) (qauto l c k):=by
 have h1:QB ((qprods l c k).length*(kb+kc+1+(kb+kc+1)+1)) (qsum (qprods l c k)):=QB.qsumAll fun q hq=>by
  obtain⟨t,ht,rfl⟩:=List.mem_map.1 hq
  exact qpr_bits hk hc (by simp at ht;omega)
 refine((h1.mono ?_).div (qlen_bits hl) (qlen_ne h0))
 rw[qprods_len]
 exact Nat.mul_le_mul_right _ (by omega)
theorem auto_far_ok {h:IH} {v:Value} {l:List Rat} {c:Rat} {lag:Nat} (hv:RunIs h v l c) (hlag:l.length≤lag) (hb:lag<1000000) :
  WV Proofs.Try.prog (.func (.func 25) #[] #[]) [v,KN lag] h fun r h'=>Ext h h'∧PRat h' r (qauto l c lag):=by
 obtain⟨s,a1,s1,b1,t1,rfl,hs,hcc⟩:=hv
 obtain⟨cs0,hs0,_,hlen⟩:=id hs
 rw[qauto_far hlag]
 refine enter (nt:=27) (rs:=[.cell 4 51]) Proofs.Try.func25 rfl rfl rfl (by simp) ?_
 simp -dsimp (disch:=omega) only[wpS,Nat.reduceEqDiff,Nat.reduceAdd,zc51]
 have E1:Ext h ((h.new (.cells [s,a1,s1,b1,t1] 0 none)).new (.cells ZR 0 none)):=((Ext.refl h).new _).new _
 have g0:((h.new (.cells [s,a1,s1,b1,t1] 0 none)).new (.cells ZR 0 none)).ext.get h.n=some (.cells [s,a1,s1,b1,t1] 0 none):=by simp (disch:=first|omega|(simp only[new_n,put_n];omega)|(repeat first|rw[new_n]|rw[put_n])) only[get_new_same,get_new_old]
 have g1:((h.new (.cells [s,a1,s1,b1,t1] 0 none)).new (.cells ZR 0 none)).ext.get (h.n+1)=some (.cells ZR 0 none):=by simp (disch:=first|omega|(simp only[new_n,put_n];omega)|(repeat first|rw[new_n]|rw[put_n])) only[get_new_same]
 refine call (rfrom_ok 0 ⟨by omega,by omega⟩) ?_
 rintro z h1 ⟨X1,p1⟩
 have m1:=X1.n
 simp only[new_n] at m1
 obtain⟨a3,s3,b3,t3,rfl,_,_,d1,q1,d2,q2,q3,q4⟩:=p1.parts
 have k0:=X1.kept (by simp<;>omega) g0
 have k1:=X1.kept (by simp) g1
 have c1:decide ((l.length:Int)≤(lag:Int))=true:=decide_eq_true (by omega)
 simp -dsimp (disch:=omega) only[wpS,wpT,Nat.reduceEqDiff,Nat.reduceLeDiff,Nat.reduceAdd,zc51,st51,fa55_0,ld53,ld51,q1,q2,q3,q4,row_of k0,hs0.len sl53,c1,tk4',k1]
 have kp:Keep h1 (((h1.new (.cells ZR 0 none)).put h1.n (.cells [a3,s3,b3,t3] 0 none)).put (h.n+1) (.cells [a3,s3,b3,t3] 0 none)):=((((Ext.refl h1).new _).put (Nat.le_refl _) _).keep).put (cs:=ZR) (f:=none) (by simp (disch:=first|omega|(simp only[new_n,put_n];omega)|(repeat first|rw[new_n]|rw[put_n])) only[get_new_old,get_put_old];exact k1) _
 exact⟨((((E1.trans X1).new _).put (by omega) _).put (by omega) _),p1.keep kp⟩
theorem auto_any_ok {h:IH} {v:Value} {l:List Rat} {c:Rat} {lag:Nat} (hv:RunIs h v l c) (hlag:lag<1000000) {kb kc:Nat} (hk : ∀q∈l,QB kb q) (hc:QB kc c) (hb:l.length*(kb+kc+1+(kb+kc+1)+1)+17<16000000) :
  WV Proofs.Try.prog (.func (.func 25) #[] #[]) [v,KN lag] h fun r h'=>Ext h h'∧PRat h' r (qauto l c lag):=by
 by_cases hl:lag<l.length
 ·exact auto_ok hv hl hk hc hb
 ·exact auto_far_ok hv (by omega) hlag
theorem wv_bound {P:Program} {f:FuncId} {a v:Value} {h:IH} {K:Value→IH→Prop} (w:WV P (.func (.func f) #[] #[]) [a,v] h K):WV P (.func (.func f) #[a] #[]) [v] h K:=by
 obtain⟨p,⟨N,hN⟩,hk⟩:=w
 refine⟨p,⟨N,fun n hn=>?_⟩,hk⟩
 have:=hN n hn
 cases n with
 | zero=>exact this
 | succ n=>exact this
theorem rside_rat {h:IH} {a s b t:Value} {q:Rat} (hv:PRat h (.agg #[a,s,b,t]) q):PLong h (.agg #[a,s]) q.num:=by
 obtain⟨_,_,_,_,he,h1,_⟩:=hv
 cases he
 exact h1
theorem side_sign (q:Rat):(if q.num<0 then (-1:Int) else if q.num=0 then 0 else 1)=if q<0 then -1 else if q=0 then 0 else 1:=by
 have e1:q.num<0↔q<0:=by
  have:=Rat.num_nonneg (q:=q)
  constructor
  ·intro h
   apply Classical.byContradiction;intro hn
   have:=this.2 (Rat.not_lt.1 hn)
   omega
  ·intro h
   apply Classical.byContradiction;intro hn
   have:=this.1 (by omega)
   exact absurd h (Rat.not_lt.2 this)
 have e2:q.num=0↔q=0:=Rat.num_eq_zero
 simp only[e1,e2]
abbrev eBits (n k:Nat):Nat:=(n+1)*(aBits n k+aBits n k+1+aBits n k+1)
theorem rat_pos_inv {n:Rat} (h:0<n):0<1 / n:=by
 rw[Rat.div_def,Rat.one_mul];exact Rat.inv_pos.2 h
theorem qlen_pos {l:List Rat} (h:l ≠ []):0<qlen l:=by
 have:0<l.length:=List.length_pos_iff.2 h
 exact Rat.intCast_pos.2 (by omega)
theorem effT_pos {s n:Rat} (h:0<n):0<effT s n:=by
 have h1:=rat_pos_inv h
 unfold effT
 split
 ·exact h1
 ·rename_i h2
  apply Classical.byContradiction;intro hn
  exact absurd h1 (Rat.not_lt.2 (Rat.le_trans (Rat.not_lt.1 h2) (Rat.not_lt.1 hn)))
set_option maxHeartbeats 8000000 in
theorem dgEff_ok {h:IH} {v:Value} {l:List (Nat×Nat)} (hv:ShSl h v l) {k:Nat} (hk:allOk l → ∀q∈l.map rOf,QB k q) (hb:l.length≤200→eBits l.length k+eBits l.length k+100<16000000) :
  WV Proofs.Try.prog (.func (.func 11) #[] #[]) [v] h fun r h'=>Ext h h'∧r=effRes l:=by
 have her:=chErr_range l
 refine enter (nt:=78) (rs:=[.cell 2 27,.tmp 3]) Proofs.Try.func11 rfl rfl rfl (by simp) ?_
 simp -dsimp (disch:=omega) only[wpS,Nat.reduceEqDiff,zc27]
 have E1:Ext h (h.new (.cells Z16 0 none)):=(Ext.refl h).new _
 have g1:(h.new (.cells Z16 0 none)).ext.get h.n=some (.cells Z16 0 none):=by simp (disch:=first|omega|(simp only[new_n,put_n];omega)|(repeat first|rw[new_n]|rw[put_n])) only[get_new_same]
 refine call (dgcheck_ok (hv.keep E1.keep)) ?_
 rintro _ h1 ⟨X1,rfl⟩
 have m1:=X1.n
 simp only[new_n] at m1
 have k1:=X1.kept (by simp) g1
 unfold effRes
 by_cases he:chErr l=0
 case neg =>
  rw[if_neg he]
  have he':(chErr l == 0)=false:=by simpa using he
  simp -dsimp (disch:=omega) only[wpS,wpT,Nat.reduceEqDiff,Nat.reduceLeDiff,Nat.reduceAdd,bv27,st27,ld27,k1,sh_tz]
  exact⟨(E1.trans X1).put (by omega) _,by rw[sh_zeroV]⟩
 rw[if_pos he,he]
 obtain⟨e1,e2,e3⟩:=chErr_iff.1 he
 have hkk:=hk e2
 have hbb:=hb e1
 clear hk hb
 have e3':l.map rOf ≠ []:=by simpa using e3
 have hl0:0<l.length:=List.length_pos_iff.2 e3
 obtain⟨ka,hka⟩ : ∃ka,ka=aBits l.length k:=⟨_,rfl⟩
 have hab:aBits l.length k<16000000:=by
  have:1*(aBits l.length k+aBits l.length k+1+aBits l.length k+1)≤eBits l.length k:=Nat.mul_le_mul_right _ (by omega)
  omega
 have hmb:=qmean_bits (l:=l.map rOf) e3' (by simp;omega) hkk
 rw[List.length_map] at hmb
 have haB : ∀j,QB ka (qauto (l.map rOf) (qmean (l.map rOf)) j):=fun j=>by
  have:=qauto_bits (k:=j) hkk hmb (by simp;omega) e3'
  rw[List.length_map] at this
  rw[hka];exact this
 have hEv:eBits l.length k=(l.length+1)*(ka+ka+1+ka+1):=by rw[hka]
 rw[hEv] at hbb
 simp -dsimp (disch:=omega) only[wpS,wpT,Nat.reduceEqDiff]
 refine call (chain_ok (hv.keep (E1.trans X1).keep) e2 (by omega) e3 hkk (Nat.lt_of_le_of_lt (mle_a _ _) hab)) ?_
 rintro R h2 ⟨X2,hR⟩
 have m2:=X2.n
 simp -dsimp (disch:=omega) only[wpS,Nat.reduceEqDiff]
 have hauto : ∀(hh:IH) (j:Nat),Ext h2 hh→j<1000000→WV Proofs.Try.prog (.func (.func 25) #[R] #[]) [KN j] hh fun r h'=>Ext hh h'∧PRat h' r (qauto (l.map rOf) (qmean (l.map rOf)) j):=fun hh j e hj =>
  wv_bound (auto_any_ok (hR.keep e.keep) hj hkk hmb (by rw[List.length_map];exact hab))
 generalize hA:qauto (l.map rOf) (qmean (l.map rOf))=A at *
 refine call (hauto h2 0 (Ext.refl _) (by omega)) ?_
 rintro r3 h3 ⟨X3,p3⟩
 have m3:=X3.n
 obtain⟨a3,s3,b3,t3,rfl,_,_,_,u1,_,u2,u3,u4⟩:=p3.parts
 simp -dsimp (disch:=omega) only[wpS,wpT,Nat.reduceEqDiff,Nat.reduceLeDiff,Nat.reduceAdd,zc51,st51,fa51_0,ld49,u1,u2,u3,u4,tkA]
 obtain⟨H4,hH4⟩ : ∃H4,H4=(h3.new (.cells ZR 0 none)).put h3.n (.cells [a3,s3,b3,t3] 0 none):=⟨_,rfl⟩
 have x4:Ext h3 H4:=by rw[hH4];exact((Ext.refl _).new _).put (Nat.le_refl _) _
 have n4:H4.n=h3.n+1:=by rw[hH4];rfl
 have g6:H4.ext.get h3.n=some (.cells [a3,s3,b3,t3] 0 none):=by rw[hH4];simp (disch:=first|omega|(simp only[new_n,put_n];omega)|(repeat first|rw[new_n]|rw[put_n])) only[get_put_same]
 have k4:=x4.kept (by omega) (X3.kept (by omega) (X2.kept (by omega) k1))
 have p4:=p3.keep x4.keep
 have E4:=(((E1.trans X1).trans X2).trans X3).trans x4
 rw[←hH4]
 clear hH4
 refine call (pside_ok (rside_rat p4)) ?_
 rintro _ h5 ⟨X5,rfl⟩
 rw[side_sign]
 have m5:=X5.n
 have k5:=X5.kept (by omega) k4
 have g65:=X5.kept (by omega) g6
 have p5:=p4.keep X5.keep
 have E5:=E4.trans X5
 have E25:Ext h2 h5:=(X3.trans x4).trans X5
 by_cases hw0:A 0=0
 ·rw[if_pos hw0,hw0,if_neg (by decide),if_pos rfl]
  simp -dsimp (disch:=omega) only[wpS,wpT,Nat.reduceEqDiff,Nat.reduceLeDiff,Nat.reduceAdd,bv27,st27,ld27,k5,sh_tz]
  exact⟨E5.put (by omega) _,by rw[sh_zeroV]⟩
 obtain⟨cc,hcc,hc0⟩ : ∃c:Int,(if A 0<0 then (-1:Int) else if A 0=0 then 0 else 1)=c∧(c == 0)=false:=⟨_,rfl,by split<;>(try split)<;>first|rfl|contradiction⟩
 rw[hcc,if_neg hw0]
 simp -dsimp (disch:=omega) only[wpS,Nat.reduceEqDiff,hc0,hv.1.len sl28]
 refine call (rfrom_ok (l.length:Int) ⟨by omega,by omega⟩) ?_
 rintro r6 h6 ⟨X6,p6⟩
 have m6:=X6.n
 obtain⟨a6,s6,b6,t6,rfl,_,_,_,u1,_,u2,u3,u4⟩:=p6.parts
 simp -dsimp (disch:=omega) only[wpS,wpT,Nat.reduceEqDiff,Nat.reduceLeDiff,Nat.reduceAdd,zc51,st51,u1,u2,u3,u4]
 obtain⟨H7,hH7⟩ : ∃H4,H4=(h6.new (.cells ZR 0 none)).put h6.n (.cells [a6,s6,b6,t6] 0 none):=⟨_,rfl⟩
 have x7:Ext h6 H7:=by rw[hH7];exact((Ext.refl _).new _).put (Nat.le_refl _) _
 have n7:H7.n=h6.n+1:=by rw[hH7];rfl
 have g7:H7.ext.get h6.n=some (.cells [a6,s6,b6,t6] 0 none):=by rw[hH7];simp (disch:=first|omega|(simp only[new_n,put_n];omega)|(repeat first|rw[new_n]|rw[put_n])) only[get_put_same]
 have p7:=p6.keep x7.keep
 rw[←hH7]
 clear hH7
 refine call (rfrom_ok 0 ⟨by omega,by omega⟩) ?_
 rintro r8 h8 ⟨X8,p8⟩
 have m8:=X8.n
 obtain⟨a8,s8,b8,t8,rfl,_,_,_,u1,_,u2,u3,u4⟩:=p8.parts
 simp -dsimp (disch:=omega) only[wpS,wpT,Nat.reduceEqDiff,Nat.reduceLeDiff,Nat.reduceAdd,zc51,st51,u1,u2,u3,u4]
 have x9:Ext h8 ((h8.new (.cells ZR 0 none)).put h8.n (.cells [a8,s8,b8,t8] 0 none)):=((Ext.refl _).new _).put (Nat.le_refl _) _
 obtain⟨W,hW⟩ : ∃W,W=A 0:=⟨_,rfl⟩
 obtain⟨N,hN⟩ : ∃N,N=l.length:=⟨_,rfl⟩
 rw[←hW] at p5 hw0
 have pn:PRat H7 (.agg #[a6,s6,b6,t6]) ((N:Int):Rat):=by rw[hN];exact p7
 have St : ∀hh,Ext h8 hh→Ext h hh∧Ext h2 hh∧hh.ext.get h.n=some (.cells Z16 0 none)∧hh.ext.get h3.n=some (.cells [a3,s3,b3,t3] 0 none)∧hh.ext.get h6.n=some (.cells [a6,s6,b6,t6] 0 none)∧PRat hh (.agg #[a3,s3,b3,t3]) W∧PRat hh (.agg #[a6,s6,b6,t6]) ((N:Int):Rat):=by
  intro hh e
  have e6:=((X6.trans x7).trans X8).trans e
  exact⟨E5.trans e6,E25.trans e6,e6.kept (by omega) k5,e6.kept (by omega) g65,(X8.trans e).kept (by omega) g7,p5.keep e6.keep,pn.keep (X8.trans e).keep⟩
 have hbN:(N+1)*(ka+ka+1+ka+1)+(N+1)*(ka+ka+1+ka+1)+100<16000000:=by rw[hN];exact hbb
 have hka3:1*(ka+ka+1+ka+1)≤(N+1)*(ka+ka+1+ka+1):=Nat.mul_le_mul_right _ (by omega)
 refine loop_cut (fun fr hh => ∃a s b t,Ext h8 hh∧h8.n<hh.n∧hh.ext.get h8.n=some (.cells [a,s,b,t] 0 none)∧PRat hh (.agg #[a,s,b,t]) (effS A W N (N+1) 0 0)∧QB ((N+1)*(ka+ka+1+ka+1)) (effS A W N (N+1) 0 0)∧fget fr 2=some (ptr (2*h.n) 0)∧fget fr 7=some (ptr (2*h6.n) 0)∧fget fr 8=some (ptr (2*h8.n) 0)) ?_ ?_
 ·refine loop (fun m fr hh => ∃(i:Nat) (S:Rat) (a s b t:Value),i+m=N+1∧effS A W N m i S=effS A W N (N+1) 0 0∧QB (i*(ka+ka+1+ka+1)) S∧Ext h8 hh∧h8.n<hh.n∧hh.ext.get h8.n=some (.cells [a,s,b,t] 0 none)∧PRat hh (.agg #[a,s,b,t]) S ∧
    fget fr 0=some v∧fget fr 2=some (ptr (2*h.n) 0)∧fget fr 5=some (.func (.func 25) #[R] #[])∧fget fr 6=some (ptr (2*h3.n) 0)∧fget fr 7=some (ptr (2*h6.n) 0)∧fget fr 8=some (ptr (2*h8.n) 0)∧fget fr 9=some (KN i)) (N+1)
   ⟨0,0,a8,s8,b8,t8,by omega,rfl,by rw[Nat.zero_mul];exact QB.zero,x9,by simp,by simp (disch:=first|omega|(simp only[new_n,put_n];omega)|(repeat first|rw[new_n]|rw[put_n])) only[get_put_same],p8.keep x9.keep,by simp,by simp,by simp,by simp,by simp,by simp,by simp⟩ ?_
  rintro m fr hh ⟨i,S,a,s,b,t,him,hS,hSb,e,hn,g8,p8',f0,f2,f5,f6,f7,f8,f9⟩
  have done : ∀(x:S=effS A W N (N+1) 0 0),QB ((N+1)*(ka+ka+1+ka+1)) (effS A W N (N+1) 0 0):=fun x=>by
   rw[←x];exact hSb.mono (Nat.mul_le_mul_right _ (by omega))
  have e2i:(2:Int)*(i:Int)=((2*i:Nat):Int):=by omega
  simp -dsimp (disch:=omega) only[wpS,Nat.reduceEqDiff,f0,f9,hv.1.len sl28,e2i]
  refine bq_intro ?_ ?_<;>intro hc<;>simp only[decide_eq_true_eq,decide_eq_false_iff_not] at hc
  ·have h2i:2*i<N:=by omega
   obtain⟨m',rfl⟩ : ∃m',m=m'+1:=⟨m - 1,by omega⟩
   rw[effS,if_pos h2i] at hS
   obtain⟨y1,y2,y3,y4,y5,y6,y7⟩:=St hh e
   simp -dsimp (disch:=omega) only[wpS,wpT,Nat.reduceEqDiff,f5,f9,e2i]
   refine call (hauto hh (2*i) y2 (by omega)) ?_
   rintro ra z1 ⟨Z1,q1⟩
   have e2j:((2*i:Nat):Int)+1=((2*i+1:Nat):Int):=by omega
   simp -dsimp (disch:=omega) only[wpS,Nat.reduceEqDiff,f5,f9,e2i,e2j]
   refine call (hauto z1 (2*i+1) (y2.trans Z1) (by omega)) ?_
   rintro rb z2 ⟨Z2,q2⟩
   simp -dsimp (disch:=omega) only[wpS,Nat.reduceEqDiff]
   refine call (rplus_ok (q1.keep Z2.keep) q2 (haB _) (haB _) (by omega)) ?_
   rintro rc z3 ⟨Z3,q3⟩
   have hpB:=(haB (2*i)).add (haB (2*i+1))
   have Z13:=(Z1.trans Z2).trans Z3
   have mz:=Z13.n
   obtain⟨P,hP⟩ : ∃P,P=A (2*i)+A (2*i+1):=⟨_,rfl⟩
   rw[←hP] at q3 hS hpB
   obtain⟨c1,c2,c3,c4,rfl,_,_,_,u1,_,u2,u3,u4⟩:=q3.parts
   simp -dsimp (disch:=omega) only[wpS,wpT,Nat.reduceEqDiff,Nat.reduceLeDiff,Nat.reduceAdd,zc51,st51,fa51_0,ld49,u1,u2,u3,u4,tkA]
   obtain⟨H4,hH4⟩ : ∃H4,H4=(z3.new (.cells ZR 0 none)).put z3.n (.cells [c1,c2,c3,c4] 0 none):=⟨_,rfl⟩
   have w4:Ext z3 H4:=by rw[hH4];exact((Ext.refl _).new _).put (Nat.le_refl _) _
   have nw4:H4.n=z3.n+1:=by rw[hH4];rfl
   have gp:H4.ext.get z3.n=some (.cells [c1,c2,c3,c4] 0 none):=by rw[hH4];simp (disch:=first|omega|(simp only[new_n,put_n];omega)|(repeat first|rw[new_n]|rw[put_n])) only[get_put_same]
   have q4:=q3.keep w4.keep
   rw[←hH4]
   clear hH4
   refine call (pside_ok (rside_rat q4)) ?_
   rintro _ z5 ⟨Z5,rfl⟩
   rw[side_sign]
   have mz5:=Z5.n
   have e5:Ext hh z5:=(Z13.trans w4).trans Z5
   have gs5:=e5.kept hn g8
   have gp5:=Z5.kept (by omega) gp
   have ps5:=p8'.keep e5.keep
   have pp5:=q4.keep Z5.keep
   by_cases hp0:P≤0
   ·rw[if_pos hp0] at hS
    obtain⟨c,hc,hc0⟩ : ∃c:Int,(if P<0 then (-1:Int) else if P=0 then 0 else 1)=c∧decide (c≤0)=true:=⟨_,rfl,by
     rcases Rat.le_iff_lt_or_eq.1 hp0 with h|h
     ·rw[if_pos h];rfl
     ·rw[if_neg (by rw[h];exact Rat.lt_irrefl),if_pos h];rfl⟩
    rw[hc]
    simp -dsimp (disch:=omega) only[wpS,Nat.reduceEqDiff,hc0]
    exact⟨a,s,b,t,e.trans e5,by omega,gs5,hS▸ps5,done hS,by simp[f2],by simp[f7],by simp[f8]⟩
   ·rw[if_neg hp0] at hS
    have hpos:=Rat.not_le.1 hp0
    rw[if_neg (fun h=>hp0 (Rat.le_of_lt h)),if_neg (fun h=>hp0 (by rw[h];exact Rat.le_refl))]
    obtain⟨v1,v2,v3,v4,v5,v6,v7⟩:=St z5 (e.trans e5)
    have X0:=Ext.refl z5
    obtain⟨_,_,L1⟩:=pl4 gs5
    simp -dsimp (disch:=omega) only[wpS,wpT,Nat.reduceEqDiff]
    refine drawn [(0,[4])] (by kernel_rfl) (by kernel_rfl) rfl ?_
    simp -dsimp (disch:=omega) only[wpS,wpT,Nat.reduceEqDiff,Nat.reduceLeDiff,Nat.reduceAdd,ld51,f6,f8,row_of gs5,row_of gp5,row_of v4,tk4']
    have hWB:QB ka W:=by rw[hW];exact haB 0
    have hi1:(i+1)*(ka+ka+1+ka+1)≤(N+1)*(ka+ka+1+ka+1):=Nat.mul_le_mul_right _ (by omega)
    have hi2:(i+1)*(ka+ka+1+ka+1)=i*(ka+ka+1+ka+1)+(ka+ka+1+ka+1):=by rw[Nat.add_mul,Nat.one_mul]
    refine call (rover_ok pp5 v6 hpB hWB (by omega) hw0) ?_
    rintro rd z6 ⟨Z6,q6⟩
    simp -dsimp (disch:=omega) only[wpS,Nat.reduceEqDiff]
    refine call (rplus_ok (ps5.keep Z6.keep) q6 hSb (hpB.div hWB hw0) (by omega)) ?_
    rintro rf z7 ⟨Z7,q7⟩
    have Z67:=Z6.trans Z7
    have mz7:=Z67.n
    obtain⟨d1,d2,d3,d4,rfl,_,_,_,u1,_,u2,u3,u4⟩:=q7.parts
    have gs7:=Z67.kept (by omega) gs5
    simp -dsimp (disch:=omega) only[wpS,wpT,Nat.reduceEqDiff,Nat.reduceLeDiff,Nat.reduceAdd,st51,f8,gs7,u1,u2,u3,u4]
    refine⟨wpSteady_one rfl rfl rfl rfl (steady_ext (H0:=z5) (b:=2*h8.n) (o:=0) ?_ (by omega) (by assumption) (by assumption) L1),?_⟩
    ·exact f8
    simp -dsimp (disch:=omega) only[wpS,wpT,Nat.reduceEqDiff,Nat.reduceAdd,f9]
    refine⟨m',by omega,i+1,S+P / W,d1,d2,d3,d4,by omega,hS,?_,((e.trans e5).trans Z67).put (by omega) _,by simp only[put_n];omega,get_put_same _ _ rfl,q7.keep ((Keep.refl _).put gs7 _),by simp[f0],by simp[f2],by simp[f5],by simp[f6],by simp[f7],by simp[f8],by simp⟩
    exact(hSb.add (hpB.div hWB hw0)).mono (by omega)
  ·have hSd:S=effS A W N (N+1) 0 0:=by
    rw[←hS]
    cases m with
    | zero=>rfl
    | succ m=>rw[effS,if_neg (by omega)]
   simp -dsimp (disch:=omega) only[wpS,wpT]
   exact⟨a,s,b,t,e,hn,g8,hSd▸p8',done hSd,by simp[f2],by simp[f7],by simp[f8]⟩
 rintro fr hh ⟨a,s,b,t,e,hn,g8,pS,hSB,f2,f7,f8⟩
 obtain⟨S,hS⟩ : ∃S,S=effS A W N (N+1) 0 0:=⟨_,rfl⟩
 have hq:qlen (l.map rOf)=((N:Int):Rat):=by
  show(((l.map rOf).length:Int):Rat)=_
  rw[List.length_map,hN]
 have hres:qeff (l.map rOf)=((N:Int):Rat) / effT S ((N:Int):Rat):=by
  rw[qeff,hA,←hW,hq,List.length_map,←hN,←hS]
 have hn0:((N:Int):Rat)≠0:=by rw[←hq];exact qlen_ne e3'
 have hnp:0<((N:Int):Rat):=by rw[←hq];exact qlen_pos e3'
 have hnB:QB 17 ((N:Int):Rat):=by rw[←hq];exact qlen_bits (by simp;omega)
 rw[hres]
 rw[←hS] at pS hSB
 clear hS hres
 obtain⟨y1,y2,y3,y4,y5,y6,y7⟩:=St hh e
 obtain⟨B,hB⟩ : ∃B,B=(N+1)*(ka+ka+1+ka+1):=⟨_,rfl⟩
 rw[←hB] at hSB hbN
 have o1B:QB 0 ((1:Int):Rat):=QB.int (by decide)
 have me:=e.n
 simp -dsimp (disch:=omega) only[wpS,wpT,Nat.reduceEqDiff,Nat.reduceLeDiff,Nat.reduceAdd,ld51,f8,row_of g8,tk4']
 refine call (rplus_ok pS pS hSB hSB (by omega)) ?_
 rintro ra z1 ⟨Z1,q1⟩
 simp -dsimp (disch:=omega) only[wpS]
 refine call (rfrom_ok 1 ⟨by omega,by omega⟩) ?_
 rintro rb z2 ⟨Z2,q2⟩
 simp -dsimp (disch:=omega) only[wpS,Nat.reduceEqDiff]
 refine call (rminus_ok (q1.keep Z2.keep) q2 (hSB.add hSB) o1B (by omega)) ?_
 rintro rc z3 ⟨Z3,q3⟩
 have Z13:=(Z1.trans Z2).trans Z3
 have mz:=Z13.n
 have hTB:=(hSB.add hSB).sub o1B
 obtain⟨c1,c2,c3,c4,rfl,_,_,_,u1,_,u2,u3,u4⟩:=q3.parts
 simp -dsimp (disch:=omega) only[wpS,wpT,Nat.reduceEqDiff,Nat.reduceLeDiff,Nat.reduceAdd,zc51,st51,u1,u2,u3,u4]
 obtain⟨K0,hK0⟩ : ∃H4,H4=(z3.new (.cells ZR 0 none)).put z3.n (.cells [c1,c2,c3,c4] 0 none):=⟨_,rfl⟩
 have w4:Ext z3 K0:=by rw[hK0];exact((Ext.refl _).new _).put (Nat.le_refl _) _
 have nw4:K0.n=z3.n+1:=by rw[hK0];rfl
 have gt:K0.ext.get z3.n=some (.cells [c1,c2,c3,c4] 0 none):=by rw[hK0];simp (disch:=first|omega|(simp only[new_n,put_n];omega)|(repeat first|rw[new_n]|rw[put_n])) only[get_put_same]
 have q4:=q3.keep w4.keep
 rw[←hK0]
 clear hK0
 have Y1:=Z13.trans w4
 have gn:=Y1.kept (by omega) y5
 have X0:=Ext.refl K0
 obtain⟨_,_,L1⟩:=pl4 gn
 refine drawn [(1,[0])] (by kernel_rfl) (by kernel_rfl) rfl ?_
 simp -dsimp (disch:=omega) only[wpS]
 refine call (rfrom_ok 1 ⟨by omega,by omega⟩) ?_
 rintro rd z5 ⟨Z5,q5⟩
 have mz5:=Z5.n
 simp -dsimp (disch:=omega) only[wpS,wpT,Nat.reduceEqDiff,Nat.reduceLeDiff,Nat.reduceAdd,ld51,f7,row_of (Z5.kept (by omega) gn),tk4']
 refine call (rover_ok q5 (y7.keep (Y1.trans Z5).keep) o1B hnB (by omega) hn0) ?_
 rintro re z6 ⟨Z6,q6⟩
 have mz6:=Z6.n
 obtain⟨d1,d2,d3,d4,rfl,_,_,_,u5,_,u6,u7,u8⟩:=q6.parts
 simp -dsimp (disch:=omega) only[wpS,wpT,Nat.reduceEqDiff,Nat.reduceLeDiff,Nat.reduceAdd,zc51,st51,u5,u6,u7,u8]
 refine⟨wpSteady_one rfl rfl rfl rfl (steady_ext (H0:=K0) (b:=2*h6.n) (o:=0) f7 (by omega) (by assumption) (by assumption) L1),?_⟩
 obtain⟨K1,hK1⟩ : ∃H4,H4=(z6.new (.cells ZR 0 none)).put z6.n (.cells [d1,d2,d3,d4] 0 none):=⟨_,rfl⟩
 have w5:Ext z6 K1:=by rw[hK1];exact((Ext.refl _).new _).put (Nat.le_refl _) _
 have nw5:K1.n=z6.n+1:=by rw[hK1];rfl
 have gl:K1.ext.get z6.n=some (.cells [d1,d2,d3,d4] 0 none):=by rw[hK1];simp (disch:=first|omega|(simp only[new_n,put_n];omega)|(repeat first|rw[new_n]|rw[put_n])) only[get_put_same]
 have W1:=(Z5.trans Z6).trans w5
 have gt1:=W1.kept (by omega) gt
 have q6':=q6.keep w5.keep
 have q4':=q4.keep W1.keep
 have hLB:QB 17 (((1:Int):Rat) / ((N:Int):Rat)):=(o1B.div hnB hn0).mono (by omega)
 rw[←hK1]
 clear hK1
 simp -dsimp (disch:=omega) only[wpS,wpT,Nat.reduceEqDiff,Nat.reduceLeDiff,Nat.reduceAdd,ld51,row_of gt1,row_of gl,tk4']
 refine call (rcmp_ok q4' q6' hTB hLB (by omega)) ?_
 rintro _ z8 ⟨Z8,rfl⟩
 have mz8:=Z8.n
 have gt8:=Z8.kept (by omega) gt1
 have gl8:=Z8.kept (by omega) gl
 have V1:Ext hh z8:=(Y1.trans W1).trans Z8
 have gz8:=V1.kept (by omega) y3
 have gn8:=V1.kept (by omega) y5
 have p8n:=y7.keep V1.keep
 have hne:=effT_pos (s:=S) hnp
 have md:PRat z8 (.agg #[d1,d2,d3,d4]) (1 / ((N:Int):Rat)):=q6'.keep Z8.keep
 have mt:PRat z8 (.agg #[c1,c2,c3,c4]) (S+S - 1):=q4'.keep Z8.keep
 have hTB':QB (B+B+1+0+1) (S+S - 1):=hTB
 have hLB':QB 17 (1 / ((N:Int):Rat)):=hLB
 obtain⟨_,_,_,_,hh6,_,_,_,u5,_,u6,u7,u8⟩:=md.parts
 cases hh6
 by_cases hlt:S+S - 1<1 / ((N:Int):Rat)
 ·have hTT:effT S ((N:Int):Rat)=1 / ((N:Int):Rat):=by rw[effT,if_pos hlt]
  rw[show((1:Int):Rat)=1 from rfl,if_pos hlt]
  simp -dsimp (disch:=omega) only[wpS,wpT,Nat.reduceEqDiff,Nat.reduceLeDiff,Nat.reduceAdd,st51,ld51,row_of gl8,gt8,u5,u6,u7,u8,tk4',f7,row_of gn8]
  have kq:Keep z8 (z8.put z3.n (.cells [d1,d2,d3,d4] 0 none)):=(Keep.refl z8).put gt8 _
  have pl9:=md.keep kq
  refine call (rover_ok (p8n.keep kq) pl9 hnB hLB' (by omega) (by rw[←hTT];exact fun h=>absurd hne (by rw[h];exact Rat.lt_irrefl))) ?_
  rintro rg z9 ⟨Z9,q9⟩
  have mz9:=(Z9).n;try simp only[put_n] at mz9
  rw[←hTT] at q9
  simp -dsimp (disch:=omega) only[wpS,Nat.reduceEqDiff]
  refine call (rtold_ok q9) ?_
  rintro _ za ⟨Za,rfl⟩
  obtain⟨n,d,ee,hf⟩:=toldV_form (((N:Int):Rat) / effT S ((N:Int):Rat))
  have hf':=hf
  unfold toldV at hf'
  rw[hf',hf]
  have kg:za.ext.get h.n=some (.cells Z16 0 none):=Za.kept (by omega) (Z9.kept (by simp only[put_n];omega) (by simp (disch:=first|omega|(simp only[new_n,put_n];omega)|(repeat first|rw[new_n]|rw[put_n])) only[get_put_old];exact gz8))
  simp -dsimp (disch:=omega) only[wpS,wpT,Nat.reduceEqDiff,Nat.reduceLeDiff,Nat.reduceAdd,st27,ld27,kg,f2,shV_cells,shC_len,shC_all,sh_sp3,sh_take]
  exact⟨((((y1.trans V1).put (by omega) _).trans Z9).trans Za).put (by omega) _,rfl⟩
 ·have hTT:effT S ((N:Int):Rat)=S+S - 1:=by rw[effT,if_neg hlt]
  rw[show((1:Int):Rat)=1 from rfl,if_neg hlt]
  obtain⟨cx,hcx,hcx0⟩ : ∃c:Int,(if S+S - 1=1 / ((N:Int):Rat) then (0:Int) else 1)=c∧decide (c<0)=false:=⟨_,rfl,by split<;>rfl⟩
  rw[hcx]
  simp -dsimp (disch:=omega) only[wpS,wpT,Nat.reduceEqDiff,Nat.reduceLeDiff,Nat.reduceAdd,ld51,hcx0,row_of gt8,tk4',f7,row_of gn8]
  refine call (rover_ok (p8n.keep (Keep.refl _)) mt hnB hTB' (by omega) (by rw[←hTT];exact fun h=>absurd hne (by rw[h];exact Rat.lt_irrefl))) ?_
  rintro rg z9 ⟨Z9,q9⟩
  have mz9:=(Z9).n;try simp only[new_n,put_n] at mz9
  rw[←hTT] at q9
  simp -dsimp (disch:=omega) only[wpS,Nat.reduceEqDiff]
  refine call (rtold_ok q9) ?_
  rintro _ za ⟨Za,rfl⟩
  obtain⟨n,d,ee,hf⟩:=toldV_form (((N:Int):Rat) / effT S ((N:Int):Rat))
  have hf':=hf
  unfold toldV at hf'
  rw[hf',hf]
  have kg:za.ext.get h.n=some (.cells Z16 0 none):=Za.kept (by omega) (Z9.kept (by omega) gz8)
  simp -dsimp (disch:=omega) only[wpS,wpT,Nat.reduceEqDiff,Nat.reduceLeDiff,Nat.reduceAdd,st27,ld27,kg,f2,shV_cells,shC_len,shC_all,sh_sp3,sh_take]
  exact⟨(((y1.trans V1).trans Z9).trans Za).put (by omega) _,rfl⟩
end Go.Id

/-! Contracts: the reference's chapter 35: spreads. -/
namespace Go.Id
open Go
end Go.Id

/-! Contracts: the reference's chapter 35: Mean, Auto. -/
namespace Go.Id
open Go
end Go.Id

/-! Contracts: the reference's chapter 35: the variance within, and that of the means. -/
namespace Go.Id
open Go
abbrev iBits (m n k:Nat):Nat:=m*(aBits n k+17+1)+17
abbrev oBits (m n k:Nat):Nat:=aBits m (mBits n k)+17
end Go.Id

/-! Contracts: package diagnose: Within, Means, Ratio. -/
namespace Go.Id
open Go
def qratioV (ll:List (List (Nat×Nat))):Rat:=((((len0 ll - 1:Nat):Int):Rat) / (((len0 ll:Nat):Int):Rat)*qwithin ll+qmeansV ll) / qwithin ll
noncomputable def withinRes (ll:List (List (Nat×Nat))):Value:=if svErr ll=0 then toldV (qwithin ll) else errV (svErr ll)
noncomputable def meansRes (ll:List (List (Nat×Nat))):Value:=if svErr ll=0 then toldV (qmeansV ll) else errV (svErr ll)
noncomputable def ratioRes (ll:List (List (Nat×Nat))):Value:=if svErr ll=0 then (if qwithin ll=0 then errV 7 else toldV (qratioV ll)) else errV (svErr ll)
abbrev rBits (m n k:Nat):Nat:=17+17+wBits m n k+vBits m n k+1+wBits m n k
set_option maxHeartbeats 1000000 in
theorem dgWithin_ok {h:IH} {v:Value} {ll:List (List (Nat×Nat))} {k:Nat} (hv:ShLs h v ll) (hk:svErr ll=0→SvOk ll k∧rBits ll.length (len0 ll) k<16000000) :
  WV Proofs.Try.prog (.func (.func 14) #[] #[]) [v] h fun r h'=>Ext h h'∧r=withinRes ll:=by
 refine enter (nt:=16) (rs:=[.cell 2 27,.tmp 3]) Proofs.Try.func14 rfl rfl rfl (by simp) ?_
 simp -dsimp (disch:=omega) only[wpS,Nat.reduceEqDiff,zc27]
 have E1:Ext h (h.new (.cells Z16 0 none)):=(Ext.refl h).new _
 have g1:(h.new (.cells Z16 0 none)).ext.get h.n=some (.cells Z16 0 none):=by simp (disch:=first|omega|(simp only[new_n,put_n];omega)|(repeat first|rw[new_n]|rw[put_n])) only[get_new_same]
 refine call (several_ok (hv.keep E1.keep)) ?_
 rintro _ h1 ⟨X1,rfl⟩
 have m1:=X1.n
 simp only[new_n] at m1
 have k1:=X1.kept (by simp) g1
 unfold withinRes
 by_cases he:svErr ll=0
 ·obtain⟨s,hb⟩:=hk he
  have hb:17+17+wBits ll.length (len0 ll) k+vBits ll.length (len0 ll) k+1+wBits ll.length (len0 ll) k<16000000:=hb
  rw[if_pos he,he]
  simp -dsimp (disch:=omega) only[wpS,wpT,Nat.reduceEqDiff]
  refine call (dgwithin_ok (hv.keep (E1.trans X1).keep) s (by omega)) ?_
  rintro r2 h2 ⟨X2,p2⟩
  have m2:=X2.n
  simp -dsimp (disch:=omega) only[wpS,Nat.reduceEqDiff]
  refine call (rtold_ok p2) ?_
  rintro _ h4 ⟨X4,rfl⟩
  have kg:=X4.kept (by omega) (X2.kept (by omega) k1)
  have m4:=X4.n
  obtain⟨n,d,e,hf⟩:=toldV_form (qwithin ll)
  have hf':=hf
  unfold toldV at hf'
  rw[hf',hf]
  simp -dsimp (disch:=omega) only[wpS,wpT,Nat.reduceEqDiff,Nat.reduceLeDiff,Nat.reduceAdd,st27,ld27,kg,shV_cells,shC_len,shC_all,sh_sp3,sh_take]
  exact⟨(((E1.trans X1).trans X2).trans X4).put (by omega) _,rfl⟩
 ·rw[if_neg he]
  have he':(svErr ll == 0)=false:=by simpa using he
  simp -dsimp (disch:=omega) only[wpS,wpT,Nat.reduceEqDiff,Nat.reduceLeDiff,Nat.reduceAdd,bv27,st27,ld27,k1,sh_tz]
  exact⟨(E1.trans X1).put (by omega) _,by rw[sh_zeroV]⟩
set_option maxHeartbeats 1000000 in
theorem dgMeans_ok {h:IH} {v:Value} {ll:List (List (Nat×Nat))} {k:Nat} (hv:ShLs h v ll) (hk:svErr ll=0→SvOk ll k∧rBits ll.length (len0 ll) k<16000000) :
  WV Proofs.Try.prog (.func (.func 15) #[] #[]) [v] h fun r h'=>Ext h h'∧r=meansRes ll:=by
 refine enter (nt:=16) (rs:=[.cell 2 27,.tmp 3]) Proofs.Try.func15 rfl rfl rfl (by simp) ?_
 simp -dsimp (disch:=omega) only[wpS,Nat.reduceEqDiff,zc27]
 have E1:Ext h (h.new (.cells Z16 0 none)):=(Ext.refl h).new _
 have g1:(h.new (.cells Z16 0 none)).ext.get h.n=some (.cells Z16 0 none):=by simp (disch:=first|omega|(simp only[new_n,put_n];omega)|(repeat first|rw[new_n]|rw[put_n])) only[get_new_same]
 refine call (several_ok (hv.keep E1.keep)) ?_
 rintro _ h1 ⟨X1,rfl⟩
 have m1:=X1.n
 simp only[new_n] at m1
 have k1:=X1.kept (by simp) g1
 unfold meansRes
 by_cases he:svErr ll=0
 ·obtain⟨s,hb⟩:=hk he
  have hb:17+17+wBits ll.length (len0 ll) k+vBits ll.length (len0 ll) k+1+wBits ll.length (len0 ll) k<16000000:=hb
  rw[if_pos he,he]
  simp -dsimp (disch:=omega) only[wpS,wpT,Nat.reduceEqDiff]
  refine call (dgmeans_ok (hv.keep (E1.trans X1).keep) s (by omega)) ?_
  rintro r2 h2 ⟨X2,p2⟩
  have m2:=X2.n
  simp -dsimp (disch:=omega) only[wpS,Nat.reduceEqDiff]
  refine call (rtold_ok p2) ?_
  rintro _ h4 ⟨X4,rfl⟩
  have kg:=X4.kept (by omega) (X2.kept (by omega) k1)
  have m4:=X4.n
  obtain⟨n,d,e,hf⟩:=toldV_form (qmeansV ll)
  have hf':=hf
  unfold toldV at hf'
  rw[hf',hf]
  simp -dsimp (disch:=omega) only[wpS,wpT,Nat.reduceEqDiff,Nat.reduceLeDiff,Nat.reduceAdd,st27,ld27,kg,shV_cells,shC_len,shC_all,sh_sp3,sh_take]
  exact⟨(((E1.trans X1).trans X2).trans X4).put (by omega) _,rfl⟩
 ·rw[if_neg he]
  have he':(svErr ll == 0)=false:=by simpa using he
  simp -dsimp (disch:=omega) only[wpS,wpT,Nat.reduceEqDiff,Nat.reduceLeDiff,Nat.reduceAdd,bv27,st27,ld27,k1,sh_tz]
  exact⟨(E1.trans X1).put (by omega) _,by rw[sh_zeroV]⟩
set_option maxHeartbeats 4000000 in
theorem dgRatio_ok {h:IH} {v:Value} {ll:List (List (Nat×Nat))} {k:Nat} (hv:ShLs h v ll) (hk:svErr ll=0→SvOk ll k∧rBits ll.length (len0 ll) k<16000000) :
  WV Proofs.Try.prog (.func (.func 16) #[] #[]) [v] h fun r h'=>Ext h h'∧r=ratioRes ll:=by
 refine enter (nt:=45) (rs:=[.cell 2 27,.tmp 3]) Proofs.Try.func16 rfl rfl rfl (by simp) ?_
 simp -dsimp (disch:=omega) only[wpS,Nat.reduceEqDiff,zc27]
 have E1:Ext h (h.new (.cells Z16 0 none)):=(Ext.refl h).new _
 have g1:(h.new (.cells Z16 0 none)).ext.get h.n=some (.cells Z16 0 none):=by simp (disch:=first|omega|(simp only[new_n,put_n];omega)|(repeat first|rw[new_n]|rw[put_n])) only[get_new_same]
 refine call (several_ok (hv.keep E1.keep)) ?_
 rintro _ h1 ⟨X1,rfl⟩
 have m1:=X1.n
 simp only[new_n] at m1
 have k1:=X1.kept (by simp) g1
 unfold ratioRes
 by_cases he:svErr ll=0
 case neg =>
  rw[if_neg he]
  have he':(svErr ll == 0)=false:=by simpa using he
  simp -dsimp (disch:=omega) only[wpS,wpT,Nat.reduceEqDiff,Nat.reduceLeDiff,Nat.reduceAdd,bv27,st27,ld27,k1,sh_tz]
  exact⟨(E1.trans X1).put (by omega) _,by rw[sh_zeroV]⟩
 obtain⟨s,hb⟩:=hk he
 have hb:17+17+wBits ll.length (len0 ll) k+vBits ll.length (len0 ll) k+1+wBits ll.length (len0 ll) k<16000000:=hb
 obtain⟨l1,l2,hx⟩:=sv_zero he
 obtain⟨x0,hx0,hxm0,hl0⟩:=len0_at l1
 obtain⟨y1,y2,y3,y4⟩:=hx x0 hxm0
 rw[if_pos he,he]
 simp -dsimp (disch:=omega) only[wpS,wpT,Nat.reduceEqDiff]
 refine call (dgwithin_ok (hv.keep (E1.trans X1).keep) s (by omega)) ?_
 rintro _ h2 ⟨X2,p2⟩
 have m2:=X2.n
 obtain⟨a2,s2,b2,t2,rfl,_,_,_,u1,_,u2,u3,u4⟩:=p2.parts
 simp -dsimp (disch:=omega) only[wpS,wpT,Nat.reduceEqDiff,Nat.reduceLeDiff,Nat.reduceAdd,zc51,st51,fa51_0,ld49,u1,u2,u3,u4,tkA]
 obtain⟨H3,hH3⟩ : ∃H3,H3=(h2.new (.cells ZR 0 none)).put h2.n (.cells [a2,s2,b2,t2] 0 none):=⟨_,rfl⟩
 have e3:Ext h2 H3:=by rw[hH3];exact((Ext.refl _).new _).put (Nat.le_refl _) _
 have n3:H3.n=h2.n+1:=by rw[hH3];rfl
 have gw:H3.ext.get h2.n=some (.cells [a2,s2,b2,t2] 0 none):=by rw[hH3];simp (disch:=first|omega|(simp only[new_n,put_n];omega)|(repeat first|rw[new_n]|rw[put_n])) only[get_put_same]
 have p3:=p2.keep e3.keep
 rw[←hH3]
 clear hH3
 refine call (pside_ok (rside_rat p3)) ?_
 rintro _ h5 ⟨X5,rfl⟩
 rw[side_sign]
 have m5:=X5.n
 have k5:=X5.kept (by omega) (e3.kept (by omega) (X2.kept (by omega) k1))
 have E5:=(((E1.trans X1).trans X2).trans e3).trans X5
 have gw5:=X5.kept (by omega) gw
 have p5:=p3.keep X5.keep
 obtain⟨W,hW⟩ : ∃W,W=qwithin ll:=⟨_,rfl⟩
 have hWB:=s.within
 rw[←hW] at p5 hWB ⊢
 by_cases hw0:W=0
 ·rw[if_pos hw0,hw0,if_neg (by decide),if_pos rfl]
  simp -dsimp (disch:=omega) only[wpS,wpT,Nat.reduceEqDiff,Nat.reduceLeDiff,Nat.reduceAdd,bv27,st27,ld27,k5,sh_tz]
  exact⟨E5.put (by omega) _,by rw[sh_zeroV]⟩
 obtain⟨cc,hcc,hc0⟩ : ∃c:Int,(if W<0 then (-1:Int) else if W=0 then 0 else 1)=c∧(c == 0)=false:=⟨_,rfl,by split<;>(try split)<;>first|rfl|contradiction⟩
 rw[hcc,if_neg hw0]
 obtain⟨w,q1,q2,q3⟩:=hv.at E5.keep hx0
 have q3':indexAddr Proofs.Try.prog 42 v (.int .i64 0)=some (elemAddr v 0):=q3 .i64
 simp -dsimp (disch:=omega) only[wpS,Nat.reduceEqDiff,hc0,q1,q3',q2.1.len sl28]
 refine call (rfrom_ok (x0.length:Int) ⟨by omega,by omega⟩) ?_
 rintro _ h6 ⟨X6,p6⟩
 have m6:=X6.n
 obtain⟨a6,s6,b6,t6,rfl,_,_,_,u1,_,u2,u3,u4⟩:=p6.parts
 simp -dsimp (disch:=omega) only[wpS,wpT,Nat.reduceEqDiff,Nat.reduceLeDiff,Nat.reduceAdd,zc51,st51,u1,u2,u3,u4]
 obtain⟨K0,hK0⟩ : ∃H3,H3=(h6.new (.cells ZR 0 none)).put h6.n (.cells [a6,s6,b6,t6] 0 none):=⟨_,rfl⟩
 have e7:Ext h6 K0:=by rw[hK0];exact((Ext.refl _).new _).put (Nat.le_refl _) _
 have n7:K0.n=h6.n+1:=by rw[hK0];rfl
 have gn:K0.ext.get h6.n=some (.cells [a6,s6,b6,t6] 0 none):=by rw[hK0];simp (disch:=first|omega|(simp only[new_n,put_n];omega)|(repeat first|rw[new_n]|rw[put_n])) only[get_put_same]
 have p7:=p6.keep e7.keep
 rw[←hK0]
 clear hK0
 have X67:=X6.trans e7
 have gw7:=X67.kept (by omega) gw5
 have k7:=X67.kept (by omega) k5
 have E7:=E5.trans X67
 obtain⟨w',r1,r2,r3⟩:=hv.at E7.keep hx0
 have X0:=Ext.refl K0
 obtain⟨_,_,L1⟩:=pl4 gn
 have eN:(x0.length:Int) - 1=((len0 ll - 1:Nat):Int):=by omega
 have pn:PRat K0 (.agg #[a6,s6,b6,t6]) (((len0 ll:Nat):Int):Rat):=by rw[hl0];exact p7
 refine drawn [(6,[5])] (by kernel_rfl) (by kernel_rfl) rfl ?_
 simp -dsimp (disch:=omega) only[wpS,Nat.reduceEqDiff,r1,q3',r2.1.len sl28,eN]
 refine call (rfrom_ok ((len0 ll - 1:Nat):Int) ⟨by omega,by omega⟩) ?_
 rintro r8 h8 ⟨X8,p8⟩
 have m8:=X8.n
 simp -dsimp (disch:=omega) only[wpS,wpT,Nat.reduceEqDiff,Nat.reduceLeDiff,Nat.reduceAdd,ld51,row_of (X8.kept (by omega) gn),tk4']
 have hnB:QB 17 (((len0 ll:Nat):Int):Rat):=small_rat (by omega)
 have hn1:QB 17 (((len0 ll - 1:Nat):Int):Rat):=small_rat (by omega)
 have hn0:(((len0 ll:Nat):Int):Rat)≠0:=nat_rat_ne (by omega)
 refine call (rover_ok p8 (pn.keep X8.keep) hn1 hnB (by omega) hn0) ?_
 rintro _ h9 ⟨X9,p9⟩
 have m9:=X9.n
 obtain⟨a9,s9,b9,t9,rfl,_,_,_,u1,_,u2,u3,u4⟩:=p9.parts
 simp -dsimp (disch:=omega) only[wpS,wpT,Nat.reduceEqDiff,Nat.reduceLeDiff,Nat.reduceAdd,zc51,st51,u1,u2,u3,u4]
 refine⟨by repeat' first|refine wpSteady_c2 ?_ ?_|refine wpSteady_t2 ?_ ?_|exact wpSteady_one rfl rfl rfl rfl (steady_ext (H0:=K0) rfl (by omega) (by assumption) (by assumption) (by with_reducible assumption)),?_⟩
 obtain⟨K1,hK1⟩ : ∃H3,H3=(h9.new (.cells ZR 0 none)).put h9.n (.cells [a9,s9,b9,t9] 0 none):=⟨_,rfl⟩
 have ea:Ext h9 K1:=by rw[hK1];exact((Ext.refl _).new _).put (Nat.le_refl _) _
 have na:K1.n=h9.n+1:=by rw[hK1];rfl
 have gp:K1.ext.get h9.n=some (.cells [a9,s9,b9,t9] 0 none):=by rw[hK1];simp (disch:=first|omega|(simp only[new_n,put_n];omega)|(repeat first|rw[new_n]|rw[put_n])) only[get_put_same]
 have pa:=p9.keep ea.keep
 rw[←hK1]
 clear hK1 X0
 have Xa:=(X8.trans X9).trans ea
 have gwa:=Xa.kept (by omega) gw7
 have ka:=Xa.kept (by omega) k7
 have Ea:=E7.trans Xa
 have pw:=p5.keep (X67.trans Xa).keep
 have X0:=Ext.refl K1
 obtain⟨_,_,L2⟩:=pl4 gwa
 have hPB:=hn1.div hnB hn0
 simp -dsimp (disch:=omega) only[wpS,wpT,Nat.reduceAdd]
 refine drawn [(6,[2,4,5])] (by kernel_rfl) (by kernel_rfl) rfl ?_
 simp -dsimp (disch:=omega) only[wpS,wpT,Nat.reduceEqDiff,Nat.reduceLeDiff,Nat.reduceAdd,ld51,row_of gwa,row_of gp,tk4']
 refine call (rtimes_ok pa pw hPB hWB (by omega)) ?_
 rintro rb hb1 ⟨Xb,pb⟩
 have mb:=Xb.n
 simp -dsimp (disch:=omega) only[wpS,Nat.reduceEqDiff]
 refine call (dgmeans_ok (hv.keep (Ea.trans Xb).keep) s (by omega)) ?_
 rintro rc hc1 ⟨Xc,pc⟩
 have mc:=Xc.n
 simp -dsimp (disch:=omega) only[wpS,Nat.reduceEqDiff]
 have hMB:=s.means
 refine call (rplus_ok (pb.keep Xc.keep) pc (hPB.mul hWB) hMB (by omega)) ?_
 rintro rd hd1 ⟨Xd,pd⟩
 have md:=Xd.n
 have Xbd:=(Xb.trans Xc).trans Xd
 have Xbc:=Xb.trans Xc
 simp -dsimp (disch:=omega) only[wpS,wpT,Nat.reduceEqDiff,Nat.reduceLeDiff,Nat.reduceAdd,ld51,row_of (Xbd.kept (by omega) gwa),tk4']
 refine call (rover_ok pd (pw.keep Xbd.keep) ((hPB.mul hWB).add hMB) hWB (by omega) hw0) ?_
 rintro re he1 ⟨Xe,pe⟩
 have me:=Xe.n
 have Xbe:=Xbd.trans Xe
 simp -dsimp (disch:=omega) only[wpS,Nat.reduceEqDiff]
 refine call (rtold_ok pe) ?_
 rintro _ hf1 ⟨Xf,rfl⟩
 have mf:=Xf.n
 have Xbf:=Xbe.trans Xf
 have hres:qratioV ll=((((len0 ll - 1:Nat):Int):Rat) / (((len0 ll:Nat):Int):Rat)*W+qmeansV ll) / W:=by rw[hW];rfl
 rw[hres]
 obtain⟨n,d,e,hf⟩:=toldV_form (((((len0 ll - 1:Nat):Int):Rat) / (((len0 ll:Nat):Int):Rat)*W+qmeansV ll) / W)
 have hf':=hf
 unfold toldV at hf'
 rw[hf',hf]
 have kg:=Xbf.kept (by omega) ka
 simp -dsimp (disch:=omega) only[wpS,wpT,Nat.reduceEqDiff,Nat.reduceLeDiff,Nat.reduceAdd,st27,kg,shV_cells,shC_len,shC_all,sh_sp3]
 refine⟨by repeat' first|refine wpSteady_c2 ?_ ?_|refine wpSteady_t2 ?_ ?_|exact wpSteady_one rfl rfl rfl rfl (steady_ext (H0:=K1) rfl (by omega) (by assumption) (by assumption) (by with_reducible assumption)),?_⟩
 simp -dsimp (disch:=omega) only[wpS,wpT,Nat.reduceEqDiff,Nat.reduceLeDiff,Nat.reduceAdd,ld27,shC_len,sh_take]
 exact⟨(Ea.trans Xbf).put (by omega) _,rfl⟩
end Go.Id

/-! Contracts: the reference's chapter 35: Within, Means. -/
namespace Go.Id
open Go
abbrev rfBits (m n k:Nat):Nat:=rBits m n k+iBits m n k+oBits m n k
end Go.Id

/-! Contracts: the reference's chapter 35: Effective. -/
namespace Go.Id
open Go
end Go.Id

/-! Contracts: the reference's chapter 35: Ratio. -/
namespace Go.Id
open Go
end Go.Id

/-! Contracts: package diagnose: Stuck. -/
namespace Go.Id
open Go
def nowAt (l:List (Nat×Nat)):Nat→Nat
 | 0=>0
 | i+1=>if 0<i∧l[i]?≠l[i - 1]? then 1 else nowAt l i+1
def mostAt (l:List (Nat×Nat)):Nat→Nat
 | 0=>0
 | i+1=>max (mostAt l i) (nowAt l (i+1))
theorem nowAt_le (l:List (Nat×Nat)) : ∀i,nowAt l i≤i
 | 0=>Nat.le_refl _
 | i+1=>by
  have:=nowAt_le l i
  rw[nowAt];split<;>omega
theorem mostAt_le (l:List (Nat×Nat)) : ∀i,mostAt l i≤i
 | 0=>Nat.le_refl _
 | i+1=>by
  have:=mostAt_le l i
  have:=nowAt_le l (i+1)
  rw[mostAt];omega
def stuckRes (l:List (Nat×Nat)):Value:=if chErr l=0 then .tuple #[KN (mostAt l l.length),KI 0] else .tuple #[KI 0,KI (chErr l)]
set_option maxHeartbeats 1000000 in
theorem dgStuck_ok {h:IH} {v:Value} {l:List (Nat×Nat)} (hv:ShSl h v l) :
  WV Proofs.Try.prog (.func (.func 13) #[] #[]) [v] h fun r h'=>Ext h h'∧r=stuckRes l:=by
 have her:=chErr_range l
 refine enter (nt:=39) (rs:=[.tmp 2,.tmp 3]) Proofs.Try.func13 rfl rfl rfl (by simp) ?_
 simp -dsimp (maxSteps:=1000000) (disch:=first|omega|(simp only[new_n,put_n];omega)|decide +kernel|(repeat first|rw[new_n]|rw[put_n])) only[wpS,Nat.reduceEqDiff]
 refine call (dgcheck_ok hv) ?_
 rintro _ h1 ⟨X1,rfl⟩
 unfold stuckRes
 by_cases he:chErr l=0
 case neg =>
  rw[if_neg he]
  have he':(chErr l == 0)=false:=by simpa using he
  simp -dsimp (maxSteps:=1000000) (disch:=first|omega|(simp only[new_n,put_n];omega)|decide +kernel|(repeat first|rw[new_n]|rw[put_n])) only[wpS,wpT,Nat.reduceEqDiff]
  exact X1
 rw[if_pos he,he]
 obtain⟨e1,e2,e3⟩:=chErr_iff.1 he
 simp -dsimp (maxSteps:=1000000) (disch:=first|omega|(simp only[new_n,put_n];omega)|decide +kernel|(repeat first|rw[new_n]|rw[put_n])) only[wpS,wpT,Nat.reduceEqDiff,hv.1.len sl28]
 refine loop (fun m fr hh => ∃i:Nat,i+m=l.length∧Ext h hh∧fget fr 0=some v∧fget fr 5=some (KN (mostAt l i))∧fget fr 6=some (KN (nowAt l i))∧fget fr 14=some v∧fget fr 15=some (KN l.length)∧fget fr 16=some (KN i)) l.length
  ⟨0,by omega,X1,by simp,by simp[mostAt],by simp[nowAt],by simp,by simp,by simp⟩ ?_
 rintro m fr hh ⟨i,him,hE,f0,f5,f6,f14,f15,f16⟩
 simp -dsimp (maxSteps:=1000000) (disch:=first|omega|(simp only[new_n,put_n];omega)|decide +kernel|(repeat first|rw[new_n]|rw[put_n])) only[wpS,f15,f16]
 refine bq_intro ?_ ?_<;>intro hc<;>simp only[decide_eq_true_eq,decide_eq_false_iff_not] at hc
 ·have hi:i<l.length:=by omega
  obtain⟨p,hp⟩ : ∃p,l[i]?=some p:=⟨_,List.getElem?_eq_getElem hi⟩
  obtain⟨w1,w2⟩:=hv.2.2 p (List.mem_of_getElem? hp)
  have nl:=nowAt_le l i
  have ml:=mostAt_le l i
  have nl1:=nowAt_le l (i+1)
  have fin : ∀(n':Nat),n'+1=nowAt l (i+1)→(if (mostAt l i:Int)<((n':Int)+1) then ((n':Int)+1) else (mostAt l i:Int))=((mostAt l (i+1):Nat):Int):=by
   intro n' hn'
   rw[mostAt,←hn']
   split<;>omega
  have x1:Ext hh ((hh.new (.cells Z16 0 none)).put hh.n (.cells (shC p.1 p.2) 0 none)):=((Ext.refl _).new _).put (Nat.le_refl _) _
  simp -dsimp (maxSteps:=1000000) (disch:=first|omega|(simp only[new_n,put_n];omega)|decide +kernel|(repeat first|rw[new_n]|rw[put_n])) only[wpS,wpT,Nat.reduceEqDiff,Nat.reduceLeDiff,Nat.reduceAdd,zc27,st27,f14,f16,hv.1.idx es28 hi,hv.ld hE.keep hp,shV_cells,shC_len,shC_all,sh_sp3]
  by_cases h0:i=0
  ·subst h0
   have n0:nowAt l (0+1)=0+1:=by rw[nowAt,if_neg (by omega)];rfl
   have n00:nowAt l 0=0:=rfl
   rw[n00] at f6
   have:=fin 0 n0.symm
   simp -dsimp (maxSteps:=1000000) (disch:=first|omega|(simp only[new_n,put_n];omega)|decide +kernel|(repeat first|rw[new_n]|rw[put_n])) only[wpS,wpT,Nat.reduceEqDiff,f5,f6,f16,max_ii,this]
   exact⟨m - 1,by omega,0+1,by omega,hE.trans x1,by simp[f0],by simp,by simp[n0],by simp[f14],by simp[f15],by simp⟩
  ·obtain⟨q,hq⟩ : ∃p,l[i - 1]?=some p:=⟨_,List.getElem?_eq_getElem (by omega)⟩
   obtain⟨w3,w4⟩:=hv.2.2 q (List.mem_of_getElem? hq)
   have c0:decide ((0:Int)<(i:Int))=true:=decide_eq_true (by omega)
   have ei:(i:Int) - 1=((i - 1:Nat):Int):=by omega
   have hne : ∀ox oy,binop Proofs.Try.prog .neq 27 ox oy (.agg (shC p.1 p.2).toArray) (shV q.1 q.2)=some (.bool (!decide (p.1=q.1∧p.2=q.2))):=fun ox oy=>sh_neq w1 w2 w3 w4 ox oy
   have hpq:(p.1=q.1∧p.2=q.2)↔l[i]?=l[i - 1]?:=by
    rw[hp,hq,Option.some.injEq]
    exact Prod.ext_iff.symm
   by_cases hd:p.1=q.1∧p.2=q.2
   ·have n1:nowAt l (i+1)=nowAt l i+1:=by rw[nowAt,if_neg (fun h=>h.2 (hpq.1 hd))]
    have:=fin _ n1.symm
    rw[decide_eq_true hd] at hne
    simp -dsimp (maxSteps:=1000000) (disch:=first|omega|(simp only[new_n,put_n];omega)|decide +kernel|(repeat first|rw[new_n]|rw[put_n])) only[wpS,wpT,Nat.reduceEqDiff,Nat.reduceLeDiff,ld27,f0,f5,f6,f16,c0,ei,shC_len,sh_take,hv.1.idx es28 (show i - 1<l.length by omega),hv.ld (hE.trans x1).keep hq,hne,max_ii,this]
    exact⟨m - 1,by omega,i+1,by omega,hE.trans x1,by simp[f0],by simp,by simp[n1],by simp[f14],by simp[f15],by simp⟩
   ·have n1:nowAt l (i+1)=0+1:=by rw[nowAt,if_pos ⟨by omega,fun h=>hd (hpq.2 h)⟩]
    have:=fin 0 n1.symm
    rw[show((0:Nat):Int)+1=1 from rfl] at this
    rw[decide_eq_false hd] at hne
    simp -dsimp (maxSteps:=1000000) (disch:=first|omega|(simp only[new_n,put_n];omega)|decide +kernel|(repeat first|rw[new_n]|rw[put_n])) only[wpS,wpT,Nat.reduceEqDiff,Nat.reduceLeDiff,ld27,f0,f5,f6,f16,c0,ei,shC_len,sh_take,hv.1.idx es28 (show i - 1<l.length by omega),hv.ld (hE.trans x1).keep hq,hne,max_ii]
    exact⟨m - 1,by omega,i+1,by omega,hE.trans x1,by simp[f0],by simp[this],by simp[n1],by simp[f14],by simp[f15],by simp⟩
 ·obtain rfl:i=l.length:=by omega
  simp -dsimp (maxSteps:=1000000) (disch:=first|omega|(simp only[new_n,put_n];omega)|decide +kernel|(repeat first|rw[new_n]|rw[put_n])) only[wpS,wpT,Nat.reduceEqDiff,f5]
  exact hE
end Go.Id

/-! Contracts: the reference's Stuck. -/
namespace Go.Id
open Go
end Go.Id

/-! Contracts of package diagnose and of its reference for lists of shares of any parts. -/
namespace Go.Id
open Go
theorem qb512 {p:Nat×Nat} (h1:p.1<W8) (h2:p.2<W8) (ok:okS p.1 p.2):QB 512 (rOf p):=by
 obtain⟨e1,e2⟩:=rOf_parts ok
 have hw:W8=2 ^ 512:=by decide +kernel
 have a1:=wdI_small h1
 unfold QB
 have k1:(wdI p.1).natAbs≤2 ^ 512:=by
  rw[←hw]
  unfold wdI
  have:=H8_two
  split<;>omega
 have k2:wdI p.2≤((2 ^ 512:Nat):Int):=by
  rw[←hw]
  unfold wdI
  have:=H8_two
  split<;>omega
 generalize (2 ^ 512:Nat)=B at *
 refine⟨by rw[e1];exact k1,by omega⟩
theorem ShSl.qb {h:IH} {v:Value} {l:List (Nat×Nat)} (s:ShSl h v l):allOk l → ∀q∈l.map rOf,QB 512 q:=by
 intro ok q hq
 obtain⟨p,hp,rfl⟩:=List.mem_map.1 hq
 exact qb512 (s.2.2 p hp).1 (s.2.2 p hp).2 (ok p hp)
theorem mB {n:Nat}:n≤200→mBits n 512<16000000:=fun h=>by
 unfold mBits;omega
def Fit (n:Nat):Prop:=n≤12∨200<n
theorem eB {n:Nat} (f:Fit n):n≤200→eBits n 512+eBits n 512+100<16000000:=fun h=>by
 have h12:n≤12:=by rcases f with f|f<;>omega
 have : ∀m,m≤12→eBits m 512+eBits m 512+100<16000000:=by decide
 exact this n h12
theorem aB {n:Nat} (f:Fit n):n≤200→aBits n 512<16000000:=fun h=>by
 have h12:n≤12:=by rcases f with f|f<;>omega
 have : ∀m,m≤12→aBits m 512<16000000:=by decide
 exact this n h12
section
variable {h:IH} {v:Value} {l:List (Nat×Nat)} (hv:ShSl h v l)
include hv
theorem gMean:WV Proofs.Try.prog (.func (.func 7) #[] #[]) [v] h fun r h'=>Ext h h'∧r=meanRes l:=dgMean_ok hv hv.qb mB
theorem gAuto (f:Fit l.length) (lag:Int):WV Proofs.Try.prog (.func (.func 9) #[] #[]) [v,KI lag] h fun r h'=>Ext h h'∧r=autoRes l lag:=dgAuto_ok hv hv.qb (aB f)
theorem gEff (f:Fit l.length):WV Proofs.Try.prog (.func (.func 11) #[] #[]) [v] h fun r h'=>Ext h h'∧r=effRes l:=dgEff_ok hv hv.qb (eB f)
theorem gBat (size:Int):WV Proofs.Try.prog (.func (.func 12) #[] #[]) [v,KI size] h fun r h'=>Ext h h' ∧ ∃s,r=.tuple #[s,KI (batErr l size)]∧if batErr l size=0 then ShSl h' s ((bmeans (l.map rOf) size.toNat).map shOf) else s=.slice none 0 0:=dgBatches_ok hv hv.qb mB
end
theorem QW_of {q:Rat} (h:(decide (-(H8:Int)≤q.num) && decide (q.num<H8) && decide ((q.den:Int)<H8))=true):QW q:=by
 simp only[Bool.and_eq_true,decide_eq_true_eq] at h
 exact⟨⟨h.1.1,h.1.2⟩,by unfold InW;omega⟩
theorem toldV_of {q:Rat} (h:QW q):toldV q=.tuple #[shareV q,KI 0]:=by
 unfold toldV;rw[if_pos h]
theorem meanRes_of {l:List (Nat×Nat)} {q:Rat} (h1:chErr l=0) (h2:qmean (l.map rOf)=q) (h3:QW q):meanRes l=.tuple #[shareV q,KI 0]:=by
 unfold meanRes;rw[if_pos h1,h2,toldV_of h3]
theorem autoRes_of {l:List (Nat×Nat)} {q:Rat} {lag:Nat} (h1:chErr l=0) (h0:lag<l.length) (h2:qauto (l.map rOf) (qmean (l.map rOf)) lag=q) (h3:QW q):autoRes l (lag:Int)=.tuple #[shareV q,KI 0]:=by
 unfold autoRes;rw[if_pos h1,if_pos ⟨by omega,by omega⟩,Int.toNat_natCast,h2,toldV_of h3]
theorem autoRes_no {l:List (Nat×Nat)} {lag:Int} (h1:chErr l=0) (h0 : ¬(0≤lag∧lag<l.length)):autoRes l lag=errV 2:=by
 unfold autoRes;rw[if_pos h1,if_neg h0]
theorem effRes_of {l:List (Nat×Nat)} {q:Rat} (h1:chErr l=0) (h0:qauto (l.map rOf) (qmean (l.map rOf)) 0≠0) (h2:qeff (l.map rOf)=q) (h3:QW q):effRes l=.tuple #[shareV q,KI 0]:=by
 unfold effRes;rw[if_pos h1,if_neg h0,h2,toldV_of h3]
theorem effRes_no {l:List (Nat×Nat)} (h1:chErr l=0) (h0:qauto (l.map rOf) (qmean (l.map rOf)) 0=0):effRes l=errV 7:=by
 unfold effRes;rw[if_pos h1,if_pos h0]
end Go.Id

/-! Contracts: what the law's examples use. -/
namespace Go.Id
open Go
structure IsC (h:IH) (i j:Nat) (a b:Int):Prop where
 hi:i<h.n
 hj:j<h.n
 gi:h.ext.get i=some (.cells [KI a] 0 none)
 gj:h.ext.get j=some (.cells [KI b] 0 none)
theorem IsC.ext {h h':IH} {i j:Nat} {a b:Int} (c:IsC h i j a b) (e:Ext h h'):IsC h' i j a b:=⟨Nat.lt_of_lt_of_le c.hi e.n,Nat.lt_of_lt_of_le c.hj e.n,e.kept c.hi c.gi,e.kept c.hj c.gj⟩
abbrev isV (i j:Nat):Value:=.func (.func 24) #[] #[ptr (2*i) 0,ptr (2*j) 0]
abbrev failsV (i:Nat):Value:=.func (.func 19) #[] #[ptr (2*i) 0]
theorem isC_ok {h:IH} (a b:Int):WV Proofs.Try.prog (.func (.func 8) #[] #[]) [KI a,KI b] h fun r h'=>Ext h h' ∧ ∃i j,r=isV i j∧IsC h' i j a b:=by
 refine(is_ok a b).mono ?_
 rintro _ _ ⟨rfl,rfl⟩
 refine⟨((Ext.refl h).new _).new _,h.n,h.n+1,rfl,?_⟩
 refine⟨by simp<;>omega,by simp,?_,?_⟩<;>simp (disch:=first|omega|(simp only[new_n,put_n];omega)|(repeat first|rw[new_n]|rw[put_n])) only[get_new_same,get_new_old]
theorem isT_ok {h:IH} {i j:Nat} {a b:Int} {q:Rat} (c:IsC h i j a b) (hq:Rat.divInt a b=q) (ha:In64 a) (hb:In64 b) (b0:b≠0):WV Proofs.Try.prog (isV i j) [shareV q,KI 0] h fun r h'=>Ext h h'∧r=.bool true:=by
 obtain⟨h1,h2⟩:=shq_lt (qw_div ha hb b0)
 rw[hq] at h1 h2
 refine(is1_ok (n:=(shq q).1) (d:=(shq q).2) (e:=0) h1 h2 ha hb b0 c.hi c.gi c.hj c.gj).mono ?_
 rintro _ h' ⟨X,rfl⟩
 exact⟨X,by rw[hq];simp⟩
structure FaC (h:IH) (i:Nat) (e:Int):Prop where
 hi:i<h.n
 gi:h.ext.get i=some (.cells [KI e] 0 none)
theorem FaC.ext {h h':IH} {i:Nat} {a:Int} (c:FaC h i a) (e:Ext h h'):FaC h' i a:=⟨Nat.lt_of_lt_of_le c.hi e.n,e.kept c.hi c.gi⟩
theorem faC_ok {h:IH} (a:Int):WV Proofs.Try.prog (.func (.func 6) #[] #[]) [KI a] h fun r h'=>Ext h h' ∧ ∃i,r=failsV i∧FaC h' i a:=by
 refine(fails_ok a).mono ?_
 rintro _ _ ⟨rfl,rfl⟩
 refine⟨(Ext.refl h).new _,h.n,rfl,?_⟩
 refine⟨by simp,?_⟩
 simp (disch:=first|omega|(simp only[new_n,put_n];omega)|(repeat first|rw[new_n]|rw[put_n])) only[get_new_same]
theorem faT_ok {h:IH} {i:Nat} {a:Int} (c:FaC h i a):WV Proofs.Try.prog (failsV i) [shV 0 0,KI a] h fun r h'=>Ext h h'∧r=.bool true:=by
 refine(fails1_ok (n:=0) (d:=0) (e:=a) (by decide +kernel) (by decide +kernel) c.hi c.gi).mono ?_
 rintro _ h' ⟨X,rfl⟩
 exact⟨X,by simp⟩
theorem lawl_blk {h:IH} (xs:List Int) (hx : ∀x∈xs,In64 x) (hl:xs.length≤1000) (h0:0<xs.length):WV Proofs.Try.prog (.func (.func 10) #[] #[]) [.slice (some ⟨2*h.n,0,none⟩) xs.length (2*xs.length+1)] (h.new (.cells (xs.map KI) 1 none)) fun r h'=>Ext h h'∧ShSl h' r (xs.map shI):=by
 refine(lawl_ok (xs:=xs) (sl_block (k:=h.n) (f:=none) (get_new_same _ _ rfl) (by simp) (by decide) (by simp) (by omega) (by omega)) hx hl).mono ?_
 rintro r h' ⟨X,s⟩
 exact⟨((Ext.refl h).new _).trans X,s⟩
theorem build2 {h:IH} (a b c d:Nat):buildSlice Proofs.Try.prog h 28 2 [(0,shV a b),(1,shV c d)]=some (.slice (some ⟨2*h.n,0,none⟩) 2 5,h.new (.cells (shL [(a,b),(c,d)]) 16 none)):=by
 rw[bs28 h 2 _ (by decide)]
 have e:fillP (fun i=>some (i*16,16)) (repl 2 [.int .u64 0,.int .u64 0,.int .u64 0,.int .u64 0,.int .u64 0,.int .u64 0,.int .u64 0,.int .u64 0,.int .u64 0,.int .u64 0,.int .u64 0,.int .u64 0,.int .u64 0,.int .u64 0,.int .u64 0,.int .u64 0]) [(0,shV a b),(1,shV c d)]=some (shL [(a,b),(c,d)]):=by kernel_rfl
 rw[e];rfl
theorem shLs_two {h:IH} {w1 w2:Value} {x1 x2:List (Nat×Nat)} (s1:ShSl h w1 x1) (s2:ShSl h w2 x2):ShLs (h.new (.cells [w1,w2] 1 none)) (.slice (some ⟨2*h.n,0,none⟩) 2 5) [x1,x2]:=by
 have E:Ext h (h.new (.cells [w1,w2] 1 none)):=(Ext.refl h).new _
 refine⟨[w1,w2],sl_block (k:=h.n) (f:=none) (get_new_same _ _ rfl) (by simp) (by decide) (by simp) (by omega) (by omega),by simp,?_⟩
 intro i x hx
 match i,hx with
 | 0,hx=>simp at hx;subst hx;exact⟨w1,rfl,s1.keep E.keep⟩
 | 1,hx=>simp at hx;subst hx;exact⟨w2,rfl,s2.keep E.keep⟩
 | i+2,hx=>simp at hx
theorem shLs_one {h:IH} {w1:Value} {x1:List (Nat×Nat)} (s1:ShSl h w1 x1):ShLs (h.new (.cells [w1] 1 none)) (.slice (some ⟨2*h.n,0,none⟩) 1 3) [x1]:=by
 have E:Ext h (h.new (.cells [w1] 1 none)):=(Ext.refl h).new _
 refine⟨[w1],sl_block (k:=h.n) (f:=none) (get_new_same _ _ rfl) (by simp) (by decide) (by simp) (by omega) (by omega),by simp,?_⟩
 intro i x hx
 match i,hx with
 | 0,hx=>simp at hx;subst hx;exact⟨w1,rfl,s1.keep E.keep⟩
 | i+1,hx=>simp at hx
theorem ShLs.ext {h h':IH} {v:Value} {ll:List (List (Nat×Nat))} (s:ShLs h v ll) (e:Ext h h'):ShLs h' v ll:=by
 obtain⟨vs,a,b,c⟩:=s
 refine⟨vs,a.ext e,b,fun i x hx=>?_⟩
 obtain⟨w,h1,h2⟩:=c i x hx
 exact⟨w,h1,h2.keep e.keep⟩
def FitL (ll:List (List (Nat×Nat))):Prop:=svErr ll=0→len0 ll≤12∧ll.length≤8
theorem ShLs.sv {h:IH} {v:Value} {ll:List (List (Nat×Nat))} (s:ShLs h v ll) (e:svErr ll=0):SvOk ll 512:=by
 refine⟨e,fun x hx q hq=>?_⟩
 obtain⟨_,_,hh⟩:=sv_zero e
 obtain⟨h1,h2,h3,h4⟩:=hh x hx
 obtain⟨vs,a,b,c⟩:=s
 obtain⟨i,hi⟩:=List.mem_iff_getElem?.1 hx
 obtain⟨w,_,s2⟩:=c i x hi
 exact s2.qb (by assumption) q hq
end Go.Id

/-! Contracts: the law's examples (works). -/
namespace Go.Id
open Go
theorem fitB : ∀m,m≤8 → ∀n,n≤12→rfBits m n 512<16000000:=by decide
theorem ShLs.fit {h:IH} {v:Value} {ll:List (List (Nat×Nat))} (s:ShLs h v ll) (f:FitL ll) (e:svErr ll=0):SvOk ll 512∧rfBits ll.length (len0 ll) 512<16000000:=⟨s.sv e,fitB _ (f e).2 _ (f e).1⟩
theorem ShLs.fit' {h:IH} {v:Value} {ll:List (List (Nat×Nat))} (s:ShLs h v ll) (f:FitL ll) (e:svErr ll=0):SvOk ll 512∧rBits ll.length (len0 ll) 512<16000000:=by
 obtain⟨a,b⟩:=s.fit f e
 refine⟨a,?_⟩
 unfold rfBits at b
 omega
section
variable {h:IH} {v:Value} {ll:List (List (Nat×Nat))} (s:ShLs h v ll) (f:FitL ll)
include s f
theorem gWithin:WV Proofs.Try.prog (.func (.func 14) #[] #[]) [v] h fun r h'=>Ext h h'∧r=withinRes ll:=dgWithin_ok s (s.fit' f)
theorem gMeans:WV Proofs.Try.prog (.func (.func 15) #[] #[]) [v] h fun r h'=>Ext h h'∧r=meansRes ll:=dgMeans_ok s (s.fit' f)
theorem gRatio:WV Proofs.Try.prog (.func (.func 16) #[] #[]) [v] h fun r h'=>Ext h h'∧r=ratioRes ll:=dgRatio_ok s (s.fit' f)
end
theorem withinRes_of {ll:List (List (Nat×Nat))} {q:Rat} (h1:svErr ll=0) (h2:qwithin ll=q) (h3:QW q):withinRes ll=.tuple #[shareV q,KI 0]:=by
 unfold withinRes;rw[if_pos h1,h2,toldV_of h3]
theorem meansRes_of {ll:List (List (Nat×Nat))} {q:Rat} (h1:svErr ll=0) (h2:qmeansV ll=q) (h3:QW q):meansRes ll=.tuple #[shareV q,KI 0]:=by
 unfold meansRes;rw[if_pos h1,h2,toldV_of h3]
theorem ratioRes_of {ll:List (List (Nat×Nat))} {q:Rat} (h1:svErr ll=0) (h0:qwithin ll≠0) (h2:qratioV ll=q) (h3:QW q):ratioRes ll=.tuple #[shareV q,KI 0]:=by
 unfold ratioRes;rw[if_pos h1,if_neg h0,h2,toldV_of h3]
theorem ratioRes_no {ll:List (List (Nat×Nat))} (h1:svErr ll=0) (h0:qwithin ll=0):ratioRes ll=errV 7:=by
 unfold ratioRes;rw[if_pos h1,if_pos h0]
theorem ratioRes_err {ll:List (List (Nat×Nat))} {e:Int} (h1:svErr ll=e) (h0:e≠0):ratioRes ll=errV e:=by
 unfold ratioRes;rw[if_neg (by rw[h1];exact h0),h1]
abbrev mI (xs:List Int):List (Nat×Nat):=xs.map shI
def nthC:Code→Nat→Code
 | .seq a _,0=>a
 | .seq _ b,n+1=>nthC b n
 | c,_=>c
noncomputable def partW (i:Nat):Code:=nthC (Proofs.Try.f4.body.getD .skip) i
set_option maxHeartbeats 8000000 in
theorem w1 {hh:IH} {fr:Fr} {Q:IExit→Fr→IH→Prop}:Do (wpC Proofs.Try.prog 4 159 none (partW 1) fr hh) (seqK (fun fr h'=>Pst (Ext hh h'∧fget fr 1=some (.bool true)) nx) Q) nx:=by
 show Do (wpC _ _ _ _ (.region _ _ _) fr hh) _ _
 simp -dsimp (disch:=omega) only[wpS]
 refine call (isC_ok 3 1) ?_
 rintro _ h1 ⟨X1,i1,j1,rfl,c1⟩
 have E1:=X1
 simp -dsimp (disch:=omega) only[wpS,wpT,Nat.reduceEqDiff,Nat.reduceLeDiff,Nat.reduceAdd,Nat.reduceMul,bs60]
 refine call (lawl_blk [1,2,6] (by decide +kernel) (by decide +kernel) (by decide +kernel)) ?_
 rintro v2 h2 ⟨X2,s2⟩
 have E2:=E1.trans X2
 simp -dsimp (disch:=omega) only[wpS,Nat.reduceEqDiff]
 refine call (gMean s2) ?_
 rintro _ h3 ⟨X3,rfl⟩
 have E3:=E2.trans X3
 rw[meanRes_of (l:=mI [1,2,6]) (q:=((3:Int):Rat)) (by decide +kernel) (by decide +kernel) (QW_of (by decide +kernel))]
 simp -dsimp (disch:=omega) only[wpS,Nat.reduceEqDiff]
 refine call (isT_ok (q:=((3:Int):Rat)) ((c1.ext X2).ext X3) (by decide +kernel) (by decide +kernel) (by decide +kernel) (by decide +kernel)) ?_
 rintro _ h4 ⟨X4,rfl⟩
 have E4:=E3.trans X4
 simp -dsimp (disch:=omega) only[wpS,wpT,Nat.reduceEqDiff]
 refine call (isC_ok 14 3) ?_
 rintro _ h5 ⟨X5,i5,j5,rfl,c5⟩
 have E5:=E4.trans X5
 simp -dsimp (disch:=omega) only[wpS,wpT,Nat.reduceEqDiff,Nat.reduceLeDiff,Nat.reduceAdd,Nat.reduceMul,bs60]
 refine call (lawl_blk [1,2,6] (by decide +kernel) (by decide +kernel) (by decide +kernel)) ?_
 rintro v6 h6 ⟨X6,s6⟩
 have E6:=E5.trans X6
 simp -dsimp (disch:=omega) only[wpS,wpT,Nat.reduceEqDiff]
 refine call (gAuto s6 (.inl (by decide +kernel)) 0) ?_
 rintro _ h7 ⟨X7,rfl⟩
 have E7:=E6.trans X7
 have r7:autoRes (mI [1,2,6]) 0=.tuple #[shareV (Rat.divInt (14) 3),KI 0]:=autoRes_of (lag:=0) (by decide +kernel) (by decide +kernel) (by decide +kernel) (QW_of (by decide +kernel))
 rw[r7]
 simp -dsimp (disch:=omega) only[wpS,wpT,Nat.reduceEqDiff]
 refine call (isT_ok (q:=(Rat.divInt (14) 3)) ((c5.ext X6).ext X7) (by decide +kernel) (by decide +kernel) (by decide +kernel) (by decide +kernel)) ?_
 rintro _ h8 ⟨X8,rfl⟩
 have E8:=E7.trans X8
 simp -dsimp (disch:=omega) only[wpS,wpT,Nat.reduceEqDiff]
 refine call (isC_ok (-1) 3) ?_
 rintro _ h9 ⟨X9,i9,j9,rfl,c9⟩
 have E9:=E8.trans X9
 simp -dsimp (disch:=omega) only[wpS,wpT,Nat.reduceEqDiff,Nat.reduceLeDiff,Nat.reduceAdd,Nat.reduceMul,bs60]
 refine call (lawl_blk [1,2,6] (by decide +kernel) (by decide +kernel) (by decide +kernel)) ?_
 rintro v10 h10 ⟨X10,s10⟩
 have E10:=E9.trans X10
 simp -dsimp (disch:=omega) only[wpS,wpT,Nat.reduceEqDiff]
 refine call (gAuto s10 (.inl (by decide +kernel)) 1) ?_
 rintro _ h11 ⟨X11,rfl⟩
 have E11:=E10.trans X11
 have r11:autoRes (mI [1,2,6]) 1=.tuple #[shareV (Rat.divInt (-1) 3),KI 0]:=autoRes_of (lag:=1) (by decide +kernel) (by decide +kernel) (by decide +kernel) (QW_of (by decide +kernel))
 rw[r11]
 simp -dsimp (disch:=omega) only[wpS,wpT,Nat.reduceEqDiff]
 refine call (isT_ok (q:=(Rat.divInt (-1) 3)) ((c9.ext X10).ext X11) (by decide +kernel) (by decide +kernel) (by decide +kernel) (by decide +kernel)) ?_
 rintro _ h12 ⟨X12,rfl⟩
 have E12:=E11.trans X12
 simp -dsimp (disch:=omega) only[wpS,wpT,Nat.reduceEqDiff]
 refine call (faC_ok 2) ?_
 rintro _ h13 ⟨X13,i13,rfl,c13⟩
 have E13:=E12.trans X13
 simp -dsimp (disch:=omega) only[wpS,wpT,Nat.reduceEqDiff,Nat.reduceLeDiff,Nat.reduceAdd,Nat.reduceMul,bs60]
 refine call (lawl_blk [1,2,6] (by decide +kernel) (by decide +kernel) (by decide +kernel)) ?_
 rintro v14 h14 ⟨X14,s14⟩
 have E14:=E13.trans X14
 simp -dsimp (disch:=omega) only[wpS,wpT,Nat.reduceEqDiff]
 refine call (gAuto s14 (.inl (by decide +kernel)) 3) ?_
 rintro _ h15 ⟨X15,rfl⟩
 have E15:=E14.trans X15
 have r15:autoRes (mI [1,2,6]) 3=errV 2:=autoRes_no (by decide +kernel) (by decide +kernel)
 rw[r15]
 simp -dsimp (disch:=omega) only[wpS,wpT,Nat.reduceEqDiff]
 refine call (faT_ok ((c13.ext X14).ext X15)) ?_
 rintro _ h16 ⟨X16,rfl⟩
 have E16:=E15.trans X16
 simp -dsimp (disch:=omega) only[wpS,wpT,Nat.reduceEqDiff]
 refine call (isC_ok 8 3) ?_
 rintro _ h17 ⟨X17,i17,j17,rfl,c17⟩
 have E17:=E16.trans X17
 simp -dsimp (disch:=omega) only[wpS,wpT,Nat.reduceEqDiff,Nat.reduceLeDiff,Nat.reduceAdd,Nat.reduceMul,bs60]
 refine call (lawl_blk [0,0,1,1] (by decide +kernel) (by decide +kernel) (by decide +kernel)) ?_
 rintro v18 h18 ⟨X18,s18⟩
 have E18:=E17.trans X18
 simp -dsimp (disch:=omega) only[wpS,wpT,Nat.reduceEqDiff]
 refine call (gEff s18 (.inl (by decide +kernel))) ?_
 rintro _ h19 ⟨X19,rfl⟩
 have E19:=E18.trans X19
 have r19:effRes (mI [0,0,1,1])=.tuple #[shareV (Rat.divInt (8) 3),KI 0]:=effRes_of (by decide +kernel) (by decide +kernel) (by decide +kernel) (QW_of (by decide +kernel))
 rw[r19]
 simp -dsimp (disch:=omega) only[wpS,wpT,Nat.reduceEqDiff]
 refine call (isT_ok (q:=(Rat.divInt (8) 3)) ((c17.ext X18).ext X19) (by decide +kernel) (by decide +kernel) (by decide +kernel) (by decide +kernel)) ?_
 rintro _ h20 ⟨X20,rfl⟩
 have E20:=E19.trans X20
 simp -dsimp (disch:=omega) only[wpS,wpT,Nat.reduceEqDiff]
 refine call (isC_ok 16 1) ?_
 rintro _ h21 ⟨X21,i21,j21,rfl,c21⟩
 have E21:=E20.trans X21
 simp -dsimp (disch:=omega) only[wpS,wpT,Nat.reduceEqDiff,Nat.reduceLeDiff,Nat.reduceAdd,Nat.reduceMul,bs60]
 refine call (lawl_blk [0,1,0,1] (by decide +kernel) (by decide +kernel) (by decide +kernel)) ?_
 rintro v22 h22 ⟨X22,s22⟩
 have E22:=E21.trans X22
 simp -dsimp (disch:=omega) only[wpS,wpT,Nat.reduceEqDiff]
 refine call (gEff s22 (.inl (by decide +kernel))) ?_
 rintro _ h23 ⟨X23,rfl⟩
 have E23:=E22.trans X23
 have r23:effRes (mI [0,1,0,1])=.tuple #[shareV ((16:Int):Rat),KI 0]:=effRes_of (by decide +kernel) (by decide +kernel) (by decide +kernel) (QW_of (by decide +kernel))
 rw[r23]
 simp -dsimp (disch:=omega) only[wpS,wpT,Nat.reduceEqDiff]
 refine call (isT_ok (q:=((16:Int):Rat)) ((c21.ext X22).ext X23) (by decide +kernel) (by decide +kernel) (by decide +kernel) (by decide +kernel)) ?_
 rintro _ h24 ⟨X24,rfl⟩
 have E24:=E23.trans X24
 simp -dsimp (disch:=omega) only[wpS,wpT,Nat.reduceEqDiff]
 refine call (faC_ok 7) ?_
 rintro _ h25 ⟨X25,i25,rfl,c25⟩
 have E25:=E24.trans X25
 simp -dsimp (disch:=omega) only[wpS,wpT,Nat.reduceEqDiff,Nat.reduceLeDiff,Nat.reduceAdd,Nat.reduceMul,bs60]
 refine call (lawl_blk [5,5] (by decide +kernel) (by decide +kernel) (by decide +kernel)) ?_
 rintro v26 h26 ⟨X26,s26⟩
 have E26:=E25.trans X26
 simp -dsimp (disch:=omega) only[wpS,wpT,Nat.reduceEqDiff]
 refine call (gEff s26 (.inl (by decide +kernel))) ?_
 rintro _ h27 ⟨X27,rfl⟩
 have E27:=E26.trans X27
 have r27:effRes (mI [5,5])=errV 7:=effRes_no (by decide +kernel) (by decide +kernel)
 rw[r27]
 simp -dsimp (disch:=omega) only[wpS,wpT,Nat.reduceEqDiff]
 refine call (faT_ok ((c25.ext X26).ext X27)) ?_
 rintro _ h28 ⟨X28,rfl⟩
 have E28:=E27.trans X28
 simp -dsimp (disch:=omega) only[wpS,Nat.reduceEqDiff]
 exact⟨E28,rfl⟩
theorem batErr_ok {l:List (Nat×Nat)} {sz:Int} (h1:chErr l=0) (h2:1≤sz) (h3:sz≤l.length) (h4:((bmeans (l.map rOf) sz.toNat).all fun q=>decide (-(H8:Int)≤q.num) && decide (q.num<H8) && decide ((q.den:Int)<H8))=true):batErr l sz=0:=by
 unfold batErr
 rw[if_pos h1,if_pos ⟨h2,h3⟩,if_pos]
 intro q hq
 exact QW_of (List.all_eq_true.1 h4 q hq)
abbrev twoS:List (Nat×Nat):=[shq (Rat.divInt 3 2),shq (Rat.divInt 5 1)]
set_option maxHeartbeats 8000000 in
theorem w2 {hh:IH} {fr:Fr} {Q:IExit→Fr→IH→Prop} (f1:fget fr 1=some (.bool true)):Do (wpC Proofs.Try.prog 4 159 none (partW 2) fr hh) (seqK (fun fr h'=>Pst (Ext hh h' ∧ ∃v,ShSl h' v twoS∧fget fr 2=some v∧fget fr 3=some (KI 0)∧fget fr 1=some (.bool true)) nx) Q) nx:=by
 show Do (wpC _ _ _ _ (.region _ _ _) fr hh) _ _
 simp -dsimp (disch:=omega) only[wpS,wpT,Nat.reduceLeDiff,Nat.reduceAdd,Nat.reduceMul,bs60]
 refine call (lawl_blk [1,2,6,4,9] (by decide +kernel) (by decide +kernel) (by decide +kernel)) ?_
 rintro v29 h29 ⟨X29,s29⟩
 have E29:=X29
 simp -dsimp (disch:=omega) only[wpS,Nat.reduceEqDiff]
 refine call (gBat s29 2) ?_
 have b30:batErr (mI [1,2,6,4,9]) 2=0:=batErr_ok (by decide +kernel) (by decide +kernel) (by decide +kernel) (by decide +kernel)
 rw[b30]
 rintro _ h30 ⟨X30,v30,rfl,s30⟩
 have E30:=E29.trans X30
 rw[if_pos rfl] at s30
 have e30:(bmeans ((mI [1,2,6,4,9]).map rOf) (2:Int).toNat).map shOf = [shq (Rat.divInt 3 2),shq (Rat.divInt 5 1)]:=by decide +kernel
 rw[e30] at s30
 simp -dsimp (disch:=omega) only[wpS,Nat.reduceEqDiff]
 exact⟨E30,v30,s30,rfl,rfl,by simp[f1]⟩
set_option maxHeartbeats 8000000 in
theorem w3 {hh:IH} {fr:Fr} {Q:IExit→Fr→IH→Prop} {v2:Value} (f1:fget fr 1=some (.bool true)) (f2:fget fr 2=some v2) (f3:fget fr 3=some (KI 0)):Do (wpC Proofs.Try.prog 4 159 none (partW 3) fr hh) (seqK (fun fr h'=>Pst (Ext hh h'∧fget fr 4=some (KI 3)∧fget fr 5=some (KI 0)∧fget fr 1=some (.bool true)∧fget fr 2=some v2∧fget fr 3=some (KI 0)) nx) Q) nx:=by
 show Do (wpC _ _ _ _ (.region _ _ _) fr hh) _ _
 simp -dsimp (disch:=omega) only[wpS,wpT,Nat.reduceLeDiff,Nat.reduceAdd,Nat.reduceMul,bs60]
 refine call (lawl_blk [1,1,2,2,2,1] (by decide +kernel) (by decide +kernel) (by decide +kernel)) ?_
 rintro v31 h31 ⟨X31,s31⟩
 have E31:=X31
 simp -dsimp (disch:=omega) only[wpS,Nat.reduceEqDiff]
 refine call (dgStuck_ok s31) ?_
 rintro _ h32 ⟨X32,rfl⟩
 have E32:=E31.trans X32
 have r32:stuckRes (mI [1,1,2,2,2,1])=.tuple #[KI 3,KI 0]:=by kernel_rfl
 rw[r32]
 simp -dsimp (disch:=omega) only[wpS,Nat.reduceEqDiff]
 exact⟨E32,rfl,rfl,by simp[f1],by simp[f2],by simp[f3]⟩
set_option maxHeartbeats 8000000 in
theorem w4 {hh:IH} {fr:Fr} {Q:IExit→Fr→IH→Prop} {v2:Value} (hv:ShSl hh v2 twoS) (f1:fget fr 1=some (.bool true)) (f2:fget fr 2=some v2) (f3:fget fr 3=some (KI 0)) (f4:fget fr 4=some (KI 3)) (f5:fget fr 5=some (KI 0)):Do (wpC Proofs.Try.prog 4 159 none (partW 4) fr hh) (seqK (fun fr h'=>Pst (Ext hh h'∧fget fr 1=some (.bool true)) nx) Q) nx:=by
 show Do (wpC _ _ _ _ (.region _ _ _) fr hh) _ _
 simp -dsimp (disch:=omega) only[wpS,wpT,Nat.reduceEqDiff,f1,f2]
 refine call (lawq_ok 3 2 (by decide +kernel) (by decide +kernel) (by decide +kernel)) ?_
 rintro _ h33 ⟨X33,rfl⟩
 have E33:=X33
 simp -dsimp (disch:=omega) only[wpS,wpT,Nat.reduceEqDiff]
 refine call (lawq_ok 5 1 (by decide +kernel) (by decide +kernel) (by decide +kernel)) ?_
 rintro _ h34 ⟨X34,rfl⟩
 have E34:=E33.trans X34
 simp only[shareV_shq]
 simp -dsimp (disch:=omega) only[wpS,wpT,Nat.reduceEqDiff,build2]
 have s35:ShSl (h34.new (.cells (shL twoS) 16 none)) (.slice (some ⟨2*h34.n,0,none⟩) 2 5) twoS:=by
  refine⟨sl_block (k:=h34.n) (f:=none) (get_new_same _ _ rfl) (by simp) (by decide) (by decide +kernel) (by omega) (by decide),by decide,?_⟩
  decide +kernel
 have F35:Ext hh (h34.new (.cells (shL twoS) 16 none)):=E34.new _
 refine call (shequal_ok (l:=twoS) (l2:=twoS) (hv.keep F35.keep) s35) ?_
 rintro _ h36 ⟨X36,rfl⟩
 rw[decide_eq_true rfl]
 have E36:=F35.trans X36
 simp -dsimp (disch:=omega) only[wpS,wpT,Nat.reduceEqDiff,f3,f4,f5]
 refine call (faC_ok 4) ?_
 rintro _ h37 ⟨X37,i37,rfl,c37⟩
 have E37:=E36.trans X37
 simp -dsimp (disch:=omega) only[wpS,wpT,Nat.reduceEqDiff]
 refine call (gMean (l:=[]) ⟨SlOf.nil _ (by decide),by simp,(fun p hp=>by cases hp)⟩) ?_
 rintro _ h38 ⟨X38,rfl⟩
 have E38:=E37.trans X38
 have r38:meanRes []=errV 4:=by unfold meanRes;rw[if_neg (by decide)];rfl
 rw[r38]
 simp -dsimp (disch:=omega) only[wpS,wpT,Nat.reduceEqDiff]
 refine call (faT_ok (c37.ext X38)) ?_
 rintro _ h39 ⟨X39,rfl⟩
 have E39:=E38.trans X39
 simp -dsimp (disch:=omega) only[wpS,Nat.reduceEqDiff]
 exact⟨E39,rfl⟩
set_option maxHeartbeats 8000000 in
theorem w5 {hh:IH} {fr:Fr} {Q:IExit→Fr→IH→Prop} (f1:fget fr 1=some (.bool true)):Do (wpC Proofs.Try.prog 4 159 none (partW 5) fr hh) (seqK (fun fr h'=>Pst (Ext hh h' ∧ ∃v,ShLs h' v [mI [0,2],mI [1,5]]∧fget fr 6=some v∧fget fr 1=some (.bool true)) nx) Q) nx:=by
 show Do (wpC _ _ _ _ (.region _ _ _) fr hh) _ _
 simp -dsimp (disch:=omega) only[wpS,wpT,Nat.reduceLeDiff,Nat.reduceAdd,Nat.reduceMul,bs60]
 refine call (lawl_blk [0,2] (by decide +kernel) (by decide +kernel) (by decide +kernel)) ?_
 rintro v40 h40 ⟨X40,s40⟩
 have E40:=X40
 simp -dsimp (disch:=omega) only[wpS,wpT,Nat.reduceEqDiff,Nat.reduceLeDiff,Nat.reduceAdd,Nat.reduceMul,bs60]
 refine call (lawl_blk [1,5] (by decide +kernel) (by decide +kernel) (by decide +kernel)) ?_
 rintro v41 h41 ⟨X41,s41⟩
 have E41:=E40.trans X41
 simp -dsimp (disch:=omega) only[wpS,wpT,Nat.reduceEqDiff,Nat.reduceLeDiff,Nat.reduceAdd,Nat.reduceMul,bs42,s40.1.cells,s41.1.cells]
 exact⟨E41.new _,_,shLs_two (s40.keep X41.keep) s41,rfl,by simp[f1]⟩
set_option maxHeartbeats 8000000 in
theorem w6 {hh:IH} {fr:Fr} {Q:IExit→Fr→IH→Prop} {v:Value} (hv:ShLs hh v [mI [0,2],mI [1,5]]) (f1:fget fr 1=some (.bool true)) (f6:fget fr 6=some v):Do (wpC Proofs.Try.prog 4 159 none (partW 6) fr hh) (seqK (fun fr h'=>Pst (Ext hh h'∧fget fr 0=some (.bool true)) nx) Q) nx:=by
 show Do (wpC _ _ _ _ (.region _ _ _) fr hh) _ _
 simp -dsimp (disch:=omega) only[wpS,wpT,Nat.reduceEqDiff,f1]
 refine call (isC_ok 5 1) ?_
 rintro _ h42 ⟨X42,i42,j42,rfl,c42⟩
 have E42:=X42
 simp -dsimp (disch:=omega) only[wpS,wpT,Nat.reduceEqDiff,f6]
 refine call (gWithin (ll:=[mI [0,2],mI [1,5]]) (hv.ext E42) (fun _=>⟨by decide +kernel,by decide +kernel⟩)) ?_
 rintro _ h43 ⟨X43,rfl⟩
 have E43:=E42.trans X43
 have r43:withinRes [mI [0,2],mI [1,5]]=.tuple #[shareV ((5:Int):Rat),KI 0]:=withinRes_of (by decide +kernel) (by decide +kernel) (QW_of (by decide +kernel))
 rw[r43]
 simp -dsimp (disch:=omega) only[wpS,wpT,Nat.reduceEqDiff]
 refine call (isT_ok (q:=((5:Int):Rat)) (c42.ext X43) (by decide +kernel) (by decide +kernel) (by decide +kernel) (by decide +kernel)) ?_
 rintro _ h44 ⟨X44,rfl⟩
 have E44:=E43.trans X44
 simp -dsimp (disch:=omega) only[wpS,wpT,Nat.reduceEqDiff]
 refine call (isC_ok 2 1) ?_
 rintro _ h45 ⟨X45,i45,j45,rfl,c45⟩
 have E45:=E44.trans X45
 simp -dsimp (disch:=omega) only[wpS,wpT,Nat.reduceEqDiff,f6]
 refine call (gMeans (ll:=[mI [0,2],mI [1,5]]) (hv.ext E45) (fun _=>⟨by decide +kernel,by decide +kernel⟩)) ?_
 rintro _ h46 ⟨X46,rfl⟩
 have E46:=E45.trans X46
 have r46:meansRes [mI [0,2],mI [1,5]]=.tuple #[shareV ((2:Int):Rat),KI 0]:=meansRes_of (by decide +kernel) (by decide +kernel) (QW_of (by decide +kernel))
 rw[r46]
 simp -dsimp (disch:=omega) only[wpS,wpT,Nat.reduceEqDiff]
 refine call (isT_ok (q:=((2:Int):Rat)) (c45.ext X46) (by decide +kernel) (by decide +kernel) (by decide +kernel) (by decide +kernel)) ?_
 rintro _ h47 ⟨X47,rfl⟩
 have E47:=E46.trans X47
 simp -dsimp (disch:=omega) only[wpS,wpT,Nat.reduceEqDiff]
 refine call (isC_ok 9 10) ?_
 rintro _ h48 ⟨X48,i48,j48,rfl,c48⟩
 have E48:=E47.trans X48
 simp -dsimp (disch:=omega) only[wpS,wpT,Nat.reduceEqDiff,f6]
 refine call (gRatio (ll:=[mI [0,2],mI [1,5]]) (hv.ext E48) (fun _=>⟨by decide +kernel,by decide +kernel⟩)) ?_
 rintro _ h49 ⟨X49,rfl⟩
 have E49:=E48.trans X49
 have r49:ratioRes [mI [0,2],mI [1,5]]=.tuple #[shareV (Rat.divInt (9) 10),KI 0]:=ratioRes_of (by decide +kernel) (by decide +kernel) (by decide +kernel) (QW_of (by decide +kernel))
 rw[r49]
 simp -dsimp (disch:=omega) only[wpS,wpT,Nat.reduceEqDiff]
 refine call (isT_ok (q:=(Rat.divInt (9) 10)) (c48.ext X49) (by decide +kernel) (by decide +kernel) (by decide +kernel) (by decide +kernel)) ?_
 rintro _ h50 ⟨X50,rfl⟩
 have E50:=E49.trans X50
 simp -dsimp (disch:=omega) only[wpS,wpT,Nat.reduceEqDiff]
 refine call (faC_ok 7) ?_
 rintro _ h51 ⟨X51,i51,rfl,c51⟩
 have E51:=E50.trans X51
 simp -dsimp (disch:=omega) only[wpS,wpT,Nat.reduceEqDiff,Nat.reduceLeDiff,Nat.reduceAdd,Nat.reduceMul,bs60]
 refine call (lawl_blk [1,1] (by decide +kernel) (by decide +kernel) (by decide +kernel)) ?_
 rintro v52 h52 ⟨X52,s52⟩
 have E52:=E51.trans X52
 simp -dsimp (disch:=omega) only[wpS,wpT,Nat.reduceEqDiff,Nat.reduceLeDiff,Nat.reduceAdd,Nat.reduceMul,bs60]
 refine call (lawl_blk [2,2] (by decide +kernel) (by decide +kernel) (by decide +kernel)) ?_
 rintro v53 h53 ⟨X53,s53⟩
 have E53:=E52.trans X53
 simp -dsimp (disch:=omega) only[wpS,wpT,Nat.reduceEqDiff,Nat.reduceLeDiff,Nat.reduceAdd,Nat.reduceMul,bs42,s52.1.cells,s53.1.cells]
 refine call (gRatio (ll:=[mI [1,1],mI [2,2]]) (shLs_two (s52.keep X53.keep) s53) (fun _=>⟨by decide +kernel,by decide +kernel⟩)) ?_
 rintro _ h54 ⟨Y54,rfl⟩
 have X54:=((Ext.refl h53).new _).trans Y54
 have E54:=E53.trans X54
 have r54:ratioRes [mI [1,1],mI [2,2]]=errV 7:=ratioRes_no (by decide +kernel) (by decide +kernel)
 rw[r54]
 simp -dsimp (disch:=omega) only[wpS,wpT,Nat.reduceEqDiff]
 refine call (faT_ok (((c51.ext X52).ext X53).ext X54)) ?_
 rintro _ h55 ⟨X55,rfl⟩
 have E55:=E54.trans X55
 simp -dsimp (disch:=omega) only[wpS,wpT,Nat.reduceEqDiff]
 refine call (faC_ok 5) ?_
 rintro _ h56 ⟨X56,i56,rfl,c56⟩
 have E56:=E55.trans X56
 simp -dsimp (disch:=omega) only[wpS,wpT,Nat.reduceEqDiff,Nat.reduceLeDiff,Nat.reduceAdd,Nat.reduceMul,bs60]
 refine call (lawl_blk [1,2] (by decide +kernel) (by decide +kernel) (by decide +kernel)) ?_
 rintro v57 h57 ⟨X57,s57⟩
 have E57:=E56.trans X57
 simp -dsimp (disch:=omega) only[wpS,wpT,Nat.reduceEqDiff,Nat.reduceLeDiff,Nat.reduceAdd,bs42,s57.1.cells]
 refine call (gRatio (ll:=[mI [1,2]]) (shLs_one s57) (fun e=>absurd e (by decide +kernel))) ?_
 rintro _ h58 ⟨Y58,rfl⟩
 have X58:=((Ext.refl h57).new _).trans Y58
 have E58:=E57.trans X58
 have r58:ratioRes [mI [1,2]]=errV 5:=ratioRes_err (by decide +kernel) (by decide)
 rw[r58]
 simp -dsimp (disch:=omega) only[wpS,wpT,Nat.reduceEqDiff]
 refine call (faT_ok ((c56.ext X57).ext X58)) ?_
 rintro _ h59 ⟨X59,rfl⟩
 have E59:=E58.trans X59
 simp -dsimp (disch:=omega) only[wpS,Nat.reduceEqDiff]
 exact⟨E59,rfl⟩
theorem w0 {hh:IH} {fr:Fr} {Q:IExit→Fr→IH→Prop}:Do (wpC Proofs.Try.prog 4 159 none (partW 0) fr hh) (seqK (fun fr h'=>Pst (h'=hh) nx) Q) nx:=by
 show Do (wpC _ _ _ _ (.region _ _ _) fr hh) _ _
 simp -dsimp (disch:=omega) only[wpS]
theorem dgworks_ok {h:IH}:WV Proofs.Try.prog (.func (.func 4) #[] #[]) [] h fun r h'=>Ext h h'∧r=.bool true:=by
 refine enter (nt:=159) (rs:=[.tmp 0]) Proofs.Try.func4 rfl rfl rfl (by simp) ?_
 rw[d_seq];refine cut _ w0 ?_;rintro fr h0 rfl
 rw[d_seq];refine cut _ w1 ?_;rintro fr h1 ⟨x1,f1⟩
 rw[d_seq];refine cut _ (w2 f1) ?_;clear f1;rintro fr h2 ⟨x2,v,s2,f2,f3,f1⟩
 rw[d_seq];refine cut _ (w3 f1 f2 f3) ?_;clear f1 f2 f3;rintro fr h3 ⟨x3,f4,f5,f1,f2,f3⟩
 rw[d_seq];refine cut _ (w4 (s2.keep x3.keep) f1 f2 f3 f4 f5) ?_;clear f1 f2 f3 f4 f5;rintro fr h4 ⟨x4,f1⟩
 rw[d_seq];refine cut _ (w5 f1) ?_;clear f1;rintro fr h5 ⟨x5,v6,s6,f6,f1⟩
 rw[d_seq];refine cut _ (w6 s6 f1 f6) ?_;clear f1 f6;rintro fr h6 ⟨x6,f0⟩
 simp -dsimp (disch:=omega) only[wpS,wpT,f0]
 exact((((x1.trans x2).trans x3).trans x4).trans x5).trans x6
end Go.Id

/-! Weakest preconditions over the ideal machine: appends to slices without room; lengths and parts of slices in regions whose order is open. -/
namespace Go.Id
open Go
theorem append_full {P:Program} {t:TypeId} {sz bytes:Nat} (hT:appT P t=some (sz,bytes)) {h:IH} {b o n:Nat} {cs:List Value} (sv:SlNow h sz (.slice (some ⟨b,o,none⟩) n (2*n+1)) n cs) {x:Value} {m:Nat} {new:List Value} (sx:SlNow h sz x m new) (hm:0<m) (hn:0<n) (hc:new.all cellOK=true) (hsz:(n+m)*(bytes+1)≤1099511627776) :
  append P h t (.slice (some ⟨b,o,none⟩) n (2*n+1)) x=some (.slice (some ⟨2*h.n,0,none⟩) (n+m) (2*(n+m)),h.new (.cells (cs ++ new) sz none)):=by
 unfold appT at hT
 split at hT
 case h_2=>cases hT
 rename_i e hu
 split at hT
 case h_2=>cases hT
 rename_i zs h1 h2 h3
 simp only[cond_eq_ite] at hT
 split at hT
 case isTrue=>cases hT
 rename_i hbad
 cases hT
 have hbad':(sz == 0 || (!(Nat.ble bytes 65536) || !(zs.length == sz)))=false:=by simpa using hbad
 have first : ∀{y:Value} {k:Nat} {l:List Value},0<k→SlNow h sz y k l→firstOf h sz k y=some l∧lenOf y=some k:=by
  intro y k l hk s
  obtain⟨hz,hl,⟨rfl,rfl⟩|⟨b2,o2,k2,rfl,rfl|⟨row,a1,a2,a3⟩⟩⟩:=s
  ·omega
  ·omega
  have hms : ¬k*sz=0:=by
   have:0<k*sz:=Nat.mul_pos hk hz
   omega
  refine⟨?_,rfl⟩
  simp only[firstOf,cond_eq_ite,Nat.ble_eq,Nat.le_refl,if_true,beq_iff_eq,if_neg hms]
  rw[rd_of a1,if_pos a3,a2]
 have hmne:(m == 0)=false:=by simp;omega
 obtain⟨hfx,hlx⟩:=first hm sx
 obtain⟨hfv,_⟩:=first hn sv
 have hble:Nat.ble ((n+m)*(bytes+1)) sizeMost=true:=by rw[Nat.ble_eq];exact hsz
 have hcap:Nat.ble (n+m) ((2*n+1) / 2)=false:=by
  rw[Bool.eq_false_iff];intro hh;rw[Nat.ble_eq] at hh;omega
 have hodd:((2*n+1) % 2 == 1)=true:=by simp
 simp only[Id.append,hu,h1,h2,h3,hlx,hmne,hbad',hfx,hc,hble,hcap,hodd,hfv,cond_true,cond_false,Bool.not_true]
theorem steady_slice {P:Program} {fr:Fr} {t:TypeId} {x:Operand} {lo hi:Option Operand} {h h':IH} {xv r:Value} {lov hiv:Option Value} (hx:opd fr x=some xv) (hl:optOpd fr lo=some lov) (hh:optOpd fr hi=some hiv) (h1:sliceOp P h t xv lov hiv none=some r) (h2:sliceOp P h' t xv lov hiv none=some r):steadyAt P fr (.slice t x lo hi none) h h'=true:=by
 have h0:optOpd fr none=some none:=rfl
 exact steadyAt_of (v:=r) (x:=h) (y:=h') (by simp only[iop,hx,hl,hh,h0,h1,Option.map_some]) (by simp only[iop,hx,hl,hh,h0,h2,Option.map_some])
theorem SlOf.slice_same {h h1 h2:IH} {sz:Nat} {v:Value} {n:Nat} {cs:List Value} (s:SlOf h sz v n cs) (k1:Keep h h1) (k2:Keep h h2) {P:Program} {t e:TypeId} (hu:P.underlying t=some (.slice e)) (hT:sizeT P e=some sz) {lo hi mx:Option Value}:sliceOp P h1 t v lo hi mx=sliceOp P h2 t v lo hi mx:=by
 simp only[sliceOp,hu,hT]
 obtain⟨hz,hl,⟨rfl,rfl⟩|⟨b,o,k,rfl,⟨rfl,rfl⟩|⟨a1,a2,row,a3,h3,h4⟩⟩⟩:=s
 ·rfl
 ·simp[resliced]
 ·rcases a3 with a3|⟨a4,a5,f,a6⟩
  ·simp[resliced,a3.2]
  ·obtain⟨f1,g1⟩:=k1.get (b / 2) row sz f (by omega) a6 (by omega)
   obtain⟨f2,g2⟩:=k2.get (b / 2) row sz f (by omega) a6 (by omega)
   have r1:roomy h1 sz (.slice (some ⟨b,o,none⟩) n k)=true:=by simp[roomy,a4,g1]
   have r2:roomy h2 sz (.slice (some ⟨b,o,none⟩) n k)=true:=by simp[roomy,a4,g2]
   rw[r1,r2]
end Go.Id

/-! DiagnoseKnown: the lists that it makes, parts of them, results. -/
namespace Go.Id
open Go
noncomputable def partD (i:Nat):Code:=nthC (Proofs.Try.f3.body.getD .skip) i
abbrev mostL:List (Nat×Nat):=(List.range 201).map fun i=>shI (((i % 2:Nat):Nat):Int)
abbrev badL:List (Nat×Nat):=[(0,0)]
abbrev L200:List (Nat×Nat):=(List.range 200).map fun i=>shI (((i % 2:Nat):Nat):Int)
theorem L200_eq:mostL.take 200=L200:=by
 rw[←List.map_take,List.take_range];rfl
theorem cap3 (k:Nat) (h:IH):sliceOp Proofs.Try.prog h 28 (.slice (some ⟨2*k,0,none⟩) 201 402) none (some (KI 200)) (some (KI 200))=some (.slice (some ⟨2*k,0,none⟩) 200 401):=by
 simp only[sliceOp,u28,sz27]
 rfl
theorem app_cons {α:Type} (a:α) (l m:List α):List.append (a :: l) m=a :: List.append l m:=rfl
theorem app_nil {α:Type} (m:List α):List.append [] m=m:=rfl
theorem shL_app (a b:List (Nat×Nat)):shL (a ++ b)=shL a ++ shL b:=by simp[shL]
theorem steady_slice3 {P:Program} {fr:Fr} {t:TypeId} {x:Operand} {lo hi mx:Option Operand} {h h':IH} {xv r:Value} {lov hiv mxv:Option Value} (hx:opd fr x=some xv) (hl:optOpd fr lo=some lov) (hh:optOpd fr hi=some hiv) (hm:optOpd fr mx=some mxv) (h1:sliceOp P h t xv lov hiv mxv=some r) (h2:sliceOp P h' t xv lov hiv mxv=some r):steadyAt P fr (.slice t x lo hi mx) h h'=true :=
 steadyAt_of (v:=r) (x:=h) (y:=h') (by simp only[iop,hx,hl,hh,hm,h1,Option.map_some]) (by simp only[iop,hx,hl,hh,hm,h2,Option.map_some])
theorem meanRes_err {l:List (Nat×Nat)} {e:Int} (h1:chErr l=e) (h0:e≠0):meanRes l=errV e:=by
 unfold meanRes;rw[if_neg (by rw[h1];exact h0),h1]
theorem autoRes_err {l:List (Nat×Nat)} {lag e:Int} (h1:chErr l=e) (h0:e≠0):autoRes l lag=errV e:=by
 unfold autoRes;rw[if_neg (by rw[h1];exact h0),h1]
theorem effRes_err {l:List (Nat×Nat)} {e:Int} (h1:chErr l=e) (h0:e≠0):effRes l=errV e:=by
 unfold effRes;rw[if_neg (by rw[h1];exact h0),h1]
theorem withinRes_err {ll:List (List (Nat×Nat))} {e:Int} (h1:svErr ll=e) (h0:e≠0):withinRes ll=errV e:=by
 unfold withinRes;rw[if_neg (by rw[h1];exact h0),h1]
theorem meansRes_err {ll:List (List (Nat×Nat))} {e:Int} (h1:svErr ll=e) (h0:e≠0):meansRes ll=errV e:=by
 unfold meansRes;rw[if_neg (by rw[h1];exact h0),h1]
theorem toldV_big {q:Rat} (h:((decide (-(H8:Int)≤q.num) && decide (q.num<H8) && decide ((q.den:Int)<H8))=false)):toldV q=errV 6:=by
 unfold toldV
 rw[if_neg]
 rintro⟨⟨a,b⟩,c⟩
 unfold InW at c
 simp only[Bool.and_eq_false_iff,decide_eq_false_iff_not] at h
 rcases h with(h|h)|h
 ·exact h a
 ·exact h b
 ·exact h (by omega)
theorem autoRes_big {l:List (Nat×Nat)} {lag:Nat} (h1:chErr l=0) (h0:lag<l.length) (h2:(fun q:Rat=>(decide (-(H8:Int)≤q.num) && decide (q.num<H8) && decide ((q.den:Int)<H8))) (qauto (l.map rOf) (qmean (l.map rOf)) lag)=false):autoRes l (lag:Int)=errV 6:=by
 unfold autoRes;rw[if_pos h1,if_pos ⟨by omega,by omega⟩,Int.toNat_natCast,toldV_big h2]
theorem withinRes_big {ll:List (List (Nat×Nat))} (h1:svErr ll=0) (h2:(fun q:Rat=>(decide (-(H8:Int)≤q.num) && decide (q.num<H8) && decide ((q.den:Int)<H8))) (qwithin ll)=false):withinRes ll=errV 6:=by
 unfold withinRes;rw[if_pos h1,toldV_big h2]
theorem batErr_of {l:List (Nat×Nat)} {sz e:Int} (h1:chErr l=e) (h0:e≠0):batErr l sz=e:=by
 unfold batErr;rw[if_neg (by rw[h1];exact h0),h1]
theorem batErr_arg {l:List (Nat×Nat)} {sz:Int} (h1:chErr l=0) (h0 : ¬(1≤sz∧sz≤l.length)):batErr l sz=2:=by
 unfold batErr;rw[if_pos h1,if_neg h0]
theorem qb_one : ∀q∈L200.map rOf,QB 1 q:=by
 have h : ∀q∈L200.map rOf,q=0∨q=1:=by decide +kernel
 intro q hq
 rcases h q hq with rfl|rfl
 ·exact⟨by decide,by decide⟩
 ·exact⟨by decide,by decide⟩
theorem nil_shs (h:IH):ShSl h (.slice none 0 0) []:=⟨SlOf.nil _ (by decide),by simp,fun p hp=>by cases hp⟩
theorem nil_shls (h:IH):ShLs h (.slice none 0 0) []:=⟨[],SlOf.nil _ (by decide),by simp,fun i x hx=>by simp at hx⟩
theorem ShLs.first {h h':IH} {v:Value} {m:Nat} (s:SlOf h 1 v 9 (List.replicate 9 (.slice none 0 0))) (kp:Keep h h') : ∃v',sliceOp Proofs.Try.prog h' 42 v none (some (KI 8)) none=some v'∧ShLs h v' (List.replicate 8 []):=by
 obtain⟨v',e1,e2⟩:=s.slice kp (P:=Proofs.Try.prog) (t:=42) u42 sz28 (l:=0) (m:=8) (Nat.zero_le _) (by omega) (lo:=none) (hi:=some (KN 8)) rfl (fun c hc=>natOf_nat (k:=.i64) (by omega))
 refine⟨v',e1,[.slice none 0 0,.slice none 0 0,.slice none 0 0,.slice none 0 0,.slice none 0 0,.slice none 0 0,.slice none 0 0,.slice none 0 0],by simpa using e2,by simp,fun i x hx=>?_⟩
 have hi:=(List.getElem?_eq_some_iff.1 hx).1
 simp only[List.length_replicate] at hi
 obtain rfl:x = []:=by rw[List.getElem?_replicate,if_pos hi] at hx;cases hx;rfl
 exact⟨.slice none 0 0,by rw[show [.slice none 0 0,.slice none 0 0,.slice none 0 0,.slice none 0 0,.slice none 0 0,.slice none 0 0,.slice none 0 0,.slice none 0 0]=List.replicate 8 (Value.slice none 0 0) from rfl,List.getElem?_replicate,if_pos hi],nil_shs h⟩
structure DX (hh:IH) (fr:Fr) (v1:Value) (k:Nat):Prop where
 s1:ShSl hh v1 badL
 g2 : ∃fam,hh.ext.get k=some (.cells (shL mostL) 16 fam)
 hk:k<hh.n
 f1:fget fr 1=some v1
 f2:fget fr 2=some (.slice (some ⟨2*k,0,none⟩) 201 402)
theorem DX.s2 {hh:IH} {fr:Fr} {v1:Value} {k:Nat} (d:DX hh fr v1 k):ShSl hh (.slice (some ⟨2*k,0,none⟩) 201 402) mostL:=by
 obtain⟨fam,g⟩:=d.g2
 refine⟨by rw[List.length_map,List.length_range];exact sl_block (k:=k) g d.hk (by decide) (by rw[shL_len,List.length_map,List.length_range]) (by omega) (by omega),by simp,?_⟩
 intro p hp
 obtain⟨i,_,rfl⟩:=List.mem_map.1 hp
 exact shI_lt ⟨by omega,by omega⟩
theorem DX.mv {hh h':IH} {fr fr':Fr} {v1:Value} {k:Nat} (d:DX hh fr v1 k) (e:Ext hh h') (f1:fget fr' 1=some v1) (f2:fget fr' 2=some (.slice (some ⟨2*k,0,none⟩) 201 402)):DX h' fr' v1 k:=by
 obtain⟨fam,g⟩:=d.g2
 exact⟨d.s1.keep e.keep,⟨fam,e.kept d.hk g⟩,Nat.lt_of_lt_of_le d.hk e.n,f1,f2⟩
theorem DX.part {hh:IH} {fr:Fr} {v1:Value} {k:Nat} (d:DX hh fr v1 k) : ∃w,ShSl hh w L200 ∧ ∀h',Keep hh h'→sliceOp Proofs.Try.prog h' 28 (.slice (some ⟨2*k,0,none⟩) 201 402) none (some (KI 200)) none=some w:=by
 obtain⟨w,e,s⟩:=d.s2.arg.first (Keep.refl hh) (m:=200) (by simp) (by omega)
 rw[L200_eq] at s
 exact⟨w,s,fun h' kp=>(d.s2.1.slice_same (Keep.refl hh) kp (P:=Proofs.Try.prog) u28 sz27).symm.trans e⟩
theorem aB1:L200.length≤200→aBits L200.length 1<16000000:=fun _=>by decide +kernel
end Go.Id
