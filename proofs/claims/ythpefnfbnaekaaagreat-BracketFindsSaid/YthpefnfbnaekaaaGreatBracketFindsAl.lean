/-
  Contracts: the program's fractions: lowest terms, sums, products, quotients. Contracts: the program's fractions: sums, differences, products, quotients, order. Contracts: the program's shares: read, told, checked. Contracts: the program's fractions of integers; shares made. Fractions of shares: what is used by all packages. Contracts: share's operations on two shares. Contracts: share's operations on two shares: Div, Max, Min, Sub, Neg. Contracts: the reference's fractions: lowest terms. Contracts: the reference's fractions: sums, differences, products, quotients, order.
-/
import Derived.Test.YthpefnfbnaekaaaGreatBracketFindsAg
import Derived.Test.YthpefnfbnaekaaaGreatBracketFindsAk
import Derived.Test.YthpefnfbnaekaaaGreatBracketFindsAj
import Derived.Test.YthpefnfbnaekaaaGreatBracketFindsAi
set_option linter.unusedVariables false
set_option linter.unusedSimpArgs false
set_option linter.defProp false
set_option linter.deprecated false
/-! Contracts: the program's fractions: lowest terms, sums, products, quotients. -/
namespace Go.Id
open Go
abbrev ZR:List Value:=[.bool false,.slice none 0 0,.bool false,.slice none 0 0]
def PPair (h:IH) (v:Value) (n d:Int):Prop:=∃a s b t,v=.agg #[a,s,b,t]∧PLong h (.agg #[a,s]) n∧PLong h (.agg #[b,t]) d
theorem PPair.keep {h h':IH} {v:Value} {n d:Int} (p:PPair h v n d) (e:Keep h h'):PPair h' v n d:=let ⟨a,s,b,t,h1,h2,h3⟩:=p;⟨a,s,b,t,h1,h2.keep e,h3.keep e⟩
def PRat (h:IH) (v:Value) (q:Rat):Prop:=PPair h v q.num q.den
theorem PRat.keep {h h':IH} {v:Value} {q:Rat} (p:PRat h v q) (e:Keep h h'):PRat h' v q:=PPair.keep p e
theorem PLong.cells2 {h:IH} {v:Value} {z:Int} (d:PLong h v z) : ∃s,v=.agg #[.bool (decide (z<0)),s]∧s.cells = #[s]∧cellOK s=true:=let ⟨s,n,a,b,c,_⟩:=d.form;⟨s,a,b,c⟩
theorem PLong.co {h:IH} {a s:Value} {z:Int} (d:PLong h (.agg #[a,s]) z):a=.bool (decide (z<0))∧s.cells = #[s]∧cellOK s=true:=by
 obtain⟨s',h1,h2,h3⟩:=d.cells2
 cases h1
 exact⟨rfl,h2,h3⟩
theorem half_bits {x k:Nat} (h:x≤2 ^ k) (hk:k<16000000):Half x:=by
 refine .mk (Nat.lt_of_le_of_lt h ?_)
 rw[pow_conv 4294967296 2 500000 32 16000000 (by decide) (by decide)]
 exact pow_lt2 2 k 16000000 (by decide) hk
theorem small_bits {x k:Nat} (h:x≤2 ^ k) (hk:k<16000000):Small x:=(half_bits h hk).small
set_option maxHeartbeats 4000000 in
theorem lowest_ok {h:IH} {v w:Value} {n d:Int} (hv:PLong h v n) (hw:PLong h w d) (sn:SmallI n) (sd:SmallI d) (d0:d≠0) :
  WV Proofs.Tryz.prog (.func (.func 107) #[] #[]) [v,w] h fun r h'=>Ext h h'∧PRat h' r (Rat.divInt n d):=by
 obtain⟨s,rfl,c1,o1⟩:=hv.cells2
 obtain⟨t,rfl,c2,o2⟩:=hw.cells2
 have sg:SmallI (Int.gcd n d:Int):=by
  have h1:Int.gcd n d≤d.natAbs:=Nat.le_of_dvd (by omega) (Nat.gcd_dvd_right _ _)
  exact small_nat (sd.le h1)
 refine enter (nt:=34) (rs:=[.cell 4 96]) Proofs.Tryz.func107 rfl rfl rfl (by simp) ?_
 simp -dsimp (maxSteps:=1000000) (disch:=first|omega|(simp only[new_n,put_n];omega)|decide +kernel|(repeat first|rw[new_n]|rw[put_n])) only[wpS,wpT,Nat.reduceEqDiff,Nat.reduceLeDiff,Nat.reduceAdd,zc96,ld94]
 obtain⟨H0,hH0,n0,E0,g0,g1,g2⟩:=boxes3 h [.bool (decide (n<0)),s] [.bool (decide (d<0)),t] ZR
 rw[←hH0]
 refine call (pcommon_ok (hv.keep E0.keep) (hw.keep E0.keep) sn sd) ?_
 rintro _ h1 ⟨hE1,hg⟩
 obtain⟨sg1,rfl,c3,o3⟩:=hg.cells2
 have hng:decide ((Int.gcd n d:Int)<0)=false:=decide_eq_false (by omega)
 rw[hng] at hg
 have x1:=E0.trans hE1
 have n1:=(hE1).n;try simp only[new_n,put_n] at n1
 have r0:=row_of (hE1.kept (by omega) g0)
 simp -dsimp (maxSteps:=1000000) (disch:=first|omega|(simp only[new_n,put_n];omega)|decide +kernel|(repeat first|rw[new_n]|rw[put_n])) only[wpS,wpT,Nat.reduceEqDiff,Nat.reduceLeDiff,Nat.reduceAdd,ld94,zc94,st94,o3,r0,tk2']
 obtain⟨H2,hH2⟩ : ∃H2,H2=(h1.new (.cells ZL 0 none)).put h1.n (.cells [.bool false,sg1] 0 none):=⟨_,rfl⟩
 have e2:Ext h1 H2:=by rw[hH2];exact((Ext.refl _).new _).put (Nat.le_refl _) _
 have n2:H2.n=h1.n+1:=by rw[hH2];rfl
 have gg:H2.ext.get h1.n=some (.cells [.bool false,sg1] 0 none):=by rw[hH2];simp (disch:=first|omega|(simp only[new_n,put_n];omega)|(repeat first|rw[new_n]|rw[put_n])) only[get_put_same]
 rw[←hH2]
 have x2:=x1.trans e2
 refine call (pparts_ok (hv.keep x2.keep) (hg.keep e2.keep) sn sg (gcd_ne d0)) ?_
 rintro _ h3 ⟨hE3,q,u,rfl,hq,hu⟩
 obtain⟨sq,rfl,c4,o4⟩:=hq.cells2
 obtain⟨su,rfl,c5,o5⟩:=hu.cells2
 have n3:=(hE3).n;try simp only[new_n,put_n] at n3
 have x3:=x2.trans hE3
 have r1:=row_of (hE3.kept (by omega) (e2.kept (by omega) (hE1.kept (by omega) g1)))
 have r3:=row_of (hE3.kept (by omega) gg)
 simp -dsimp (maxSteps:=1000000) (disch:=first|omega|(simp only[new_n,put_n];omega)|decide +kernel|(repeat first|rw[new_n]|rw[put_n])) only[wpS,wpT,Nat.reduceEqDiff,Nat.reduceLeDiff,Nat.reduceAdd,ld94,zc94,st94,o4,o5,r1,r3,tk2']
 obtain⟨H4,hH4⟩ : ∃H4,H4=((((h3.new (.cells ZL 0 none)).new (.cells ZL 0 none)).put h3.n (.cells [.bool (decide (n / (Int.gcd n d:Int)<0)),sq] 0 none)).put (h3.n+1) (.cells [.bool (decide (n % (Int.gcd n d:Int)<0)),su] 0 none)):=⟨_,rfl⟩
 have e4:Ext h3 H4:=by rw[hH4];exact((((Ext.refl _).new _).new _).put (Nat.le_refl _) _).put (by omega) _
 have n4:H4.n=h3.n+2:=by rw[hH4];rfl
 have gq:H4.ext.get h3.n=some (.cells [.bool (decide (n / (Int.gcd n d:Int)<0)),sq] 0 none):=by rw[hH4];simp (disch:=first|omega|(simp only[new_n,put_n];omega)|(repeat first|rw[new_n]|rw[put_n])) only[get_put_same,get_put_old]
 rw[←hH4]
 have x4:=x3.trans e4
 refine call (pparts_ok (hw.keep x4.keep) (hg.keep ((e2.trans hE3).trans e4).keep) sd sg (gcd_ne d0)) ?_
 rintro _ h5 ⟨hE5,q2,u2,rfl,hq2,hu2⟩
 obtain⟨sq2,rfl,c6,o6⟩:=hq2.cells2
 obtain⟨su2,rfl,c7,o7⟩:=hu2.cells2
 have n5:=(hE5).n;try simp only[new_n,put_n] at n5
 have x5:=x4.trans hE5
 simp -dsimp (maxSteps:=1000000) (disch:=first|omega|(simp only[new_n,put_n];omega)|decide +kernel|(repeat first|rw[new_n]|rw[put_n])) only[wpS,wpT,Nat.reduceEqDiff,Nat.reduceLeDiff,Nat.reduceAdd,zc94,st94,fa94_0,ld4,o6,o7]
 obtain⟨H6,hH6⟩ : ∃H6,H6=((((h5.new (.cells ZL 0 none)).new (.cells ZL 0 none)).put h5.n (.cells [.bool (decide (d / (Int.gcd n d:Int)<0)),sq2] 0 none)).put (h5.n+1) (.cells [.bool (decide (d % (Int.gcd n d:Int)<0)),su2] 0 none)):=⟨_,rfl⟩
 have e6:Ext h5 H6:=by rw[hH6];exact((((Ext.refl _).new _).new _).put (Nat.le_refl _) _).put (by omega) _
 have n6:H6.n=h5.n+2:=by rw[hH6];rfl
 have gd:H6.ext.get h5.n=some (.cells [.bool (decide (d / (Int.gcd n d:Int)<0)),sq2] 0 none):=by rw[hH6];simp (disch:=first|omega|(simp only[new_n,put_n];omega)|(repeat first|rw[new_n]|rw[put_n])) only[get_put_same,get_put_old]
 have x6:=x5.trans e6
 have gn:=e6.kept (by omega) (hE5.kept (by omega) gq)
 have gr:=e6.kept (by omega) (hE5.kept (by omega) (e4.kept (by omega) (hE3.kept (by omega) (e2.kept (by omega) (hE1.kept (by omega) g2)))))
 have hqA:=hq.keep ((e4.trans hE5).trans e6).keep
 have hqB:=hq2.keep e6.keep
 rw[←hH6]
 clear hH0 hH2 hH4 hH6
 have rn:=row_of gn
 have rd:=row_of gd
 have hls:=low_sign (n:=n) d0
 refine bq_cut (fun fr2 h7 => ∃sa sb,Ext h h7∧h7.ext.get h3.n=some (.cells [.bool (decide ((Rat.divInt n d).num<0)),sa] 0 none)∧h7.ext.get h5.n=some (.cells [.bool (decide (((Rat.divInt n d).den:Int)<0)),sb] 0 none)∧h7.ext.get (h.n+1+1)=some (.cells ZR 0 none)∧PLong h7 (.agg #[.bool (decide ((Rat.divInt n d).num<0)),sa]) (Rat.divInt n d).num∧PLong h7 (.agg #[.bool (decide (((Rat.divInt n d).den:Int)<0)),sb]) (Rat.divInt n d).den ∧
  fget fr2 4=some (ptr (2*(h.n+1+1)) 0)∧fget fr2 6=some (ptr (2*h3.n) 0)∧fget fr2 8=some (ptr (2*h5.n) 0)) (fun hb=>?_) (fun hb=>?_) ?_
 ·have hd:d<0:=hls.1 (by simpa using hb)
  obtain⟨b1,b2⟩:=low_neg (n:=n) hd
  rw[hb] at hqB gd rd
  refine drawn [(2,[1])] (by kernel_rfl) (by kernel_rfl) rfl ?_
  simp -dsimp (maxSteps:=1000000) (disch:=first|omega|(simp only[new_n,put_n];omega)|decide +kernel|(repeat first|rw[new_n]|rw[put_n])) only[wpS,wpT,Nat.reduceEqDiff,Nat.reduceLeDiff,Nat.reduceAdd,ld94,rn,List.drop_zero,tk_two]
  refine call (pturned_ok hqA) ?_
  rintro _ h7 ⟨hE7,hA⟩
  rw[b1] at hA
  obtain⟨sa,rfl,c8,o8⟩:=hA.cells2
  have n7:=(hE7).n;try simp only[new_n,put_n] at n7
  have kd:=hE7.kept (by omega) gd
  have rd7:=row_of kd
  simp -dsimp (maxSteps:=1000000) (disch:=first|omega|(simp only[new_n,put_n];omega)|decide +kernel|(repeat first|rw[new_n]|rw[put_n])) only[wpS,wpT,Nat.reduceEqDiff,Nat.reduceLeDiff,Nat.reduceAdd,ld94,rd7,List.drop_zero,tk_two]
  refine call (pturned_ok (hqB.keep hE7.keep)) ?_
  rintro _ h8 ⟨hE8,hB⟩
  rw[b2] at hB
  obtain⟨sb,rfl,c9,o9⟩:=hB.cells2
  have n8:=(hE8).n;try simp only[new_n,put_n] at n8
  have kn8:=hE8.kept (by omega) (hE7.kept (by omega) gn)
  have kd8:=hE8.kept (by omega) kd
  have kr8:=hE8.kept (by omega) (hE7.kept (by omega) gr)
  simp -dsimp (maxSteps:=1000000) (disch:=first|omega|(simp only[new_n,put_n];omega)|decide +kernel|(repeat first|rw[new_n]|rw[put_n])) only[wpS,wpT,Nat.reduceEqDiff,Nat.reduceLeDiff,Nat.reduceAdd,st94,kn8,kd8,o8,o9]
  refine⟨wpSteady_one rfl rfl rfl rfl (steady_load (av:=ptr (2*h5.n) 0) (v:=.agg #[.bool true,sq2]) rfl ?_ ?_),?_⟩
  ·simp -dsimp (maxSteps:=1000000) (disch:=first|omega|(simp only[new_n,put_n];omega)|decide +kernel|(repeat first|rw[new_n]|rw[put_n])) only[wpS,wpT,Nat.reduceLeDiff,Nat.reduceAdd,ld94,rd7,List.drop_zero,tk_two]
   try rfl
  ·simp -dsimp (maxSteps:=1000000) (disch:=first|omega|(simp only[new_n,put_n];omega)|decide +kernel|(repeat first|rw[new_n]|rw[put_n])) only[wpS,wpT,Nat.reduceLeDiff,Nat.reduceAdd,ld94,rd,List.drop_zero,tk_two]
   try rfl
  simp -dsimp (maxSteps:=1000000) (disch:=first|omega|(simp only[new_n,put_n];omega)|decide +kernel|(repeat first|rw[new_n]|rw[put_n])) only[wpS,wpT,Nat.reduceAdd]
  have kpA:=(Keep.refl h8).put kn8 (.cells [.bool (decide ((Rat.divInt n d).num<0)),sa] 0 none)
  have gB:(h8.put h3.n (.cells [.bool (decide ((Rat.divInt n d).num<0)),sa] 0 none)).ext.get h5.n=some (.cells [.bool true,sq2] 0 none):=by rw[get_put_old _ _ (by omega)];exact kd8
  have kpB:=kpA.put gB (.cells [.bool (decide (((Rat.divInt n d).den:Int)<0)),sb] 0 none)
  have hdf:decide (((Rat.divInt n d).den:Int)<0)=false:=decide_eq_false (by omega)
  rw[hdf] at kpB hB ⊢
  refine⟨sa,sb,(((x6.trans hE7).trans hE8).put (by omega) _).put (by omega) _,by simp (disch:=first|omega|(simp only[new_n,put_n];omega)|(repeat first|rw[new_n]|rw[put_n])) only[get_put_same,get_put_old],get_put_same _ _ rfl,by simp (disch:=first|omega|(simp only[new_n,put_n];omega)|(repeat first|rw[new_n]|rw[put_n])) only[get_put_old];exact kr8,hA.keep (hE8.keep.trans kpB),hB.keep kpB,by simp,by simp,by simp⟩
 ·have hd:0<d:=by
   have : ¬d<0:=fun h=>by have:=hls.2 h;simp at hb;omega
   omega
  obtain⟨b1,b2⟩:=low_pos (n:=n) hd
  simp -dsimp (maxSteps:=1000000) (disch:=first|omega|(simp only[new_n,put_n];omega)|decide +kernel|(repeat first|rw[new_n]|rw[put_n])) only[wpS,wpT]
  rw[b1] at gn hqA
  rw[b2] at gd hqB
  exact⟨sq,sq2,x6,gn,gd,gr,hqA,hqB,by simp,by simp,by simp⟩
 rintro fr2 h7 ⟨sa,sb,x7,k1,k2,k3,hA,hB,f4,f6,f8⟩
 have q1:=row_of k1
 have q2:=row_of k2
 obtain⟨_,c8,o8⟩:=hA.co
 obtain⟨_,c9,o9⟩:=hB.co
 rw[d_seq]
 simp -dsimp (maxSteps:=1000000) (disch:=first|omega|(simp only[new_n,put_n];omega)|decide +kernel|(repeat first|rw[new_n]|rw[put_n])) only[wpS,wpT,Nat.reduceEqDiff,Nat.reduceLeDiff,Nat.reduceAdd,ld94,bv96,pl96_0,pl96_1,st96,ld96,f4,f6,f8,q1,q2,k3,o8,o9,List.drop_zero,tk_two]
 have hdf:decide (((Rat.divInt n d).den:Int)<0)=false:=decide_eq_false (by omega)
 rw[hdf] at hB
 have kp:=(Keep.refl h7).put k3 (.cells [.bool (decide ((Rat.divInt n d).num<0)),sa,.bool false,sb] 0 none)
 exact⟨x7.put (by omega) _,_,_,_,_,rfl,hA.keep kp,hB.keep kp⟩
end Go.Id

/-! Contracts: the program's fractions: sums, differences, products, quotients, order. -/
namespace Go.Id
open Go
theorem PRat.parts {h:IH} {v:Value} {q:Rat} (p:PRat h v q) : ∃a s b t,v=.agg #[a,s,b,t]∧PLong h (.agg #[a,s]) q.num∧PLong h (.agg #[b,t]) q.den∧s.cells = #[s]∧cellOK s=true∧t.cells = #[t]∧cellOK t=true∧cellOK a=true∧cellOK b=true:=by
 obtain⟨a,s,b,t,rfl,h1,h2⟩:=p
 obtain⟨rfl,c1,o1⟩:=h1.co
 obtain⟨rfl,c2,o2⟩:=h2.co
 exact⟨_,s,_,t,rfl,h1,h2,c1,o1,c2,o2,rfl,rfl⟩
theorem pl4 {H:IH} {k:Nat} {a s b t:Value} (g:H.ext.get k=some (.cells [a,s,b,t] 0 none)):load Proofs.Tryz.prog H 94 (ptr (2*k) 0)=some (.agg #[a,s])∧load Proofs.Tryz.prog H 94 (ptr (2*k) 2)=some (.agg #[b,t])∧load Proofs.Tryz.prog H 96 (ptr (2*k) 0)=some (.agg #[a,s,b,t]):=by
 have r:=row_of g
 refine⟨?_,?_,?_⟩
 ·simp -dsimp (disch:=omega) only[wpS,wpT,Nat.reduceLeDiff,Nat.reduceAdd,ld94,r]
  rfl
 ·simp -dsimp (disch:=omega) only[wpS,wpT,Nat.reduceLeDiff,Nat.reduceAdd,ld94,r]
  rfl
 ·simp -dsimp (disch:=omega) only[wpS,wpT,Nat.reduceLeDiff,Nat.reduceAdd,ld96,r]
  rfl
theorem pl2 {H:IH} {k:Nat} {a s:Value} (g:H.ext.get k=some (.cells [a,s] 0 none)):load Proofs.Tryz.prog H 94 (ptr (2*k) 0)=some (.agg #[a,s]):=by
 have r:=row_of g
 simp -dsimp (disch:=omega) only[wpS,wpT,Nat.reduceLeDiff,Nat.reduceAdd,ld94,r]
 rfl
set_option maxHeartbeats 2000000 in
theorem rtimes_ok {h:IH} {v w:Value} {x y:Rat} {a b:Nat} (hv:PRat h v x) (hw:PRat h w y) (qx:QB a x) (qy:QB b y) (hk:a+b<16000000) :
  WV Proofs.Tryz.prog (.func (.func 63) #[] #[]) [v,w] h fun r h'=>Ext h h'∧PRat h' r (x*y):=by
 obtain⟨a1,s1,b1,t1,rfl,hn1,hd1,c1,o1,c2,o2,o3,o4⟩:=hv.parts
 obtain⟨a2,s2,b2,t2,rfl,hn2,hd2,c5,o5,c6,o6,o7,o8⟩:=hw.parts
 refine enter (nt:=16) (rs:=[.cell 4 96]) Proofs.Tryz.func63 rfl rfl rfl (by simp) ?_
 simp -dsimp (disch:=omega) only[wpS,Nat.reduceEqDiff,Nat.reduceAdd,zc96]
 obtain⟨H0,hH0,n0,E0,g0,g1,g2⟩:=boxes3 h [a1,s1,b1,t1] [a2,s2,b2,t2] ZR
 rw[←hH0]
 clear hH0
 have X0:=Ext.refl H0
 obtain⟨L1,L2,_⟩:=pl4 g0
 obtain⟨L3,L4,_⟩:=pl4 g1
 have sb1:SmallI (x.num*y.num):=small_bits (mul_bits qx.1 qy.1) hk
 have sb2:SmallI ((x.den:Int)*y.den):=small_bits (mul_bits qx.den' qy.den') hk
 refine drawn [(6,[4]),(8,[4])] (by kernel_rfl) (by kernel_rfl) rfl ?_
 simp -dsimp (disch:=omega) only[wpS,wpT,Nat.reduceEqDiff,Nat.reduceLeDiff,Nat.reduceAdd,fa96_0,ld94,row_of g0,row_of g1,tkA]
 refine call (ptimes_ok (hn1.keep E0.keep) (hn2.keep E0.keep) (half_bits qx.1 (by omega)) (half_bits qy.1 (by omega))) ?_
 rintro r1 h1 ⟨X1,p1⟩
 have m1:=X1.n
 simp -dsimp (disch:=omega) only[wpS,wpT,Nat.reduceEqDiff,Nat.reduceLeDiff,Nat.reduceAdd,ld94,fa96_1,row_of (X1.kept (by omega) g0),row_of (X1.kept (by omega) g1),tkB]
 refine call (ptimes_ok (hd1.keep (E0.trans X1).keep) (hd2.keep (E0.trans X1).keep) (half_bits qx.den' (by omega)) (half_bits qy.den' (by omega))) ?_
 rintro r2 h2 ⟨hE2,p2⟩
 have m2:=hE2.n
 have X2:=X1.trans hE2
 simp -dsimp (disch:=omega) only[wpS,Nat.reduceEqDiff]
 refine call (lowest_ok (p1.keep hE2.keep) p2 sb1 sb2 (dd_ne x y)) ?_
 rintro r5 h5 ⟨hE5,p5⟩
 have m5:=hE5.n
 have X5:=X2.trans hE5
 rw[←rat_mul] at p5
 obtain⟨a3,s3,b3,t3,rfl,_,_,d1,o1,d2,o2,o3,o4⟩:=p5.parts
 have kg:=X5.kept (by omega) g2
 simp -dsimp (disch:=omega) only[wpS,wpT,Nat.reduceEqDiff,Nat.reduceLeDiff,Nat.reduceAdd,st96,kg,o1,o2,o3,o4]
 refine⟨by repeat' first|refine wpSteady_c2 ?_ ?_|refine wpSteady_t2 ?_ ?_|exact wpSteady_one rfl rfl rfl rfl (steady_ext (H0:=H0) rfl (by omega) (by assumption) (by assumption) (by with_reducible assumption)),?_⟩
 simp -dsimp (disch:=omega) only[wpS,wpT,Nat.reduceEqDiff,Nat.reduceLeDiff,Nat.reduceAdd,ld96,tk4']
 exact⟨(E0.trans X5).put (by omega) _,p5.keep ((Keep.refl _).put kg _)⟩
set_option maxHeartbeats 2000000 in
theorem rover_ok {h:IH} {v w:Value} {x y:Rat} {a b:Nat} (hv:PRat h v x) (hw:PRat h w y) (qx:QB a x) (qy:QB b y) (hk:a+b<16000000) (y0:y≠0) :
  WV Proofs.Tryz.prog (.func (.func 103) #[] #[]) [v,w] h fun r h'=>Ext h h'∧PRat h' r (x / y):=by
 obtain⟨a1,s1,b1,t1,rfl,hn1,hd1,c1,o1,c2,o2,o3,o4⟩:=hv.parts
 obtain⟨a2,s2,b2,t2,rfl,hn2,hd2,c5,o5,c6,o6,o7,o8⟩:=hw.parts
 refine enter (nt:=16) (rs:=[.cell 4 96]) Proofs.Tryz.func103 rfl rfl rfl (by simp) ?_
 simp -dsimp (disch:=omega) only[wpS,Nat.reduceEqDiff,Nat.reduceAdd,zc96]
 obtain⟨H0,hH0,n0,E0,g0,g1,g2⟩:=boxes3 h [a1,s1,b1,t1] [a2,s2,b2,t2] ZR
 rw[←hH0]
 clear hH0
 have X0:=Ext.refl H0
 obtain⟨L1,L2,_⟩:=pl4 g0
 obtain⟨L3,L4,_⟩:=pl4 g1
 have sb1:SmallI (x.num*y.den):=small_bits (mul_bits qx.1 qy.den') hk
 have sb2:SmallI ((x.den:Int)*y.num):=small_bits (mul_bits qx.den' qy.1) hk
 refine drawn [(6,[4]),(8,[4])] (by kernel_rfl) (by kernel_rfl) rfl ?_
 simp -dsimp (disch:=omega) only[wpS,wpT,Nat.reduceEqDiff,Nat.reduceLeDiff,Nat.reduceAdd,fa96_0,ld94,fa96_1,row_of g0,row_of g1,tkA,tkB]
 refine call (ptimes_ok (hn1.keep E0.keep) (hd2.keep E0.keep) (half_bits qx.1 (by omega)) (half_bits qy.den' (by omega))) ?_
 rintro r1 h1 ⟨X1,p1⟩
 have m1:=X1.n
 simp -dsimp (disch:=omega) only[wpS,wpT,Nat.reduceEqDiff,Nat.reduceLeDiff,Nat.reduceAdd,fa96_0,ld94,fa96_1,row_of (X1.kept (by omega) g0),row_of (X1.kept (by omega) g1),tkA,tkB]
 refine call (ptimes_ok (hd1.keep (E0.trans X1).keep) (hn2.keep (E0.trans X1).keep) (half_bits qx.den' (by omega)) (half_bits qy.1 (by omega))) ?_
 rintro r2 h2 ⟨hE2,p2⟩
 have m2:=hE2.n
 have X2:=X1.trans hE2
 simp -dsimp (disch:=omega) only[wpS,Nat.reduceEqDiff]
 refine call (lowest_ok (p1.keep hE2.keep) p2 sb1 sb2 (Int.mul_ne_zero (den_ne x) (num_ne y0))) ?_
 rintro r5 h5 ⟨hE5,p5⟩
 have m5:=hE5.n
 have X5:=X2.trans hE5
 rw[←rat_div] at p5
 obtain⟨a3,s3,b3,t3,rfl,_,_,d1,o1,d2,o2,o3,o4⟩:=p5.parts
 have kg:=X5.kept (by omega) g2
 simp -dsimp (disch:=omega) only[wpS,wpT,Nat.reduceEqDiff,Nat.reduceLeDiff,Nat.reduceAdd,st96,kg,o1,o2,o3,o4]
 refine⟨by repeat' first|refine wpSteady_c2 ?_ ?_|refine wpSteady_t2 ?_ ?_|exact wpSteady_one rfl rfl rfl rfl (steady_ext (H0:=H0) rfl (by omega) (by assumption) (by assumption) (by with_reducible assumption)),?_⟩
 simp -dsimp (disch:=omega) only[wpS,wpT,Nat.reduceEqDiff,Nat.reduceLeDiff,Nat.reduceAdd,ld96,tk4']
 exact⟨(E0.trans X5).put (by omega) _,p5.keep ((Keep.refl _).put kg _)⟩
theorem cmp_rat (x y:Rat):(if x.num*y.den<y.num*x.den then (-1:Int) else if x.num*y.den=y.num*x.den then 0 else 1)=if x<y then -1 else if x=y then 0 else 1:=by
 simp only[Rat.lt_iff,Rat.eq_iff_mul_eq_mul]
set_option maxHeartbeats 2000000 in
theorem rcmp_ok {h:IH} {v w:Value} {x y:Rat} {a b:Nat} (hv:PRat h v x) (hw:PRat h w y) (qx:QB a x) (qy:QB b y) (hk:a+b<16000000) :
  WV Proofs.Tryz.prog (.func (.func 48) #[] #[]) [v,w] h fun r h'=>Ext h h'∧r=KI (if x<y then -1 else if x=y then 0 else 1):=by
 obtain⟨a1,s1,b1,t1,rfl,hn1,hd1,c1,o1,c2,o2,o3,o4⟩:=hv.parts
 obtain⟨a2,s2,b2,t2,rfl,hn2,hd2,c5,o5,c6,o6,o7,o8⟩:=hw.parts
 refine enter (nt:=16) (rs:=[.tmp 4]) Proofs.Tryz.func48 rfl rfl rfl (by simp) ?_
 simp -dsimp (disch:=omega) only[wpS,Nat.reduceEqDiff,Nat.reduceAdd]
 obtain⟨H0,hH0,n0,E0,g0,g1⟩:=boxes2 h [a1,s1,b1,t1] [a2,s2,b2,t2]
 rw[←hH0]
 clear hH0
 have X0:=Ext.refl H0
 obtain⟨L1,L2,_⟩:=pl4 g0
 obtain⟨L3,L4,_⟩:=pl4 g1
 have sb1:SmallI (x.num*y.den):=small_bits (mul_bits qx.1 qy.den') hk
 have sb2:SmallI (y.num*x.den):=small_bits (by rw[Nat.add_comm];exact mul_bits qy.1 qx.den') hk
 refine drawn [(6,[4]),(8,[4])] (by kernel_rfl) (by kernel_rfl) rfl ?_
 simp -dsimp (disch:=omega) only[wpS,wpT,Nat.reduceEqDiff,Nat.reduceLeDiff,Nat.reduceAdd,fa96_0,ld94,fa96_1,row_of g0,row_of g1,tkA,tkB]
 refine call (ptimes_ok (hn1.keep E0.keep) (hd2.keep E0.keep) (half_bits qx.1 (by omega)) (half_bits qy.den' (by omega))) ?_
 rintro r1 h1 ⟨X1,p1⟩
 have m1:=X1.n
 simp -dsimp (disch:=omega) only[wpS,wpT,Nat.reduceEqDiff,Nat.reduceLeDiff,Nat.reduceAdd,fa96_0,ld94,fa96_1,row_of (X1.kept (by omega) g0),row_of (X1.kept (by omega) g1),tkA,tkB]
 refine call (ptimes_ok (hn2.keep (E0.trans X1).keep) (hd1.keep (E0.trans X1).keep) (half_bits qy.1 (by omega)) (half_bits qx.den' (by omega))) ?_
 rintro r2 h2 ⟨hE2,p2⟩
 have m2:=hE2.n
 have X2:=X1.trans hE2
 simp -dsimp (disch:=omega) only[wpS,Nat.reduceEqDiff]
 refine call (pcmp_ok (p1.keep hE2.keep) p2 sb1 sb2) ?_
 rintro _ h5 ⟨hE5,rfl⟩
 have X5:=X2.trans hE5
 rw[cmp_rat]
 simp -dsimp (disch:=omega) only[wpS,Nat.reduceEqDiff]
 refine⟨by repeat' first|refine wpSteady_c2 ?_ ?_|refine wpSteady_t2 ?_ ?_|exact wpSteady_one rfl rfl rfl rfl (steady_ext (H0:=H0) rfl (by omega) (by assumption) (by assumption) (by with_reducible assumption)),?_⟩
 simp -dsimp (disch:=omega) only[wpS,wpT,Nat.reduceEqDiff,Nat.reduceAdd]
 exact E0.trans X5
theorem rturned_ok {h:IH} {v:Value} {x:Rat} (hv:PRat h v x) :
  WV Proofs.Tryz.prog (.func (.func 109) #[] #[]) [v] h fun r h'=>Ext h h'∧PRat h' r (-x):=by
 obtain⟨a1,s1,b1,t1,rfl,hn1,hd1,c1,o1,c2,o2,o3,o4⟩:=hv.parts
 refine enter (nt:=9) (rs:=[.cell 2 96]) Proofs.Tryz.func109 rfl rfl rfl (by simp) ?_
 simp -dsimp (disch:=omega) only[wpS,zc96]
 obtain⟨H0,hH0,n0,E0,g0,g1⟩:=boxes2 h [a1,s1,b1,t1] ZR
 rw[←hH0]
 clear hH0
 have X0:=Ext.refl H0
 obtain⟨L1,L2,_⟩:=pl4 g0
 refine drawn [(4,[2])] (by kernel_rfl) (by kernel_rfl) rfl ?_
 simp -dsimp (disch:=omega) only[wpS,wpT,Nat.reduceEqDiff,Nat.reduceLeDiff,Nat.reduceAdd,fa96_0,ld94,row_of g0,tkA]
 refine call (pturned_ok (hn1.keep E0.keep)) ?_
 rintro r1 h1 ⟨X1,p1⟩
 have m1:=X1.n
 obtain⟨s3,rfl,c5,o5⟩:=p1.cells2
 have kg:=X1.kept (by omega) g1
 simp -dsimp (disch:=omega) only[wpS,wpT,Nat.reduceEqDiff,Nat.reduceLeDiff,Nat.reduceAdd,ld94,fa96_1,bv96,pl96_0,pl96_1,st96,row_of (X1.kept (by omega) g0),kg,tkB,o5,o2,o4]
 refine⟨by repeat' first|refine wpSteady_c2 ?_ ?_|refine wpSteady_t2 ?_ ?_|exact wpSteady_one rfl rfl rfl rfl (steady_ext (H0:=H0) rfl (by omega) (by assumption) (by assumption) (by with_reducible assumption)),?_⟩
 simp -dsimp (disch:=omega) only[wpS,wpT,Nat.reduceEqDiff,Nat.reduceLeDiff,Nat.reduceAdd,ld96,tk4']
 have kp:=(Keep.refl h1).put kg (.cells [.bool (decide (-x.num<0)),s3,b1,t1] 0 none)
 exact⟨(E0.trans X1).put (by omega) _,_,_,_,_,rfl,p1.keep kp,hd1.keep ((E0.trans X1).keep.trans kp)⟩
end Go.Id

/-! Contracts: the program's shares: read, told, checked. -/
namespace Go.Id
open Go
def shC (n d:Nat):List Value:=wdC n ++ wdC d
def shV (n d:Nat):Value:=.agg (shC n d).toArray
theorem shC_len (n d:Nat):(shC n d).length=16:=by simp[shC,wdC_len]
theorem shC_all (n d:Nat):(shC n d).all cellOK=true:=by simp only[shC,List.all_append,wdC_all,Bool.and_self]
theorem shV_cells (n d:Nat):(shV n d).cells.toList=shC n d:=rfl
theorem sh_take (n d:Nat):List.take 16 (List.drop 0 (shC n d))=shC n d:=by rw[List.drop_zero,List.take_of_length_le (by rw[shC_len];omega)]
theorem sh_take1 (n d:Nat):List.take 8 (List.drop 0 (shC n d))=wdC n:=by rw[List.drop_zero,shC,List.take_append_of_le_length (by rw[wdC_len];omega),List.take_of_length_le (by rw[wdC_len];omega)]
theorem sh_take2 (n d:Nat):List.take 8 (List.drop 8 (shC n d))=wdC d:=by rw[shC,List.drop_append_of_le_length (by rw[wdC_len];omega),List.drop_of_length_le (by rw[wdC_len];omega),List.nil_append,List.take_of_length_le (by rw[wdC_len];omega)]
abbrev Z16:List Value:=[ZW,ZW,ZW,ZW,ZW,ZW,ZW,ZW,ZW,ZW,ZW,ZW,ZW,ZW,ZW,ZW]
theorem sh_sp1 (n:Nat):IH.splice Z16 0 (wdC n)=shC n 0:=by
 rw[IH.splice,List.take_zero,List.nil_append,wdC_len,shC,wdC_zero];rfl
theorem sh_sp2 (n d:Nat):IH.splice (shC n 0) 8 (wdC d)=shC n d:=by
 rw[IH.splice,wdC_len,shC,List.take_append_of_le_length (by rw[wdC_len];omega),List.take_of_length_le (by rw[wdC_len];omega),List.drop_of_length_le (by simp[wdC_len]),List.append_nil];rfl
theorem sh_sp3 (n d:Nat):IH.splice Z16 0 (shC n d)=shC n d:=splice_all (by rw[shC_len];rfl)
theorem sh_zero:Z16=shC 0 0:=by rw[shC,wdC_zero];rfl
theorem sh_zeroV:Value.agg #[ZW,ZW,ZW,ZW,ZW,ZW,ZW,ZW,ZW,ZW,ZW,ZW,ZW,ZW,ZW,ZW]=shV 0 0:=by rw[shV,←sh_zero]
theorem sh_tz:List.take 16 (List.drop 0 Z16)=Z16:=rfl
abbrev shareV (q:Rat):Value:=shV (wideN q.num) (wideN q.den)
def QW (q:Rat):Prop:=InW q.num∧InW (q.den:Int)
theorem psh {H:IH} {k:Nat} {n d:Nat} (g:H.ext.get k=some (.cells (shC n d) 0 none)):load Proofs.Tryz.prog H 45 (ptr (2*k) 0)=some (wdV n)∧load Proofs.Tryz.prog H 45 (ptr (2*k) 8)=some (wdV d)∧load Proofs.Tryz.prog H 47 (ptr (2*k) 0)=some (shV n d):=by
 have r:=row_of g
 refine⟨?_,?_,?_⟩
 ·simp -dsimp (disch:=omega) only[wpS,Nat.reduceLeDiff,ld45,r,shC_len,sh_take1]
  rfl
 ·simp -dsimp (disch:=omega) only[wpS,Nat.reduceLeDiff,Nat.reduceAdd,ld45,r,shC_len,sh_take2]
  rfl
 ·simp -dsimp (disch:=omega) only[wpS,Nat.reduceLeDiff,r,shC_len,sh_take,ld47]
  rfl
theorem shread_ok {h:IH} (n d:Nat) (hn:n<W8) (hd:d<W8):WV Proofs.Tryz.prog (.func (.func 93) #[] #[]) [shV n d] h fun r h'=>Ext h h'∧PPair h' r (wdI n) (wdI d):=by
 refine enter (nt:=10) (rs:=[.cell 2 96]) Proofs.Tryz.func93 rfl rfl rfl (by simp) ?_
 simp -dsimp (disch:=omega) only[wpS,zc96,shV_cells]
 obtain⟨H0,hH0,n0,E0,g0,g1⟩:=boxes2 h (shC n d) ZR
 rw[←hH0]
 clear hH0
 have X0:=Ext.refl H0
 obtain⟨L1,L2,_⟩:=psh g0
 refine drawn [(4,[2])] (by kernel_rfl) (by kernel_rfl) rfl ?_
 simp -dsimp (disch:=omega) only[wpS,Nat.reduceEqDiff,Nat.reduceLeDiff,fa47_0,ld45,row_of g0,shC_len,sh_take1]
 refine call (longer_ok n hn) ?_
 rintro r1 h1 ⟨X1,p1⟩
 have m1:=X1.n
 simp -dsimp (disch:=omega) only[wpS,Nat.reduceEqDiff,Nat.reduceLeDiff,Nat.reduceAdd,ld45,fa47_1,row_of (X1.kept (by omega) g0),shC_len,sh_take2]
 refine call (longer_ok d hd) ?_
 rintro r2 h2 ⟨hE2,p2⟩
 have m2:=hE2.n
 have X2:=X1.trans hE2
 obtain⟨s1,rfl,c1,o1⟩:=p1.cells2
 obtain⟨s2,rfl,c2,o2⟩:=p2.cells2
 have kg:=X2.kept (by omega) g1
 simp -dsimp (disch:=omega) only[wpS,wpT,Nat.reduceEqDiff,Nat.reduceLeDiff,Nat.reduceAdd,bv96,pl96_0,pl96_1,st96,kg,o1,o2]
 refine⟨by repeat' first|refine wpSteady_c2 ?_ ?_|refine wpSteady_t2 ?_ ?_|exact wpSteady_one rfl rfl rfl rfl (steady_ext (H0:=H0) rfl (by omega) (by assumption) (by assumption) (by with_reducible assumption)),?_⟩
 simp -dsimp (disch:=omega) only[wpS,wpT,Nat.reduceEqDiff,Nat.reduceLeDiff,Nat.reduceAdd,ld96,tk4']
 have kp:=(Keep.refl h2).put kg (.cells [.bool (decide (wdI n<0)),s1,.bool (decide (wdI d<0)),s2] 0 none)
 exact⟨(E0.trans X2).put (by omega) _,_,_,_,_,rfl,p1.keep (hE2.keep.trans kp),p2.keep kp⟩
set_option maxHeartbeats 2000000 in
theorem rtold_ok {h:IH} {v:Value} {q:Rat} (hv:PRat h v q):WV Proofs.Tryz.prog (.func (.func 106) #[] #[]) [v] h fun r h'=>Ext h h'∧r=(open Classical in if QW q then .tuple #[shareV q,KI 0] else .tuple #[shV 0 0,KI 6]):=by
 obtain⟨a1,s1,b1,t1,rfl,hn1,hd1,c1,o1,c2,o2,o3,o4⟩:=hv.parts
 refine enter (nt:=30) (rs:=[.cell 2 47,.tmp 3]) Proofs.Tryz.func106 rfl rfl rfl (by simp) ?_
 simp -dsimp (maxSteps:=1000000) (disch:=first|omega|(simp only[new_n,put_n];omega)|decide +kernel|(repeat first|rw[new_n]|rw[put_n])) only[wpS,wpT,Nat.reduceEqDiff,Nat.reduceLeDiff,Nat.reduceAdd,zc47,fa96_0,ld94]
 obtain⟨H0,hH0,n0,E0,g0,g1⟩:=boxes2 h [a1,s1,b1,t1] Z16
 rw[←hH0]
 clear hH0
 simp -dsimp (maxSteps:=1000000) (disch:=first|omega|(simp only[new_n,put_n];omega)|decide +kernel|(repeat first|rw[new_n]|rw[put_n])) only[tkA]
 refine call (ptold_ok (hn1.keep E0.keep)) ?_
 rintro _ h1 ⟨X1,rfl⟩
 have m1:=X1.n
 obtain⟨w1,e1,hw⟩ : ∃w1 e1,(if InW q.num then Value.tuple #[wideV q.num,KI 0] else .tuple #[wdV 0,KI 6])=.tuple #[wdV w1,KI e1]∧(InW q.num∧w1=wideN q.num∧e1=0 ∨ ¬InW q.num∧e1=6):=by
  by_cases hi:InW q.num
  ·exact⟨_,0,by rw[if_pos hi],.inl ⟨hi,rfl,rfl⟩⟩
  ·exact⟨0,6,by rw[if_neg hi],.inr ⟨hi,rfl⟩⟩
 rw[hw.1]
 have k0:=X1.kept (by omega) g0
 have k1:=X1.kept (by omega) g1
 simp -dsimp (maxSteps:=1000000) (disch:=first|omega|(simp only[new_n,put_n];omega)|decide +kernel|(repeat first|rw[new_n]|rw[put_n])) only[wpS,wpT,Nat.reduceEqDiff,Nat.reduceLeDiff,Nat.reduceAdd,ld94,zc45,st45,fa96_1,cells8,wdC_len,wdC_all,wd_spl,row_of k0,tkA,tkB]
 obtain⟨H2,hH2⟩ : ∃H2,H2=(h1.new (.cells [ZW,ZW,ZW,ZW,ZW,ZW,ZW,ZW] 0 none)).put h1.n (.cells (wdC w1) 0 none):=⟨_,rfl⟩
 have e2:Ext h1 H2:=by rw[hH2];exact((Ext.refl _).new _).put (Nat.le_refl _) _
 have n2:H2.n=h1.n+1:=by rw[hH2];rfl
 have ga:H2.ext.get h1.n=some (.cells (wdC w1) 0 none):=by rw[hH2];simp (disch:=first|omega|(simp only[new_n,put_n];omega)|(repeat first|rw[new_n]|rw[put_n])) only[get_put_same]
 have k1':=e2.kept (by omega) k1
 rw[←hH2]
 clear hH2
 refine call (ptold_ok (hd1.keep ((E0.trans X1).trans e2).keep)) ?_
 rintro _ h3 ⟨X3,rfl⟩
 have m3:=X3.n
 obtain⟨w2,f2,hw2⟩ : ∃w1 e1,(if InW (q.den:Int) then Value.tuple #[wideV q.den,KI 0] else .tuple #[wdV 0,KI 6])=.tuple #[wdV w1,KI e1]∧(InW (q.den:Int)∧w1=wideN q.den∧e1=0 ∨ ¬InW (q.den:Int)∧e1=6):=by
  by_cases hi:InW (q.den:Int)
  ·exact⟨_,0,by rw[if_pos hi],.inl ⟨hi,rfl,rfl⟩⟩
  ·exact⟨0,6,by rw[if_neg hi],.inr ⟨hi,rfl⟩⟩
 rw[hw2.1]
 have ga3:=X3.kept (by omega) ga
 have k3:=X3.kept (by omega) k1'
 have xx:=((E0.trans X1).trans e2).trans X3
 rcases hw.2 with⟨i1,rfl,rfl⟩|⟨i1,rfl⟩
 ·rcases hw2.2 with⟨i2,rfl,rfl⟩|⟨i2,rfl⟩
  ·rw[if_pos (show QW q from⟨i1,i2⟩)]
   simp -dsimp (maxSteps:=1000000) (disch:=first|omega|(simp only[new_n,put_n];omega)|decide +kernel|(repeat first|rw[new_n]|rw[put_n])) only[wpS,wpT,Nat.reduceEqDiff,Nat.reduceLeDiff,Nat.reduceAdd,zc45,st45,bv47,st47,ld45,pl47_0,pl47_1,ld47,cells8,wdC_len,wdC_all,wd_spl,row_of ga3,k3,wd_take,sh_sp1,sh_sp2,sh_sp3,shC_len,shC_all,sh_take]
   exact⟨(((xx.new _).put (by omega) _).put (by omega) _),rfl⟩
  ·rw[if_neg (show ¬QW q from fun h=>i2 h.2)]
   simp -dsimp (maxSteps:=1000000) (disch:=first|omega|(simp only[new_n,put_n];omega)|decide +kernel|(repeat first|rw[new_n]|rw[put_n])) only[wpS,wpT,Nat.reduceEqDiff,Nat.reduceLeDiff,Nat.reduceAdd,zc45,st45,bv47,st47,ld47,cells8,wdC_len,wdC_all,wd_spl,k3,sh_tz]
   exact⟨(((xx.new _).put (by omega) _).put (by omega) _),by rw[sh_zeroV]⟩
 ·rw[if_neg (show ¬QW q from fun h=>i1 h.1)]
  simp -dsimp (maxSteps:=1000000) (disch:=first|omega|(simp only[new_n,put_n];omega)|decide +kernel|(repeat first|rw[new_n]|rw[put_n])) only[wpS,wpT,Nat.reduceEqDiff,Nat.reduceLeDiff,Nat.reduceAdd,zc45,st45,bv47,st47,ld47,cells8,wdC_len,wdC_all,wd_spl,k3,sh_tz]
  exact⟨(((xx.new _).put (by omega) _).put (by omega) _),by rw[sh_zeroV]⟩
def okS (n d:Nat):Prop:=0<wdI d∧Int.gcd (wdI n) (wdI d)=1
instance (n d:Nat):Decidable (okS n d):=by unfold okS;infer_instance
theorem wdI_small {n:Nat} (hn:n<W8):SmallI (wdI n):=by
 refine smallW ?_
 have h2:=H8_two
 unfold wdI InW
 split<;>constructor<;>omega
set_option maxHeartbeats 2000000 in
theorem shcheck_ok {h:IH} (n d:Nat) (hn:n<W8) (hd:d<W8):WV Proofs.Tryz.prog (.func (.func 50) #[] #[]) [shV n d] h fun r h'=>Ext h h'∧r=KI (if okS n d then 0 else 20):=by
 refine enter (nt:=22) (rs:=[.tmp 2]) Proofs.Tryz.func50 rfl rfl rfl (by simp) ?_
 simp -dsimp (disch:=omega) only[wpS,shV_cells]
 have E1:Ext h (h.new (.cells (shC n d) 0 none)):=(Ext.refl h).new _
 have gs:(h.new (.cells (shC n d) 0 none)).ext.get h.n=some (.cells (shC n d) 0 none):=by simp (disch:=first|omega|(simp only[new_n,put_n];omega)|(repeat first|rw[new_n]|rw[put_n])) only[get_new_same]
 refine call (pfrom_ok 1 ⟨by omega,by omega⟩) ?_
 rintro _ h1 ⟨X1,p1⟩
 have m1:=X1.n
 simp only[new_n] at m1
 obtain⟨s1,rfl,c1,o1⟩:=p1.cells2
 have gs1:=X1.kept (by simp) gs
 have e10:decide ((1:Int)<0)=false:=rfl
 rw[e10] at p1 ⊢
 simp -dsimp (disch:=omega) only[wpS,wpT,Nat.reduceEqDiff,Nat.reduceLeDiff,Nat.reduceAdd,zc94,st94,ld47,o1,row_of gs1,shC_len,sh_take]
 obtain⟨H2,hH2⟩ : ∃H2,H2=(h1.new (.cells ZL 0 none)).put h1.n (.cells [.bool false,s1] 0 none):=⟨_,rfl⟩
 have e2:Ext h1 H2:=by rw[hH2];exact((Ext.refl _).new _).put (Nat.le_refl _) _
 have n2:H2.n=h1.n+1:=by rw[hH2];rfl
 have ga:H2.ext.get h1.n=some (.cells [.bool false,s1] 0 none):=by rw[hH2];simp (disch:=first|omega|(simp only[new_n,put_n];omega)|(repeat first|rw[new_n]|rw[put_n])) only[get_put_same]
 rw[←hH2]
 clear hH2
 refine call (shread_ok n d hn hd) ?_
 rintro _ h3 ⟨X3,a2,s2,b2,t2,rfl,hN,hD⟩
 have m3:=X3.n
 obtain⟨e3,c3,o3⟩:=hN.co
 obtain⟨e4,c4,o4⟩:=hD.co
 subst e3 e4
 simp -dsimp (disch:=omega) only[wpS,wpT,Nat.reduceEqDiff,Nat.reduceLeDiff,Nat.reduceAdd,zc96,st96,o3,o4]
 obtain⟨H0,hH0⟩ : ∃H2,H2=(h3.new (.cells ZR 0 none)).put h3.n (.cells [.bool (decide (wdI n<0)),s2,.bool (decide (wdI d<0)),t2] 0 none):=⟨_,rfl⟩
 have e5:Ext h3 H0:=by rw[hH0];exact((Ext.refl _).new _).put (Nat.le_refl _) _
 have n5:H0.n=h3.n+1:=by rw[hH0];rfl
 have gb:H0.ext.get h3.n=some (.cells [.bool (decide (wdI n<0)),s2,.bool (decide (wdI d<0)),t2] 0 none):=by rw[hH0];simp (disch:=first|omega|(simp only[new_n,put_n];omega)|(repeat first|rw[new_n]|rw[put_n])) only[get_put_same]
 have gc:=e5.kept (by omega) (X3.kept (by omega) ga)
 rw[←hH0]
 clear hH0
 have hN0:=hN.keep e5.keep
 have hD0:=hD.keep e5.keep
 have p10:=p1.keep ((e2.trans X3).trans e5).keep
 have X0:=Ext.refl H0
 obtain⟨L1,L2,_⟩:=pl4 gb
 have L3:=pl2 gc
 have E0:=((((E1.trans X1).trans e2).trans X3).trans e5)
 refine drawn [(10,[9])] (by kernel_rfl) (by kernel_rfl) rfl ?_
 simp -dsimp (disch:=omega) only[wpS,wpT,Nat.reduceEqDiff,Nat.reduceLeDiff,Nat.reduceAdd,fa96_1,ld94,row_of gb,tkB]
 refine call (pside_ok hD0) ?_
 rintro _ h6 ⟨X6,rfl⟩
 have m6:=X6.n
 by_cases hd0:0<wdI d
 ·have hdn:decide (wdI d<0)=false:=decide_eq_false (by omega)
  rw[hdn] at hD0 gb L2
  rw[if_neg (by omega),if_neg (by omega)]
  simp -dsimp (disch:=omega) only[wpS,wpT,Nat.reduceEqDiff,Nat.reduceLeDiff,Nat.reduceAdd,fa96_1,ld94,fa96_0,row_of (X6.kept (by omega) gb),tkA,tkB]
  refine call (pcommon_ok (hN0.keep X6.keep) (hD0.keep X6.keep) (wdI_small hn) (wdI_small hd)) ?_
  rintro g h7 ⟨X7,hg⟩
  have m7:=X7.n
  have X67:=X6.trans X7
  have sg:SmallI (Int.gcd (wdI n) (wdI d):Int):=small_nat ((wdI_small hd).le (Nat.le_of_dvd (by omega) (Nat.gcd_dvd_right _ _)))
  simp -dsimp (disch:=omega) only[wpS,wpT,Nat.reduceEqDiff,Nat.reduceLeDiff,Nat.reduceAdd,ld94,row_of (X67.kept (by omega) gc),tk2']
  refine call (pcmp_ok hg (p10.keep X67.keep) sg (small_nat small1)) ?_
  rintro _ h8 ⟨X8,rfl⟩
  have X68:=X67.trans X8
  have E8:=E0.trans X68
  by_cases hgc:Int.gcd (wdI n) (wdI d)=1
  ·rw[if_neg (by omega),if_pos (by omega),if_pos (show okS n d from⟨hd0,hgc⟩)]
   simp -dsimp (disch:=omega) only[wpS,wpT,Nat.reduceEqDiff]
   refine⟨by repeat' first|refine wpSteady_c2 ?_ ?_|refine wpSteady_t2 ?_ ?_|exact wpSteady_one rfl rfl rfl rfl (steady_ext (H0:=H0) rfl (by omega) (by assumption) (by assumption) (by with_reducible assumption)),?_⟩
   simp -dsimp (disch:=omega) only[wpS,wpT,Nat.reduceEqDiff,Nat.reduceAdd]
   exact E8
  ·rw[if_neg (show ¬okS n d from fun h=>hgc h.2)]
   have hg1 : ¬((Int.gcd (wdI n) (wdI d):Int)<1):=by
    have:=gcd_ne (n:=wdI n) (d:=wdI d) (by omega)
    omega
   rw[if_neg hg1,if_neg (by omega)]
   simp -dsimp (disch:=omega) only[wpS,wpT,Nat.reduceEqDiff]
   refine⟨by repeat' first|refine wpSteady_c2 ?_ ?_|refine wpSteady_t2 ?_ ?_|exact wpSteady_one rfl rfl rfl rfl (steady_ext (H0:=H0) rfl (by omega) (by assumption) (by assumption) (by with_reducible assumption)),?_⟩
   simp -dsimp (disch:=omega) only[wpS,wpT,Nat.reduceEqDiff,Nat.reduceAdd]
   exact E8
 ·rw[if_neg (show ¬okS n d from fun h=>hd0 h.1)]
  have E6:=E0.trans X6
  obtain⟨c,hc,hc0⟩ : ∃c:Int,(if wdI d<0 then (-1:Int) else if wdI d=0 then 0 else 1)=c∧c≤0:=⟨_,rfl,by split<;>(try split)<;>omega⟩
  rw[hc]
  simp -dsimp (disch:=omega) only[wpS,wpT,Nat.reduceEqDiff,show decide (c≤0)=true from decide_eq_true hc0]
  refine⟨wpSteady_not rfl rfl rfl,?_⟩
  simp -dsimp (disch:=omega) only[wpS,wpT,Nat.reduceEqDiff,Nat.reduceAdd]
  exact E6
theorem shvalid1_ok {h:IH} (n d:Nat) (hn:n<W8) (hd:d<W8):WV Proofs.Tryz.prog (.func (.func 124) #[] #[]) [shV n d] h fun r h'=>Ext h h'∧r=.bool (decide (okS n d)):=by
 refine enter (nt:=6) (rs:=[.tmp 2]) Proofs.Tryz.func124 rfl rfl rfl (by simp) ?_
 simp -dsimp (disch:=omega) only[wpS,Nat.reduceEqDiff,Nat.reduceLeDiff,ld47,shV_cells,shC_len,sh_take]
 refine call (shcheck_ok n d hn hd) ?_
 rintro _ h1 ⟨hE,rfl⟩
 have E1:=((Ext.refl h).new (.cells (shC n d) 0 none)).trans hE
 by_cases hok:okS n d
 ·rw[if_pos hok]
  simp -dsimp (disch:=omega) only[wpS,wpT,Nat.reduceEqDiff]
  exact⟨E1,by rw[decide_eq_true hok]⟩
 ·rw[if_neg hok]
  simp -dsimp (disch:=omega) only[wpS,wpT,Nat.reduceEqDiff]
  exact⟨E1,by rw[decide_eq_false hok]⟩
def shL (l:List (Nat×Nat)):List Value:=l.flatMap fun p=>shC p.1 p.2
theorem shL_len (l:List (Nat×Nat)):(shL l).length=l.length*16:=by
 induction l with
 | nil=>rfl
 | cons a l ih=>rw[shL,List.flatMap_cons,List.length_append,shC_len,←shL,ih,List.length_cons];omega
theorem shL_at {l:List (Nat×Nat)} {i:Nat} {p:Nat×Nat} (h:l[i]?=some p):((shL l).drop (i*16)).take 16=shC p.1 p.2:=by
 induction l generalizing i with
 | nil=>simp at h
 | cons a l ih =>
  rw[shL,List.flatMap_cons,←shL]
  cases i with
  | zero =>
   simp at h;subst h
   rw[Nat.zero_mul,List.drop_zero,List.take_append_of_le_length (by rw[shC_len];omega),List.take_of_length_le (by rw[shC_len];omega)]
  | succ i =>
   simp at h
   rw[show(i+1)*16=(shC a.1 a.2).length+i*16 by rw[shC_len];omega,List.drop_length_add_append]
   exact ih h
def ShSl (h:IH) (v:Value) (l:List (Nat×Nat)):Prop:=SlOf h 16 v l.length (shL l)∧l.length<1152921504606846976 ∧ ∀p∈l,p.1<W8∧p.2<W8
theorem ShSl.keep {h h':IH} {v:Value} {l:List (Nat×Nat)} (s:ShSl h v l) (e:Keep h h'):ShSl h' v l:=⟨s.1.keep e,s.2⟩
theorem ShSl.ld {h h':IH} {v:Value} {l:List (Nat×Nat)} (s:ShSl h v l) (e:Keep h h') {i:Nat} {p:Nat×Nat} (hi:l[i]?=some p):load Proofs.Tryz.prog h' 47 (elemAddr v (i*16))=some (shV p.1 p.2):=by
 have hl:i<l.length:=(List.getElem?_eq_some_iff.1 hi).1
 rw[s.1.ldAgg e (by rw[shL_len];omega) (by omega) ag47 sz47,shL_at hi];rfl
theorem shall_ok {h:IH} {v:Value} {l:List (Nat×Nat)} (hv:ShSl h v l):WV Proofs.Tryz.prog (.func (.func 125) #[] #[]) [(.func (.func 124) #[] #[]),v] h fun r h'=>Ext h h'∧r=.bool (decide (∀p∈l,okS p.1 p.2)):=by
 refine enter (nt:=18) (rs:=[.tmp 4]) Proofs.Tryz.func125 rfl rfl rfl (by simp) ?_
 simp -dsimp (disch:=omega) only[wpS,Nat.reduceEqDiff,Nat.reduceAdd,hv.1.len sl175]
 refine loop (fun m fr h1 => ∃i:Nat,i+m=l.length∧Ext h h1∧(∀j p,j<i→l[j]?=some p→okS p.1 p.2)∧fget fr 0=some (.func (.func 124) #[] #[])∧fget fr 7=some v∧fget fr 8=some (KN l.length)∧fget fr 9=some (KN i)) l.length
  ⟨0,by omega,Ext.refl _,fun j p hj=>by omega,by simp,by simp,by simp,by simp⟩ ?_
 rintro m fr h1 ⟨i,him,hE,hok,f0,f7,f8,f9⟩
 simp -dsimp (disch:=omega) only[wpS,f8,f9]
 refine bq_intro ?_ ?_<;>intro hc<;>simp only[decide_eq_true_eq,decide_eq_false_iff_not] at hc
 ·have hi:i<l.length:=by omega
  obtain⟨p,hp⟩ : ∃p,l[i]?=some p:=⟨_,List.getElem?_eq_getElem hi⟩
  have hpm:=List.mem_of_getElem? hp
  obtain⟨w1,w2⟩:=hv.2.2 p hpm
  have hlb:=hv.2.1
  simp -dsimp (disch:=omega) only[wpS,wpT,Nat.reduceEqDiff,Nat.reduceLeDiff,Nat.reduceAdd,ld47,zc47,st47,f0,f7,f9,hv.1.idx es175 hi,hv.ld hE.keep hp,shV_cells,shC_len,shC_all,sh_sp3,sh_take]
  refine call (shvalid1_ok p.1 p.2 w1 w2) ?_
  rintro _ h2 ⟨hE2,rfl⟩
  have E2:=((hE.new (.cells Z16 0 none)).put hE.n (.cells (shC p.1 p.2) 0 none)).trans hE2
  by_cases hk:okS p.1 p.2
  ·rw[decide_eq_true hk]
   simp -dsimp (disch:=omega) only[wpS,wpT,Nat.reduceEqDiff,f9]
   refine⟨m - 1,by omega,i+1,by omega,E2,?_,by simp[f0],by simp[f7],by simp[f8],by simp⟩
   intro j q hj hq
   by_cases hji:j=i
   ·subst hji;rw[hp] at hq;cases hq;exact hk
   ·exact hok j q (by omega) hq
  ·rw[decide_eq_false hk]
   simp -dsimp (disch:=omega) only[wpS,wpT,Nat.reduceEqDiff]
   refine⟨E2,?_⟩
   rw[decide_eq_false fun hall=>hk (hall p hpm)]
 ·simp -dsimp (disch:=omega) only[wpS,wpT]
  refine⟨hE,?_⟩
  rw[decide_eq_true]
  intro p hp
  obtain⟨j,hj⟩:=List.getElem?_of_mem hp
  have:=(List.getElem?_eq_some_iff.1 hj).1
  exact hok j p (by omega) hj
theorem shvalid_ok {h:IH} {v:Value} {l:List (Nat×Nat)} (hv:ShSl h v l):WV Proofs.Tryz.prog (.func (.func 92) #[] #[]) [v] h fun r h'=>Ext h h'∧r=.bool (decide (∀p∈l,okS p.1 p.2)):=by
 refine enter (nt:=7) (rs:=[.tmp 2]) Proofs.Tryz.func92 rfl rfl rfl (by simp) ?_
 simp -dsimp (disch:=omega) only[wpS,Nat.reduceEqDiff]
 refine call (shall_ok hv) ?_
 rintro _ h1 ⟨hE,rfl⟩
 simp -dsimp (disch:=omega) only[wpS,wpT,Nat.reduceEqDiff]
 exact hE
end Go.Id

/-! Contracts: the program's fractions of integers; shares made. -/
namespace Go.Id
open Go
theorem wdI_zero_iff {d:Nat} (hd:d<W8):wdI d=0↔d=0:=by
 have h2:=H8_two
 have h3:=H8_pos
 unfold wdI
 split<;>omega
set_option maxHeartbeats 2000000 in
theorem shmake_ok {h:IH} (n d:Nat) (hn:n<W8) (hd:d<W8) (d0:d≠0):WV Proofs.Tryz.prog (.func (.func 101) #[] #[]) [wdV n,wdV d] h fun r h'=>Ext h h'∧r=(open Classical in if QW (Rat.divInt (wdI n) (wdI d)) then .tuple #[shareV (Rat.divInt (wdI n) (wdI d)),KI 0] else .tuple #[shV 0 0,KI 6]):=by
 refine enter (nt:=18) (rs:=[.cell 4 47,.tmp 5]) Proofs.Tryz.func101 rfl rfl rfl (by simp) ?_
 simp -dsimp (maxSteps:=1000000) (disch:=first|omega|(simp only[new_n,put_n];omega)|decide +kernel|(repeat first|rw[new_n]|rw[put_n])) only[wpS,wpT,Nat.reduceEqDiff,Nat.reduceLeDiff,Nat.reduceAdd,zc47,ld45,bv45,cells8,wdC_len]
 obtain⟨H0,hH0,n0,E0,g0,g1,g2⟩:=boxes3 h (wdC n) (wdC d) Z16
 rw[←hH0]
 clear hH0
 have X0:=Ext.refl H0
 have L2:load Proofs.Tryz.prog H0 45 (ptr (2*(h.n+1)) 0)=some (wdV d):=by
  simp -dsimp (maxSteps:=1000000) (disch:=first|omega|(simp only[new_n,put_n];omega)|decide +kernel|(repeat first|rw[new_n]|rw[put_n])) only[wpS,Nat.reduceLeDiff,ld45,row_of g1,wdC_len,wd_take]
  rfl
 have hz:binop Proofs.Tryz.prog .eql 45 (.tmp 6) (.tmp 7) (.agg (wdC d).toArray) (.agg #[ZW,ZW,ZW,ZW,ZW,ZW,ZW,ZW])=some (.bool false):=by
  rw[wd_zero,wdV,wd_eql hd (by have:=H8_two;have:=H8_pos;omega)]
  rw[decide_eq_false d0]
 have hdI:wdI d≠0:=fun h=>d0 ((wdI_zero_iff hd).1 h)
 simp -dsimp (maxSteps:=1000000) (disch:=first|omega|(simp only[new_n,put_n];omega)|decide +kernel|(repeat first|rw[new_n]|rw[put_n])) only[wpS,Nat.reduceEqDiff,wd_take,hz]
 refine drawn [(2,[1])] (by kernel_rfl) (by kernel_rfl) rfl ?_
 simp -dsimp (maxSteps:=1000000) (disch:=first|omega|(simp only[new_n,put_n];omega)|decide +kernel|(repeat first|rw[new_n]|rw[put_n])) only[wpS,Nat.reduceEqDiff,Nat.reduceLeDiff,ld45,row_of g0,wdC_len,wd_take]
 refine call (longer_ok n hn) ?_
 rintro r1 h1 ⟨X1,p1⟩
 have m1:=X1.n
 simp -dsimp (maxSteps:=1000000) (disch:=first|omega|(simp only[new_n,put_n];omega)|decide +kernel|(repeat first|rw[new_n]|rw[put_n])) only[wpS,Nat.reduceEqDiff,Nat.reduceLeDiff,ld45,row_of (X1.kept (by omega) g1),wdC_len,wd_take]
 refine call (longer_ok d hd) ?_
 rintro r2 h2 ⟨hE2,p2⟩
 have X2:=X1.trans hE2
 have m2:=hE2.n
 simp -dsimp (maxSteps:=1000000) (disch:=first|omega|(simp only[new_n,put_n];omega)|decide +kernel|(repeat first|rw[new_n]|rw[put_n])) only[wpS,Nat.reduceEqDiff]
 refine call (lowest_ok (p1.keep hE2.keep) p2 (wdI_small hn) (wdI_small hd) hdI) ?_
 rintro r3 h3 ⟨hE3,p3⟩
 have X3:=X2.trans hE3
 have m3:=hE3.n
 simp -dsimp (maxSteps:=1000000) (disch:=first|omega|(simp only[new_n,put_n];omega)|decide +kernel|(repeat first|rw[new_n]|rw[put_n])) only[wpS,Nat.reduceEqDiff]
 refine call (rtold_ok p3) ?_
 rintro _ h4 ⟨hE4,rfl⟩
 have X4:=X3.trans hE4
 have m4:=hE4.n
 have kg:=X4.kept (by omega) g2
 by_cases hq:QW (Rat.divInt (wdI n) (wdI d))
 ·rw[if_pos hq]
  simp -dsimp (maxSteps:=1000000) (disch:=first|omega|(simp only[new_n,put_n];omega)|decide +kernel|(repeat first|rw[new_n]|rw[put_n])) only[wpS,wpT,Nat.reduceEqDiff,Nat.reduceLeDiff,Nat.reduceAdd,st47,kg,shV_cells,shC_len,shC_all,sh_sp3]
  refine⟨by repeat' first|refine wpSteady_c2 ?_ ?_|refine wpSteady_t2 ?_ ?_|exact wpSteady_one rfl rfl rfl rfl (steady_ext (H0:=H0) rfl (by omega) (by assumption) (by assumption) (by with_reducible assumption)),?_⟩
  simp -dsimp (maxSteps:=1000000) (disch:=first|omega|(simp only[new_n,put_n];omega)|decide +kernel|(repeat first|rw[new_n]|rw[put_n])) only[wpS,wpT,Nat.reduceEqDiff,Nat.reduceLeDiff,Nat.reduceAdd,ld47,shC_len,sh_take]
  exact⟨(E0.trans X4).put (by omega) _,rfl⟩
 ·rw[if_neg hq]
  simp -dsimp (maxSteps:=1000000) (disch:=first|omega|(simp only[new_n,put_n];omega)|decide +kernel|(repeat first|rw[new_n]|rw[put_n])) only[wpS,wpT,Nat.reduceEqDiff,Nat.reduceLeDiff,Nat.reduceAdd,st47,kg,shV_cells,shC_len,shC_all,sh_sp3]
  refine⟨by repeat' first|refine wpSteady_c2 ?_ ?_|refine wpSteady_t2 ?_ ?_|exact wpSteady_one rfl rfl rfl rfl (steady_ext (H0:=H0) rfl (by omega) (by assumption) (by assumption) (by with_reducible assumption)),?_⟩
  simp -dsimp (maxSteps:=1000000) (disch:=first|omega|(simp only[new_n,put_n];omega)|decide +kernel|(repeat first|rw[new_n]|rw[put_n])) only[wpS,wpT,Nat.reduceEqDiff,Nat.reduceLeDiff,Nat.reduceAdd,ld47,shC_len,sh_take]
  exact⟨(E0.trans X4).put (by omega) _,rfl⟩
theorem qw_div {n d:Int} (hn:In64 n) (hd:In64 d) (d0:d≠0):QW (Rat.divInt n d):=by
 have h3:=H8_big
 have q:=QB.divInt (k:=63) d0 (n:=n) (by have:=hn.1;have:=hn.2;omega) (by have:=hd.1;have:=hd.2;omega)
 obtain⟨q1,q2⟩:=q
 have e:2 ^ 63=9223372036854775808:=by decide
 rw[e] at q1 q2
 exact⟨⟨by omega,by omega⟩,⟨by omega,by omega⟩⟩
theorem inW64 {n:Int} (hn:In64 n):InW n:=by
 have h3:=H8_big
 exact⟨by have:=hn.1;omega,by have:=hn.2;omega⟩
theorem wideN0 {n:Int} (hn:In64 n) (h0:n≠0):wideN n≠0:=by
 have hw:=inW64 hn
 have:=wdI_wideN hw
 intro h
 rw[h] at this
 have h2:=H8_pos
 unfold wdI at this
 rw[if_pos h2] at this
 omega
theorem shof_ok {h:IH} (n d:Int) (hn:In64 n) (hd:In64 d) (d0:d≠0):WV Proofs.Tryz.prog (.func (.func 52) #[] #[]) [KI n,KI d] h fun r h'=>Ext h h'∧r=.tuple #[shareV (Rat.divInt n d),KI 0]:=by
 refine enter (nt:=13) (rs:=[.cell 4 47,.tmp 5]) Proofs.Tryz.func52 rfl rfl rfl (by simp) ?_
 simp -dsimp (disch:=omega) only[wpS,Nat.reduceEqDiff,Nat.reduceAdd,zc47]
 have E1:Ext h (h.new (.cells Z16 0 none)):=(Ext.refl h).new _
 have g1:(h.new (.cells Z16 0 none)).ext.get h.n=some (.cells Z16 0 none):=by simp (disch:=first|omega|(simp only[new_n,put_n];omega)|(repeat first|rw[new_n]|rw[put_n])) only[get_new_same]
 refine call (wideOf_ok n hn) ?_
 rintro _ h1 ⟨X1,rfl⟩
 simp -dsimp (disch:=omega) only[wpS,Nat.reduceEqDiff]
 refine call (wideOf_ok d hd) ?_
 rintro _ h2 ⟨X2,rfl⟩
 simp -dsimp (disch:=omega) only[wpS,Nat.reduceEqDiff]
 refine call (shmake_ok (wideN n) (wideN d) (wideN_lt (inW64 hn)) (wideN_lt (inW64 hd)) (wideN0 hd d0)) ?_
 rintro _ h3 ⟨X3,rfl⟩
 rw[wdI_wideN (inW64 hn),wdI_wideN (inW64 hd),if_pos (qw_div hn hd d0)]
 have m1:=X1.n
 have m2:=X2.n
 have m3:=X3.n
 simp only[new_n] at m1
 have kg:=X3.kept (by omega) (X2.kept (by omega) (X1.kept (by simp) g1))
 simp -dsimp (disch:=omega) only[wpS,wpT,Nat.reduceEqDiff,Nat.reduceLeDiff,Nat.reduceAdd,st47,ld47,kg,shV_cells,shC_len,shC_all,sh_sp3,sh_take]
 exact⟨(((E1.trans X1).trans X2).trans X3).put (by omega) _,rfl⟩
end Go.Id

/-! Fractions of shares: what is used by all packages. -/
namespace Go.Id
open Go
def rOf (p:Nat×Nat):Rat:=Rat.divInt (wdI p.1) (wdI p.2)
theorem rOf_parts {p:Nat×Nat} (h:okS p.1 p.2):(rOf p).num=wdI p.1∧((rOf p).den:Int)=wdI p.2:=by
 obtain⟨h1,h2⟩:=h
 obtain⟨a,b⟩:=low_pos (n:=wdI p.1) h1
 rw[h2] at a b
 simp only[Int.natCast_one,Int.ediv_one] at a b
 exact⟨a.symm,b.symm⟩
noncomputable def toldV (q:Rat):Value:=open Classical in if QW q then .tuple #[shareV q,KI 0] else .tuple #[shV 0 0,KI 6]
theorem toldV_form (q:Rat) : ∃n d e,toldV q=.tuple #[shV n d,KI e]:=by
 unfold toldV
 by_cases h:QW q
 ·exact⟨_,_,0,by rw[if_pos h]⟩
 ·exact⟨0,0,6,by rw[if_neg h]⟩
theorem qb512 {p:Nat×Nat} (h1:p.1<W8) (h2:p.2<W8) (ok:okS p.1 p.2):QB 512 (rOf p):=by
 obtain⟨e1,e2⟩:=rOf_parts ok
 have hw:W8=2 ^ 512:=by decide +kernel
 have a1:=wdI_small h1
 unfold QB
 have k1:(wdI p.1).natAbs≤2 ^ 512:=by
  rw[←hw]
  unfold wdI
  have:=H8_two
  split<;>omega
 have k2:wdI p.2≤((2 ^ 512:Nat):Int):=by
  rw[←hw]
  unfold wdI
  have:=H8_two
  split<;>omega
 generalize (2 ^ 512:Nat)=B at *
 refine⟨by rw[e1];exact k1,by omega⟩
def shq (q:Rat):Nat×Nat:=(wideN q.num,wideN q.den)
theorem shq_lt {q:Rat} (h:QW q):(shq q).1<W8∧(shq q).2<W8:=⟨wideN_lt h.1,wideN_lt h.2⟩
theorem shareV_shq (q:Rat):shareV q=shV (shq q).1 (shq q).2:=rfl
theorem shq_rOf {q:Rat} (h:QW q):rOf (shq q)=q∧okS (shq q).1 (shq q).2:=by
 have e1:wdI (shq q).1=q.num:=wdI_wideN h.1
 have e2:wdI (shq q).2=(q.den:Int):=wdI_wideN h.2
 refine⟨?_,?_,?_⟩
 ·unfold rOf;rw[e1,e2,Rat.num_divInt_den]
 ·rw[e2];have:=q.den_pos;omega
 ·rw[e1,e2];have:=q.reduced;exact this
theorem toldV_qw {q:Rat} (h:QW q):toldV q=.tuple #[shV (shq q).1 (shq q).2,KI 0]:=by
 unfold toldV
 rw[if_pos h];rfl
theorem build2 {h:IH} (a b c d:Nat):buildSlice Proofs.Tryz.prog h 175 2 [(0,shV a b),(1,shV c d)]=some (.slice (some ⟨2*h.n,0,none⟩) 2 5,h.new (.cells (shL [(a,b),(c,d)]) 16 none)):=by
 rw[bs175 h 2 _ (by decide)]
 have e:fillP (fun i=>some (i*16,16)) (repl 2 [.int .u64 0,.int .u64 0,.int .u64 0,.int .u64 0,.int .u64 0,.int .u64 0,.int .u64 0,.int .u64 0,.int .u64 0,.int .u64 0,.int .u64 0,.int .u64 0,.int .u64 0,.int .u64 0,.int .u64 0,.int .u64 0]) [(0,shV a b),(1,shV c d)]=some (shL [(a,b),(c,d)]):=by kernel_rfl
 rw[e];rfl
end Go.Id

/-! Contracts: share's operations on two shares. -/
namespace Go.Id
open Go
theorem PPair.rat {h:IH} {v:Value} {n d:Nat} (p:PPair h v (wdI n) (wdI d)) (ok:okS n d):PRat h v (rOf (n,d)):=by
 obtain⟨e1,e2⟩:=rOf_parts (p:=(n,d)) ok
 unfold PRat
 rw[e1,e2]
 exact p
theorem two_sl {h:IH} {n1 d1 n2 d2:Nat} (h1:n1<W8) (h2:d1<W8) (h3:n2<W8) (h4:d2<W8):ShSl (h.new (.cells (shL [(n1,d1),(n2,d2)]) 16 none)) (.slice (some ⟨2*h.n,0,none⟩) 2 5) [(n1,d1),(n2,d2)]:=by
 refine⟨sl_block (k:=h.n) (f:=none) (get_new_same _ _ rfl) (by simp) (by decide) (by rw[shL_len];rfl) (by omega) (by omega),by simp,?_⟩
 intro p hp
 simp at hp
 rcases hp with rfl|rfl
 ·exact⟨h1,h2⟩
 ·exact⟨h3,h4⟩
set_option maxHeartbeats 2000000 in
theorem rtwo_ok {h:IH} {n1 d1 n2 d2:Nat} {fv:Value} {q:Rat} (h1:n1<W8) (h2:d1<W8) (h3:n2<W8) (h4:d2<W8) (ok1:okS n1 d1) (ok2:okS n2 d2)
  (op : ∀(h':IH) (v w:Value),PRat h' v (rOf (n1,d1))→PRat h' w (rOf (n2,d2))→WV Proofs.Tryz.prog fv [v,w] h' fun r h''=>Ext h' h''∧PRat h'' r q) :
  WV Proofs.Tryz.prog (.func (.func 60) #[] #[]) [shV n1 d1,shV n2 d2,fv] h fun r h'=>Ext h h' ∧ ∃x,r=.tuple #[x,KI 0]∧PRat h' x q:=by
 refine enter (nt:=21) (rs:=[.cell 6 96,.tmp 7]) Proofs.Tryz.func60 rfl rfl rfl (by simp) ?_
 simp -dsimp (maxSteps:=1000000) (disch:=first|omega|(simp only[new_n,put_n];omega)|decide +kernel|(repeat first|rw[new_n]|rw[put_n])) only[wpS,Nat.reduceEqDiff,Nat.reduceAdd,zc96,ld47,shV_cells]
 obtain⟨H0,hH0,n0,E0,g0,g1,g2⟩:=boxes3 h (shC n1 d1) (shC n2 d2) ZR
 rw[←hH0]
 clear hH0
 have X0:=Ext.refl H0
 have bb : ∀hx:IH,buildSlice Proofs.Tryz.prog hx 175 2 [(0,.agg (shC n1 d1).toArray),(1,.agg (shC n2 d2).toArray)]=some (.slice (some ⟨2*hx.n,0,none⟩) 2 5,hx.new (.cells (shL [(n1,d1),(n2,d2)]) 16 none)):=fun hx=>build2 n1 d1 n2 d2
 simp -dsimp (maxSteps:=1000000) (disch:=first|omega|(simp only[new_n,put_n];omega)|decide +kernel|(repeat first|rw[new_n]|rw[put_n])) only[wpS,Nat.reduceEqDiff,Nat.reduceLeDiff,ld47,row_of g1,shC_len,sh_take,bb]
 refine call (shvalid_ok (two_sl h1 h2 h3 h4)) ?_
 rintro _ k1 ⟨Y1,rfl⟩
 have X1:Ext H0 k1:=(X0.new _).trans Y1
 have dt:decide (∀p ∈ [(n1,d1),(n2,d2)],okS p.1 p.2)=true:=decide_eq_true (by
  intro p hp
  simp at hp
  rcases hp with rfl|rfl
  ·exact ok1
  ·exact ok2)
 rw[dt]
 have L2:=(psh g1).2.2
 simp -dsimp (maxSteps:=1000000) (disch:=first|omega|(simp only[new_n,put_n];omega)|decide +kernel|(repeat first|rw[new_n]|rw[put_n])) only[wpS,wpT,Nat.reduceEqDiff]
 refine drawn [(3,[2])] (by kernel_rfl) (by kernel_rfl) rfl ?_
 simp -dsimp (maxSteps:=1000000) (disch:=first|omega|(simp only[new_n,put_n];omega)|decide +kernel|(repeat first|rw[new_n]|rw[put_n])) only[wpS,Nat.reduceEqDiff,Nat.reduceLeDiff,ld47,row_of (X1.kept (by omega) g0),shC_len,sh_take]
 refine call (shread_ok n1 d1 h1 h2) ?_
 rintro v k2 ⟨Y2,p2⟩
 have X2:=X1.trans Y2
 simp -dsimp (maxSteps:=1000000) (disch:=first|omega|(simp only[new_n,put_n];omega)|decide +kernel|(repeat first|rw[new_n]|rw[put_n])) only[wpS,Nat.reduceEqDiff,Nat.reduceLeDiff,ld47,row_of (X2.kept (by omega) g1),shC_len,sh_take]
 refine call (shread_ok n2 d2 h3 h4) ?_
 rintro w k3 ⟨Y3,p3⟩
 have X3:=X2.trans Y3
 simp -dsimp (maxSteps:=1000000) (disch:=first|omega|(simp only[new_n,put_n];omega)|decide +kernel|(repeat first|rw[new_n]|rw[put_n])) only[wpS,Nat.reduceEqDiff]
 refine call (op k3 v w (PRat.keep (p2.rat ok1) Y3.keep) (p3.rat ok2)) ?_
 rintro x k4 ⟨Y4,p4⟩
 have X4:=X3.trans Y4
 have m1:=X4.n
 obtain⟨a1,s1,b1,t1,rfl,hn1,hd1,c1,o1,c2,o2,o3,o4⟩:=p4.parts
 have kg:=X4.kept (by omega) g2
 simp -dsimp (maxSteps:=1000000) (disch:=first|omega|(simp only[new_n,put_n];omega)|decide +kernel|(repeat first|rw[new_n]|rw[put_n])) only[wpS,wpT,Nat.reduceEqDiff,Nat.reduceLeDiff,Nat.reduceAdd,st96,kg,o1,o2,o3,o4]
 refine⟨by repeat' first|refine wpSteady_c2 ?_ ?_|refine wpSteady_t2 ?_ ?_|exact wpSteady_one rfl rfl rfl rfl (steady_ext (H0:=H0) rfl (by omega) (by assumption) (by assumption) (by with_reducible assumption)),?_⟩
 simp -dsimp (maxSteps:=1000000) (disch:=first|omega|(simp only[new_n,put_n];omega)|decide +kernel|(repeat first|rw[new_n]|rw[put_n])) only[wpS,wpT,Nat.reduceEqDiff,Nat.reduceLeDiff,Nat.reduceAdd,ld96,tk4']
 have kp:=(Keep.refl k4).put kg (.cells [a1,s1,b1,t1] 0 none)
 exact⟨(E0.trans X4).put (by omega) _,_,rfl,p4.keep kp⟩
set_option maxHeartbeats 2000000 in
theorem itwo_ok {h:IH} {n1 d1 n2 d2:Nat} {fv:Value} {z:Int} (h1:n1<W8) (h2:d1<W8) (h3:n2<W8) (h4:d2<W8) (ok1:okS n1 d1) (ok2:okS n2 d2)
  (op : ∀(h':IH) (v w:Value),PRat h' v (rOf (n1,d1))→PRat h' w (rOf (n2,d2))→WV Proofs.Tryz.prog fv [v,w] h' fun r h''=>Ext h' h''∧r=KI z) :
  WV Proofs.Tryz.prog (.func (.func 47) #[] #[]) [shV n1 d1,shV n2 d2,fv] h fun r h'=>Ext h h'∧r=.tuple #[KI z,KI 0]:=by
 refine enter (nt:=21) (rs:=[.tmp 6,.tmp 7]) Proofs.Tryz.func47 rfl rfl rfl (by simp) ?_
 simp -dsimp (maxSteps:=1000000) (disch:=first|omega|(simp only[new_n,put_n];omega)|decide +kernel|(repeat first|rw[new_n]|rw[put_n])) only[wpS,Nat.reduceEqDiff,Nat.reduceAdd,ld47,shV_cells]
 obtain⟨H0,hH0,n0,E0,g0,g1⟩:=boxes2 h (shC n1 d1) (shC n2 d2)
 rw[←hH0]
 clear hH0
 have X0:=Ext.refl H0
 have bb : ∀hx:IH,buildSlice Proofs.Tryz.prog hx 175 2 [(0,.agg (shC n1 d1).toArray),(1,.agg (shC n2 d2).toArray)]=some (.slice (some ⟨2*hx.n,0,none⟩) 2 5,hx.new (.cells (shL [(n1,d1),(n2,d2)]) 16 none)):=fun hx=>build2 n1 d1 n2 d2
 simp -dsimp (maxSteps:=1000000) (disch:=first|omega|(simp only[new_n,put_n];omega)|decide +kernel|(repeat first|rw[new_n]|rw[put_n])) only[wpS,Nat.reduceEqDiff,Nat.reduceLeDiff,ld47,row_of g1,shC_len,sh_take,bb]
 refine call (shvalid_ok (two_sl h1 h2 h3 h4)) ?_
 rintro _ k1 ⟨Y1,rfl⟩
 have X1:Ext H0 k1:=(X0.new _).trans Y1
 have dt:decide (∀p ∈ [(n1,d1),(n2,d2)],okS p.1 p.2)=true:=decide_eq_true (by
  intro p hp
  simp at hp
  rcases hp with rfl|rfl
  ·exact ok1
  ·exact ok2)
 rw[dt]
 have L2:=(psh g1).2.2
 simp -dsimp (maxSteps:=1000000) (disch:=first|omega|(simp only[new_n,put_n];omega)|decide +kernel|(repeat first|rw[new_n]|rw[put_n])) only[wpS,wpT,Nat.reduceEqDiff]
 refine drawn [(3,[2])] (by kernel_rfl) (by kernel_rfl) rfl ?_
 simp -dsimp (maxSteps:=1000000) (disch:=first|omega|(simp only[new_n,put_n];omega)|decide +kernel|(repeat first|rw[new_n]|rw[put_n])) only[wpS,Nat.reduceEqDiff,Nat.reduceLeDiff,ld47,row_of (X1.kept (by omega) g0),shC_len,sh_take]
 refine call (shread_ok n1 d1 h1 h2) ?_
 rintro v k2 ⟨Y2,p2⟩
 have X2:=X1.trans Y2
 simp -dsimp (maxSteps:=1000000) (disch:=first|omega|(simp only[new_n,put_n];omega)|decide +kernel|(repeat first|rw[new_n]|rw[put_n])) only[wpS,Nat.reduceEqDiff,Nat.reduceLeDiff,ld47,row_of (X2.kept (by omega) g1),shC_len,sh_take]
 refine call (shread_ok n2 d2 h3 h4) ?_
 rintro w k3 ⟨Y3,p3⟩
 have X3:=X2.trans Y3
 simp -dsimp (maxSteps:=1000000) (disch:=first|omega|(simp only[new_n,put_n];omega)|decide +kernel|(repeat first|rw[new_n]|rw[put_n])) only[wpS,Nat.reduceEqDiff]
 refine call (op k3 v w (PRat.keep (p2.rat ok1) Y3.keep) (p3.rat ok2)) ?_
 rintro _ k4 ⟨Y4,rfl⟩
 have X4:=X3.trans Y4
 simp -dsimp (maxSteps:=1000000) (disch:=first|omega|(simp only[new_n,put_n];omega)|decide +kernel|(repeat first|rw[new_n]|rw[put_n])) only[wpS,Nat.reduceEqDiff]
 refine⟨by repeat' first|refine wpSteady_c2 ?_ ?_|refine wpSteady_t2 ?_ ?_|exact wpSteady_one rfl rfl rfl rfl (steady_ext (H0:=H0) rfl (by omega) (by assumption) (by assumption) (by with_reducible assumption)),?_⟩
 simp -dsimp (maxSteps:=1000000) (disch:=first|omega|(simp only[new_n,put_n];omega)|decide +kernel|(repeat first|rw[new_n]|rw[put_n])) only[wpS,wpT,Nat.reduceEqDiff,Nat.reduceAdd]
 exact E0.trans X4
set_option maxHeartbeats 2000000 in
theorem shtold_ok {h:IH} {v:Value} {q:Rat} (hv:PRat h v q):WV Proofs.Tryz.prog (.func (.func 59) #[] #[]) [v,KI 0] h fun r h'=>Ext h h'∧r=toldV q:=by
 obtain⟨a1,s1,b1,t1,rfl,hn1,hd1,c1,o1,c2,o2,o3,o4⟩:=hv.parts
 obtain⟨n,d,e,ht⟩:=toldV_form q
 refine enter (nt:=14) (rs:=[.cell 4 47,.tmp 5]) Proofs.Tryz.func59 rfl rfl rfl (by simp) ?_
 simp -dsimp (maxSteps:=1000000) (disch:=first|omega|(simp only[new_n,put_n];omega)|decide +kernel|(repeat first|rw[new_n]|rw[put_n])) only[wpS,wpT,Nat.reduceEqDiff,Nat.reduceLeDiff,Nat.reduceAdd,zc47,ld96]
 obtain⟨H0,hH0,n0,E0,g0,g1⟩:=boxes2 h [a1,s1,b1,t1] Z16
 rw[←hH0]
 clear hH0
 simp -dsimp (maxSteps:=1000000) (disch:=first|omega|(simp only[new_n,put_n];omega)|decide +kernel|(repeat first|rw[new_n]|rw[put_n])) only[tk4']
 refine call (rtold_ok (hv.keep E0.keep)) ?_
 rintro _ h1 ⟨X1,rfl⟩
 have hT:(open Classical in if QW q then Value.tuple #[shareV q,KI 0] else .tuple #[shV 0 0,KI 6])=.tuple #[shV n d,KI e]:=ht
 rw[hT,ht]
 have m1:=X1.n
 have kg:=X1.kept (by omega) g1
 simp -dsimp (maxSteps:=1000000) (disch:=first|omega|(simp only[new_n,put_n];omega)|decide +kernel|(repeat first|rw[new_n]|rw[put_n])) only[wpS,wpT,Nat.reduceEqDiff,Nat.reduceLeDiff,Nat.reduceAdd,st47,ld47,kg,shV_cells,shC_len,shC_all,sh_sp3,sh_take]
 exact⟨(E0.trans X1).put (by omega) _,rfl⟩
set_option maxHeartbeats 2000000 in
theorem shmul_ok {h:IH} {p1 p2:Nat×Nat} (h1:p1.1<W8∧p1.2<W8) (h2:p2.1<W8∧p2.2<W8) (ok1:okS p1.1 p1.2) (ok2:okS p2.1 p2.2):WV Proofs.Tryz.prog (.func (.func 26) #[] #[]) [shV p1.1 p1.2,shV p2.1 p2.2] h fun r h'=>Ext h h'∧r=toldV (rOf p1*rOf p2):=by
 have q1:=qb512 (p:=p1) h1.1 h1.2 ok1
 have q2:=qb512 (p:=p2) h2.1 h2.2 ok2
 obtain⟨n,d,e,ht⟩:=toldV_form (rOf p1*rOf p2)
 refine enter (nt:=14) (rs:=[.cell 4 47,.tmp 5]) Proofs.Tryz.func26 rfl rfl rfl (by simp) ?_
 simp -dsimp (maxSteps:=1000000) (disch:=first|omega|(simp only[new_n,put_n];omega)|decide +kernel|(repeat first|rw[new_n]|rw[put_n])) only[wpS,Nat.reduceEqDiff,Nat.reduceAdd,zc47,ld47,shV_cells]
 obtain⟨H0,hH0,n0,E0,g0,g1,g2⟩:=boxes3 h (shC p1.1 p1.2) (shC p2.1 p2.2) Z16
 rw[←hH0]
 clear hH0
 simp -dsimp (maxSteps:=1000000) (disch:=first|omega|(simp only[new_n,put_n];omega)|decide +kernel|(repeat first|rw[new_n]|rw[put_n])) only[wpS,Nat.reduceEqDiff,Nat.reduceLeDiff,ld47,row_of g1,shC_len,sh_take]
 refine call (rtwo_ok (q:=rOf p1*rOf p2) h1.1 h1.2 h2.1 h2.2 ok1 ok2 (fun h' v w a b=>rtimes_ok a b q1 q2 (by omega))) ?_
 rintro _ k1 ⟨X1,x,rfl,px⟩
 simp -dsimp (maxSteps:=1000000) (disch:=first|omega|(simp only[new_n,put_n];omega)|decide +kernel|(repeat first|rw[new_n]|rw[put_n])) only[wpS,Nat.reduceEqDiff]
 refine call (shtold_ok px) ?_
 rintro _ k2 ⟨X2,rfl⟩
 rw[ht]
 have X12:=X1.trans X2
 have m1:=X12.n
 have kg:=X12.kept (by omega) g2
 simp -dsimp (maxSteps:=1000000) (disch:=first|omega|(simp only[new_n,put_n];omega)|decide +kernel|(repeat first|rw[new_n]|rw[put_n])) only[wpS,wpT,Nat.reduceEqDiff,Nat.reduceLeDiff,Nat.reduceAdd,ld47,st47,kg,shV_cells,shC_len,shC_all,sh_sp3,sh_take]
 exact⟨(E0.trans X12).put (by omega) _,rfl⟩
set_option maxHeartbeats 2000000 in
theorem shcmp_ok {h:IH} {p1 p2:Nat×Nat} (h1:p1.1<W8∧p1.2<W8) (h2:p2.1<W8∧p2.2<W8) (ok1:okS p1.1 p1.2) (ok2:okS p2.1 p2.2):WV Proofs.Tryz.prog (.func (.func 21) #[] #[]) [shV p1.1 p1.2,shV p2.1 p2.2] h fun r h'=>Ext h h'∧r=.tuple #[KI (if rOf p1<rOf p2 then -1 else if rOf p1=rOf p2 then 0 else 1),KI 0]:=by
 have q1:=qb512 (p:=p1) h1.1 h1.2 ok1
 have q2:=qb512 (p:=p2) h2.1 h2.2 ok2
 refine enter (nt:=11) (rs:=[.tmp 4,.tmp 5]) Proofs.Tryz.func21 rfl rfl rfl (by simp) ?_
 simp -dsimp (maxSteps:=1000000) (disch:=first|omega|(simp only[new_n,put_n];omega)|decide +kernel|(repeat first|rw[new_n]|rw[put_n])) only[wpS,Nat.reduceEqDiff,Nat.reduceAdd,ld47,shV_cells]
 obtain⟨H0,hH0,n0,E0,g0,g1⟩:=boxes2 h (shC p1.1 p1.2) (shC p2.1 p2.2)
 rw[←hH0]
 clear hH0
 simp -dsimp (maxSteps:=1000000) (disch:=first|omega|(simp only[new_n,put_n];omega)|decide +kernel|(repeat first|rw[new_n]|rw[put_n])) only[wpS,Nat.reduceEqDiff,Nat.reduceLeDiff,ld47,row_of g1,shC_len,sh_take]
 refine call (itwo_ok h1.1 h1.2 h2.1 h2.2 ok1 ok2 (fun h' v w a b=>rcmp_ok a b q1 q2 (by omega))) ?_
 rintro _ k1 ⟨X1,rfl⟩
 simp -dsimp (maxSteps:=1000000) (disch:=first|omega|(simp only[new_n,put_n];omega)|decide +kernel|(repeat first|rw[new_n]|rw[put_n])) only[wpS,wpT,Nat.reduceEqDiff]
 exact E0.trans X1
theorem shsign1_ok {h:IH} {v w:Value} {x y:Rat} (hv:PRat h v x) (hw:PRat h w y):WV Proofs.Tryz.prog (.func (.func 64) #[] #[]) [v,w] h fun r h'=>Ext h h'∧r=KI (if x<0 then -1 else if x=0 then 0 else 1):=by
 obtain⟨a1,s1,b1,t1,rfl,hn1,hd1,c1,o1,c2,o2,o3,o4⟩:=hv.parts
 obtain⟨a2,s2,b2,t2,rfl,hn2,hd2,c5,o5,c6,o6,o7,o8⟩:=hw.parts
 refine enter (nt:=8) (rs:=[.tmp 4]) Proofs.Tryz.func64 rfl rfl rfl (by simp) ?_
 simp -dsimp (maxSteps:=1000000) (disch:=first|omega|(simp only[new_n,put_n];omega)|decide +kernel|(repeat first|rw[new_n]|rw[put_n])) only[wpS,wpT,Nat.reduceEqDiff,Nat.reduceLeDiff,Nat.reduceAdd,fa96_0,ld94]
 obtain⟨H0,hH0,n0,E0,g0,g1⟩:=boxes2 h [a1,s1,b1,t1] [a2,s2,b2,t2]
 rw[←hH0]
 clear hH0
 simp -dsimp (maxSteps:=1000000) (disch:=first|omega|(simp only[new_n,put_n];omega)|decide +kernel|(repeat first|rw[new_n]|rw[put_n])) only[tkA]
 refine call (pside_ok (hn1.keep E0.keep)) ?_
 rintro _ h1 ⟨X1,rfl⟩
 have e:(if x.num<0 then (-1:Int) else if x.num=0 then 0 else 1)=if x<0 then -1 else if x=0 then 0 else 1:=by
  have hlt:x<0↔x.num<0:=by rw[Rat.lt_iff];simp
  by_cases c:x<0
  ·rw[if_pos c,if_pos (hlt.1 c)]
  ·rw[if_neg c,if_neg (fun h=>c (hlt.2 h))]
   by_cases c2:x=0
   ·rw[if_pos c2,if_pos (Rat.num_eq_zero.2 c2)]
   ·rw[if_neg c2,if_neg (fun h=>c2 (Rat.num_eq_zero.1 h))]
 rw[e]
 simp -dsimp (maxSteps:=1000000) (disch:=first|omega|(simp only[new_n,put_n];omega)|decide +kernel|(repeat first|rw[new_n]|rw[put_n])) only[wpS,wpT,Nat.reduceEqDiff]
 exact E0.trans X1
theorem shsign_ok {h:IH} {p1:Nat×Nat} (h1:p1.1<W8∧p1.2<W8) (ok1:okS p1.1 p1.2):WV Proofs.Tryz.prog (.func (.func 27) #[] #[]) [shV p1.1 p1.2] h fun r h'=>Ext h h'∧r=.tuple #[KI (if rOf p1<0 then -1 else if rOf p1=0 then 0 else 1),KI 0]:=by
 refine enter (nt:=9) (rs:=[.tmp 2,.tmp 3]) Proofs.Tryz.func27 rfl rfl rfl (by simp) ?_
 simp -dsimp (disch:=omega) only[wpS,Nat.reduceEqDiff,ld47,shV_cells]
 obtain⟨H0,hH0⟩ : ∃H0,H0=h.new (.cells (shC p1.1 p1.2) 0 none):=⟨_,rfl⟩
 have E0:Ext h H0:=by rw[hH0];exact(Ext.refl h).new _
 have g0:H0.ext.get h.n=some (.cells (shC p1.1 p1.2) 0 none):=by rw[hH0];simp (disch:=first|omega|(simp only[new_n,put_n];omega)|(repeat first|rw[new_n]|rw[put_n])) only[get_new_same]
 rw[←hH0]
 clear hH0
 simp -dsimp (disch:=omega) only[wpS,Nat.reduceEqDiff,Nat.reduceLeDiff,ld47,row_of g0,shC_len,sh_take]
 refine call (itwo_ok h1.1 h1.2 h1.1 h1.2 ok1 ok1 (fun h' v w a b=>shsign1_ok a b)) ?_
 rintro _ k1 ⟨X1,rfl⟩
 simp -dsimp (disch:=omega) only[wpS,wpT,Nat.reduceEqDiff]
 exact E0.trans X1
theorem rlesser_ok {h:IH} {v w:Value} {x y:Rat} {a b:Nat} (hv:PRat h v x) (hw:PRat h w y) (qx:QB a x) (qy:QB b y) (hk:a+b<16000000):WV Proofs.Tryz.prog (.func (.func 146) #[] #[]) [v,w] h fun r h'=>Ext h h'∧PRat h' r (if x≤y then x else y):=by
 obtain⟨a1,s1,b1,t1,rfl,hn1,hd1,c1,o1,c2,o2,o3,o4⟩:=hv.parts
 obtain⟨a2,s2,b2,t2,rfl,hn2,hd2,c5,o5,c6,o6,o7,o8⟩:=hw.parts
 refine enter (nt:=11) (rs:=[.cell 4 96]) Proofs.Tryz.func146 rfl rfl rfl (by simp) ?_
 simp -dsimp (maxSteps:=1000000) (disch:=first|omega|(simp only[new_n,put_n];omega)|decide +kernel|(repeat first|rw[new_n]|rw[put_n])) only[wpS,wpT,Nat.reduceEqDiff,Nat.reduceLeDiff,Nat.reduceAdd,zc96,ld96]
 obtain⟨H0,hH0,n0,E0,g0,g1,g2⟩:=boxes3 h [a1,s1,b1,t1] [a2,s2,b2,t2] ZR
 rw[←hH0]
 clear hH0
 simp -dsimp (maxSteps:=1000000) (disch:=first|omega|(simp only[new_n,put_n];omega)|decide +kernel|(repeat first|rw[new_n]|rw[put_n])) only[tk4']
 refine call (rcmp_ok (hv.keep E0.keep) (hw.keep E0.keep) qx qy hk) ?_
 rintro _ h1 ⟨X1,rfl⟩
 have m1:=X1.n
 have kg:=X1.kept (by omega) g2
 have XE:=(E0.trans X1).keep
 by_cases hxy:x≤y
 ·have d1:decide ((if x<y then (-1:Int) else if x=y then 0 else 1)≤0)=true:=decide_eq_true (by
   split
   ·omega
   ·split
    ·omega
    ·rename_i h1 h2
     exact absurd (Rat.le_antisymm hxy (Rat.not_lt.1 h1)) h2)
  rw[if_pos hxy]
  simp -dsimp (maxSteps:=1000000) (disch:=first|omega|(simp only[new_n,put_n];omega)|decide +kernel|(repeat first|rw[new_n]|rw[put_n])) only[wpS,wpT,Nat.reduceEqDiff,Nat.reduceLeDiff,Nat.reduceAdd,ld96,st96,d1,row_of (X1.kept (by omega) g0),kg,tk4',o1,o2,o3,o4]
  have kp:=(Keep.refl h1).put kg (.cells [a1,s1,b1,t1] 0 none)
  exact⟨(E0.trans X1).put (by omega) _,PRat.keep (hv.keep XE) kp⟩
 ·have d1:decide ((if x<y then (-1:Int) else if x=y then 0 else 1)≤0)=false:=decide_eq_false (by
   rw[if_neg (fun h=>hxy (Rat.le_of_lt h)),if_neg (fun h=>hxy (by rw[h];exact Rat.le_refl))]
   omega)
  rw[if_neg hxy]
  simp -dsimp (maxSteps:=1000000) (disch:=first|omega|(simp only[new_n,put_n];omega)|decide +kernel|(repeat first|rw[new_n]|rw[put_n])) only[wpS,wpT,Nat.reduceEqDiff,Nat.reduceLeDiff,Nat.reduceAdd,ld96,st96,d1,row_of (X1.kept (by omega) g1),kg,tk4',o5,o6,o7,o8]
  have kp:=(Keep.refl h1).put kg (.cells [a2,s2,b2,t2] 0 none)
  exact⟨(E0.trans X1).put (by omega) _,PRat.keep (hw.keep XE) kp⟩
theorem QB.min {a b:Nat} {x y:Rat} (hx:QB a x) (hy:QB b y):QB (a+b) (if x≤y then x else y):=by
 split
 ·exact hx.mono (by omega)
 ·exact hy.mono (by omega)
set_option maxHeartbeats 2000000 in
theorem rgreater_ok {h:IH} {v w:Value} {x y:Rat} {a b:Nat} (hv:PRat h v x) (hw:PRat h w y) (qx:QB a x) (qy:QB b y) (hk:a+b<16000000):WV Proofs.Tryz.prog (.func (.func 115) #[] #[]) [v,w] h fun r h'=>Ext h h'∧PRat h' r (-(if -x ≤ -y then -x else -y)):=by
 obtain⟨a1,s1,b1,t1,rfl,hn1,hd1,c1,o1,c2,o2,o3,o4⟩:=hv.parts
 obtain⟨a2,s2,b2,t2,rfl,hn2,hd2,c5,o5,c6,o6,o7,o8⟩:=hw.parts
 refine enter (nt:=11) (rs:=[.cell 4 96]) Proofs.Tryz.func115 rfl rfl rfl (by simp) ?_
 simp -dsimp (disch:=omega) only[wpS,Nat.reduceEqDiff,Nat.reduceAdd,zc96]
 obtain⟨H0,hH0,n0,E0,g0,g1,g2⟩:=boxes3 h [a1,s1,b1,t1] [a2,s2,b2,t2] ZR
 rw[←hH0]
 clear hH0
 have X0:=Ext.refl H0
 have L2:=(pl4 g1).2.2
 refine drawn [(2,[1])] (by kernel_rfl) (by kernel_rfl) rfl ?_
 simp -dsimp (disch:=omega) only[wpS,wpT,Nat.reduceEqDiff,Nat.reduceLeDiff,Nat.reduceAdd,ld96,row_of g0,tk4']
 refine call (rturned_ok (hv.keep E0.keep)) ?_
 rintro r1 k1 ⟨X1,p1⟩
 simp -dsimp (disch:=omega) only[wpS,wpT,Nat.reduceEqDiff,Nat.reduceLeDiff,Nat.reduceAdd,ld96,row_of (X1.kept (by omega) g1),tk4']
 refine call (rturned_ok (hw.keep (E0.trans X1).keep)) ?_
 rintro r2 k2 ⟨Y2,p2⟩
 have X2:=X1.trans Y2
 simp -dsimp (disch:=omega) only[wpS,Nat.reduceEqDiff]
 refine call (rlesser_ok (p1.keep Y2.keep) p2 qx.neg qy.neg hk) ?_
 rintro r3 k3 ⟨Y3,p3⟩
 have X3:=X2.trans Y3
 simp -dsimp (disch:=omega) only[wpS,Nat.reduceEqDiff]
 refine call (rturned_ok p3) ?_
 rintro r4 k4 ⟨Y4,p4⟩
 have X4:=X3.trans Y4
 have m4:=X4.n
 obtain⟨a9,s9,b9,t9,rfl,hn9,hd9,c9,o9,c10,o10,o11,o12⟩:=p4.parts
 have kg:=X4.kept (by omega) g2
 simp -dsimp (disch:=omega) only[wpS,wpT,Nat.reduceEqDiff,Nat.reduceLeDiff,Nat.reduceAdd,st96,kg,o9,o10,o11,o12]
 refine⟨by repeat' first|refine wpSteady_c2 ?_ ?_|refine wpSteady_t2 ?_ ?_|exact wpSteady_one rfl rfl rfl rfl (steady_ext (H0:=H0) rfl (by omega) (by assumption) (by assumption) (by with_reducible assumption)),?_⟩
 simp -dsimp (disch:=omega) only[wpS,wpT,Nat.reduceEqDiff,Nat.reduceLeDiff,Nat.reduceAdd,ld96,tk4']
 have kp:=(Keep.refl k4).put kg (.cells [a9,s9,b9,t9] 0 none)
 exact⟨(E0.trans X4).put (by omega) _,p4.keep kp⟩
end Go.Id

/-! Contracts: share's operations on two shares: Div, Max, Min, Sub, Neg. -/
namespace Go.Id
open Go
theorem rOf_ne {p:Nat×Nat} (h:p.1<W8) (ok:okS p.1 p.2) (h0:p.1≠0):rOf p≠0:=by
 intro e
 have:=(rOf_parts ok).1
 rw[e] at this
 exact h0 ((wdI_zero_iff h).1 this.symm)
set_option maxHeartbeats 2000000 in
theorem shdiv_ok {h:IH} {p1 p2:Nat×Nat} (h1:p1.1<W8∧p1.2<W8) (h2:p2.1<W8∧p2.2<W8) (ok1:okS p1.1 p1.2) (ok2:okS p2.1 p2.2) (n0:p2.1≠0):WV Proofs.Tryz.prog (.func (.func 53) #[] #[]) [shV p1.1 p1.2,shV p2.1 p2.2] h fun r h'=>Ext h h'∧r=toldV (rOf p1 / rOf p2):=by
 have q1:=qb512 (p:=p1) h1.1 h1.2 ok1
 have q2:=qb512 (p:=p2) h2.1 h2.2 ok2
 have y0:=rOf_ne h2.1 ok2 n0
 obtain⟨n,d,e,ht⟩:=toldV_form (rOf p1 / rOf p2)
 have hz:binop Proofs.Tryz.prog .eql 45 (.tmp 12) (.tmp 13) (.agg (wdC p2.1).toArray) (.agg #[ZW,ZW,ZW,ZW,ZW,ZW,ZW,ZW])=some (.bool false):=by
  rw[wd_zero,wdV,wd_eql h2.1 (by have:=H8_two;have:=H8_pos;omega)]
  rw[decide_eq_false n0]
 refine enter (nt:=25) (rs:=[.cell 4 47,.tmp 5]) Proofs.Tryz.func53 rfl rfl rfl (by simp) ?_
 simp -dsimp (maxSteps:=1000000) (disch:=first|omega|(simp only[new_n,put_n];omega)|decide +kernel|(repeat first|rw[new_n]|rw[put_n])) only[wpS,Nat.reduceEqDiff,Nat.reduceAdd,zc47,ld47,shV_cells]
 obtain⟨H0,hH0,n0,E0,g0,g1,g2⟩:=boxes3 h (shC p1.1 p1.2) (shC p2.1 p2.2) Z16
 rw[←hH0]
 clear hH0
 have X0:=Ext.refl H0
 have bb : ∀hx:IH,buildSlice Proofs.Tryz.prog hx 175 2 [(0,.agg (shC p1.1 p1.2).toArray),(1,.agg (shC p2.1 p2.2).toArray)]=some (.slice (some ⟨2*hx.n,0,none⟩) 2 5,hx.new (.cells (shL [(p1.1,p1.2),(p2.1,p2.2)]) 16 none)):=fun hx=>build2 p1.1 p1.2 p2.1 p2.2
 simp -dsimp (maxSteps:=1000000) (disch:=first|omega|(simp only[new_n,put_n];omega)|decide +kernel|(repeat first|rw[new_n]|rw[put_n])) only[wpS,Nat.reduceEqDiff,Nat.reduceLeDiff,ld47,row_of g1,shC_len,sh_take,bb]
 refine call (shvalid_ok (two_sl h1.1 h1.2 h2.1 h2.2)) ?_
 rintro _ k1 ⟨Y1,rfl⟩
 have X1:Ext H0 k1:=(X0.new _).trans Y1
 have dt:decide (∀p ∈ [(p1.1,p1.2),(p2.1,p2.2)],okS p.1 p.2)=true:=decide_eq_true (by
  intro p hp
  simp at hp
  rcases hp with rfl|rfl
  ·exact ok1
  ·exact ok2)
 rw[dt]
 have m1:=X1.n
 simp -dsimp (maxSteps:=1000000) (disch:=first|omega|(simp only[new_n,put_n];omega)|decide +kernel|(repeat first|rw[new_n]|rw[put_n])) only[wpS,wpT,Nat.reduceEqDiff,Nat.reduceLeDiff,ld47,fa47_0,ld45,bv45,row_of (X1.kept (by omega) g1),row_of (X1.kept (by omega) g0),shC_len,sh_take1,hz,sh_take]
 refine call (rtwo_ok (q:=rOf p1 / rOf p2) h1.1 h1.2 h2.1 h2.2 ok1 ok2 (fun h' v w a b=>rover_ok a b q1 q2 (by omega) y0)) ?_
 rintro _ k2 ⟨Y2,x,rfl,px⟩
 simp -dsimp (maxSteps:=1000000) (disch:=first|omega|(simp only[new_n,put_n];omega)|decide +kernel|(repeat first|rw[new_n]|rw[put_n])) only[wpS,Nat.reduceEqDiff]
 refine call (shtold_ok px) ?_
 rintro _ k3 ⟨Y3,rfl⟩
 rw[ht]
 have X3:=X1.trans (Y2.trans Y3)
 have m3:=X3.n
 have kg:=X3.kept (by omega) g2
 simp -dsimp (maxSteps:=1000000) (disch:=first|omega|(simp only[new_n,put_n];omega)|decide +kernel|(repeat first|rw[new_n]|rw[put_n])) only[wpS,wpT,Nat.reduceEqDiff,Nat.reduceLeDiff,Nat.reduceAdd,ld47,st47,kg,shV_cells,shC_len,shC_all,sh_sp3,sh_take]
 exact⟨(E0.trans X3).put (by omega) _,rfl⟩
def qmax (x y:Rat):Rat:=if x≤y then y else x
theorem qmax_neg (x y:Rat) : -(if -x ≤ -y then -x else -y)=qmax x y:=by
 unfold qmax
 by_cases c : -x ≤ -y
 ·rw[if_pos c]
  by_cases c2:x≤y
  ·rw[if_pos c2];have:x=y:=Rat.le_antisymm c2 (by grind);grind
  ·rw[if_neg c2];grind
 ·rw[if_neg c,if_pos (by grind)];grind
set_option maxHeartbeats 2000000 in
theorem shmax_ok {h:IH} {p1 p2:Nat×Nat} (h1:p1.1<W8∧p1.2<W8) (h2:p2.1<W8∧p2.2<W8) (ok1:okS p1.1 p1.2) (ok2:okS p2.1 p2.2):WV Proofs.Tryz.prog (.func (.func 85) #[] #[]) [shV p1.1 p1.2,shV p2.1 p2.2] h fun r h'=>Ext h h'∧r=toldV (qmax (rOf p1) (rOf p2)):=by
 have q1:=qb512 (p:=p1) h1.1 h1.2 ok1
 have q2:=qb512 (p:=p2) h2.1 h2.2 ok2
 obtain⟨n,d,e,ht⟩:=toldV_form (qmax (rOf p1) (rOf p2))
 refine enter (nt:=14) (rs:=[.cell 4 47,.tmp 5]) Proofs.Tryz.func85 rfl rfl rfl (by simp) ?_
 simp -dsimp (maxSteps:=1000000) (disch:=first|omega|(simp only[new_n,put_n];omega)|decide +kernel|(repeat first|rw[new_n]|rw[put_n])) only[wpS,Nat.reduceEqDiff,Nat.reduceAdd,zc47,ld47,shV_cells]
 obtain⟨H0,hH0,n0,E0,g0,g1,g2⟩:=boxes3 h (shC p1.1 p1.2) (shC p2.1 p2.2) Z16
 rw[←hH0]
 clear hH0
 simp -dsimp (maxSteps:=1000000) (disch:=first|omega|(simp only[new_n,put_n];omega)|decide +kernel|(repeat first|rw[new_n]|rw[put_n])) only[wpS,Nat.reduceEqDiff,Nat.reduceLeDiff,ld47,row_of g1,shC_len,sh_take]
 refine call (rtwo_ok (q:=qmax (rOf p1) (rOf p2)) h1.1 h1.2 h2.1 h2.2 ok1 ok2 (fun h' v w a b=>by rw[←qmax_neg];exact rgreater_ok a b q1 q2 (by omega))) ?_
 rintro _ k1 ⟨X1,x,rfl,px⟩
 simp -dsimp (maxSteps:=1000000) (disch:=first|omega|(simp only[new_n,put_n];omega)|decide +kernel|(repeat first|rw[new_n]|rw[put_n])) only[wpS,Nat.reduceEqDiff]
 refine call (shtold_ok px) ?_
 rintro _ k2 ⟨X2,rfl⟩
 rw[ht]
 have X12:=X1.trans X2
 have m1:=X12.n
 have kg:=X12.kept (by omega) g2
 simp -dsimp (maxSteps:=1000000) (disch:=first|omega|(simp only[new_n,put_n];omega)|decide +kernel|(repeat first|rw[new_n]|rw[put_n])) only[wpS,wpT,Nat.reduceEqDiff,Nat.reduceLeDiff,Nat.reduceAdd,ld47,st47,kg,shV_cells,shC_len,shC_all,sh_sp3,sh_take]
 exact⟨(E0.trans X12).put (by omega) _,rfl⟩
end Go.Id

/-! Contracts: the reference's fractions: lowest terms. -/
namespace Go.Id
open Go
def RPair (h:IH) (v:Value) (n d:Int):Prop:=∃a s b t,v=.agg #[a,s,b,t]∧LongIs h (.agg #[a,s]) n∧LongIs h (.agg #[b,t]) d
theorem RPair.keep {h h':IH} {v:Value} {n d:Int} (p:RPair h v n d) (e:Keep h h'):RPair h' v n d:=let ⟨a,s,b,t,h1,h2,h3⟩:=p;⟨a,s,b,t,h1,h2.keep e,h3.keep e⟩
def RRat (h:IH) (v:Value) (q:Rat):Prop:=RPair h v q.num q.den
theorem RRat.keep {h h':IH} {v:Value} {q:Rat} (p:RRat h v q) (e:Keep h h'):RRat h' v q:=RPair.keep p e
theorem LongIs.cells2 {h:IH} {v:Value} {z:Int} (d:LongIs h v z) : ∃s,v=.agg #[.bool (decide (z<0)),s]∧s.cells = #[s]∧cellOK s=true:=let ⟨s,n,a,b,c,_⟩:=d.form;⟨s,a,b,c⟩
theorem LongIs.co {h:IH} {a s:Value} {z:Int} (d:LongIs h (.agg #[a,s]) z):a=.bool (decide (z<0))∧s.cells = #[s]∧cellOK s=true:=by
 obtain⟨s',h1,h2,h3⟩:=d.cells2
 cases h1
 exact⟨rfl,h2,h3⟩
theorem low_turn {n d:Int} (hd:d<0):n / (-(Int.gcd n d:Int))=(Rat.divInt n d).num∧d / (-(Int.gcd n d:Int))=(Rat.divInt n d).den:=by
 obtain⟨a,b⟩:=low_neg (n:=n) hd
 rw[Int.ediv_neg,Int.ediv_neg]
 exact⟨a,b⟩
set_option maxHeartbeats 4000000 in
theorem rlowest_ok {h:IH} {v w:Value} {n d:Int} (hv:LongIs h v n) (hw:LongIs h w d) (sn:SmallI n) (sd:SmallI d) (d0:d≠0) :
  WV Proofs.Tryz.prog (.func (.func 122) #[] #[]) [v,w] h fun r h'=>Ext h h'∧RRat h' r (Rat.divInt n d):=by
 obtain⟨s,rfl,c1,o1⟩:=hv.cells2
 obtain⟨t,rfl,c2,o2⟩:=hw.cells2
 have sg:SmallI (Int.gcd n d:Int):=by
  have h1:Int.gcd n d≤d.natAbs:=Nat.le_of_dvd (by omega) (Nat.gcd_dvd_right _ _)
  exact small_nat (sd.le h1)
 refine enter (nt:=32) (rs:=[.cell 4 135]) Proofs.Tryz.func122 rfl rfl rfl (by simp) ?_
 simp -dsimp (maxSteps:=1000000) (disch:=first|omega|(simp only[new_n,put_n];omega)|decide +kernel|(repeat first|rw[new_n]|rw[put_n])) only[wpS,wpT,Nat.reduceEqDiff,Nat.reduceLeDiff,Nat.reduceAdd,zc135,ld133]
 obtain⟨H0,hH0,n0,E0,g0,g1,g2⟩:=boxes3 h [.bool (decide (n<0)),s] [.bool (decide (d<0)),t] ZR
 rw[←hH0]
 clear hH0
 refine call (divisor_ok (hv.keep E0.keep) (hw.keep E0.keep) sn sd) ?_
 rintro _ h1 ⟨hE1,hg⟩
 obtain⟨sg1,rfl,c3,o3⟩:=hg.cells2
 have hng:decide ((Int.gcd n d:Int)<0)=false:=decide_eq_false (by omega)
 rw[hng] at hg ⊢
 have x1:=E0.trans hE1
 have n1:=(hE1).n;try simp only[new_n,put_n] at n1
 simp -dsimp (maxSteps:=1000000) (disch:=first|omega|(simp only[new_n,put_n];omega)|decide +kernel|(repeat first|rw[new_n]|rw[put_n])) only[wpS,wpT,Nat.reduceEqDiff,Nat.reduceLeDiff,Nat.reduceAdd,zc133,st133,fa133_0,ld4,o3,row_of (hE1.kept (by omega) g1),tk2']
 obtain⟨H2,hH2⟩ : ∃H2,H2=(h1.new (.cells ZL 0 none)).put h1.n (.cells [.bool false,sg1] 0 none):=⟨_,rfl⟩
 have e2:Ext h1 H2:=by rw[hH2];exact((Ext.refl _).new _).put (Nat.le_refl _) _
 have n2:H2.n=h1.n+1:=by rw[hH2];rfl
 have gg:H2.ext.get h1.n=some (.cells [.bool false,sg1] 0 none):=by rw[hH2];simp (disch:=first|omega|(simp only[new_n,put_n];omega)|(repeat first|rw[new_n]|rw[put_n])) only[get_put_same]
 rw[←hH2]
 clear hH2
 have x2:=x1.trans e2
 have kk0:=e2.kept (by omega) (hE1.kept (by omega) g0)
 have kk1:=e2.kept (by omega) (hE1.kept (by omega) g1)
 have kk2:=e2.kept (by omega) (hE1.kept (by omega) g2)
 refine bq_cut (fun fr2 H3 => ∃(g:Int) (ag sg2:Value),Ext h H3∧h1.n+1≤H3.n∧H3.ext.get h.n=some (.cells [.bool (decide (n<0)),s] 0 none)∧H3.ext.get (h.n+1)=some (.cells [.bool (decide (d<0)),t] 0 none)∧H3.ext.get (h.n+1+1)=some (.cells ZR 0 none)∧H3.ext.get h1.n=some (.cells [ag,sg2] 0 none)∧LongIs H3 (.agg #[ag,sg2]) g∧SmallI g∧g≠0∧n / g=(Rat.divInt n d).num∧d / g=(Rat.divInt n d).den ∧
  LongIs H3 (.agg #[.bool (decide (n<0)),s]) n∧LongIs H3 (.agg #[.bool (decide (d<0)),t]) d∧fget fr2 2=some (ptr (2*h.n) 0)∧fget fr2 3=some (ptr (2*(h.n+1)) 0)∧fget fr2 4=some (ptr (2*(h.n+1+1)) 0)∧fget fr2 5=some (ptr (2*h1.n) 0)) (fun hb=>?_) (fun hb=>?_) ?_
 ·have hd:d<0:=by simpa using hb
  obtain⟨b1,b2⟩:=low_turn (n:=n) hd
  simp -dsimp (maxSteps:=1000000) (disch:=first|omega|(simp only[new_n,put_n];omega)|decide +kernel|(repeat first|rw[new_n]|rw[put_n])) only[wpS,wpT,Nat.reduceEqDiff,Nat.reduceLeDiff,Nat.reduceAdd,ld133,row_of gg,tk2']
  refine call (turn_ok (hg.keep e2.keep)) ?_
  rintro _ h3 ⟨hE3,hT⟩
  obtain⟨sT,rfl,c4,o4⟩:=hT.cells2
  have n3:=(hE3).n;try simp only[new_n,put_n] at n3
  have kg:=hE3.kept (by omega) gg
  simp -dsimp (maxSteps:=1000000) (disch:=first|omega|(simp only[new_n,put_n];omega)|decide +kernel|(repeat first|rw[new_n]|rw[put_n])) only[wpS,wpT,Nat.reduceEqDiff,Nat.reduceLeDiff,Nat.reduceAdd,st133,kg,o4]
  have kp:=(Keep.refl h3).put kg (.cells [.bool (decide (-(Int.gcd n d:Int)<0)),sT] 0 none)
  have x3:=x2.trans hE3
  have hng:=gcd_ne (n:=n) (d:=d) (by omega)
  refine⟨-(Int.gcd n d:Int),_,sT,x3.put (by omega) _,by simp only[put_n];omega,by simp (disch:=first|omega|(simp only[new_n,put_n];omega)|(repeat first|rw[new_n]|rw[put_n])) only[get_put_old];exact hE3.kept (by omega) kk0,by simp (disch:=first|omega|(simp only[new_n,put_n];omega)|(repeat first|rw[new_n]|rw[put_n])) only[get_put_old];exact hE3.kept (by omega) kk1,by simp (disch:=first|omega|(simp only[new_n,put_n];omega)|(repeat first|rw[new_n]|rw[put_n])) only[get_put_old];exact hE3.kept (by omega) kk2,get_put_same _ _ rfl,hT.keep kp,by rw[SmallI,Int.natAbs_neg];exact sg,by omega,b1,b2,hv.keep (x3.keep.trans kp),hw.keep (x3.keep.trans kp),by simp,by simp,by simp,by simp⟩
 ·have hd:0<d:=by
   have : ¬d<0:=by simpa using hb
   omega
  obtain⟨b1,b2⟩:=low_pos (n:=n) hd
  simp -dsimp (maxSteps:=1000000) (disch:=first|omega|(simp only[new_n,put_n];omega)|decide +kernel|(repeat first|rw[new_n]|rw[put_n])) only[wpS,wpT]
  exact⟨Int.gcd n d,_,sg1,x2,by omega,kk0,kk1,kk2,gg,hg.keep e2.keep,sg,gcd_ne d0,b1,b2,hv.keep x2.keep,hw.keep x2.keep,by simp,by simp,by simp,by simp⟩
 clear hg kk0 kk1 kk2 gg x2 e2
 rintro fr2 H3 ⟨g,ag,sg2,x3,n3,k0,k1,k2,kg,hg,sgg,g0',b1,b2,hv3,hw3,f2,f3,f4,f5⟩
 rw[d_seq]
 simp -dsimp (maxSteps:=1000000) (disch:=first|omega|(simp only[new_n,put_n];omega)|decide +kernel|(repeat first|rw[new_n]|rw[put_n])) only[wpS,wpT,Nat.reduceEqDiff,Nat.reduceLeDiff,Nat.reduceAdd,ld133,f2,f5,row_of k0,row_of kg,tk2']
 refine call (lparts_ok hv3 hg sn sgg g0') ?_
 rintro _ h4 ⟨hE4,q,u,rfl,hq,hu⟩
 rw[b1] at hq
 obtain⟨sq,rfl,c4,o4⟩:=hq.cells2
 obtain⟨su,rfl,c5,o5⟩:=hu.cells2
 have n4:=(hE4).n;try simp only[new_n,put_n] at n4
 have x4:=x3.trans hE4
 simp -dsimp (maxSteps:=1000000) (disch:=first|omega|(simp only[new_n,put_n];omega)|decide +kernel|(repeat first|rw[new_n]|rw[put_n])) only[wpS,wpT,Nat.reduceEqDiff,Nat.reduceLeDiff,Nat.reduceAdd,ld133,zc133,st133,o4,o5,f3,f5,row_of (hE4.kept (by omega) k1),row_of (hE4.kept (by omega) kg),tk2']
 obtain⟨H5,hH5⟩ : ∃H4,H4=((((h4.new (.cells ZL 0 none)).new (.cells ZL 0 none)).put h4.n (.cells [.bool (decide ((Rat.divInt n d).num<0)),sq] 0 none)).put (h4.n+1) (.cells [.bool (decide (n % g<0)),su] 0 none)):=⟨_,rfl⟩
 have e5:Ext h4 H5:=by rw[hH5];exact((((Ext.refl _).new _).new _).put (Nat.le_refl _) _).put (by omega) _
 have n5:H5.n=h4.n+2:=by rw[hH5];rfl
 have gq:H5.ext.get h4.n=some (.cells [.bool (decide ((Rat.divInt n d).num<0)),sq] 0 none):=by rw[hH5];simp (disch:=first|omega|(simp only[new_n,put_n];omega)|(repeat first|rw[new_n]|rw[put_n])) only[get_put_same,get_put_old]
 rw[←hH5]
 clear hH5
 refine call (lparts_ok (hw3.keep (hE4.trans e5).keep) (hg.keep (hE4.trans e5).keep) sd sgg g0') ?_
 rintro _ h6 ⟨hE6,q2,u2,rfl,hq2,hu2⟩
 rw[b2] at hq2
 obtain⟨sq2,rfl,c6,o6⟩:=hq2.cells2
 obtain⟨su2,rfl,c7,o7⟩:=hu2.cells2
 have n6:=(hE6).n;try simp only[new_n,put_n] at n6
 have hdf:decide (((Rat.divInt n d).den:Int)<0)=false:=decide_eq_false (by omega)
 rw[hdf] at hq2 ⊢
 have x6:=(x4.trans e5).trans hE6
 have kq:=hE6.kept (by omega) gq
 have kr:=hE6.kept (by omega) (e5.kept (by omega) (hE4.kept (by omega) k2))
 simp -dsimp (maxSteps:=1000000) (disch:=first|omega|(simp only[new_n,put_n];omega)|decide +kernel|(repeat first|rw[new_n]|rw[put_n])) only[wpS,wpT,Nat.reduceEqDiff,Nat.reduceLeDiff,Nat.reduceAdd,ld133,zc133,st133,bv135,pl135_0,pl135_1,st135,ld135,o6,o7,f4,row_of kq,kr,o4,tk2',tk4']
 refine⟨?_,_,_,_,_,rfl,hq.keep ((e5.trans hE6).keep.trans ?_),hq2.keep ?_⟩
 ·exact((((x6.new _).new _).put (by omega) _).put (by omega) _).put (by omega) _
 ·exact(((((Keep.refl h6).new _).new _).put (cs:=ZL) (f:=none) (by simp (disch:=first|omega|(simp only[new_n,put_n];omega)|(repeat first|rw[new_n]|rw[put_n])) only[get_new_same,get_new_old]) _).put (cs:=ZL) (f:=none) (by simp (disch:=first|omega|(simp only[new_n,put_n];omega)|(repeat first|rw[new_n]|rw[put_n])) only[get_new_same,get_put_old]) _).put (cs:=ZR) (f:=none) (by simp (disch:=first|omega|(simp only[new_n,put_n];omega)|(repeat first|rw[new_n]|rw[put_n])) only[get_new_old,get_put_old];exact kr) _
 ·exact(((((Keep.refl h6).new _).new _).put (cs:=ZL) (f:=none) (by simp (disch:=first|omega|(simp only[new_n,put_n];omega)|(repeat first|rw[new_n]|rw[put_n])) only[get_new_same,get_new_old]) _).put (cs:=ZL) (f:=none) (by simp (disch:=first|omega|(simp only[new_n,put_n];omega)|(repeat first|rw[new_n]|rw[put_n])) only[get_new_same,get_put_old]) _).put (cs:=ZR) (f:=none) (by simp (disch:=first|omega|(simp only[new_n,put_n];omega)|(repeat first|rw[new_n]|rw[put_n])) only[get_new_old,get_put_old];exact kr) _
end Go.Id

/-! Contracts: the reference's fractions: sums, differences, products, quotients, order. -/
namespace Go.Id
open Go
theorem RRat.parts {h:IH} {v:Value} {q:Rat} (p:RRat h v q) : ∃a s b t,v=.agg #[a,s,b,t]∧LongIs h (.agg #[a,s]) q.num∧LongIs h (.agg #[b,t]) q.den∧s.cells = #[s]∧cellOK s=true∧t.cells = #[t]∧cellOK t=true∧cellOK a=true∧cellOK b=true:=by
 obtain⟨a,s,b,t,rfl,h1,h2⟩:=p
 obtain⟨rfl,c1,o1⟩:=h1.co
 obtain⟨rfl,c2,o2⟩:=h2.co
 exact⟨_,s,_,t,rfl,h1,h2,c1,o1,c2,o2,rfl,rfl⟩
theorem ql4 {H:IH} {k:Nat} {a s b t:Value} (g:H.ext.get k=some (.cells [a,s,b,t] 0 none)):load Proofs.Tryz.prog H 133 (ptr (2*k) 0)=some (.agg #[a,s])∧load Proofs.Tryz.prog H 133 (ptr (2*k) 2)=some (.agg #[b,t])∧load Proofs.Tryz.prog H 135 (ptr (2*k) 0)=some (.agg #[a,s,b,t]):=by
 have r:=row_of g
 refine⟨?_,?_,?_⟩
 ·simp -dsimp (disch:=omega) only[wpS,wpT,Nat.reduceLeDiff,Nat.reduceAdd,ld133,r]
  rfl
 ·simp -dsimp (disch:=omega) only[wpS,wpT,Nat.reduceLeDiff,Nat.reduceAdd,ld133,r]
  rfl
 ·rw[load_agg ag135 sz135,rd_of r]
  rfl
set_option maxHeartbeats 2000000 in
theorem qover_ok {h:IH} {v w:Value} {x y:Rat} {a b:Nat} (hv:RRat h v x) (hw:RRat h w y) (qx:QB a x) (qy:QB b y) (hk:a+b<16000000) (y0:y≠0) :
  WV Proofs.Tryz.prog (.func (.func 119) #[] #[]) [v,w] h fun r h'=>Ext h h'∧RRat h' r (x / y):=by
 obtain⟨a1,s1,b1,t1,rfl,hn1,hd1,c1,o1,c2,o2,o3,o4⟩:=hv.parts
 obtain⟨a2,s2,b2,t2,rfl,hn2,hd2,c5,o5,c6,o6,o7,o8⟩:=hw.parts
 refine enter (nt:=16) (rs:=[.cell 4 135]) Proofs.Tryz.func119 rfl rfl rfl (by simp) ?_
 simp -dsimp (disch:=omega) only[wpS,Nat.reduceEqDiff,Nat.reduceAdd,zc135]
 obtain⟨H0,hH0,n0,E0,g0,g1,g2⟩:=boxes3 h [a1,s1,b1,t1] [a2,s2,b2,t2] ZR
 rw[←hH0]
 clear hH0
 have X0:=Ext.refl H0
 obtain⟨L1,L2,_⟩:=ql4 g0
 obtain⟨L3,L4,_⟩:=ql4 g1
 have sb1:SmallI (x.num*y.den):=small_bits (mul_bits qx.1 qy.den') hk
 have sb2:SmallI ((x.den:Int)*y.num):=small_bits (mul_bits qx.den' qy.1) hk
 refine drawn [(6,[4]),(8,[4])] (by kernel_rfl) (by kernel_rfl) rfl ?_
 simp -dsimp (disch:=omega) only[wpS,wpT,Nat.reduceEqDiff,Nat.reduceLeDiff,Nat.reduceAdd,fa135_0,ld133,fa135_1,row_of g0,row_of g1,tkA,tkB]
 refine call (times_ok (hn1.keep E0.keep) (hd2.keep E0.keep) (half_bits qx.1 (by omega)) (half_bits qy.den' (by omega))) ?_
 rintro r1 h1 ⟨X1,p1⟩
 have m1:=X1.n
 simp -dsimp (disch:=omega) only[wpS,wpT,Nat.reduceEqDiff,Nat.reduceLeDiff,Nat.reduceAdd,fa135_0,ld133,fa135_1,row_of (X1.kept (by omega) g0),row_of (X1.kept (by omega) g1),tkA,tkB]
 refine call (times_ok (hd1.keep (E0.trans X1).keep) (hn2.keep (E0.trans X1).keep) (half_bits qx.den' (by omega)) (half_bits qy.1 (by omega))) ?_
 rintro r2 h2 ⟨hE2,p2⟩
 have m2:=hE2.n
 have X2:=X1.trans hE2
 simp -dsimp (disch:=omega) only[wpS,Nat.reduceEqDiff]
 refine call (rlowest_ok (p1.keep hE2.keep) p2 sb1 sb2 (Int.mul_ne_zero (den_ne x) (num_ne y0))) ?_
 rintro r5 h5 ⟨hE5,p5⟩
 have m5:=hE5.n
 have X5:=X2.trans hE5
 rw[←rat_div] at p5
 obtain⟨a3,s3,b3,t3,rfl,_,_,d1,o1,d2,o2,o3,o4⟩:=p5.parts
 have kg:=X5.kept (by omega) g2
 simp -dsimp (disch:=omega) only[wpS,wpT,Nat.reduceEqDiff,Nat.reduceLeDiff,Nat.reduceAdd,st135,kg,o1,o2,o3,o4]
 refine⟨by repeat' first|refine wpSteady_c2 ?_ ?_|refine wpSteady_t2 ?_ ?_|exact wpSteady_one rfl rfl rfl rfl (steady_ext (H0:=H0) rfl (by omega) (by assumption) (by assumption) (by with_reducible assumption)),?_⟩
 simp -dsimp (disch:=omega) only[wpS,wpT,Nat.reduceEqDiff,Nat.reduceLeDiff,Nat.reduceAdd,ld135,tk4']
 exact⟨(E0.trans X5).put (by omega) _,p5.keep ((Keep.refl _).put kg _)⟩
theorem ord_rat (x y:Rat):(if x.num*y.den<y.num*x.den then (-1:Int) else if y.num*x.den<x.num*y.den then 1 else 0)=if x<y then -1 else if x=y then 0 else 1:=by
 simp only[Rat.lt_iff,Rat.eq_iff_mul_eq_mul]
 split
 ·rfl
 ·split<;>split<;>first|rfl|omega
set_option maxHeartbeats 2000000 in
theorem qorder_ok {h:IH} {v w:Value} {x y:Rat} {a b:Nat} (hv:RRat h v x) (hw:RRat h w y) (qx:QB a x) (qy:QB b y) (hk:a+b<16000000) :
  WV Proofs.Tryz.prog (.func (.func 120) #[] #[]) [v,w] h fun r h'=>Ext h h'∧r=KI (if x<y then -1 else if x=y then 0 else 1):=by
 obtain⟨a1,s1,b1,t1,rfl,hn1,hd1,c1,o1,c2,o2,o3,o4⟩:=hv.parts
 obtain⟨a2,s2,b2,t2,rfl,hn2,hd2,c5,o5,c6,o6,o7,o8⟩:=hw.parts
 refine enter (nt:=16) (rs:=[.tmp 4]) Proofs.Tryz.func120 rfl rfl rfl (by simp) ?_
 simp -dsimp (disch:=omega) only[wpS,Nat.reduceEqDiff,Nat.reduceAdd]
 obtain⟨H0,hH0,n0,E0,g0,g1⟩:=boxes2 h [a1,s1,b1,t1] [a2,s2,b2,t2]
 rw[←hH0]
 clear hH0
 have X0:=Ext.refl H0
 obtain⟨L1,L2,_⟩:=ql4 g0
 obtain⟨L3,L4,_⟩:=ql4 g1
 have sb1:SmallI (x.num*y.den):=small_bits (mul_bits qx.1 qy.den') hk
 have sb2:SmallI (y.num*x.den):=small_bits (by rw[Nat.add_comm];exact mul_bits qy.1 qx.den') hk
 refine drawn [(6,[4]),(8,[4])] (by kernel_rfl) (by kernel_rfl) rfl ?_
 simp -dsimp (disch:=omega) only[wpS,wpT,Nat.reduceEqDiff,Nat.reduceLeDiff,Nat.reduceAdd,fa135_0,ld133,fa135_1,row_of g0,row_of g1,tkA,tkB]
 refine call (times_ok (hn1.keep E0.keep) (hd2.keep E0.keep) (half_bits qx.1 (by omega)) (half_bits qy.den' (by omega))) ?_
 rintro r1 h1 ⟨X1,p1⟩
 have m1:=X1.n
 simp -dsimp (disch:=omega) only[wpS,wpT,Nat.reduceEqDiff,Nat.reduceLeDiff,Nat.reduceAdd,fa135_0,ld133,fa135_1,row_of (X1.kept (by omega) g0),row_of (X1.kept (by omega) g1),tkA,tkB]
 refine call (times_ok (hn2.keep (E0.trans X1).keep) (hd1.keep (E0.trans X1).keep) (half_bits qy.1 (by omega)) (half_bits qx.den' (by omega))) ?_
 rintro r2 h2 ⟨hE2,p2⟩
 have m2:=hE2.n
 have X2:=X1.trans hE2
 simp -dsimp (disch:=omega) only[wpS,Nat.reduceEqDiff]
 refine call (lorder_ok (p1.keep hE2.keep) p2 sb1 sb2) ?_
 rintro _ h5 ⟨hE5,rfl⟩
 have X5:=X2.trans hE5
 rw[ord_rat]
 simp -dsimp (disch:=omega) only[wpS,Nat.reduceEqDiff]
 refine⟨by repeat' first|refine wpSteady_c2 ?_ ?_|refine wpSteady_t2 ?_ ?_|exact wpSteady_one rfl rfl rfl rfl (steady_ext (H0:=H0) rfl (by omega) (by assumption) (by assumption) (by with_reducible assumption)),?_⟩
 simp -dsimp (disch:=omega) only[wpS,wpT,Nat.reduceEqDiff,Nat.reduceAdd]
 exact E0.trans X5
end Go.Id
