/-
  Contracts: the program's fractions: lowest terms, sums, products, quotients. Contracts: the program's fractions: sums, differences, products, quotients, order. Contracts: the program's shares: read, told, checked. Contracts: the program's fractions of integers; shares made. Contracts: package diagnose: what is wrong with a chain; lists read; sums; means. Contracts: package diagnose: sums, means, squares, chains. Contracts: package diagnose: means, squares, chains. Loops over functions, whose rounds may lay their variable into memory and may end early.
-/
import Derived.Test.YthbkinefgmfgeaaGreatDiagnoseMovesAf
import Derived.Test.YthbkinefgmfgeaaGreatDiagnoseMovesAj
set_option linter.unusedVariables false
set_option linter.unusedSimpArgs false
set_option linter.defProp false
set_option linter.deprecated false
/-! Contracts: the program's fractions: lowest terms, sums, products, quotients. -/
namespace Go.Id
open Go
abbrev ZR:List Value:=[.bool false,.slice none 0 0,.bool false,.slice none 0 0]
def PPair (h:IH) (v:Value) (n d:Int):Prop:=∃a s b t,v=.agg #[a,s,b,t]∧PLong h (.agg #[a,s]) n∧PLong h (.agg #[b,t]) d
theorem PPair.keep {h h':IH} {v:Value} {n d:Int} (p:PPair h v n d) (e:Keep h h'):PPair h' v n d:=let ⟨a,s,b,t,h1,h2,h3⟩:=p;⟨a,s,b,t,h1,h2.keep e,h3.keep e⟩
def PRat (h:IH) (v:Value) (q:Rat):Prop:=PPair h v q.num q.den
theorem PRat.keep {h h':IH} {v:Value} {q:Rat} (p:PRat h v q) (e:Keep h h'):PRat h' v q:=PPair.keep p e
theorem PLong.cells2 {h:IH} {v:Value} {z:Int} (d:PLong h v z) : ∃s,v=.agg #[.bool (decide (z<0)),s]∧s.cells = #[s]∧cellOK s=true:=let ⟨s,n,a,b,c,_⟩:=d.form;⟨s,a,b,c⟩
theorem PLong.co {h:IH} {a s:Value} {z:Int} (d:PLong h (.agg #[a,s]) z):a=.bool (decide (z<0))∧s.cells = #[s]∧cellOK s=true:=by
 obtain⟨s',h1,h2,h3⟩:=d.cells2
 cases h1
 exact⟨rfl,h2,h3⟩
theorem half_bits {x k:Nat} (h:x≤2 ^ k) (hk:k<16000000):Half x:=by
 refine .mk (Nat.lt_of_le_of_lt h ?_)
 rw[pow_conv 4294967296 2 500000 32 16000000 (by decide) (by decide)]
 exact pow_lt2 2 k 16000000 (by decide) hk
theorem small_bits {x k:Nat} (h:x≤2 ^ k) (hk:k<16000000):Small x:=(half_bits h hk).small
set_option maxHeartbeats 4000000 in
theorem lowest_ok {h:IH} {v w:Value} {n d:Int} (hv:PLong h v n) (hw:PLong h w d) (sn:SmallI n) (sd:SmallI d) (d0:d≠0) :
  WV Proofs.Tryz.prog (.func (.func 115) #[] #[]) [v,w] h fun r h'=>Ext h h'∧PRat h' r (Rat.divInt n d):=by
 obtain⟨s,rfl,c1,o1⟩:=hv.cells2
 obtain⟨t,rfl,c2,o2⟩:=hw.cells2
 have sg:SmallI (Int.gcd n d:Int):=by
  have h1:Int.gcd n d≤d.natAbs:=Nat.le_of_dvd (by omega) (Nat.gcd_dvd_right _ _)
  exact small_nat (sd.le h1)
 refine enter (nt:=34) (rs:=[.cell 4 83]) Proofs.Tryz.func115 rfl rfl rfl (by simp) ?_
 simp -dsimp (maxSteps:=1000000) (disch:=first|omega|(simp only[new_n,put_n];omega)|decide +kernel|(repeat first|rw[new_n]|rw[put_n])) only[wpS,wpT,Nat.reduceEqDiff,Nat.reduceLeDiff,Nat.reduceAdd,zc83,ld81]
 obtain⟨H0,hH0,n0,E0,g0,g1,g2⟩:=boxes3 h [.bool (decide (n<0)),s] [.bool (decide (d<0)),t] ZR
 rw[←hH0]
 refine call (pcommon_ok (hv.keep E0.keep) (hw.keep E0.keep) sn sd) ?_
 rintro _ h1 ⟨hE1,hg⟩
 obtain⟨sg1,rfl,c3,o3⟩:=hg.cells2
 have hng:decide ((Int.gcd n d:Int)<0)=false:=decide_eq_false (by omega)
 rw[hng] at hg
 have x1:=E0.trans hE1
 have n1:=(hE1).n;try simp only[new_n,put_n] at n1
 have r0:=row_of (hE1.kept (by omega) g0)
 simp -dsimp (maxSteps:=1000000) (disch:=first|omega|(simp only[new_n,put_n];omega)|decide +kernel|(repeat first|rw[new_n]|rw[put_n])) only[wpS,wpT,Nat.reduceEqDiff,Nat.reduceLeDiff,Nat.reduceAdd,ld81,zc81,st81,o3,r0,tk2']
 obtain⟨H2,hH2⟩ : ∃H2,H2=(h1.new (.cells ZL 0 none)).put h1.n (.cells [.bool false,sg1] 0 none):=⟨_,rfl⟩
 have e2:Ext h1 H2:=by rw[hH2];exact((Ext.refl _).new _).put (Nat.le_refl _) _
 have n2:H2.n=h1.n+1:=by rw[hH2];rfl
 have gg:H2.ext.get h1.n=some (.cells [.bool false,sg1] 0 none):=by rw[hH2];simp (disch:=first|omega|(simp only[new_n,put_n];omega)|(repeat first|rw[new_n]|rw[put_n])) only[get_put_same]
 rw[←hH2]
 have x2:=x1.trans e2
 refine call (pparts_ok (hv.keep x2.keep) (hg.keep e2.keep) sn sg (gcd_ne d0)) ?_
 rintro _ h3 ⟨hE3,q,u,rfl,hq,hu⟩
 obtain⟨sq,rfl,c4,o4⟩:=hq.cells2
 obtain⟨su,rfl,c5,o5⟩:=hu.cells2
 have n3:=(hE3).n;try simp only[new_n,put_n] at n3
 have x3:=x2.trans hE3
 have r1:=row_of (hE3.kept (by omega) (e2.kept (by omega) (hE1.kept (by omega) g1)))
 have r3:=row_of (hE3.kept (by omega) gg)
 simp -dsimp (maxSteps:=1000000) (disch:=first|omega|(simp only[new_n,put_n];omega)|decide +kernel|(repeat first|rw[new_n]|rw[put_n])) only[wpS,wpT,Nat.reduceEqDiff,Nat.reduceLeDiff,Nat.reduceAdd,ld81,zc81,st81,o4,o5,r1,r3,tk2']
 obtain⟨H4,hH4⟩ : ∃H4,H4=((((h3.new (.cells ZL 0 none)).new (.cells ZL 0 none)).put h3.n (.cells [.bool (decide (n / (Int.gcd n d:Int)<0)),sq] 0 none)).put (h3.n+1) (.cells [.bool (decide (n % (Int.gcd n d:Int)<0)),su] 0 none)):=⟨_,rfl⟩
 have e4:Ext h3 H4:=by rw[hH4];exact((((Ext.refl _).new _).new _).put (Nat.le_refl _) _).put (by omega) _
 have n4:H4.n=h3.n+2:=by rw[hH4];rfl
 have gq:H4.ext.get h3.n=some (.cells [.bool (decide (n / (Int.gcd n d:Int)<0)),sq] 0 none):=by rw[hH4];simp (disch:=first|omega|(simp only[new_n,put_n];omega)|(repeat first|rw[new_n]|rw[put_n])) only[get_put_same,get_put_old]
 rw[←hH4]
 have x4:=x3.trans e4
 refine call (pparts_ok (hw.keep x4.keep) (hg.keep ((e2.trans hE3).trans e4).keep) sd sg (gcd_ne d0)) ?_
 rintro _ h5 ⟨hE5,q2,u2,rfl,hq2,hu2⟩
 obtain⟨sq2,rfl,c6,o6⟩:=hq2.cells2
 obtain⟨su2,rfl,c7,o7⟩:=hu2.cells2
 have n5:=(hE5).n;try simp only[new_n,put_n] at n5
 have x5:=x4.trans hE5
 simp -dsimp (maxSteps:=1000000) (disch:=first|omega|(simp only[new_n,put_n];omega)|decide +kernel|(repeat first|rw[new_n]|rw[put_n])) only[wpS,wpT,Nat.reduceEqDiff,Nat.reduceLeDiff,Nat.reduceAdd,zc81,st81,fa81_0,ld4,o6,o7]
 obtain⟨H6,hH6⟩ : ∃H6,H6=((((h5.new (.cells ZL 0 none)).new (.cells ZL 0 none)).put h5.n (.cells [.bool (decide (d / (Int.gcd n d:Int)<0)),sq2] 0 none)).put (h5.n+1) (.cells [.bool (decide (d % (Int.gcd n d:Int)<0)),su2] 0 none)):=⟨_,rfl⟩
 have e6:Ext h5 H6:=by rw[hH6];exact((((Ext.refl _).new _).new _).put (Nat.le_refl _) _).put (by omega) _
 have n6:H6.n=h5.n+2:=by rw[hH6];rfl
 have gd:H6.ext.get h5.n=some (.cells [.bool (decide (d / (Int.gcd n d:Int)<0)),sq2] 0 none):=by rw[hH6];simp (disch:=first|omega|(simp only[new_n,put_n];omega)|(repeat first|rw[new_n]|rw[put_n])) only[get_put_same,get_put_old]
 have x6:=x5.trans e6
 have gn:=e6.kept (by omega) (hE5.kept (by omega) gq)
 have gr:=e6.kept (by omega) (hE5.kept (by omega) (e4.kept (by omega) (hE3.kept (by omega) (e2.kept (by omega) (hE1.kept (by omega) g2)))))
 have hqA:=hq.keep ((e4.trans hE5).trans e6).keep
 have hqB:=hq2.keep e6.keep
 rw[←hH6]
 clear hH0 hH2 hH4 hH6
 have rn:=row_of gn
 have rd:=row_of gd
 have hls:=low_sign (n:=n) d0
 refine bq_cut (fun fr2 h7 => ∃sa sb,Ext h h7∧h7.ext.get h3.n=some (.cells [.bool (decide ((Rat.divInt n d).num<0)),sa] 0 none)∧h7.ext.get h5.n=some (.cells [.bool (decide (((Rat.divInt n d).den:Int)<0)),sb] 0 none)∧h7.ext.get (h.n+1+1)=some (.cells ZR 0 none)∧PLong h7 (.agg #[.bool (decide ((Rat.divInt n d).num<0)),sa]) (Rat.divInt n d).num∧PLong h7 (.agg #[.bool (decide (((Rat.divInt n d).den:Int)<0)),sb]) (Rat.divInt n d).den ∧
  fget fr2 4=some (ptr (2*(h.n+1+1)) 0)∧fget fr2 6=some (ptr (2*h3.n) 0)∧fget fr2 8=some (ptr (2*h5.n) 0)) (fun hb=>?_) (fun hb=>?_) ?_
 ·have hd:d<0:=hls.1 (by simpa using hb)
  obtain⟨b1,b2⟩:=low_neg (n:=n) hd
  rw[hb] at hqB gd rd
  refine drawn [(2,[1])] (by kernel_rfl) (by kernel_rfl) rfl ?_
  simp -dsimp (maxSteps:=1000000) (disch:=first|omega|(simp only[new_n,put_n];omega)|decide +kernel|(repeat first|rw[new_n]|rw[put_n])) only[wpS,wpT,Nat.reduceEqDiff,Nat.reduceLeDiff,Nat.reduceAdd,ld81,rn,List.drop_zero,tk_two]
  refine call (pturned_ok hqA) ?_
  rintro _ h7 ⟨hE7,hA⟩
  rw[b1] at hA
  obtain⟨sa,rfl,c8,o8⟩:=hA.cells2
  have n7:=(hE7).n;try simp only[new_n,put_n] at n7
  have kd:=hE7.kept (by omega) gd
  have rd7:=row_of kd
  simp -dsimp (maxSteps:=1000000) (disch:=first|omega|(simp only[new_n,put_n];omega)|decide +kernel|(repeat first|rw[new_n]|rw[put_n])) only[wpS,wpT,Nat.reduceEqDiff,Nat.reduceLeDiff,Nat.reduceAdd,ld81,rd7,List.drop_zero,tk_two]
  refine call (pturned_ok (hqB.keep hE7.keep)) ?_
  rintro _ h8 ⟨hE8,hB⟩
  rw[b2] at hB
  obtain⟨sb,rfl,c9,o9⟩:=hB.cells2
  have n8:=(hE8).n;try simp only[new_n,put_n] at n8
  have kn8:=hE8.kept (by omega) (hE7.kept (by omega) gn)
  have kd8:=hE8.kept (by omega) kd
  have kr8:=hE8.kept (by omega) (hE7.kept (by omega) gr)
  simp -dsimp (maxSteps:=1000000) (disch:=first|omega|(simp only[new_n,put_n];omega)|decide +kernel|(repeat first|rw[new_n]|rw[put_n])) only[wpS,wpT,Nat.reduceEqDiff,Nat.reduceLeDiff,Nat.reduceAdd,st81,kn8,kd8,o8,o9]
  refine⟨wpSteady_one rfl rfl rfl rfl (steady_load (av:=ptr (2*h5.n) 0) (v:=.agg #[.bool true,sq2]) rfl ?_ ?_),?_⟩
  ·simp -dsimp (maxSteps:=1000000) (disch:=first|omega|(simp only[new_n,put_n];omega)|decide +kernel|(repeat first|rw[new_n]|rw[put_n])) only[wpS,wpT,Nat.reduceLeDiff,Nat.reduceAdd,ld81,rd7,List.drop_zero,tk_two]
   try rfl
  ·simp -dsimp (maxSteps:=1000000) (disch:=first|omega|(simp only[new_n,put_n];omega)|decide +kernel|(repeat first|rw[new_n]|rw[put_n])) only[wpS,wpT,Nat.reduceLeDiff,Nat.reduceAdd,ld81,rd,List.drop_zero,tk_two]
   try rfl
  simp -dsimp (maxSteps:=1000000) (disch:=first|omega|(simp only[new_n,put_n];omega)|decide +kernel|(repeat first|rw[new_n]|rw[put_n])) only[wpS,wpT,Nat.reduceAdd]
  have kpA:=(Keep.refl h8).put kn8 (.cells [.bool (decide ((Rat.divInt n d).num<0)),sa] 0 none)
  have gB:(h8.put h3.n (.cells [.bool (decide ((Rat.divInt n d).num<0)),sa] 0 none)).ext.get h5.n=some (.cells [.bool true,sq2] 0 none):=by rw[get_put_old _ _ (by omega)];exact kd8
  have kpB:=kpA.put gB (.cells [.bool (decide (((Rat.divInt n d).den:Int)<0)),sb] 0 none)
  have hdf:decide (((Rat.divInt n d).den:Int)<0)=false:=decide_eq_false (by omega)
  rw[hdf] at kpB hB ⊢
  refine⟨sa,sb,(((x6.trans hE7).trans hE8).put (by omega) _).put (by omega) _,by simp (disch:=first|omega|(simp only[new_n,put_n];omega)|(repeat first|rw[new_n]|rw[put_n])) only[get_put_same,get_put_old],get_put_same _ _ rfl,by simp (disch:=first|omega|(simp only[new_n,put_n];omega)|(repeat first|rw[new_n]|rw[put_n])) only[get_put_old];exact kr8,hA.keep (hE8.keep.trans kpB),hB.keep kpB,by simp,by simp,by simp⟩
 ·have hd:0<d:=by
   have : ¬d<0:=fun h=>by have:=hls.2 h;simp at hb;omega
   omega
  obtain⟨b1,b2⟩:=low_pos (n:=n) hd
  simp -dsimp (maxSteps:=1000000) (disch:=first|omega|(simp only[new_n,put_n];omega)|decide +kernel|(repeat first|rw[new_n]|rw[put_n])) only[wpS,wpT]
  rw[b1] at gn hqA
  rw[b2] at gd hqB
  exact⟨sq,sq2,x6,gn,gd,gr,hqA,hqB,by simp,by simp,by simp⟩
 rintro fr2 h7 ⟨sa,sb,x7,k1,k2,k3,hA,hB,f4,f6,f8⟩
 have q1:=row_of k1
 have q2:=row_of k2
 obtain⟨_,c8,o8⟩:=hA.co
 obtain⟨_,c9,o9⟩:=hB.co
 rw[d_seq]
 simp -dsimp (maxSteps:=1000000) (disch:=first|omega|(simp only[new_n,put_n];omega)|decide +kernel|(repeat first|rw[new_n]|rw[put_n])) only[wpS,wpT,Nat.reduceEqDiff,Nat.reduceLeDiff,Nat.reduceAdd,ld81,bv83,pl83_0,pl83_1,st83,ld83,f4,f6,f8,q1,q2,k3,o8,o9,List.drop_zero,tk_two]
 have hdf:decide (((Rat.divInt n d).den:Int)<0)=false:=decide_eq_false (by omega)
 rw[hdf] at hB
 have kp:=(Keep.refl h7).put k3 (.cells [.bool (decide ((Rat.divInt n d).num<0)),sa,.bool false,sb] 0 none)
 exact⟨x7.put (by omega) _,_,_,_,_,rfl,hA.keep kp,hB.keep kp⟩
end Go.Id

/-! Contracts: the program's fractions: sums, differences, products, quotients, order. -/
namespace Go.Id
open Go
theorem PRat.parts {h:IH} {v:Value} {q:Rat} (p:PRat h v q) : ∃a s b t,v=.agg #[a,s,b,t]∧PLong h (.agg #[a,s]) q.num∧PLong h (.agg #[b,t]) q.den∧s.cells = #[s]∧cellOK s=true∧t.cells = #[t]∧cellOK t=true∧cellOK a=true∧cellOK b=true:=by
 obtain⟨a,s,b,t,rfl,h1,h2⟩:=p
 obtain⟨rfl,c1,o1⟩:=h1.co
 obtain⟨rfl,c2,o2⟩:=h2.co
 exact⟨_,s,_,t,rfl,h1,h2,c1,o1,c2,o2,rfl,rfl⟩
theorem pl4 {H:IH} {k:Nat} {a s b t:Value} (g:H.ext.get k=some (.cells [a,s,b,t] 0 none)):load Proofs.Tryz.prog H 81 (ptr (2*k) 0)=some (.agg #[a,s])∧load Proofs.Tryz.prog H 81 (ptr (2*k) 2)=some (.agg #[b,t])∧load Proofs.Tryz.prog H 83 (ptr (2*k) 0)=some (.agg #[a,s,b,t]):=by
 have r:=row_of g
 refine⟨?_,?_,?_⟩
 ·simp -dsimp (disch:=omega) only[wpS,wpT,Nat.reduceLeDiff,Nat.reduceAdd,ld81,r]
  rfl
 ·simp -dsimp (disch:=omega) only[wpS,wpT,Nat.reduceLeDiff,Nat.reduceAdd,ld81,r]
  rfl
 ·simp -dsimp (disch:=omega) only[wpS,wpT,Nat.reduceLeDiff,Nat.reduceAdd,ld83,r]
  rfl
theorem pl2 {H:IH} {k:Nat} {a s:Value} (g:H.ext.get k=some (.cells [a,s] 0 none)):load Proofs.Tryz.prog H 81 (ptr (2*k) 0)=some (.agg #[a,s]):=by
 have r:=row_of g
 simp -dsimp (disch:=omega) only[wpS,wpT,Nat.reduceLeDiff,Nat.reduceAdd,ld81,r]
 rfl
set_option maxHeartbeats 2000000 in
theorem rplus_ok {h:IH} {v w:Value} {x y:Rat} {a b:Nat} (hv:PRat h v x) (hw:PRat h w y) (qx:QB a x) (qy:QB b y) (hk:a+b+1<16000000) :
  WV Proofs.Tryz.prog (.func (.func 63) #[] #[]) [v,w] h fun r h'=>Ext h h'∧PRat h' r (x+y):=by
 obtain⟨a1,s1,b1,t1,rfl,hn1,hd1,c1,o1,c2,o2,o3,o4⟩:=hv.parts
 obtain⟨a2,s2,b2,t2,rfl,hn2,hd2,c5,o5,c6,o6,o7,o8⟩:=hw.parts
 refine enter (nt:=22) (rs:=[.cell 4 83]) Proofs.Tryz.func63 rfl rfl rfl (by simp) ?_
 simp -dsimp (disch:=omega) only[wpS,Nat.reduceEqDiff,Nat.reduceAdd,zc83]
 obtain⟨H0,hH0,n0,E0,g0,g1,g2⟩:=boxes3 h [a1,s1,b1,t1] [a2,s2,b2,t2] ZR
 rw[←hH0]
 clear hH0
 have X0:=Ext.refl H0
 obtain⟨L1,L2,_⟩:=pl4 g0
 obtain⟨L3,L4,_⟩:=pl4 g1
 refine drawn [(6,[4]),(8,[4]),(12,[4,9,10]),(14,[4,9,10])] (by kernel_rfl) (by kernel_rfl) rfl ?_
 simp -dsimp (disch:=omega) only[wpS,wpT,Nat.reduceEqDiff,Nat.reduceLeDiff,Nat.reduceAdd,fa83_0,ld81,fa83_1,row_of g0,row_of g1,tkA,tkB]
 refine call (ptimes_ok (hn1.keep E0.keep) (hd2.keep E0.keep) (half_bits qx.1 (by omega)) (half_bits qy.den' (by omega))) ?_
 rintro r1 h1 ⟨X1,p1⟩
 have m1:=X1.n
 simp -dsimp (disch:=omega) only[wpS,wpT,Nat.reduceEqDiff,Nat.reduceLeDiff,Nat.reduceAdd,fa83_0,ld81,fa83_1,row_of (X1.kept (by omega) g0),row_of (X1.kept (by omega) g1),tkA,tkB]
 refine call (ptimes_ok (hn2.keep (E0.trans X1).keep) (hd1.keep (E0.trans X1).keep) (half_bits qy.1 (by omega)) (half_bits qx.den' (by omega))) ?_
 rintro r2 h2 ⟨hE2,p2⟩
 have m2:=hE2.n
 have X2:=X1.trans hE2
 simp -dsimp (disch:=omega) only[wpS,Nat.reduceEqDiff]
 have b1':=mul_bits qx.1 qy.den'
 have b2':=mul_bits qy.1 qx.den'
 have b3':=qx.addN qy
 have b4':=mul_bits qx.den' qy.den'
 have sb1:SmallI (x.num*y.den):=small_bits b1' (by omega)
 have sb2:SmallI (y.num*x.den):=small_bits b2' (by omega)
 have sb3:SmallI (x.num*y.den+y.num*x.den):=small_bits b3' hk
 have sb4:SmallI ((x.den:Int)*y.den):=small_bits b4' (by omega)
 refine call (pplus_ok (p1.keep hE2.keep) p2 sb1 sb2) ?_
 rintro r3 h3 ⟨hE3,p3⟩
 have m3:=hE3.n
 have X3:=X2.trans hE3
 simp -dsimp (disch:=omega) only[wpS,wpT,Nat.reduceEqDiff,Nat.reduceLeDiff,Nat.reduceAdd,ld81,fa83_1,row_of (X3.kept (by omega) g0),row_of (X3.kept (by omega) g1),tkB]
 refine call (ptimes_ok (hd1.keep (E0.trans X3).keep) (hd2.keep (E0.trans X3).keep) (half_bits qx.den' (by omega)) (half_bits qy.den' (by omega))) ?_
 rintro r4 h4 ⟨hE4,p4⟩
 have m4:=hE4.n
 have X4:=X3.trans hE4
 simp -dsimp (disch:=omega) only[wpS,Nat.reduceEqDiff]
 refine call (lowest_ok (p3.keep hE4.keep) p4 sb3 sb4 (dd_ne x y)) ?_
 rintro r5 h5 ⟨hE5,p5⟩
 have m5:=hE5.n
 have X5:=X4.trans hE5
 rw[←rat_add] at p5
 obtain⟨a3,s3,b3,t3,rfl,_,_,d1,o1,d2,o2,o3,o4⟩:=p5.parts
 have kg:=X5.kept (by omega) g2
 simp -dsimp (disch:=omega) only[wpS,wpT,Nat.reduceEqDiff,Nat.reduceLeDiff,Nat.reduceAdd,st83,kg,o1,o2,o3,o4]
 refine⟨by repeat' first|refine wpSteady_c2 ?_ ?_|refine wpSteady_t2 ?_ ?_|exact wpSteady_one rfl rfl rfl rfl (steady_ext (H0:=H0) rfl (by omega) (by assumption) (by assumption) (by with_reducible assumption)),?_⟩
 simp -dsimp (disch:=omega) only[wpS,wpT,Nat.reduceEqDiff,Nat.reduceLeDiff,Nat.reduceAdd,ld83,tk4']
 exact⟨(E0.trans X5).put (by omega) _,p5.keep ((Keep.refl _).put kg _)⟩
set_option maxHeartbeats 2000000 in
theorem rtimes_ok {h:IH} {v w:Value} {x y:Rat} {a b:Nat} (hv:PRat h v x) (hw:PRat h w y) (qx:QB a x) (qy:QB b y) (hk:a+b<16000000) :
  WV Proofs.Tryz.prog (.func (.func 62) #[] #[]) [v,w] h fun r h'=>Ext h h'∧PRat h' r (x*y):=by
 obtain⟨a1,s1,b1,t1,rfl,hn1,hd1,c1,o1,c2,o2,o3,o4⟩:=hv.parts
 obtain⟨a2,s2,b2,t2,rfl,hn2,hd2,c5,o5,c6,o6,o7,o8⟩:=hw.parts
 refine enter (nt:=16) (rs:=[.cell 4 83]) Proofs.Tryz.func62 rfl rfl rfl (by simp) ?_
 simp -dsimp (disch:=omega) only[wpS,Nat.reduceEqDiff,Nat.reduceAdd,zc83]
 obtain⟨H0,hH0,n0,E0,g0,g1,g2⟩:=boxes3 h [a1,s1,b1,t1] [a2,s2,b2,t2] ZR
 rw[←hH0]
 clear hH0
 have X0:=Ext.refl H0
 obtain⟨L1,L2,_⟩:=pl4 g0
 obtain⟨L3,L4,_⟩:=pl4 g1
 have sb1:SmallI (x.num*y.num):=small_bits (mul_bits qx.1 qy.1) hk
 have sb2:SmallI ((x.den:Int)*y.den):=small_bits (mul_bits qx.den' qy.den') hk
 refine drawn [(6,[4]),(8,[4])] (by kernel_rfl) (by kernel_rfl) rfl ?_
 simp -dsimp (disch:=omega) only[wpS,wpT,Nat.reduceEqDiff,Nat.reduceLeDiff,Nat.reduceAdd,fa83_0,ld81,row_of g0,row_of g1,tkA]
 refine call (ptimes_ok (hn1.keep E0.keep) (hn2.keep E0.keep) (half_bits qx.1 (by omega)) (half_bits qy.1 (by omega))) ?_
 rintro r1 h1 ⟨X1,p1⟩
 have m1:=X1.n
 simp -dsimp (disch:=omega) only[wpS,wpT,Nat.reduceEqDiff,Nat.reduceLeDiff,Nat.reduceAdd,ld81,fa83_1,row_of (X1.kept (by omega) g0),row_of (X1.kept (by omega) g1),tkB]
 refine call (ptimes_ok (hd1.keep (E0.trans X1).keep) (hd2.keep (E0.trans X1).keep) (half_bits qx.den' (by omega)) (half_bits qy.den' (by omega))) ?_
 rintro r2 h2 ⟨hE2,p2⟩
 have m2:=hE2.n
 have X2:=X1.trans hE2
 simp -dsimp (disch:=omega) only[wpS,Nat.reduceEqDiff]
 refine call (lowest_ok (p1.keep hE2.keep) p2 sb1 sb2 (dd_ne x y)) ?_
 rintro r5 h5 ⟨hE5,p5⟩
 have m5:=hE5.n
 have X5:=X2.trans hE5
 rw[←rat_mul] at p5
 obtain⟨a3,s3,b3,t3,rfl,_,_,d1,o1,d2,o2,o3,o4⟩:=p5.parts
 have kg:=X5.kept (by omega) g2
 simp -dsimp (disch:=omega) only[wpS,wpT,Nat.reduceEqDiff,Nat.reduceLeDiff,Nat.reduceAdd,st83,kg,o1,o2,o3,o4]
 refine⟨by repeat' first|refine wpSteady_c2 ?_ ?_|refine wpSteady_t2 ?_ ?_|exact wpSteady_one rfl rfl rfl rfl (steady_ext (H0:=H0) rfl (by omega) (by assumption) (by assumption) (by with_reducible assumption)),?_⟩
 simp -dsimp (disch:=omega) only[wpS,wpT,Nat.reduceEqDiff,Nat.reduceLeDiff,Nat.reduceAdd,ld83,tk4']
 exact⟨(E0.trans X5).put (by omega) _,p5.keep ((Keep.refl _).put kg _)⟩
set_option maxHeartbeats 2000000 in
theorem rover_ok {h:IH} {v w:Value} {x y:Rat} {a b:Nat} (hv:PRat h v x) (hw:PRat h w y) (qx:QB a x) (qy:QB b y) (hk:a+b<16000000) (y0:y≠0) :
  WV Proofs.Tryz.prog (.func (.func 61) #[] #[]) [v,w] h fun r h'=>Ext h h'∧PRat h' r (x / y):=by
 obtain⟨a1,s1,b1,t1,rfl,hn1,hd1,c1,o1,c2,o2,o3,o4⟩:=hv.parts
 obtain⟨a2,s2,b2,t2,rfl,hn2,hd2,c5,o5,c6,o6,o7,o8⟩:=hw.parts
 refine enter (nt:=16) (rs:=[.cell 4 83]) Proofs.Tryz.func61 rfl rfl rfl (by simp) ?_
 simp -dsimp (disch:=omega) only[wpS,Nat.reduceEqDiff,Nat.reduceAdd,zc83]
 obtain⟨H0,hH0,n0,E0,g0,g1,g2⟩:=boxes3 h [a1,s1,b1,t1] [a2,s2,b2,t2] ZR
 rw[←hH0]
 clear hH0
 have X0:=Ext.refl H0
 obtain⟨L1,L2,_⟩:=pl4 g0
 obtain⟨L3,L4,_⟩:=pl4 g1
 have sb1:SmallI (x.num*y.den):=small_bits (mul_bits qx.1 qy.den') hk
 have sb2:SmallI ((x.den:Int)*y.num):=small_bits (mul_bits qx.den' qy.1) hk
 refine drawn [(6,[4]),(8,[4])] (by kernel_rfl) (by kernel_rfl) rfl ?_
 simp -dsimp (disch:=omega) only[wpS,wpT,Nat.reduceEqDiff,Nat.reduceLeDiff,Nat.reduceAdd,fa83_0,ld81,fa83_1,row_of g0,row_of g1,tkA,tkB]
 refine call (ptimes_ok (hn1.keep E0.keep) (hd2.keep E0.keep) (half_bits qx.1 (by omega)) (half_bits qy.den' (by omega))) ?_
 rintro r1 h1 ⟨X1,p1⟩
 have m1:=X1.n
 simp -dsimp (disch:=omega) only[wpS,wpT,Nat.reduceEqDiff,Nat.reduceLeDiff,Nat.reduceAdd,fa83_0,ld81,fa83_1,row_of (X1.kept (by omega) g0),row_of (X1.kept (by omega) g1),tkA,tkB]
 refine call (ptimes_ok (hd1.keep (E0.trans X1).keep) (hn2.keep (E0.trans X1).keep) (half_bits qx.den' (by omega)) (half_bits qy.1 (by omega))) ?_
 rintro r2 h2 ⟨hE2,p2⟩
 have m2:=hE2.n
 have X2:=X1.trans hE2
 simp -dsimp (disch:=omega) only[wpS,Nat.reduceEqDiff]
 refine call (lowest_ok (p1.keep hE2.keep) p2 sb1 sb2 (Int.mul_ne_zero (den_ne x) (num_ne y0))) ?_
 rintro r5 h5 ⟨hE5,p5⟩
 have m5:=hE5.n
 have X5:=X2.trans hE5
 rw[←rat_div] at p5
 obtain⟨a3,s3,b3,t3,rfl,_,_,d1,o1,d2,o2,o3,o4⟩:=p5.parts
 have kg:=X5.kept (by omega) g2
 simp -dsimp (disch:=omega) only[wpS,wpT,Nat.reduceEqDiff,Nat.reduceLeDiff,Nat.reduceAdd,st83,kg,o1,o2,o3,o4]
 refine⟨by repeat' first|refine wpSteady_c2 ?_ ?_|refine wpSteady_t2 ?_ ?_|exact wpSteady_one rfl rfl rfl rfl (steady_ext (H0:=H0) rfl (by omega) (by assumption) (by assumption) (by with_reducible assumption)),?_⟩
 simp -dsimp (disch:=omega) only[wpS,wpT,Nat.reduceEqDiff,Nat.reduceLeDiff,Nat.reduceAdd,ld83,tk4']
 exact⟨(E0.trans X5).put (by omega) _,p5.keep ((Keep.refl _).put kg _)⟩
theorem cmp_rat (x y:Rat):(if x.num*y.den<y.num*x.den then (-1:Int) else if x.num*y.den=y.num*x.den then 0 else 1)=if x<y then -1 else if x=y then 0 else 1:=by
 simp only[Rat.lt_iff,Rat.eq_iff_mul_eq_mul]
set_option maxHeartbeats 2000000 in
theorem rcmp_ok {h:IH} {v w:Value} {x y:Rat} {a b:Nat} (hv:PRat h v x) (hw:PRat h w y) (qx:QB a x) (qy:QB b y) (hk:a+b<16000000) :
  WV Proofs.Tryz.prog (.func (.func 82) #[] #[]) [v,w] h fun r h'=>Ext h h'∧r=KI (if x<y then -1 else if x=y then 0 else 1):=by
 obtain⟨a1,s1,b1,t1,rfl,hn1,hd1,c1,o1,c2,o2,o3,o4⟩:=hv.parts
 obtain⟨a2,s2,b2,t2,rfl,hn2,hd2,c5,o5,c6,o6,o7,o8⟩:=hw.parts
 refine enter (nt:=16) (rs:=[.tmp 4]) Proofs.Tryz.func82 rfl rfl rfl (by simp) ?_
 simp -dsimp (disch:=omega) only[wpS,Nat.reduceEqDiff,Nat.reduceAdd]
 obtain⟨H0,hH0,n0,E0,g0,g1⟩:=boxes2 h [a1,s1,b1,t1] [a2,s2,b2,t2]
 rw[←hH0]
 clear hH0
 have X0:=Ext.refl H0
 obtain⟨L1,L2,_⟩:=pl4 g0
 obtain⟨L3,L4,_⟩:=pl4 g1
 have sb1:SmallI (x.num*y.den):=small_bits (mul_bits qx.1 qy.den') hk
 have sb2:SmallI (y.num*x.den):=small_bits (by rw[Nat.add_comm];exact mul_bits qy.1 qx.den') hk
 refine drawn [(6,[4]),(8,[4])] (by kernel_rfl) (by kernel_rfl) rfl ?_
 simp -dsimp (disch:=omega) only[wpS,wpT,Nat.reduceEqDiff,Nat.reduceLeDiff,Nat.reduceAdd,fa83_0,ld81,fa83_1,row_of g0,row_of g1,tkA,tkB]
 refine call (ptimes_ok (hn1.keep E0.keep) (hd2.keep E0.keep) (half_bits qx.1 (by omega)) (half_bits qy.den' (by omega))) ?_
 rintro r1 h1 ⟨X1,p1⟩
 have m1:=X1.n
 simp -dsimp (disch:=omega) only[wpS,wpT,Nat.reduceEqDiff,Nat.reduceLeDiff,Nat.reduceAdd,fa83_0,ld81,fa83_1,row_of (X1.kept (by omega) g0),row_of (X1.kept (by omega) g1),tkA,tkB]
 refine call (ptimes_ok (hn2.keep (E0.trans X1).keep) (hd1.keep (E0.trans X1).keep) (half_bits qy.1 (by omega)) (half_bits qx.den' (by omega))) ?_
 rintro r2 h2 ⟨hE2,p2⟩
 have m2:=hE2.n
 have X2:=X1.trans hE2
 simp -dsimp (disch:=omega) only[wpS,Nat.reduceEqDiff]
 refine call (pcmp_ok (p1.keep hE2.keep) p2 sb1 sb2) ?_
 rintro _ h5 ⟨hE5,rfl⟩
 have X5:=X2.trans hE5
 rw[cmp_rat]
 simp -dsimp (disch:=omega) only[wpS,Nat.reduceEqDiff]
 refine⟨by repeat' first|refine wpSteady_c2 ?_ ?_|refine wpSteady_t2 ?_ ?_|exact wpSteady_one rfl rfl rfl rfl (steady_ext (H0:=H0) rfl (by omega) (by assumption) (by assumption) (by with_reducible assumption)),?_⟩
 simp -dsimp (disch:=omega) only[wpS,wpT,Nat.reduceEqDiff,Nat.reduceAdd]
 exact E0.trans X5
theorem rturned_ok {h:IH} {v:Value} {x:Rat} (hv:PRat h v x) :
  WV Proofs.Tryz.prog (.func (.func 95) #[] #[]) [v] h fun r h'=>Ext h h'∧PRat h' r (-x):=by
 obtain⟨a1,s1,b1,t1,rfl,hn1,hd1,c1,o1,c2,o2,o3,o4⟩:=hv.parts
 refine enter (nt:=9) (rs:=[.cell 2 83]) Proofs.Tryz.func95 rfl rfl rfl (by simp) ?_
 simp -dsimp (disch:=omega) only[wpS,zc83]
 obtain⟨H0,hH0,n0,E0,g0,g1⟩:=boxes2 h [a1,s1,b1,t1] ZR
 rw[←hH0]
 clear hH0
 have X0:=Ext.refl H0
 obtain⟨L1,L2,_⟩:=pl4 g0
 refine drawn [(4,[2])] (by kernel_rfl) (by kernel_rfl) rfl ?_
 simp -dsimp (disch:=omega) only[wpS,wpT,Nat.reduceEqDiff,Nat.reduceLeDiff,Nat.reduceAdd,fa83_0,ld81,row_of g0,tkA]
 refine call (pturned_ok (hn1.keep E0.keep)) ?_
 rintro r1 h1 ⟨X1,p1⟩
 have m1:=X1.n
 obtain⟨s3,rfl,c5,o5⟩:=p1.cells2
 have kg:=X1.kept (by omega) g1
 simp -dsimp (disch:=omega) only[wpS,wpT,Nat.reduceEqDiff,Nat.reduceLeDiff,Nat.reduceAdd,ld81,fa83_1,bv83,pl83_0,pl83_1,st83,row_of (X1.kept (by omega) g0),kg,tkB,o5,o2,o4]
 refine⟨by repeat' first|refine wpSteady_c2 ?_ ?_|refine wpSteady_t2 ?_ ?_|exact wpSteady_one rfl rfl rfl rfl (steady_ext (H0:=H0) rfl (by omega) (by assumption) (by assumption) (by with_reducible assumption)),?_⟩
 simp -dsimp (disch:=omega) only[wpS,wpT,Nat.reduceEqDiff,Nat.reduceLeDiff,Nat.reduceAdd,ld83,tk4']
 have kp:=(Keep.refl h1).put kg (.cells [.bool (decide (-x.num<0)),s3,b1,t1] 0 none)
 exact⟨(E0.trans X1).put (by omega) _,_,_,_,_,rfl,p1.keep kp,hd1.keep ((E0.trans X1).keep.trans kp)⟩
set_option maxHeartbeats 2000000 in
theorem rminus_ok {h:IH} {v w:Value} {x y:Rat} {a b:Nat} (hv:PRat h v x) (hw:PRat h w y) (qx:QB a x) (qy:QB b y) (hk:a+b+1<16000000) :
  WV Proofs.Tryz.prog (.func (.func 81) #[] #[]) [v,w] h fun r h'=>Ext h h'∧PRat h' r (x - y):=by
 obtain⟨a1,s1,b1,t1,rfl,hn1,hd1,c1,o1,c2,o2,o3,o4⟩:=hv.parts
 obtain⟨a2,s2,b2,t2,rfl,hn2,hd2,c5,o5,c6,o6,o7,o8⟩:=hw.parts
 refine enter (nt:=9) (rs:=[.cell 4 83]) Proofs.Tryz.func81 rfl rfl rfl (by simp) ?_
 simp -dsimp (disch:=omega) only[wpS,Nat.reduceEqDiff,Nat.reduceAdd,zc83]
 obtain⟨H0,hH0,n0,E0,g0,g1,g2⟩:=boxes3 h [a1,s1,b1,t1] [a2,s2,b2,t2] ZR
 rw[←hH0]
 clear hH0
 have X0:=Ext.refl H0
 obtain⟨_,_,L1⟩:=pl4 g0
 obtain⟨_,_,L2⟩:=pl4 g1
 refine drawn [(0,[3])] (by kernel_rfl) (by kernel_rfl) rfl ?_
 simp -dsimp (disch:=omega) only[wpS,wpT,Nat.reduceEqDiff,Nat.reduceLeDiff,Nat.reduceAdd,ld83,row_of g0,row_of g1,tk4']
 refine call (rturned_ok (hw.keep E0.keep)) ?_
 rintro r1 h1 ⟨X1,p1⟩
 have m1:=X1.n
 simp -dsimp (disch:=omega) only[wpS,Nat.reduceEqDiff]
 refine call (rplus_ok (hv.keep (E0.trans X1).keep) p1 qx qy.neg hk) ?_
 rintro r2 h2 ⟨hE2,p2⟩
 have X2:=X1.trans hE2
 have m2:=hE2.n
 rw[←Rat.sub_eq_add_neg] at p2
 obtain⟨a3,s3,b3,t3,rfl,_,_,d1,o1,d2,o2,o3,o4⟩:=p2.parts
 have kg:=X2.kept (by omega) g2
 simp -dsimp (disch:=omega) only[wpS,wpT,Nat.reduceEqDiff,Nat.reduceLeDiff,Nat.reduceAdd,st83,kg,o1,o2,o3,o4]
 refine⟨by repeat' first|refine wpSteady_c2 ?_ ?_|refine wpSteady_t2 ?_ ?_|exact wpSteady_one rfl rfl rfl rfl (steady_ext (H0:=H0) rfl (by omega) (by assumption) (by assumption) (by with_reducible assumption)),?_⟩
 simp -dsimp (disch:=omega) only[wpS,wpT,Nat.reduceEqDiff,Nat.reduceLeDiff,Nat.reduceAdd,ld83,tk4']
 exact⟨(E0.trans X2).put (by omega) _,p2.keep ((Keep.refl _).put kg _)⟩
end Go.Id

/-! Contracts: the program's shares: read, told, checked. -/
namespace Go.Id
open Go
def shC (n d:Nat):List Value:=wdC n ++ wdC d
def shV (n d:Nat):Value:=.agg (shC n d).toArray
theorem shC_len (n d:Nat):(shC n d).length=16:=by simp[shC,wdC_len]
theorem shC_all (n d:Nat):(shC n d).all cellOK=true:=by simp only[shC,List.all_append,wdC_all,Bool.and_self]
theorem shV_cells (n d:Nat):(shV n d).cells.toList=shC n d:=rfl
theorem sh_take (n d:Nat):List.take 16 (List.drop 0 (shC n d))=shC n d:=by rw[List.drop_zero,List.take_of_length_le (by rw[shC_len];omega)]
theorem sh_take1 (n d:Nat):List.take 8 (List.drop 0 (shC n d))=wdC n:=by rw[List.drop_zero,shC,List.take_append_of_le_length (by rw[wdC_len];omega),List.take_of_length_le (by rw[wdC_len];omega)]
theorem sh_take2 (n d:Nat):List.take 8 (List.drop 8 (shC n d))=wdC d:=by rw[shC,List.drop_append_of_le_length (by rw[wdC_len];omega),List.drop_of_length_le (by rw[wdC_len];omega),List.nil_append,List.take_of_length_le (by rw[wdC_len];omega)]
abbrev Z16:List Value:=[ZW,ZW,ZW,ZW,ZW,ZW,ZW,ZW,ZW,ZW,ZW,ZW,ZW,ZW,ZW,ZW]
theorem sh_sp1 (n:Nat):IH.splice Z16 0 (wdC n)=shC n 0:=by
 rw[IH.splice,List.take_zero,List.nil_append,wdC_len,shC,wdC_zero];rfl
theorem sh_sp2 (n d:Nat):IH.splice (shC n 0) 8 (wdC d)=shC n d:=by
 rw[IH.splice,wdC_len,shC,List.take_append_of_le_length (by rw[wdC_len];omega),List.take_of_length_le (by rw[wdC_len];omega),List.drop_of_length_le (by simp[wdC_len]),List.append_nil];rfl
theorem sh_sp3 (n d:Nat):IH.splice Z16 0 (shC n d)=shC n d:=splice_all (by rw[shC_len];rfl)
theorem sh_zero:Z16=shC 0 0:=by rw[shC,wdC_zero];rfl
theorem sh_zeroV:Value.agg #[ZW,ZW,ZW,ZW,ZW,ZW,ZW,ZW,ZW,ZW,ZW,ZW,ZW,ZW,ZW,ZW]=shV 0 0:=by rw[shV,←sh_zero]
theorem sh_tz:List.take 16 (List.drop 0 Z16)=Z16:=rfl
abbrev shareV (q:Rat):Value:=shV (wideN q.num) (wideN q.den)
def QW (q:Rat):Prop:=InW q.num∧InW (q.den:Int)
theorem psh {H:IH} {k:Nat} {n d:Nat} (g:H.ext.get k=some (.cells (shC n d) 0 none)):load Proofs.Tryz.prog H 28 (ptr (2*k) 0)=some (wdV n)∧load Proofs.Tryz.prog H 28 (ptr (2*k) 8)=some (wdV d)∧load Proofs.Tryz.prog H 30 (ptr (2*k) 0)=some (shV n d):=by
 have r:=row_of g
 refine⟨?_,?_,?_⟩
 ·simp -dsimp (disch:=omega) only[wpS,Nat.reduceLeDiff,ld28,r,shC_len,sh_take1]
  rfl
 ·simp -dsimp (disch:=omega) only[wpS,Nat.reduceLeDiff,Nat.reduceAdd,ld28,r,shC_len,sh_take2]
  rfl
 ·simp -dsimp (disch:=omega) only[wpS,Nat.reduceLeDiff,ld30,r,shC_len,sh_take]
  rfl
theorem shread_ok {h:IH} (n d:Nat) (hn:n<W8) (hd:d<W8):WV Proofs.Tryz.prog (.func (.func 97) #[] #[]) [shV n d] h fun r h'=>Ext h h'∧PPair h' r (wdI n) (wdI d):=by
 refine enter (nt:=10) (rs:=[.cell 2 83]) Proofs.Tryz.func97 rfl rfl rfl (by simp) ?_
 simp -dsimp (disch:=omega) only[wpS,zc83,shV_cells]
 obtain⟨H0,hH0,n0,E0,g0,g1⟩:=boxes2 h (shC n d) ZR
 rw[←hH0]
 clear hH0
 have X0:=Ext.refl H0
 obtain⟨L1,L2,_⟩:=psh g0
 refine drawn [(4,[2])] (by kernel_rfl) (by kernel_rfl) rfl ?_
 simp -dsimp (disch:=omega) only[wpS,Nat.reduceEqDiff,Nat.reduceLeDiff,fa30_0,ld28,row_of g0,shC_len,sh_take1]
 refine call (longer_ok n hn) ?_
 rintro r1 h1 ⟨X1,p1⟩
 have m1:=X1.n
 simp -dsimp (disch:=omega) only[wpS,Nat.reduceEqDiff,Nat.reduceLeDiff,Nat.reduceAdd,ld28,fa30_1,row_of (X1.kept (by omega) g0),shC_len,sh_take2]
 refine call (longer_ok d hd) ?_
 rintro r2 h2 ⟨hE2,p2⟩
 have m2:=hE2.n
 have X2:=X1.trans hE2
 obtain⟨s1,rfl,c1,o1⟩:=p1.cells2
 obtain⟨s2,rfl,c2,o2⟩:=p2.cells2
 have kg:=X2.kept (by omega) g1
 simp -dsimp (disch:=omega) only[wpS,wpT,Nat.reduceEqDiff,Nat.reduceLeDiff,Nat.reduceAdd,bv83,pl83_0,pl83_1,st83,kg,o1,o2]
 refine⟨by repeat' first|refine wpSteady_c2 ?_ ?_|refine wpSteady_t2 ?_ ?_|exact wpSteady_one rfl rfl rfl rfl (steady_ext (H0:=H0) rfl (by omega) (by assumption) (by assumption) (by with_reducible assumption)),?_⟩
 simp -dsimp (disch:=omega) only[wpS,wpT,Nat.reduceEqDiff,Nat.reduceLeDiff,Nat.reduceAdd,ld83,tk4']
 have kp:=(Keep.refl h2).put kg (.cells [.bool (decide (wdI n<0)),s1,.bool (decide (wdI d<0)),s2] 0 none)
 exact⟨(E0.trans X2).put (by omega) _,_,_,_,_,rfl,p1.keep (hE2.keep.trans kp),p2.keep kp⟩
set_option maxHeartbeats 2000000 in
theorem rtold_ok {h:IH} {v:Value} {q:Rat} (hv:PRat h v q):WV Proofs.Tryz.prog (.func (.func 53) #[] #[]) [v] h fun r h'=>Ext h h'∧r=(open Classical in if QW q then .tuple #[shareV q,KI 0] else .tuple #[shV 0 0,KI 6]):=by
 obtain⟨a1,s1,b1,t1,rfl,hn1,hd1,c1,o1,c2,o2,o3,o4⟩:=hv.parts
 refine enter (nt:=30) (rs:=[.cell 2 30,.tmp 3]) Proofs.Tryz.func53 rfl rfl rfl (by simp) ?_
 simp -dsimp (maxSteps:=1000000) (disch:=first|omega|(simp only[new_n,put_n];omega)|decide +kernel|(repeat first|rw[new_n]|rw[put_n])) only[wpS,wpT,Nat.reduceEqDiff,Nat.reduceLeDiff,Nat.reduceAdd,zc30,fa83_0,ld81]
 obtain⟨H0,hH0,n0,E0,g0,g1⟩:=boxes2 h [a1,s1,b1,t1] Z16
 rw[←hH0]
 clear hH0
 simp -dsimp (maxSteps:=1000000) (disch:=first|omega|(simp only[new_n,put_n];omega)|decide +kernel|(repeat first|rw[new_n]|rw[put_n])) only[tkA]
 refine call (ptold_ok (hn1.keep E0.keep)) ?_
 rintro _ h1 ⟨X1,rfl⟩
 have m1:=X1.n
 obtain⟨w1,e1,hw⟩ : ∃w1 e1,(if InW q.num then Value.tuple #[wideV q.num,KI 0] else .tuple #[wdV 0,KI 6])=.tuple #[wdV w1,KI e1]∧(InW q.num∧w1=wideN q.num∧e1=0 ∨ ¬InW q.num∧e1=6):=by
  by_cases hi:InW q.num
  ·exact⟨_,0,by rw[if_pos hi],.inl ⟨hi,rfl,rfl⟩⟩
  ·exact⟨0,6,by rw[if_neg hi],.inr ⟨hi,rfl⟩⟩
 rw[hw.1]
 have k0:=X1.kept (by omega) g0
 have k1:=X1.kept (by omega) g1
 simp -dsimp (maxSteps:=1000000) (disch:=first|omega|(simp only[new_n,put_n];omega)|decide +kernel|(repeat first|rw[new_n]|rw[put_n])) only[wpS,wpT,Nat.reduceEqDiff,Nat.reduceLeDiff,Nat.reduceAdd,ld81,zc28,st28,fa83_1,cells8,wdC_len,wdC_all,wd_spl,row_of k0,tkA,tkB]
 obtain⟨H2,hH2⟩ : ∃H2,H2=(h1.new (.cells [ZW,ZW,ZW,ZW,ZW,ZW,ZW,ZW] 0 none)).put h1.n (.cells (wdC w1) 0 none):=⟨_,rfl⟩
 have e2:Ext h1 H2:=by rw[hH2];exact((Ext.refl _).new _).put (Nat.le_refl _) _
 have n2:H2.n=h1.n+1:=by rw[hH2];rfl
 have ga:H2.ext.get h1.n=some (.cells (wdC w1) 0 none):=by rw[hH2];simp (disch:=first|omega|(simp only[new_n,put_n];omega)|(repeat first|rw[new_n]|rw[put_n])) only[get_put_same]
 have k1':=e2.kept (by omega) k1
 rw[←hH2]
 clear hH2
 refine call (ptold_ok (hd1.keep ((E0.trans X1).trans e2).keep)) ?_
 rintro _ h3 ⟨X3,rfl⟩
 have m3:=X3.n
 obtain⟨w2,f2,hw2⟩ : ∃w1 e1,(if InW (q.den:Int) then Value.tuple #[wideV q.den,KI 0] else .tuple #[wdV 0,KI 6])=.tuple #[wdV w1,KI e1]∧(InW (q.den:Int)∧w1=wideN q.den∧e1=0 ∨ ¬InW (q.den:Int)∧e1=6):=by
  by_cases hi:InW (q.den:Int)
  ·exact⟨_,0,by rw[if_pos hi],.inl ⟨hi,rfl,rfl⟩⟩
  ·exact⟨0,6,by rw[if_neg hi],.inr ⟨hi,rfl⟩⟩
 rw[hw2.1]
 have ga3:=X3.kept (by omega) ga
 have k3:=X3.kept (by omega) k1'
 have xx:=((E0.trans X1).trans e2).trans X3
 rcases hw.2 with⟨i1,rfl,rfl⟩|⟨i1,rfl⟩
 ·rcases hw2.2 with⟨i2,rfl,rfl⟩|⟨i2,rfl⟩
  ·rw[if_pos (show QW q from⟨i1,i2⟩)]
   simp -dsimp (maxSteps:=1000000) (disch:=first|omega|(simp only[new_n,put_n];omega)|decide +kernel|(repeat first|rw[new_n]|rw[put_n])) only[wpS,wpT,Nat.reduceEqDiff,Nat.reduceLeDiff,Nat.reduceAdd,zc28,st28,bv30,st30,ld28,pl30_0,pl30_1,ld30,cells8,wdC_len,wdC_all,wd_spl,row_of ga3,k3,wd_take,sh_sp1,sh_sp2,sh_sp3,shC_len,shC_all,sh_take]
   exact⟨(((xx.new _).put (by omega) _).put (by omega) _),rfl⟩
  ·rw[if_neg (show ¬QW q from fun h=>i2 h.2)]
   simp -dsimp (maxSteps:=1000000) (disch:=first|omega|(simp only[new_n,put_n];omega)|decide +kernel|(repeat first|rw[new_n]|rw[put_n])) only[wpS,wpT,Nat.reduceEqDiff,Nat.reduceLeDiff,Nat.reduceAdd,zc28,st28,bv30,st30,ld30,cells8,wdC_len,wdC_all,wd_spl,k3,sh_tz]
   exact⟨(((xx.new _).put (by omega) _).put (by omega) _),by rw[sh_zeroV]⟩
 ·rw[if_neg (show ¬QW q from fun h=>i1 h.1)]
  simp -dsimp (maxSteps:=1000000) (disch:=first|omega|(simp only[new_n,put_n];omega)|decide +kernel|(repeat first|rw[new_n]|rw[put_n])) only[wpS,wpT,Nat.reduceEqDiff,Nat.reduceLeDiff,Nat.reduceAdd,zc28,st28,bv30,st30,ld30,cells8,wdC_len,wdC_all,wd_spl,k3,sh_tz]
  exact⟨(((xx.new _).put (by omega) _).put (by omega) _),by rw[sh_zeroV]⟩
def okS (n d:Nat):Prop:=0<wdI d∧Int.gcd (wdI n) (wdI d)=1
instance (n d:Nat):Decidable (okS n d):=by unfold okS;infer_instance
theorem wdI_small {n:Nat} (hn:n<W8):SmallI (wdI n):=by
 refine smallW ?_
 have h2:=H8_two
 unfold wdI InW
 split<;>constructor<;>omega
set_option maxHeartbeats 2000000 in
theorem shcheck_ok {h:IH} (n d:Nat) (hn:n<W8) (hd:d<W8):WV Proofs.Tryz.prog (.func (.func 136) #[] #[]) [shV n d] h fun r h'=>Ext h h'∧r=KI (if okS n d then 0 else 20):=by
 refine enter (nt:=22) (rs:=[.tmp 2]) Proofs.Tryz.func136 rfl rfl rfl (by simp) ?_
 simp -dsimp (disch:=omega) only[wpS,shV_cells]
 have E1:Ext h (h.new (.cells (shC n d) 0 none)):=(Ext.refl h).new _
 have gs:(h.new (.cells (shC n d) 0 none)).ext.get h.n=some (.cells (shC n d) 0 none):=by simp (disch:=first|omega|(simp only[new_n,put_n];omega)|(repeat first|rw[new_n]|rw[put_n])) only[get_new_same]
 refine call (pfrom_ok 1 ⟨by omega,by omega⟩) ?_
 rintro _ h1 ⟨X1,p1⟩
 have m1:=X1.n
 simp only[new_n] at m1
 obtain⟨s1,rfl,c1,o1⟩:=p1.cells2
 have gs1:=X1.kept (by simp) gs
 have e10:decide ((1:Int)<0)=false:=rfl
 rw[e10] at p1 ⊢
 simp -dsimp (disch:=omega) only[wpS,wpT,Nat.reduceEqDiff,Nat.reduceLeDiff,Nat.reduceAdd,zc81,st81,ld30,o1,row_of gs1,shC_len,sh_take]
 obtain⟨H2,hH2⟩ : ∃H2,H2=(h1.new (.cells ZL 0 none)).put h1.n (.cells [.bool false,s1] 0 none):=⟨_,rfl⟩
 have e2:Ext h1 H2:=by rw[hH2];exact((Ext.refl _).new _).put (Nat.le_refl _) _
 have n2:H2.n=h1.n+1:=by rw[hH2];rfl
 have ga:H2.ext.get h1.n=some (.cells [.bool false,s1] 0 none):=by rw[hH2];simp (disch:=first|omega|(simp only[new_n,put_n];omega)|(repeat first|rw[new_n]|rw[put_n])) only[get_put_same]
 rw[←hH2]
 clear hH2
 refine call (shread_ok n d hn hd) ?_
 rintro _ h3 ⟨X3,a2,s2,b2,t2,rfl,hN,hD⟩
 have m3:=X3.n
 obtain⟨e3,c3,o3⟩:=hN.co
 obtain⟨e4,c4,o4⟩:=hD.co
 subst e3 e4
 simp -dsimp (disch:=omega) only[wpS,wpT,Nat.reduceEqDiff,Nat.reduceLeDiff,Nat.reduceAdd,zc83,st83,o3,o4]
 obtain⟨H0,hH0⟩ : ∃H2,H2=(h3.new (.cells ZR 0 none)).put h3.n (.cells [.bool (decide (wdI n<0)),s2,.bool (decide (wdI d<0)),t2] 0 none):=⟨_,rfl⟩
 have e5:Ext h3 H0:=by rw[hH0];exact((Ext.refl _).new _).put (Nat.le_refl _) _
 have n5:H0.n=h3.n+1:=by rw[hH0];rfl
 have gb:H0.ext.get h3.n=some (.cells [.bool (decide (wdI n<0)),s2,.bool (decide (wdI d<0)),t2] 0 none):=by rw[hH0];simp (disch:=first|omega|(simp only[new_n,put_n];omega)|(repeat first|rw[new_n]|rw[put_n])) only[get_put_same]
 have gc:=e5.kept (by omega) (X3.kept (by omega) ga)
 rw[←hH0]
 clear hH0
 have hN0:=hN.keep e5.keep
 have hD0:=hD.keep e5.keep
 have p10:=p1.keep ((e2.trans X3).trans e5).keep
 have X0:=Ext.refl H0
 obtain⟨L1,L2,_⟩:=pl4 gb
 have L3:=pl2 gc
 have E0:=((((E1.trans X1).trans e2).trans X3).trans e5)
 refine drawn [(10,[9])] (by kernel_rfl) (by kernel_rfl) rfl ?_
 simp -dsimp (disch:=omega) only[wpS,wpT,Nat.reduceEqDiff,Nat.reduceLeDiff,Nat.reduceAdd,fa83_1,ld81,row_of gb,tkB]
 refine call (pside_ok hD0) ?_
 rintro _ h6 ⟨X6,rfl⟩
 have m6:=X6.n
 by_cases hd0:0<wdI d
 ·have hdn:decide (wdI d<0)=false:=decide_eq_false (by omega)
  rw[hdn] at hD0 gb L2
  rw[if_neg (by omega),if_neg (by omega)]
  simp -dsimp (disch:=omega) only[wpS,wpT,Nat.reduceEqDiff,Nat.reduceLeDiff,Nat.reduceAdd,fa83_1,ld81,fa83_0,row_of (X6.kept (by omega) gb),tkA,tkB]
  refine call (pcommon_ok (hN0.keep X6.keep) (hD0.keep X6.keep) (wdI_small hn) (wdI_small hd)) ?_
  rintro g h7 ⟨X7,hg⟩
  have m7:=X7.n
  have X67:=X6.trans X7
  have sg:SmallI (Int.gcd (wdI n) (wdI d):Int):=small_nat ((wdI_small hd).le (Nat.le_of_dvd (by omega) (Nat.gcd_dvd_right _ _)))
  simp -dsimp (disch:=omega) only[wpS,wpT,Nat.reduceEqDiff,Nat.reduceLeDiff,Nat.reduceAdd,ld81,row_of (X67.kept (by omega) gc),tk2']
  refine call (pcmp_ok hg (p10.keep X67.keep) sg (small_nat small1)) ?_
  rintro _ h8 ⟨X8,rfl⟩
  have X68:=X67.trans X8
  have E8:=E0.trans X68
  by_cases hgc:Int.gcd (wdI n) (wdI d)=1
  ·rw[if_neg (by omega),if_pos (by omega),if_pos (show okS n d from⟨hd0,hgc⟩)]
   simp -dsimp (disch:=omega) only[wpS,wpT,Nat.reduceEqDiff]
   refine⟨by repeat' first|refine wpSteady_c2 ?_ ?_|refine wpSteady_t2 ?_ ?_|exact wpSteady_one rfl rfl rfl rfl (steady_ext (H0:=H0) rfl (by omega) (by assumption) (by assumption) (by with_reducible assumption)),?_⟩
   simp -dsimp (disch:=omega) only[wpS,wpT,Nat.reduceEqDiff,Nat.reduceAdd]
   exact E8
  ·rw[if_neg (show ¬okS n d from fun h=>hgc h.2)]
   have hg1 : ¬((Int.gcd (wdI n) (wdI d):Int)<1):=by
    have:=gcd_ne (n:=wdI n) (d:=wdI d) (by omega)
    omega
   rw[if_neg hg1,if_neg (by omega)]
   simp -dsimp (disch:=omega) only[wpS,wpT,Nat.reduceEqDiff]
   refine⟨by repeat' first|refine wpSteady_c2 ?_ ?_|refine wpSteady_t2 ?_ ?_|exact wpSteady_one rfl rfl rfl rfl (steady_ext (H0:=H0) rfl (by omega) (by assumption) (by assumption) (by with_reducible assumption)),?_⟩
   simp -dsimp (disch:=omega) only[wpS,wpT,Nat.reduceEqDiff,Nat.reduceAdd]
   exact E8
 ·rw[if_neg (show ¬okS n d from fun h=>hd0 h.1)]
  have E6:=E0.trans X6
  obtain⟨c,hc,hc0⟩ : ∃c:Int,(if wdI d<0 then (-1:Int) else if wdI d=0 then 0 else 1)=c∧c≤0:=⟨_,rfl,by split<;>(try split)<;>omega⟩
  rw[hc]
  simp -dsimp (disch:=omega) only[wpS,wpT,Nat.reduceEqDiff,show decide (c≤0)=true from decide_eq_true hc0]
  refine⟨wpSteady_not rfl rfl rfl,?_⟩
  simp -dsimp (disch:=omega) only[wpS,wpT,Nat.reduceEqDiff,Nat.reduceAdd]
  exact E6
theorem shvalid1_ok {h:IH} (n d:Nat) (hn:n<W8) (hd:d<W8):WV Proofs.Tryz.prog (.func (.func 135) #[] #[]) [shV n d] h fun r h'=>Ext h h'∧r=.bool (decide (okS n d)):=by
 refine enter (nt:=6) (rs:=[.tmp 2]) Proofs.Tryz.func135 rfl rfl rfl (by simp) ?_
 simp -dsimp (disch:=omega) only[wpS,Nat.reduceEqDiff,Nat.reduceLeDiff,ld30,shV_cells,shC_len,sh_take]
 refine call (shcheck_ok n d hn hd) ?_
 rintro _ h1 ⟨hE,rfl⟩
 have E1:=((Ext.refl h).new (.cells (shC n d) 0 none)).trans hE
 by_cases hok:okS n d
 ·rw[if_pos hok]
  simp -dsimp (disch:=omega) only[wpS,wpT,Nat.reduceEqDiff]
  exact⟨E1,by rw[decide_eq_true hok]⟩
 ·rw[if_neg hok]
  simp -dsimp (disch:=omega) only[wpS,wpT,Nat.reduceEqDiff]
  exact⟨E1,by rw[decide_eq_false hok]⟩
def shL (l:List (Nat×Nat)):List Value:=l.flatMap fun p=>shC p.1 p.2
theorem shL_len (l:List (Nat×Nat)):(shL l).length=l.length*16:=by
 induction l with
 | nil=>rfl
 | cons a l ih=>rw[shL,List.flatMap_cons,List.length_append,shC_len,←shL,ih,List.length_cons];omega
theorem shL_at {l:List (Nat×Nat)} {i:Nat} {p:Nat×Nat} (h:l[i]?=some p):((shL l).drop (i*16)).take 16=shC p.1 p.2:=by
 induction l generalizing i with
 | nil=>simp at h
 | cons a l ih =>
  rw[shL,List.flatMap_cons,←shL]
  cases i with
  | zero =>
   simp at h;subst h
   rw[Nat.zero_mul,List.drop_zero,List.take_append_of_le_length (by rw[shC_len];omega),List.take_of_length_le (by rw[shC_len];omega)]
  | succ i =>
   simp at h
   rw[show(i+1)*16=(shC a.1 a.2).length+i*16 by rw[shC_len];omega,List.drop_length_add_append]
   exact ih h
theorem shL_all (l:List (Nat×Nat)):(shL l).all cellOK=true:=by
 induction l with
 | nil=>rfl
 | cons a l ih=>rw[shL,List.flatMap_cons,List.all_append,shC_all,←shL,ih];rfl
def ShSl (h:IH) (v:Value) (l:List (Nat×Nat)):Prop:=SlOf h 16 v l.length (shL l)∧l.length<1152921504606846976 ∧ ∀p∈l,p.1<W8∧p.2<W8
theorem ShSl.keep {h h':IH} {v:Value} {l:List (Nat×Nat)} (s:ShSl h v l) (e:Keep h h'):ShSl h' v l:=⟨s.1.keep e,s.2⟩
theorem ShSl.ld {h h':IH} {v:Value} {l:List (Nat×Nat)} (s:ShSl h v l) (e:Keep h h') {i:Nat} {p:Nat×Nat} (hi:l[i]?=some p):load Proofs.Tryz.prog h' 30 (elemAddr v (i*16))=some (shV p.1 p.2):=by
 have hl:i<l.length:=(List.getElem?_eq_some_iff.1 hi).1
 rw[s.1.ldAgg e (by rw[shL_len];omega) (by omega) ag30 sz30,shL_at hi];rfl
theorem shall_ok {h:IH} {v:Value} {l:List (Nat×Nat)} (hv:ShSl h v l):WV Proofs.Tryz.prog (.func (.func 137) #[] #[]) [(.func (.func 135) #[] #[]),v] h fun r h'=>Ext h h'∧r=.bool (decide (∀p∈l,okS p.1 p.2)):=by
 refine enter (nt:=18) (rs:=[.tmp 4]) Proofs.Tryz.func137 rfl rfl rfl (by simp) ?_
 simp -dsimp (disch:=omega) only[wpS,Nat.reduceEqDiff,Nat.reduceAdd,hv.1.len sl25]
 refine loop (fun m fr h1 => ∃i:Nat,i+m=l.length∧Ext h h1∧(∀j p,j<i→l[j]?=some p→okS p.1 p.2)∧fget fr 0=some (.func (.func 135) #[] #[])∧fget fr 7=some v∧fget fr 8=some (KN l.length)∧fget fr 9=some (KN i)) l.length
  ⟨0,by omega,Ext.refl _,fun j p hj=>by omega,by simp,by simp,by simp,by simp⟩ ?_
 rintro m fr h1 ⟨i,him,hE,hok,f0,f7,f8,f9⟩
 simp -dsimp (disch:=omega) only[wpS,f8,f9]
 refine bq_intro ?_ ?_<;>intro hc<;>simp only[decide_eq_true_eq,decide_eq_false_iff_not] at hc
 ·have hi:i<l.length:=by omega
  obtain⟨p,hp⟩ : ∃p,l[i]?=some p:=⟨_,List.getElem?_eq_getElem hi⟩
  have hpm:=List.mem_of_getElem? hp
  obtain⟨w1,w2⟩:=hv.2.2 p hpm
  have hlb:=hv.2.1
  simp -dsimp (disch:=omega) only[wpS,wpT,Nat.reduceEqDiff,Nat.reduceLeDiff,Nat.reduceAdd,ld30,zc30,st30,f0,f7,f9,hv.1.idx es25 hi,hv.ld hE.keep hp,shV_cells,shC_len,shC_all,sh_sp3,sh_take]
  refine call (shvalid1_ok p.1 p.2 w1 w2) ?_
  rintro _ h2 ⟨hE2,rfl⟩
  have E2:=((hE.new (.cells Z16 0 none)).put hE.n (.cells (shC p.1 p.2) 0 none)).trans hE2
  by_cases hk:okS p.1 p.2
  ·rw[decide_eq_true hk]
   simp -dsimp (disch:=omega) only[wpS,wpT,Nat.reduceEqDiff,f9]
   refine⟨m - 1,by omega,i+1,by omega,E2,?_,by simp[f0],by simp[f7],by simp[f8],by simp⟩
   intro j q hj hq
   by_cases hji:j=i
   ·subst hji;rw[hp] at hq;cases hq;exact hk
   ·exact hok j q (by omega) hq
  ·rw[decide_eq_false hk]
   simp -dsimp (disch:=omega) only[wpS,wpT,Nat.reduceEqDiff]
   refine⟨E2,?_⟩
   rw[decide_eq_false fun hall=>hk (hall p hpm)]
 ·simp -dsimp (disch:=omega) only[wpS,wpT]
  refine⟨hE,?_⟩
  rw[decide_eq_true]
  intro p hp
  obtain⟨j,hj⟩:=List.getElem?_of_mem hp
  have:=(List.getElem?_eq_some_iff.1 hj).1
  exact hok j p (by omega) hj
theorem shvalid_ok {h:IH} {v:Value} {l:List (Nat×Nat)} (hv:ShSl h v l):WV Proofs.Tryz.prog (.func (.func 96) #[] #[]) [v] h fun r h'=>Ext h h'∧r=.bool (decide (∀p∈l,okS p.1 p.2)):=by
 refine enter (nt:=7) (rs:=[.tmp 2]) Proofs.Tryz.func96 rfl rfl rfl (by simp) ?_
 simp -dsimp (disch:=omega) only[wpS,Nat.reduceEqDiff]
 refine call (shall_ok hv) ?_
 rintro _ h1 ⟨hE,rfl⟩
 simp -dsimp (disch:=omega) only[wpS,wpT,Nat.reduceEqDiff]
 exact hE
end Go.Id

/-! Contracts: the program's fractions of integers; shares made. -/
namespace Go.Id
open Go
theorem whole_ok {h:IH} {v:Value} {n:Int} (hv:PLong h v n):WV Proofs.Tryz.prog (.func (.func 113) #[] #[]) [v] h fun r h'=>Ext h h'∧PRat h' r (n:Rat):=by
 obtain⟨s,rfl,c1,o1⟩:=hv.cells2
 refine enter (nt:=6) (rs:=[.cell 2 83]) Proofs.Tryz.func113 rfl rfl rfl (by simp) ?_
 simp -dsimp (disch:=omega) only[wpS,zc83]
 obtain⟨H0,hH0,n0,E0,g0,g1⟩:=boxes2 h [.bool (decide (n<0)),s] ZR
 rw[←hH0]
 clear hH0
 have X0:=Ext.refl H0
 have L1:=pl2 g0
 refine drawn [(0,[3])] (by kernel_rfl) (by kernel_rfl) rfl ?_
 simp -dsimp (disch:=omega) only[wpS,wpT,Nat.reduceEqDiff,Nat.reduceLeDiff,Nat.reduceAdd,ld81,row_of g0,tk2']
 refine call (pfrom_ok 1 ⟨by omega,by omega⟩) ?_
 rintro _ h1 ⟨X1,p1⟩
 have m1:=X1.n
 obtain⟨s1,rfl,c2,o2⟩:=p1.cells2
 have kg:=X1.kept (by omega) g1
 simp -dsimp (disch:=omega) only[wpS,wpT,Nat.reduceEqDiff,Nat.reduceLeDiff,Nat.reduceAdd,bv83,pl83_0,pl83_1,st83,kg,o1,o2]
 refine⟨by repeat' first|refine wpSteady_c2 ?_ ?_|refine wpSteady_t2 ?_ ?_|exact wpSteady_one rfl rfl rfl rfl (steady_ext (H0:=H0) rfl (by omega) (by assumption) (by assumption) (by with_reducible assumption)),?_⟩
 simp -dsimp (disch:=omega) only[wpS,wpT,Nat.reduceEqDiff,Nat.reduceLeDiff,Nat.reduceAdd,ld83,tk4']
 have kp:=(Keep.refl h1).put kg (.cells [.bool (decide (n<0)),s,.bool false,s1] 0 none)
 exact⟨(E0.trans X1).put (by omega) _,_,_,_,_,rfl,hv.keep ((E0.trans X1).keep.trans kp),p1.keep kp⟩
theorem rfrom_ok {h:IH} (n:Int) (hn:In64 n):WV Proofs.Tryz.prog (.func (.func 60) #[] #[]) [KI n] h fun r h'=>Ext h h'∧PRat h' r (n:Rat):=by
 refine enter (nt:=6) (rs:=[.cell 2 83]) Proofs.Tryz.func60 rfl rfl rfl (by simp) ?_
 simp -dsimp (disch:=omega) only[wpS,Nat.reduceEqDiff,zc83]
 have E1:Ext h (h.new (.cells ZR 0 none)):=(Ext.refl h).new _
 have g1:(h.new (.cells ZR 0 none)).ext.get h.n=some (.cells ZR 0 none):=by simp (disch:=first|omega|(simp only[new_n,put_n];omega)|(repeat first|rw[new_n]|rw[put_n])) only[get_new_same]
 refine call (pfrom_ok n hn) ?_
 rintro _ h1 ⟨X1,p1⟩
 simp -dsimp (disch:=omega) only[wpS,Nat.reduceEqDiff]
 refine call (whole_ok p1) ?_
 rintro _ h2 ⟨X2,p2⟩
 have m1:=X1.n
 have m2:=X2.n
 simp only[new_n] at m1
 obtain⟨a3,s3,b3,t3,rfl,_,_,d1,o1,d2,o2,o3,o4⟩:=p2.parts
 have kg:=X2.kept (by omega) (X1.kept (by simp) g1)
 simp -dsimp (disch:=omega) only[wpS,wpT,Nat.reduceEqDiff,Nat.reduceLeDiff,Nat.reduceAdd,st83,ld83,kg,o1,o2,o3,o4,tk4']
 exact⟨((E1.trans X1).trans X2).put (by omega) _,p2.keep ((Keep.refl _).put kg _)⟩
theorem wdI_zero_iff {d:Nat} (hd:d<W8):wdI d=0↔d=0:=by
 have h2:=H8_two
 have h3:=H8_pos
 unfold wdI
 split<;>omega
set_option maxHeartbeats 2000000 in
theorem shmake_ok {h:IH} (n d:Nat) (hn:n<W8) (hd:d<W8) (d0:d≠0):WV Proofs.Tryz.prog (.func (.func 125) #[] #[]) [wdV n,wdV d] h fun r h'=>Ext h h'∧r=(open Classical in if QW (Rat.divInt (wdI n) (wdI d)) then .tuple #[shareV (Rat.divInt (wdI n) (wdI d)),KI 0] else .tuple #[shV 0 0,KI 6]):=by
 refine enter (nt:=18) (rs:=[.cell 4 30,.tmp 5]) Proofs.Tryz.func125 rfl rfl rfl (by simp) ?_
 simp -dsimp (maxSteps:=1000000) (disch:=first|omega|(simp only[new_n,put_n];omega)|decide +kernel|(repeat first|rw[new_n]|rw[put_n])) only[wpS,wpT,Nat.reduceEqDiff,Nat.reduceLeDiff,Nat.reduceAdd,zc30,ld28,bv28,cells8,wdC_len]
 obtain⟨H0,hH0,n0,E0,g0,g1,g2⟩:=boxes3 h (wdC n) (wdC d) Z16
 rw[←hH0]
 clear hH0
 have X0:=Ext.refl H0
 have L2:load Proofs.Tryz.prog H0 28 (ptr (2*(h.n+1)) 0)=some (wdV d):=by
  simp -dsimp (maxSteps:=1000000) (disch:=first|omega|(simp only[new_n,put_n];omega)|decide +kernel|(repeat first|rw[new_n]|rw[put_n])) only[wpS,Nat.reduceLeDiff,ld28,row_of g1,wdC_len,wd_take]
  rfl
 have hz:binop Proofs.Tryz.prog .eql 28 (.tmp 6) (.tmp 7) (.agg (wdC d).toArray) (.agg #[ZW,ZW,ZW,ZW,ZW,ZW,ZW,ZW])=some (.bool false):=by
  rw[wd_zero,wdV,wd_eql hd (by have:=H8_two;have:=H8_pos;omega)]
  rw[decide_eq_false d0]
 have hdI:wdI d≠0:=fun h=>d0 ((wdI_zero_iff hd).1 h)
 simp -dsimp (maxSteps:=1000000) (disch:=first|omega|(simp only[new_n,put_n];omega)|decide +kernel|(repeat first|rw[new_n]|rw[put_n])) only[wpS,Nat.reduceEqDiff,wd_take,hz]
 refine drawn [(2,[1])] (by kernel_rfl) (by kernel_rfl) rfl ?_
 simp -dsimp (maxSteps:=1000000) (disch:=first|omega|(simp only[new_n,put_n];omega)|decide +kernel|(repeat first|rw[new_n]|rw[put_n])) only[wpS,Nat.reduceEqDiff,Nat.reduceLeDiff,ld28,row_of g0,wdC_len,wd_take]
 refine call (longer_ok n hn) ?_
 rintro r1 h1 ⟨X1,p1⟩
 have m1:=X1.n
 simp -dsimp (maxSteps:=1000000) (disch:=first|omega|(simp only[new_n,put_n];omega)|decide +kernel|(repeat first|rw[new_n]|rw[put_n])) only[wpS,Nat.reduceEqDiff,Nat.reduceLeDiff,ld28,row_of (X1.kept (by omega) g1),wdC_len,wd_take]
 refine call (longer_ok d hd) ?_
 rintro r2 h2 ⟨hE2,p2⟩
 have X2:=X1.trans hE2
 have m2:=hE2.n
 simp -dsimp (maxSteps:=1000000) (disch:=first|omega|(simp only[new_n,put_n];omega)|decide +kernel|(repeat first|rw[new_n]|rw[put_n])) only[wpS,Nat.reduceEqDiff]
 refine call (lowest_ok (p1.keep hE2.keep) p2 (wdI_small hn) (wdI_small hd) hdI) ?_
 rintro r3 h3 ⟨hE3,p3⟩
 have X3:=X2.trans hE3
 have m3:=hE3.n
 simp -dsimp (maxSteps:=1000000) (disch:=first|omega|(simp only[new_n,put_n];omega)|decide +kernel|(repeat first|rw[new_n]|rw[put_n])) only[wpS,Nat.reduceEqDiff]
 refine call (rtold_ok p3) ?_
 rintro _ h4 ⟨hE4,rfl⟩
 have X4:=X3.trans hE4
 have m4:=hE4.n
 have kg:=X4.kept (by omega) g2
 by_cases hq:QW (Rat.divInt (wdI n) (wdI d))
 ·rw[if_pos hq]
  simp -dsimp (maxSteps:=1000000) (disch:=first|omega|(simp only[new_n,put_n];omega)|decide +kernel|(repeat first|rw[new_n]|rw[put_n])) only[wpS,wpT,Nat.reduceEqDiff,Nat.reduceLeDiff,Nat.reduceAdd,st30,kg,shV_cells,shC_len,shC_all,sh_sp3]
  refine⟨by repeat' first|refine wpSteady_c2 ?_ ?_|refine wpSteady_t2 ?_ ?_|exact wpSteady_one rfl rfl rfl rfl (steady_ext (H0:=H0) rfl (by omega) (by assumption) (by assumption) (by with_reducible assumption)),?_⟩
  simp -dsimp (maxSteps:=1000000) (disch:=first|omega|(simp only[new_n,put_n];omega)|decide +kernel|(repeat first|rw[new_n]|rw[put_n])) only[wpS,wpT,Nat.reduceEqDiff,Nat.reduceLeDiff,Nat.reduceAdd,ld30,shC_len,sh_take]
  exact⟨(E0.trans X4).put (by omega) _,rfl⟩
 ·rw[if_neg hq]
  simp -dsimp (maxSteps:=1000000) (disch:=first|omega|(simp only[new_n,put_n];omega)|decide +kernel|(repeat first|rw[new_n]|rw[put_n])) only[wpS,wpT,Nat.reduceEqDiff,Nat.reduceLeDiff,Nat.reduceAdd,st30,kg,shV_cells,shC_len,shC_all,sh_sp3]
  refine⟨by repeat' first|refine wpSteady_c2 ?_ ?_|refine wpSteady_t2 ?_ ?_|exact wpSteady_one rfl rfl rfl rfl (steady_ext (H0:=H0) rfl (by omega) (by assumption) (by assumption) (by with_reducible assumption)),?_⟩
  simp -dsimp (maxSteps:=1000000) (disch:=first|omega|(simp only[new_n,put_n];omega)|decide +kernel|(repeat first|rw[new_n]|rw[put_n])) only[wpS,wpT,Nat.reduceEqDiff,Nat.reduceLeDiff,Nat.reduceAdd,ld30,shC_len,sh_take]
  exact⟨(E0.trans X4).put (by omega) _,rfl⟩
theorem qw_div {n d:Int} (hn:In64 n) (hd:In64 d) (d0:d≠0):QW (Rat.divInt n d):=by
 have h3:=H8_big
 have q:=QB.divInt (k:=63) d0 (n:=n) (by have:=hn.1;have:=hn.2;omega) (by have:=hd.1;have:=hd.2;omega)
 obtain⟨q1,q2⟩:=q
 have e:2 ^ 63=9223372036854775808:=by decide
 rw[e] at q1 q2
 exact⟨⟨by omega,by omega⟩,⟨by omega,by omega⟩⟩
theorem inW64 {n:Int} (hn:In64 n):InW n:=by
 have h3:=H8_big
 exact⟨by have:=hn.1;omega,by have:=hn.2;omega⟩
theorem wideN0 {n:Int} (hn:In64 n) (h0:n≠0):wideN n≠0:=by
 have hw:=inW64 hn
 have:=wdI_wideN hw
 intro h
 rw[h] at this
 have h2:=H8_pos
 unfold wdI at this
 rw[if_pos h2] at this
 omega
theorem shof_ok {h:IH} (n d:Int) (hn:In64 n) (hd:In64 d) (d0:d≠0):WV Proofs.Tryz.prog (.func (.func 75) #[] #[]) [KI n,KI d] h fun r h'=>Ext h h'∧r=.tuple #[shareV (Rat.divInt n d),KI 0]:=by
 refine enter (nt:=13) (rs:=[.cell 4 30,.tmp 5]) Proofs.Tryz.func75 rfl rfl rfl (by simp) ?_
 simp -dsimp (disch:=omega) only[wpS,Nat.reduceEqDiff,Nat.reduceAdd,zc30]
 have E1:Ext h (h.new (.cells Z16 0 none)):=(Ext.refl h).new _
 have g1:(h.new (.cells Z16 0 none)).ext.get h.n=some (.cells Z16 0 none):=by simp (disch:=first|omega|(simp only[new_n,put_n];omega)|(repeat first|rw[new_n]|rw[put_n])) only[get_new_same]
 refine call (wideOf_ok n hn) ?_
 rintro _ h1 ⟨X1,rfl⟩
 simp -dsimp (disch:=omega) only[wpS,Nat.reduceEqDiff]
 refine call (wideOf_ok d hd) ?_
 rintro _ h2 ⟨X2,rfl⟩
 simp -dsimp (disch:=omega) only[wpS,Nat.reduceEqDiff]
 refine call (shmake_ok (wideN n) (wideN d) (wideN_lt (inW64 hn)) (wideN_lt (inW64 hd)) (wideN0 hd d0)) ?_
 rintro _ h3 ⟨X3,rfl⟩
 rw[wdI_wideN (inW64 hn),wdI_wideN (inW64 hd),if_pos (qw_div hn hd d0)]
 have m1:=X1.n
 have m2:=X2.n
 have m3:=X3.n
 simp only[new_n] at m1
 have kg:=X3.kept (by omega) (X2.kept (by omega) (X1.kept (by simp) g1))
 simp -dsimp (disch:=omega) only[wpS,wpT,Nat.reduceEqDiff,Nat.reduceLeDiff,Nat.reduceAdd,st30,ld30,kg,shV_cells,shC_len,shC_all,sh_sp3,sh_take]
 exact⟨(((E1.trans X1).trans X2).trans X3).put (by omega) _,rfl⟩
end Go.Id

/-! Contracts: package diagnose: what is wrong with a chain; lists read; sums; means. -/
namespace Go.Id
open Go
theorem kept_p:Kept PRat:=fun _ _ _ _ r e=>r.keep e
def rOf (p:Nat×Nat):Rat:=Rat.divInt (wdI p.1) (wdI p.2)
theorem rOf_parts {p:Nat×Nat} (h:okS p.1 p.2):(rOf p).num=wdI p.1∧((rOf p).den:Int)=wdI p.2:=by
 obtain⟨h1,h2⟩:=h
 obtain⟨a,b⟩:=low_pos (n:=wdI p.1) h1
 rw[h2] at a b
 simp only[Int.natCast_one,Int.ediv_one] at a b
 exact⟨a.symm,b.symm⟩
theorem wrong1_ok {h:IH} (n d:Nat) (hn:n<W8) (hd:d<W8):WV Proofs.Tryz.prog (.func (.func 147) #[] #[]) [shV n d] h fun r h'=>Ext h h'∧r=.bool (!decide (okS n d)):=by
 refine enter (nt:=6) (rs:=[.tmp 2]) Proofs.Tryz.func147 rfl rfl rfl (by simp) ?_
 simp -dsimp (disch:=omega) only[wpS,Nat.reduceEqDiff,Nat.reduceLeDiff,ld30,shV_cells,shC_len,sh_take]
 refine call (shcheck_ok n d hn hd) ?_
 rintro _ h1 ⟨hE,rfl⟩
 have E1:=((Ext.refl h).new (.cells (shC n d) 0 none)).trans hE
 by_cases hok:okS n d
 ·rw[if_pos hok]
  simp -dsimp (disch:=omega) only[wpS,wpT,Nat.reduceEqDiff]
  exact⟨E1,by rw[decide_eq_true hok];rfl⟩
 ·rw[if_neg hok]
  simp -dsimp (disch:=omega) only[wpS,wpT,Nat.reduceEqDiff]
  exact⟨E1,by rw[decide_eq_false hok];rfl⟩
abbrev allOk (l:List (Nat×Nat)):Prop:=∀p∈l,okS p.1 p.2
theorem shindex_ok {h:IH} {v:Value} {l:List (Nat×Nat)} (hv:ShSl h v l):WV Proofs.Tryz.prog (.func (.func 167) #[] #[]) [v,(.func (.func 147) #[] #[])] h fun r h'=>Ext h h' ∧ ∃c:Int,r=KI c∧(0≤c ↔ ¬allOk l):=by
 have hlb:=hv.2.1
 refine enter (nt:=19) (rs:=[.tmp 4]) Proofs.Tryz.func167 rfl rfl rfl (by simp) ?_
 simp -dsimp (disch:=omega) only[wpS,Nat.reduceEqDiff,Nat.reduceAdd,hv.1.len sl25]
 refine loop (fun m fr h1 => ∃i:Nat,i+m=l.length∧Ext h h1∧(∀j p,j<i→l[j]?=some p→okS p.1 p.2)∧fget fr 0=some v∧fget fr 1=some (.func (.func 147) #[] #[])∧fget fr 7=some (KN l.length)∧fget fr 8=some (KN i)) l.length
  ⟨0,by omega,Ext.refl _,fun j p hj=>by omega,by simp,by simp,by simp,by simp⟩ ?_
 rintro m fr h1 ⟨i,him,hE,hok,f0,f1,f7,f8⟩
 simp -dsimp (disch:=omega) only[wpS,f7,f8]
 refine bq_intro ?_ ?_<;>intro hc<;>simp only[decide_eq_true_eq,decide_eq_false_iff_not] at hc
 ·have hi:i<l.length:=by omega
  obtain⟨p,hp⟩ : ∃p,l[i]?=some p:=⟨_,List.getElem?_eq_getElem hi⟩
  have hpm:=List.mem_of_getElem? hp
  obtain⟨w1,w2⟩:=hv.2.2 p hpm
  simp -dsimp (disch:=omega) only[wpS,wpT,Nat.reduceEqDiff,f0,f1,f8,hv.1.idx es25 hi,hv.ld hE.keep hp]
  refine call (wrong1_ok p.1 p.2 w1 w2) ?_
  rintro _ h2 ⟨hE2,rfl⟩
  have E2:=hE.trans hE2
  by_cases hk:okS p.1 p.2
  ·rw[decide_eq_true hk]
   simp -dsimp (disch:=omega) only[wpS,wpT,Nat.reduceEqDiff,f8]
   refine⟨m - 1,by omega,i+1,by omega,E2,?_,by simp[f0],by simp[f1],by simp[f7],by simp⟩
   intro j q hj hq
   by_cases hji:j=i
   ·subst hji;rw[hp] at hq;cases hq;exact hk
   ·exact hok j q (by omega) hq
  ·rw[decide_eq_false hk]
   simp -dsimp (disch:=omega) only[wpS,wpT,Nat.reduceEqDiff]
   exact⟨E2,(i:Int),rfl,fun _ hall=>hk (hall p hpm),fun _=>by omega⟩
 ·simp -dsimp (disch:=omega) only[wpS,wpT]
  refine⟨hE,-1,rfl,fun h=>by omega,fun hn=>?_⟩
  exfalso
  apply hn
  intro p hp
  obtain⟨j,hj⟩:=List.getElem?_of_mem hp
  have:=(List.getElem?_eq_some_iff.1 hj).1
  exact hok j p (by omega) hj
theorem wrong_ok {h:IH} {v:Value} {l:List (Nat×Nat)} (hv:ShSl h v l):WV Proofs.Tryz.prog (.func (.func 106) #[] #[]) [v] h fun r h'=>Ext h h'∧r=.bool (decide (¬allOk l)):=by
 refine enter (nt:=5) (rs:=[.tmp 2]) Proofs.Tryz.func106 rfl rfl rfl (by simp) ?_
 simp -dsimp (disch:=omega) only[wpS,Nat.reduceEqDiff]
 have hcf:WV Proofs.Tryz.prog (.func (.func 146) #[] #[]) [v,(.func (.func 147) #[] #[])] h fun r h'=>Ext h h'∧r=.bool (decide (¬allOk l)):=by
  refine enter (nt:=9) (rs:=[.tmp 4]) Proofs.Tryz.func146 rfl rfl rfl (by simp) ?_
  simp -dsimp (disch:=omega) only[wpS,Nat.reduceEqDiff,Nat.reduceAdd]
  refine call (shindex_ok hv) ?_
  rintro _ h1 ⟨hE,c,rfl,hc⟩
  simp -dsimp (disch:=omega) only[wpS,Nat.reduceEqDiff]
  exact⟨hE,by rw[decide_eq_decide.2 hc]⟩
 refine call hcf ?_
 rintro _ h1 ⟨hE,rfl⟩
 simp -dsimp (disch:=omega) only[wpS,wpT,Nat.reduceEqDiff]
 exact hE
def chErr (l:List (Nat×Nat)):Int:=if 200<l.length then 3 else if ¬allOk l then 20 else if l.length=0 then 4 else 0
theorem dgcheck_ok {h:IH} {v:Value} {l:List (Nat×Nat)} (hv:ShSl h v l):WV Proofs.Tryz.prog (.func (.func 69) #[] #[]) [v] h fun r h'=>Ext h h'∧r=KI (chErr l):=by
 unfold chErr
 refine enter (nt:=14) (rs:=[.tmp 2]) Proofs.Tryz.func69 rfl rfl rfl (by simp) ?_
 simp -dsimp (disch:=omega) only[wpS,Nat.reduceEqDiff,hv.1.len sl25]
 refine bq_intro ?_ ?_<;>intro hc<;>simp only[decide_eq_true_eq,decide_eq_false_iff_not] at hc
 ·rw[if_pos (by omega)]
  simp -dsimp (disch:=omega) only[wpS,wpT,Nat.reduceEqDiff]
  exact Ext.refl h
 ·rw[if_neg (by omega)]
  simp -dsimp (disch:=omega) only[wpS,wpT,Nat.reduceEqDiff]
  refine call (wrong_ok hv) ?_
  rintro _ h1 ⟨hE,rfl⟩
  by_cases hall:allOk l
  ·rw[if_neg (by simpa using hall),decide_eq_false (by simpa using hall)]
   simp -dsimp (disch:=omega) only[wpS,Nat.reduceEqDiff,hv.1.len sl25]
   refine bq_intro ?_ ?_<;>intro hc2<;>simp only[beq_iff_eq,beq_eq_false_iff_ne,ne_eq] at hc2
   ·rw[if_pos (by omega)]
    simp -dsimp (disch:=omega) only[wpS,wpT,Nat.reduceEqDiff]
    exact hE
   ·rw[if_neg (by omega)]
    simp -dsimp (disch:=omega) only[wpS,wpT]
    exact hE
  ·rw[if_pos hall,decide_eq_true hall]
   simp -dsimp (disch:=omega) only[wpS,wpT,Nat.reduceEqDiff]
   exact hE
theorem read4 {P:Program} {t:TypeId} {bytes:Nat} (hT:appT P t=some (4,bytes)) (hb:bytes≤1000) {R:IH→Value→Rat→Prop} (kR:Kept R) {h:IH} {n0:Nat} {v:Value} {l:List Rat} {cs:List Value} (a:Acc h n0 4 v l.length cs) (hc:ElCs R h l cs) {x1 x2 x3 x4:Value} {q:Rat} (r:R h (.agg #[x1,x2,x3,x4]) q) (o:([x1,x2,x3,x4]:List Value).all cellOK=true) (hl:l.length<100000) (h0:n0≤h.n) {h0':IH} (e0:Ext h0' h) (hn0:h0'.n≤n0) :
  ∃v' h',append P (h.new (.cells [x1,x2,x3,x4] 4 none)) t v (.slice (some ⟨2*h.n,0,none⟩) 1 3)=some (v',h')∧Acc h' n0 4 v' (l ++ [q]).length (cs ++ [x1,x2,x3,x4])∧ElCs R h' (l ++ [q]) (cs ++ [x1,x2,x3,x4])∧Grow h h'∧Ext h0' h':=by
 have hsz:(l.length+1)*(bytes+1)≤1099511627776:=by
  have:(l.length+1)*(bytes+1)≤100000*1001:=Nat.mul_le_mul (by omega) (by omega)
  omega
 obtain⟨v',h',b1,b2,b3,b4⟩:=a.appN hT (m:=1) (new:=[x1,x2,x3,x4]) (by omega) rfl o hsz h0 e0 hn0
 exact⟨v',h',b1,by simpa using b2,(hc.snoc r).keep kR b3.keep,b3,b4⟩
set_option maxHeartbeats 2000000 in
theorem read_list_ok {h:IH} {v:Value} {l:List (Nat×Nat)} (hv:ShSl h v l) (hok:allOk l) (hl:l.length≤1000):WV Proofs.Tryz.prog (.func (.func 71) #[] #[]) [v] h fun r h'=>Ext h h'∧ElSl PRat h' r (l.map rOf):=by
 refine enter (nt:=19) (rs:=[.tmp 2]) Proofs.Tryz.func71 rfl rfl rfl (by simp) ?_
 simp -dsimp (disch:=omega) only[wpS,Nat.reduceEqDiff,hv.1.len sl25]
 refine loop (fun m fr h1 => ∃(i:Nat) (out:Value) (cs:List Value),i+m=l.length∧Ext h h1∧Acc h1 h.n 4 out ((l.take i).map rOf).length cs∧ElCs PRat h1 ((l.take i).map rOf) cs∧fget fr 3=some out∧fget fr 6=some v∧fget fr 7=some (KN l.length)∧fget fr 8=some (KN i)) l.length
  ⟨0,.slice none 0 0,[],by omega,Ext.refl _,Acc.nil h _ (by omega),by simp[ElCs],by simp,by simp,by simp,by simp⟩ ?_
 rintro m fr h1 ⟨i,out,cs,him,hE,hA,hC,f3,f6,f7,f8⟩
 simp -dsimp (disch:=omega) only[wpS,f7,f8]
 refine bq_intro ?_ ?_<;>intro hc<;>simp only[decide_eq_true_eq,decide_eq_false_iff_not] at hc
 ·have hi:i<l.length:=by omega
  obtain⟨p,hp⟩ : ∃p,l[i]?=some p:=⟨_,List.getElem?_eq_getElem hi⟩
  have hpm:=List.mem_of_getElem? hp
  obtain⟨w1,w2⟩:=hv.2.2 p hpm
  simp -dsimp (disch:=omega) only[wpS,wpT,Nat.reduceEqDiff,Nat.reduceLeDiff,Nat.reduceAdd,ld30,zc30,st30,f3,f6,f8,hv.1.idx es25 hi,hv.ld hE.keep hp,shV_cells,shC_len,shC_all,sh_sp3,sh_take]
  have E1:Ext h1 ((h1.new (.cells Z16 0 none)).put h1.n (.cells (shC p.1 p.2) 0 none)):=((Ext.refl h1).new _).put (Nat.le_refl _) _
  refine call (shread_ok p.1 p.2 w1 w2) ?_
  rintro r h2 ⟨hE2,hr⟩
  obtain⟨q1,q2⟩:=rOf_parts (hok p hpm)
  have hr':PRat h2 r (rOf p):=by unfold PRat;rw[q1,q2];exact hr
  obtain⟨a3,s3,b3,t3,rfl,_,_,_,o1,_,o2,o3,o4⟩:=hr'.parts
  have X2:=E1.trans hE2
  have n1:=hE.n
  have n2:=X2.n
  obtain⟨out',h5,hap,hA5,hC5,hG5,hE5⟩:=read4 ap103 (by omega) kept_p (hA.ext X2) (hC.keep kept_p X2.keep) hr' (by simp[o1,o2,o3,o4]) (by simp;omega) (by omega) (hE.trans X2) (Nat.le_refl _)
  have eT:(l.take i).map rOf ++ [rOf p]=(l.take (i+1)).map rOf:=by rw[take_snoc hp,List.map_append];rfl
  rw[eT] at hA5 hC5
  simp -dsimp (disch:=omega) only[wpS,wpT,Nat.reduceEqDiff,Nat.reduceLeDiff,Nat.reduceAdd,bs103,ba103_103,f8,hap]
  exact⟨m - 1,by omega,i+1,out',_,by omega,hE5,hA5,hC5,by simp,by simp[f6],by simp[f7],by simp⟩
 ·obtain rfl:i=l.length:=by omega
  rw[List.take_length] at hA hC
  simp -dsimp (disch:=omega) only[wpS,wpT,Nat.reduceEqDiff,f3]
  exact⟨hE,cs,hA.sl,hC,by simp;omega⟩
end Go.Id

/-! Contracts: package diagnose: sums, means, squares, chains. -/
namespace Go.Id
open Go
theorem plain_ok {h:IH} {v:Value} {q:Rat} (hv:PRat h v q):WV Proofs.Tryz.prog (.func (.func 123) #[] #[]) [v] h fun r h'=>Ext h h'∧PRat h' r q:=by
 obtain⟨a1,s1,b1,t1,rfl,hn1,hd1,c1,o1,c2,o2,o3,o4⟩:=hv.parts
 refine enter (nt:=4) (rs:=[.cell 2 83]) Proofs.Tryz.func123 rfl rfl rfl (by simp) ?_
 simp -dsimp (maxSteps:=1000000) (disch:=first|omega|(simp only[new_n,put_n];omega)|decide +kernel|(repeat first|rw[new_n]|rw[put_n])) only[wpS,wpT,Nat.reduceEqDiff,Nat.reduceLeDiff,Nat.reduceAdd,zc83,ld83,st83,tk4',o1,o2,o3,o4]
 have E1:Ext h (((h.new (.cells [a1,s1,b1,t1] 0 none)).new (.cells ZR 0 none)).put (h.n+1) (.cells [a1,s1,b1,t1] 0 none)):=(((Ext.refl h).new _).new _).put (by omega) _
 exact⟨E1,hv.keep E1.keep⟩
set_option maxHeartbeats 2000000 in
theorem total_ok {h:IH} {v F:Value} {l:List Rat} (hv:ElSl PRat h v l) (f:Rat→Rat) (k:Nat) (hF : ∀h1 w q,Ext h h1→PRat h1 w q→q∈l→WV Proofs.Tryz.prog F [w] h1 fun r h2=>Ext h1 h2∧PRat h2 r (f q)) (hk : ∀q∈l,QB k (f q)) (hb:l.length*(k+1)<16000000) :
  WV Proofs.Tryz.prog (.func (.func 122) #[] #[]) [v,F] h fun r h'=>Ext h h'∧PRat h' r (qsum (l.map f)):=by
 obtain⟨cs0,hs0,_,hlen⟩:=id hv
 have hQ : ∀i,i≤l.length→QB (i*(k+1)) (qsum ((l.take i).map f)):=by
  intro i hi
  have:=QB.qsum (k:=k) (l:=l.map f) (by intro q hq;obtain⟨x,hx,rfl⟩:=List.mem_map.1 hq;exact hk x hx) i (by simpa using hi)
  rwa [←List.map_take] at this
 refine enter (nt:=22) (rs:=[.cell 4 83]) Proofs.Tryz.func122 rfl rfl rfl (by simp) ?_
 simp -dsimp (disch:=omega) only[wpS,Nat.reduceAdd,zc83]
 have E1:Ext h (h.new (.cells ZR 0 none)):=(Ext.refl h).new _
 have g1:(h.new (.cells ZR 0 none)).ext.get h.n=some (.cells ZR 0 none):=by simp (disch:=first|omega|(simp only[new_n,put_n];omega)|(repeat first|rw[new_n]|rw[put_n])) only[get_new_same]
 refine call (rfrom_ok 0 ⟨by omega,by omega⟩) ?_
 rintro z h1 ⟨X1,p1⟩
 have m1:=X1.n
 simp only[new_n] at m1
 obtain⟨a3,s3,b3,t3,rfl,_,_,d1,o1,d2,o2,o3,o4⟩:=p1.parts
 have kg:=X1.kept (by simp) g1
 simp -dsimp (disch:=omega) only[wpS,wpT,Nat.reduceEqDiff,Nat.reduceLeDiff,Nat.reduceAdd,zc83,st83,o1,o2,o3,o4,hs0.len sl103]
 have Ex2:Ext h1 ((h1.new (.cells ZR 0 none)).put h1.n (.cells [a3,s3,b3,t3] 0 none)):=((Ext.refl h1).new _).put (Nat.le_refl _) _
 refine loop (fun m fr hh => ∃(i:Nat) (a s b t:Value),i+m=l.length∧Ext h hh∧h1.n<hh.n∧hh.ext.get h.n=some (.cells ZR 0 none)∧hh.ext.get h1.n=some (.cells [a,s,b,t] 0 none)∧PRat hh (.agg #[a,s,b,t]) (qsum ((l.take i).map f)) ∧
   fget fr 1=some F∧fget fr 4=some (ptr (2*h.n) 0)∧fget fr 5=some (ptr (2*h1.n) 0)∧fget fr 9=some v∧fget fr 10=some (KN l.length)∧fget fr 11=some (KN i)) l.length
  ⟨0,a3,s3,b3,t3,by omega,(E1.trans X1).trans Ex2,by simp,by simp (disch:=first|omega|(simp only[new_n,put_n];omega)|(repeat first|rw[new_n]|rw[put_n])) only[get_new_old,get_put_old];exact kg,by simp (disch:=first|omega|(simp only[new_n,put_n];omega)|(repeat first|rw[new_n]|rw[put_n])) only[get_put_same],p1.keep Ex2.keep,by simp,by simp,by simp,by simp,by simp,by simp⟩ ?_
 clear p1 kg Ex2
 rintro m fr hh ⟨i,a,s,b,t,him,hE,hn,hg,hg5,hp,f1,f4,f5,f9,f10,f11⟩
 simp -dsimp (disch:=omega) only[wpS,f10,f11]
 refine bq_intro ?_ ?_<;>intro hc<;>simp only[decide_eq_true_eq,decide_eq_false_iff_not] at hc
 ·have hi:i<l.length:=by omega
  obtain⟨q,hq⟩ : ∃q,l[i]?=some q:=⟨_,List.getElem?_eq_getElem hi⟩
  have hqm:=List.mem_of_getElem? hq
  obtain⟨a2,s2,b2,t2,hld,hr⟩:=hv.ld kept_p hE.keep hq (P:=Proofs.Tryz.prog) (t:=83) ag83 sz83
  obtain⟨_,_,_,_,hhe,_,_,_,q1,_,q2,q3,q4⟩:=hr.parts
  cases hhe
  simp -dsimp (disch:=omega) only[wpS,wpT,Nat.reduceEqDiff,Nat.reduceLeDiff,Nat.reduceAdd,zc83,st83,f9,f11,hs0.idx es103 hi,hld,q1,q2,q3,q4]
  obtain⟨H0,hH0⟩ : ∃H0,H0=(hh.new (.cells ZR 0 none)).put hh.n (.cells [a2,s2,b2,t2] 0 none):=⟨_,rfl⟩
  have e0:Ext hh H0:=by rw[hH0];exact((Ext.refl hh).new _).put (Nat.le_refl _) _
  have n0:H0.n=hh.n+1:=by rw[hH0];rfl
  have gx:H0.ext.get hh.n=some (.cells [a2,s2,b2,t2] 0 none):=by rw[hH0];simp (disch:=first|omega|(simp only[new_n,put_n];omega)|(repeat first|rw[new_n]|rw[put_n])) only[get_put_same]
  have gs:=e0.kept hn hg5
  have gz:=e0.kept (by have:=hE.n;omega) hg
  rw[←hH0]
  clear hH0
  have X0:=Ext.refl H0
  obtain⟨_,_,L1⟩:=pl4 gs
  obtain⟨_,_,L2⟩:=pl4 gx
  have hnn:=hE.n
  refine drawn [(0,[4])] (by kernel_rfl) (by kernel_rfl) rfl ?_
  simp -dsimp (disch:=omega) only[wpS,wpT,Nat.reduceEqDiff,Nat.reduceLeDiff,Nat.reduceAdd,ld83,f1,f5,row_of gs,row_of gx,tk4']
  refine call (hF H0 _ q (hE.trans e0) (hr.keep e0.keep) hqm) ?_
  rintro r h2 ⟨X2,p2⟩
  have m2:=X2.n
  simp -dsimp (disch:=omega) only[wpS,Nat.reduceEqDiff]
  have hkb:i*(k+1)+k+1<16000000:=by
   have:(i+1)*(k+1)≤l.length*(k+1):=Nat.mul_le_mul_right _ hi
   rw[Nat.add_mul] at this;omega
  refine call (rplus_ok (hp.keep (e0.trans X2).keep) p2 (hQ i (by omega)) (hk q hqm) hkb) ?_
  rintro r3 h3 ⟨hE3,p3⟩
  have m3:=hE3.n
  have X3:=X2.trans hE3
  have eT:qsum ((l.take i).map f)+f q=qsum ((l.take (i+1)).map f):=by rw[take_snoc hq,List.map_append,List.map_cons,List.map_nil,qsum_snoc]
  rw[eT] at p3
  obtain⟨a4,s4,b4,t4,rfl,_,_,_,o1,_,o2,o3,o4⟩:=p3.parts
  have k5:=X3.kept (by omega) gs
  have kz:=X3.kept (by omega) gz
  simp -dsimp (disch:=omega) only[wpS,wpT,Nat.reduceEqDiff,Nat.reduceLeDiff,Nat.reduceAdd,st83,f5,k5,o1,o2,o3,o4]
  have f5':opd fr (.tmp 5)=some (ptr (2*h1.n) 0):=f5
  refine⟨wpSteady_one rfl rfl rfl rfl (steady_ext (H0:=H0) (b:=2*h1.n) (o:=0) ?_ (by omega) (by assumption) (by assumption) L1),?_⟩
  ·exact f5
  simp -dsimp (disch:=omega) only[wpS,wpT,Nat.reduceEqDiff,Nat.reduceAdd,f11]
  refine⟨m - 1,by omega,i+1,a4,s4,b4,t4,by omega,((hE.trans e0).trans X3).put (by omega) _,by simp only[put_n];omega,by simp (disch:=first|omega|(simp only[new_n,put_n];omega)|(repeat first|rw[new_n]|rw[put_n])) only[get_put_old];exact kz,get_put_same _ _ rfl,p3.keep ((Keep.refl _).put k5 _),by simp[f1],by simp[f4],by simp[f5],by simp[f9],by simp[f10],by simp⟩
 ·obtain rfl:i=l.length:=by omega
  rw[List.take_length] at hp
  obtain⟨_,_,_,_,hhe,_,_,_,o1,_,o2,o3,o4⟩:=hp.parts
  cases hhe
  simp -dsimp (disch:=omega) only[wpS,wpT,Nat.reduceEqDiff,Nat.reduceLeDiff,Nat.reduceAdd,st83,ld83,f4,f5,row_of hg5,hg,tk4',o1,o2,o3,o4]
  exact⟨hE.put (Nat.le_refl _) _,hp.keep ((Keep.refl _).put hg _)⟩
end Go.Id

/-! Contracts: package diagnose: means, squares, chains. -/
namespace Go.Id
open Go
abbrev qlen (l:List Rat):Rat:=((l.length:Int):Rat)
def qmean (l:List Rat):Rat:=qsum l / qlen l
def qsq (l:List Rat) (c:Rat):Rat:=qsum (l.map fun x=>(x - c)*(x - c))
theorem qlen_bits {l:List Rat} (h:l.length≤100000):QB 17 (qlen l):=by
 refine QB.int ?_
 have e:2 ^ 17=131072:=by decide
 rw[Int.natAbs_natCast,e];omega
theorem qlen_ne {l:List Rat} (h:l ≠ []):qlen l≠0:=by
 intro h0
 have:=Rat.intCast_eq_zero_iff.1 h0
 exact h (List.length_eq_zero_iff.1 (by omega))
theorem qmean_bits {l:List Rat} {k:Nat} (h0:l ≠ []) (hl:l.length≤100000) (hk : ∀q∈l,QB k q):QB (l.length*(k+1)+17) (qmean l):=(QB.qsumAll hk).div (qlen_bits hl) (qlen_ne h0)
theorem qsq_bits {l:List Rat} {k kc:Nat} {c:Rat} (hk : ∀q∈l,QB k q) (hc:QB kc c) : ∀q∈l,QB (k+kc+1+(k+kc+1)) ((q - c)*(q - c)):=fun q hq=>((hk q hq).sub hc).mul ((hk q hq).sub hc)
set_option maxHeartbeats 1000000 in
theorem mean_ok {h:IH} {v:Value} {l:List Rat} (hv:ElSl PRat h v l) (h0:l ≠ []) {k:Nat} (hk : ∀q∈l,QB k q) (hb:l.length*(k+1)+17<16000000) :
  WV Proofs.Tryz.prog (.func (.func 72) #[] #[]) [v] h fun r h'=>Ext h h'∧PRat h' r (qmean l):=by
 obtain⟨cs0,hs0,_,hlen⟩:=id hv
 refine enter (nt:=9) (rs:=[.cell 2 83]) Proofs.Tryz.func72 rfl rfl rfl (by simp) ?_
 simp -dsimp (disch:=omega) only[wpS,Nat.reduceEqDiff,zc83]
 have E1:Ext h (h.new (.cells ZR 0 none)):=(Ext.refl h).new _
 have g1:(h.new (.cells ZR 0 none)).ext.get h.n=some (.cells ZR 0 none):=by simp (disch:=first|omega|(simp only[new_n,put_n];omega)|(repeat first|rw[new_n]|rw[put_n])) only[get_new_same]
 refine call (total_ok (hv.keep kept_p E1.keep) (fun q=>q) k (fun h1 w q _ hw _=>plain_ok hw) hk (by omega)) ?_
 rintro r1 h1 ⟨X1,p1⟩
 rw[List.map_id'] at p1
 have m1:=X1.n
 simp only[new_n] at m1
 simp -dsimp (disch:=omega) only[wpS,Nat.reduceEqDiff,hs0.len sl103]
 refine call (rfrom_ok (l.length:Int) ⟨by omega,by omega⟩) ?_
 rintro r2 h2 ⟨X2,p2⟩
 have m2:=X2.n
 simp -dsimp (disch:=omega) only[wpS,Nat.reduceEqDiff]
 refine call (rover_ok (p1.keep X2.keep) p2 (QB.qsumAll hk) (qlen_bits hlen) hb (qlen_ne h0)) ?_
 rintro r3 h3 ⟨X3,p3⟩
 have m3:=X3.n
 obtain⟨a3,s3,b3,t3,rfl,_,_,d1,o1,d2,o2,o3,o4⟩:=p3.parts
 have kg:=X3.kept (by omega) (X2.kept (by omega) (X1.kept (by simp) g1))
 simp -dsimp (disch:=omega) only[wpS,wpT,Nat.reduceEqDiff,Nat.reduceLeDiff,Nat.reduceAdd,st83,ld83,kg,o1,o2,o3,o4,tk4']
 exact⟨((((E1.trans X1).trans X2).trans X3)).put (by omega) _,p3.keep ((Keep.refl _).put kg _)⟩
set_option maxHeartbeats 1000000 in
theorem squares1_ok {h:IH} {v:Value} {x c:Rat} {b:Nat} {a0 s0 b0 t0:Value} (hv:PRat h v x) (hb:b<h.n) (hg:h.ext.get b=some (.cells [a0,s0,b0,t0] 0 none)) (hc:PRat h (.agg #[a0,s0,b0,t0]) c) {k kc:Nat} (qx:QB k x) (qc:QB kc c) (hk:k+kc+1+(k+kc+1)<16000000) :
  WV Proofs.Tryz.prog (.func (.func 148) #[] #[ptr (2*b) 0]) [v] h fun r h'=>Ext h h'∧PRat h' r ((x - c)*(x - c)):=by
 obtain⟨a1,s1,b1,t1,rfl,_,_,c1,o1,c2,o2,o3,o4⟩:=hv.parts
 refine enter (nt:=11) (rs:=[.cell 3 83]) Proofs.Tryz.func148 rfl rfl rfl (by simp) ?_
 simp -dsimp (maxSteps:=1000000) (disch:=first|omega|(simp only[new_n,put_n];omega)|decide +kernel|(repeat first|rw[new_n]|rw[put_n])) only[wpS,wpT,Nat.reduceEqDiff,Nat.reduceLeDiff,Nat.reduceAdd,zc83,ld83,row_of hg,tk4']
 have E1:Ext h ((h.new (.cells [a1,s1,b1,t1] 0 none)).new (.cells ZR 0 none)):=((Ext.refl h).new _).new _
 have g1:((h.new (.cells [a1,s1,b1,t1] 0 none)).new (.cells ZR 0 none)).ext.get (h.n+1)=some (.cells ZR 0 none):=by simp (disch:=first|omega|(simp only[new_n,put_n];omega)|(repeat first|rw[new_n]|rw[put_n])) only[get_new_same]
 refine call (rminus_ok (hv.keep E1.keep) (hc.keep E1.keep) qx qc (by omega)) ?_
 rintro r1 h1 ⟨X1,p1⟩
 have m1:=X1.n
 simp only[new_n] at m1
 obtain⟨a3,s3,b3,t3,rfl,_,_,d1,o1,d2,o2,o3,o4⟩:=p1.parts
 simp -dsimp (maxSteps:=1000000) (disch:=first|omega|(simp only[new_n,put_n];omega)|decide +kernel|(repeat first|rw[new_n]|rw[put_n])) only[wpS,wpT,Nat.reduceEqDiff,Nat.reduceLeDiff,Nat.reduceAdd,zc83,ld83,st83,o1,o2,o3,o4,tk4']
 have E2:Ext h1 ((h1.new (.cells ZR 0 none)).put h1.n (.cells [a3,s3,b3,t3] 0 none)):=((Ext.refl h1).new _).put (Nat.le_refl _) _
 have p1':=p1.keep E2.keep
 refine call (rtimes_ok p1' p1' (qx.sub qc) (qx.sub qc) hk) ?_
 rintro r2 h2 ⟨X2,p2⟩
 have m2:=X2.n
 simp only[put_n,new_n] at m2
 obtain⟨a4,s4,b4,t4,rfl,_,_,d1,o5,d2,o6,o7,o8⟩:=p2.parts
 have kg:=X2.kept (by simp;omega) (E2.kept (by omega) (X1.kept (by simp) g1))
 simp -dsimp (maxSteps:=1000000) (disch:=first|omega|(simp only[new_n,put_n];omega)|decide +kernel|(repeat first|rw[new_n]|rw[put_n])) only[wpS,wpT,Nat.reduceEqDiff,Nat.reduceLeDiff,Nat.reduceAdd,ld83,st83,kg,o5,o6,o7,o8,tk4']
 exact⟨((((E1.trans X1).trans E2).trans X2)).put (by omega) _,p2.keep ((Keep.refl _).put kg _)⟩
set_option maxHeartbeats 1000000 in
theorem squares_ok {h:IH} {v w:Value} {l:List Rat} {c:Rat} (hv:ElSl PRat h v l) (hw:PRat h w c) {k kc:Nat} (hk : ∀q∈l,QB k q) (qc:QB kc c) (hb:l.length*(k+kc+1+(k+kc+1)+1)<16000000) (hs:k+kc+1+(k+kc+1)<16000000) :
  WV Proofs.Tryz.prog (.func (.func 110) #[] #[]) [v,w] h fun r h'=>Ext h h'∧PRat h' r (qsq l c):=by
 obtain⟨a1,s1,b1,t1,rfl,_,_,c1,o1,c2,o2,o3,o4⟩:=hw.parts
 refine enter (nt:=8) (rs:=[.cell 4 83]) Proofs.Tryz.func110 rfl rfl rfl (by simp) ?_
 simp -dsimp (disch:=omega) only[wpS,Nat.reduceEqDiff,Nat.reduceAdd,zc83]
 have E1:Ext h ((h.new (.cells [a1,s1,b1,t1] 0 none)).new (.cells ZR 0 none)):=((Ext.refl h).new _).new _
 have g0:((h.new (.cells [a1,s1,b1,t1] 0 none)).new (.cells ZR 0 none)).ext.get h.n=some (.cells [a1,s1,b1,t1] 0 none):=by simp (disch:=first|omega|(simp only[new_n,put_n];omega)|(repeat first|rw[new_n]|rw[put_n])) only[get_new_same,get_new_old]
 have g1:((h.new (.cells [a1,s1,b1,t1] 0 none)).new (.cells ZR 0 none)).ext.get (h.n+1)=some (.cells ZR 0 none):=by simp (disch:=first|omega|(simp only[new_n,put_n];omega)|(repeat first|rw[new_n]|rw[put_n])) only[get_new_same]
 refine call (total_ok (hv.keep kept_p E1.keep) (fun x=>(x - c)*(x - c)) (k+kc+1+(k+kc+1)) (fun h1 w q e hw' hq=>?_) (qsq_bits hk qc) hb) ?_
 ·have en:=e.n
  simp only[new_n] at en
  exact squares1_ok hw' (by omega) (e.kept (by simp<;>omega) g0) (hw.keep (E1.trans e).keep) (hk q hq) qc hs
 rintro r1 h1 ⟨X1,p1⟩
 have m1:=X1.n
 simp only[new_n] at m1
 obtain⟨a3,s3,b3,t3,rfl,_,_,d1,o1,d2,o2,o3,o4⟩:=p1.parts
 have kg:=X1.kept (by simp) g1
 simp -dsimp (disch:=omega) only[wpS,wpT,Nat.reduceEqDiff,Nat.reduceLeDiff,Nat.reduceAdd,st83,ld83,kg,o1,o2,o3,o4,tk4']
 exact⟨(E1.trans X1).put (by omega) _,p1.keep ((Keep.refl _).put kg _)⟩
def RunIs (h:IH) (v:Value) (l:List Rat) (c:Rat):Prop:=∃s a1 s1 b1 t1,v=.agg #[s,a1,s1,b1,t1]∧ElSl PRat h s l∧PRat h (.agg #[a1,s1,b1,t1]) c
theorem RunIs.keep {h h':IH} {v:Value} {l:List Rat} {c:Rat} (r:RunIs h v l c) (e:Keep h h'):RunIs h' v l c:=let ⟨s,a,b,c,d,h1,h2,h3⟩:=r;⟨s,a,b,c,d,h1,h2.keep kept_p e,h3.keep e⟩
theorem ElSl.co {R:IH→Value→Rat→Prop} {h:IH} {v:Value} {l:List Rat} (s:ElSl R h v l):v.cells = #[v]∧cellOK v=true:=let ⟨cs,a,_⟩:=s;⟨a.cells,a.cok⟩
set_option maxHeartbeats 1000000 in
theorem chain_ok {h:IH} {v:Value} {l:List (Nat×Nat)} (hv:ShSl h v l) (hok:allOk l) (hl:l.length≤1000) (h0:l ≠ []) {k:Nat} (hk : ∀q∈l.map rOf,QB k q) (hb:l.length*(k+1)+17<16000000) :
  WV Proofs.Tryz.prog (.func (.func 73) #[] #[]) [v] h fun r h'=>Ext h h'∧RunIs h' r (l.map rOf) (qmean (l.map rOf)):=by
 refine enter (nt:=10) (rs:=[.cell 2 107]) Proofs.Tryz.func73 rfl rfl rfl (by simp) ?_
 simp -dsimp (disch:=omega) only[wpS,Nat.reduceEqDiff,zc107]
 have E1:Ext h (h.new (.cells [.slice none 0 0,.bool false,.slice none 0 0,.bool false,.slice none 0 0] 0 none)):=(Ext.refl h).new _
 have g1:(h.new (.cells [.slice none 0 0,.bool false,.slice none 0 0,.bool false,.slice none 0 0] 0 none)).ext.get h.n=some (.cells [.slice none 0 0,.bool false,.slice none 0 0,.bool false,.slice none 0 0] 0 none):=by simp (disch:=first|omega|(simp only[new_n,put_n];omega)|(repeat first|rw[new_n]|rw[put_n])) only[get_new_same]
 refine call (read_list_ok (hv.keep E1.keep) hok hl) ?_
 rintro s h1 ⟨X1,hs⟩
 have m1:=X1.n
 simp only[new_n] at m1
 simp -dsimp (disch:=omega) only[wpS,Nat.reduceEqDiff]
 refine call (mean_ok hs (by simpa using h0) hk (by simpa using hb)) ?_
 rintro r h2 ⟨X2,p2⟩
 have m2:=X2.n
 obtain⟨a3,s3,b3,t3,rfl,_,_,d1,o1,d2,o2,o3,o4⟩:=p2.parts
 obtain⟨cc,co⟩:=hs.co
 have kg:=X2.kept (by omega) (X1.kept (by simp) g1)
 simp -dsimp (disch:=omega) only[wpS,wpT,Nat.reduceEqDiff,Nat.reduceLeDiff,Nat.reduceAdd,bv107,pl107_0,pl107_1,st107,ld107,kg,cc,co,o1,o2,o3,o4]
 have kp:=(Keep.refl h2).put kg (.cells [s,a3,s3,b3,t3] 0 none)
 exact⟨((E1.trans X1).trans X2).put (by omega) _,_,_,_,_,_,rfl,hs.keep kept_p (X2.keep.trans kp),p2.keep kp⟩
end Go.Id

/-! Loops over functions, whose rounds may lay their variable into memory and may end early. -/
namespace Go.Id
open Go
def doneL (r:ILoop) (c:Code):ILoop:={ r with state:=.done,pending:=some c }
@[reducible] def bodyE (k:Nat) (r:ILoop) (K:Value→IH→Prop) (e:IExit) (_:Fr) (h:IH):Prop :=
 h.ext.get k=some (.loop (busyL r))∧match e with
  | .normal=>K (.bool true) (h.put k (.loop r))
  | .exit i=>K (.bool false) (h.put k (.loop (doneL r (.exit i))))
  | .ret=>K (.bool false) (h.put k (.loop (doneL r .ret)))
@[reducible] def asgK (P:Program) (k:Nat) (r:ILoop) (K:Value→IH→Prop) (e:IExit) (fr:Fr) (h:IH):Prop :=
 e=.normal∧h.ext.get k=some (.loop r)∧Do (wpC P r.fn r.nt (some k) r.body fr (h.put k (.loop (busyL r)))) (bodyE k r K) nx
theorem wv_yield2 {P:Program} {k:Nat} {r:ILoop} {p:Tmp} (hst:r.state=.ready) (hpe:r.pending=none) (hps:r.params = [p]) (hp:p<r.nt) (v:Value) (h:IH) (K:Value→IH→Prop) (hg:h.ext.get k=some (.loop r))
  (w:wpC P r.fn r.nt (some k) r.assign ((p,v) :: r.fr) h (asgK P k r K)):WV P (.func (.yield (2*k)) #[] #[]) [v] h K:=by
 obtain⟨⟨e0,fr0,h0⟩,⟨N0,hN0⟩,he0,hg0,w⟩:=wpC_sound w
 simp only at he0 hg0 w hN0
 subst he0
 obtain⟨⟨e,fr,h1⟩,⟨N,hN⟩,hb,hk⟩:=wpC_sound w
 simp only at hb hk hN
 have hp':Nat.blt p r.nt=true:=by simp only[Nat.blt,Nat.ble_eq];exact hp
 have e1:(2*k % 2 == 0)=true:=by simp
 have e2:2*k / 2=k:=by omega
 have e3:putParams r.nt r.params [v] r.fr=some ((p,v) :: r.fr):=by
  rw[hps];simp[putParams,fput,hp']
 have e5:(r.state == LoopState.ready)=true:=by rw[hst];rfl
 have e6:({ h0 with ext:=h0.ext.set k (.loop { r with state:=.busy }) }:IH)=h0.put k (.loop (busyL r)):=rfl
 have e7:({ busyL r with state:=.ready,pending:=none }:ILoop)=r:=by
  cases r;simp only at hst hpe;subst hst;subst hpe;rfl
 cases e with
 | normal =>
  refine⟨(.bool true,h1.put k (.loop r)),⟨N0+N+1,fun n hn=>?_⟩,hk⟩
  obtain⟨n,rfl⟩ : ∃m,n=m+1:=⟨n - 1,by omega⟩
  have h2:=hN n (by omega)
  have h3:=hN0 n (by omega)
  show(bif 2*k % 2 == 0 then callYield (E0 P) (callV (E0 P) n) n (2*k / 2) ((#[]:Array Value).toList ++ [v]) h else none)=_
  rw[e1,cond_true,e2]
  simp only[callYield,get_loop hg,e3,h3,get_loop hg0,e5,cond_true,e6,h2,get_loop hb,List.nil_append]
  rw[e7];rfl
 | exit i =>
  refine⟨(.bool false,h1.put k (.loop (doneL r (.exit i)))),⟨N0+N+1,fun n hn=>?_⟩,hk⟩
  obtain⟨n,rfl⟩ : ∃m,n=m+1:=⟨n - 1,by omega⟩
  have h2:=hN n (by omega)
  have h3:=hN0 n (by omega)
  show(bif 2*k % 2 == 0 then callYield (E0 P) (callV (E0 P) n) n (2*k / 2) ((#[]:Array Value).toList ++ [v]) h else none)=_
  rw[e1,cond_true,e2]
  simp only[callYield,get_loop hg,e3,h3,get_loop hg0,e5,cond_true,e6,h2,get_loop hb,List.nil_append]
  rfl
 | ret =>
  refine⟨(.bool false,h1.put k (.loop (doneL r .ret))),⟨N0+N+1,fun n hn=>?_⟩,hk⟩
  obtain⟨n,rfl⟩ : ∃m,n=m+1:=⟨n - 1,by omega⟩
  have h2:=hN n (by omega)
  have h3:=hN0 n (by omega)
  show(bif 2*k % 2 == 0 then callYield (E0 P) (callV (E0 P) n) n (2*k / 2) ((#[]:Array Value).toList ++ [v]) h else none)=_
  rw[e1,cond_true,e2]
  simp only[callYield,get_loop hg,e3,h3,get_loop hg0,e5,cond_true,e6,h2,get_loop hb,List.nil_append]
  rfl
def RangeEnd (k:Nat) (r:ILoop) (fr:Fr) (Q:IExit→Fr→IH→Prop) (h1:IH):Prop :=
 (h1.ext.get k=some (.loop r)∧Q .normal fr (h1.put k .dead))∨(∃i,h1.ext.get k=some (.loop (doneL r (.exit i)))∧Q (.exit i) fr (h1.put k .dead))∨(h1.ext.get k=some (.loop (doneL r .ret))∧Q .ret fr (h1.put k .dead))
theorem range2 {P:Program} {fn:FuncId} {nt:Nat} {rd:Option Nat} {f:Operand} {p:Tmp} {assign body:Code} {fr:Fr} {h:IH} {Q:IExit→Fr→IH→Prop} {fv:Value} (hf:opd fr f=some fv) (hrd:roundOK h rd=true) (hp:p<nt)
  (w : ∀(r:ILoop) (y:Value),r.fn=fn→r.nt=nt→r.body=body→(∀v h1 K,h1.ext.get h.n=some (.loop r)→Do (wpC P fn nt (some h.n) assign ((p,v) :: fr) h1) (asgK P h.n r K) nx→WV P y [v] h1 K) →
   WV P fv [y] (h.new (.loop r)) fun _ h1=>RangeEnd h.n r fr Q h1) :
  Do (WRange P fn nt rd f #[p] assign body fr h) Q nx:=by
 have w1:=w { state:=.ready,pending:=none,fn,nt,fr,params:=[p],assign:=assign,body } (.func (.yield (2*h.n)) #[] #[]) rfl rfl rfl
  fun v h1 K hg w=>wv_yield2 (r:={ state:=.ready,pending:=none,fn,nt,fr,params:=[p],assign:=assign,body }) rfl rfl rfl hp v h1 K hg w
 obtain⟨⟨v,h1⟩,⟨N,hN⟩,hq⟩:=w1
 have st : ∀(r:ILoop) (e:IExit),loopOf h1 h.n=some r→(r.state == LoopState.busy)=false→exitOf r.pending=some e → ∀n,N≤n→rangeFn (E0 P) (callV (E0 P) n) fn nt rd f [p] assign body fr h=some (e,fr,h1.put h.n .dead):=by
  intro r e h3 h4 h5 n hn
  have h2:=hN n hn
  simp only at h2
  simp only[rangeFn,hrd,cond_true,hf]
  show(match callV (E0 P) n fv [_] _ with|none=>none|some (_,h1)=>_)=_
  rw[h2]
  simp only[h3,h4,cond_false,h5]
  rfl
 rcases hq with⟨hg,hq⟩|⟨i,hg,hq⟩|⟨hg,hq⟩
 ·exact⟨(.normal,fr,h1.put h.n .dead),⟨N,fun n hn=>st _ _ (get_loop hg) rfl rfl n hn⟩,hq⟩
 ·exact⟨(.exit i,fr,h1.put h.n .dead),⟨N,fun n hn=>st _ _ (get_loop hg) rfl rfl n hn⟩,hq⟩
 ·exact⟨(.ret,fr,h1.put h.n .dead),⟨N,fun n hn=>st _ _ (get_loop hg) rfl rfl n hn⟩,hq⟩
end Go.Id
