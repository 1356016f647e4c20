/-
  Contracts: the program's fractions: lowest terms, sums, products, quotients. Contracts: the program's fractions: sums, differences, products, quotients, order.
-/
import Derived.Test.YtjhnilfelokpcaaGreatTemperLevelsAt
import Derived.Test.YtjhnilfelokpcaaGreatTemperLevelsBd
set_option linter.unusedVariables false
set_option linter.unusedSimpArgs false
set_option linter.defProp false
set_option linter.deprecated false
namespace Go.Id
open Go
open Nat renaming reduceAdd→zA,reduceEqDiff→zE,reduceLeDiff→zL
set_option maxHeartbeats 16000000
abbrev ZR:List Value:=[.bool false,.slice none 0 0,.bool false,.slice none 0 0]
def PPair (h:IH) (v:Value) (n d:Int):Prop:=∃a s b t,v=.agg #[a,s,b,t]∧PLong h (.agg #[a,s]) n∧PLong h (.agg #[b,t]) d
theorem PPair.keep {h h':IH} {v:Value} {n d:Int} (p:PPair h v n d) (e:Keep h h'):PPair h' v n d:=let ⟨a,s,b,t,h1,h2,h3⟩:=p;⟨a,s,b,t,h1,h2.keep e,h3.keep e⟩
def PRat (h:IH) (v:Value) (q:Rat):Prop:=PPair h v q.num q.den
theorem PRat.keep {h h':IH} {v:Value} {q:Rat} (p:PRat h v q) (e:Keep h h'):PRat h' v q:=PPair.keep p e
theorem PLong.cells2 {h:IH} {v:Value} {z:Int} (d:PLong h v z) : ∃s,v=.agg #[.bool (decide (z<0)),s]∧s.cells = #[s]∧cellOK s=true:=let ⟨s,n,a,b,c,_⟩:=d.form;⟨s,a,b,c⟩
theorem PLong.co {h:IH} {a s:Value} {z:Int} (d:PLong h (.agg #[a,s]) z):a=.bool (decide (z<0))∧s.cells = #[s]∧cellOK s=true:=by
 obtain⟨s',h1,h2,h3⟩:=d.cells2
 cases h1
 exact⟨rfl,h2,h3⟩
theorem half_bits {x k:Nat} (h:x≤2 ^ k) (hk:k<16000000):Half x:=by
 refine .mk (Nat.lt_of_le_of_lt h ?_)
 rw[pow_conv 4294967296 2 500000 32 16000000 (by decide) (by decide)]
 exact pow_lt2 2 k 16000000 (by decide) hk
theorem small_bits {x k:Nat} (h:x≤2 ^ k) (hk:k<16000000):Small x:=(half_bits h hk).small
theorem lowest_ok {h:IH} {v w:Value} {n d:Int} (hv:PLong h v n) (hw:PLong h w d) (sn:SmallI n) (sd:SmallI d) (d0:d≠0) :
  WV Proofs.Tryz.prog (.func (.func 200) #[] #[]) [v,w] h fun r h'=>Ext h h'∧PRat h' r (Rat.divInt n d):=by
 obtain⟨s,rfl,c1,o1⟩:=hv.cells2
 obtain⟨t,rfl,c2,o2⟩:=hw.cells2
 have sg:SmallI (Int.gcd n d:Int):=by
  have h1:Int.gcd n d≤d.natAbs:=Nat.le_of_dvd (by omega) (Nat.gcd_dvd_right _ _)
  exact small_nat (sd.le h1)
 refine enter (nt:=34) (rs:=[.cell 4 169]) Proofs.Tryz.func200 rfl rfl rfl (by simp) ?_
 simp -dsimp (disch:=try exact dx) only[wpS,wpT,zE,zL,zA,zc169,ld123]
 obtain⟨H0,hH0,n0,E0,g0,g1,g2⟩:=boxes3 h [.bool (decide (n<0)),s] [.bool (decide (d<0)),t] ZR
 rw[←hH0]
 refine call (pcommon_ok (hv.keep E0.keep) (hw.keep E0.keep) sn sd) ?_
 rintro _ h1 ⟨hE1,hg⟩
 obtain⟨sg1,rfl,c3,o3⟩:=hg.cells2
 have hng:decide ((Int.gcd n d:Int)<0)=false:=decide_eq_false (by omega)
 rw[hng] at hg
 have x1:=E0.trans hE1
 have n1:=(hE1).n;try simp only[new_n,put_n] at n1
 have r0:=row_of (hE1.kept (by omega) g0)
 simp -dsimp (disch:=try exact dx) only[wpS,wpT,zE,zL,zA,ld123,zc123,st123,o3,r0,tk2']
 obtain⟨H2,hH2⟩ : ∃H2,H2=(h1.new (.cells ZL 0 none)).put h1.n (.cells [.bool false,sg1] 0 none):=⟨_,rfl⟩
 have e2:Ext h1 H2:=by rw[hH2];exact((Ext.refl _).new _).put (Nat.le_refl _) _
 have n2:H2.n=h1.n+1:=by rw[hH2];rfl
 have gg:H2.ext.get h1.n=some (.cells [.bool false,sg1] 0 none):=by rw[hH2];simp (disch:=try exact dx) only[get_put_same]
 rw[←hH2]
 have x2:=x1.trans e2
 refine call (pparts_ok (hv.keep x2.keep) (hg.keep e2.keep) sn sg (gcd_ne d0)) ?_
 rintro _ h3 ⟨hE3,q,u,rfl,hq,hu⟩
 obtain⟨sq,rfl,c4,o4⟩:=hq.cells2
 obtain⟨su,rfl,c5,o5⟩:=hu.cells2
 have n3:=(hE3).n;try simp only[new_n,put_n] at n3
 have x3:=x2.trans hE3
 have r1:=row_of (hE3.kept (by omega) (e2.kept (by omega) (hE1.kept (by omega) g1)))
 have r3:=row_of (hE3.kept (by omega) gg)
 simp -dsimp (disch:=try exact dx) only[wpS,wpT,zE,zL,zA,ld123,zc123,st123,o4,o5,r1,r3,tk2']
 obtain⟨H4,hH4⟩ : ∃H4,H4=((((h3.new (.cells ZL 0 none)).new (.cells ZL 0 none)).put h3.n (.cells [.bool (decide (n / (Int.gcd n d:Int)<0)),sq] 0 none)).put (h3.n+1) (.cells [.bool (decide (n % (Int.gcd n d:Int)<0)),su] 0 none)):=⟨_,rfl⟩
 have e4:Ext h3 H4:=by rw[hH4];exact((((Ext.refl _).new _).new _).put (Nat.le_refl _) _).put (by omega) _
 have n4:H4.n=h3.n+2:=by rw[hH4];rfl
 have gq:H4.ext.get h3.n=some (.cells [.bool (decide (n / (Int.gcd n d:Int)<0)),sq] 0 none):=by rw[hH4];simp (disch:=try exact dx) only[get_put_same,get_put_old]
 rw[←hH4]
 have x4:=x3.trans e4
 refine call (pparts_ok (hw.keep x4.keep) (hg.keep ((e2.trans hE3).trans e4).keep) sd sg (gcd_ne d0)) ?_
 rintro _ h5 ⟨hE5,q2,u2,rfl,hq2,hu2⟩
 obtain⟨sq2,rfl,c6,o6⟩:=hq2.cells2
 obtain⟨su2,rfl,c7,o7⟩:=hu2.cells2
 have n5:=(hE5).n;try simp only[new_n,put_n] at n5
 have x5:=x4.trans hE5
 simp -dsimp (disch:=try exact dx) only[wpS,wpT,zE,zL,zA,zc123,st123,fa123_0,ld4,o6,o7]
 obtain⟨H6,hH6⟩ : ∃H6,H6=((((h5.new (.cells ZL 0 none)).new (.cells ZL 0 none)).put h5.n (.cells [.bool (decide (d / (Int.gcd n d:Int)<0)),sq2] 0 none)).put (h5.n+1) (.cells [.bool (decide (d % (Int.gcd n d:Int)<0)),su2] 0 none)):=⟨_,rfl⟩
 have e6:Ext h5 H6:=by rw[hH6];exact((((Ext.refl _).new _).new _).put (Nat.le_refl _) _).put (by omega) _
 have n6:H6.n=h5.n+2:=by rw[hH6];rfl
 have gd:H6.ext.get h5.n=some (.cells [.bool (decide (d / (Int.gcd n d:Int)<0)),sq2] 0 none):=by rw[hH6];simp (disch:=try exact dx) only[get_put_same,get_put_old]
 have x6:=x5.trans e6
 have gn:=e6.kept (by omega) (hE5.kept (by omega) gq)
 have gr:=e6.kept (by omega) (hE5.kept (by omega) (e4.kept (by omega) (hE3.kept (by omega) (e2.kept (by omega) (hE1.kept (by omega) g2)))))
 have hqA:=hq.keep ((e4.trans hE5).trans e6).keep
 have hqB:=hq2.keep e6.keep
 rw[←hH6]
 clear hH0 hH2 hH4 hH6
 have rn:=row_of gn
 have rd:=row_of gd
 have hls:=low_sign (n:=n) d0
 refine bq_cut (fun fr2 h7 => ∃sa sb,Ext h h7∧h7.ext.get h3.n=some (.cells [.bool (decide ((Rat.divInt n d).num<0)),sa] 0 none)∧h7.ext.get h5.n=some (.cells [.bool (decide (((Rat.divInt n d).den:Int)<0)),sb] 0 none)∧h7.ext.get (h.n+1+1)=some (.cells ZR 0 none)∧PLong h7 (.agg #[.bool (decide ((Rat.divInt n d).num<0)),sa]) (Rat.divInt n d).num∧PLong h7 (.agg #[.bool (decide (((Rat.divInt n d).den:Int)<0)),sb]) (Rat.divInt n d).den ∧
  fget fr2 4=some (ptr (2*(h.n+1+1)) 0)∧fget fr2 6=some (ptr (2*h3.n) 0)∧fget fr2 8=some (ptr (2*h5.n) 0)) (fun hb=>?_) (fun hb=>?_) ?_
 ·have hd:d<0:=hls.1 (by simpa using hb)
  obtain⟨b1,b2⟩:=low_neg (n:=n) hd
  rw[hb] at hqB gd rd
  refine drawn [(2,[1])] (by kernel_rfl) (by kernel_rfl) rfl ?_
  simp -dsimp (disch:=try exact dx) only[wpS,wpT,zE,zL,zA,ld123,rn,List.drop_zero,tk_two]
  refine call (pturned_ok hqA) ?_
  rintro _ h7 ⟨hE7,hA⟩
  rw[b1] at hA
  obtain⟨sa,rfl,c8,o8⟩:=hA.cells2
  have n7:=(hE7).n;try simp only[new_n,put_n] at n7
  have kd:=hE7.kept (by omega) gd
  have rd7:=row_of kd
  simp -dsimp (disch:=try exact dx) only[wpS,wpT,zE,zL,zA,ld123,rd7,List.drop_zero,tk_two]
  refine call (pturned_ok (hqB.keep hE7.keep)) ?_
  rintro _ h8 ⟨hE8,hB⟩
  rw[b2] at hB
  obtain⟨sb,rfl,c9,o9⟩:=hB.cells2
  have n8:=(hE8).n;try simp only[new_n,put_n] at n8
  have kn8:=hE8.kept (by omega) (hE7.kept (by omega) gn)
  have kd8:=hE8.kept (by omega) kd
  have kr8:=hE8.kept (by omega) (hE7.kept (by omega) gr)
  simp -dsimp (disch:=try exact dx) only[wpS,wpT,zE,zL,zA,st123,kn8,kd8,o8,o9]
  refine⟨wpSteady_one rfl rfl rfl rfl (steady_load (av:=ptr (2*h5.n) 0) (v:=.agg #[.bool true,sq2]) rfl ?_ ?_),?_⟩
  ·simp -dsimp (disch:=try exact dx) only[wpS,wpT,zL,zA,ld123,rd7,List.drop_zero,tk_two]
   try rfl
  ·simp -dsimp (disch:=try exact dx) only[wpS,wpT,zL,zA,ld123,rd,List.drop_zero,tk_two]
   try rfl
  simp -dsimp (disch:=try exact dx) only[wpS,wpT,zA]
  have kpA:=(Keep.refl h8).put kn8 (.cells [.bool (decide ((Rat.divInt n d).num<0)),sa] 0 none)
  have gB:(h8.put h3.n (.cells [.bool (decide ((Rat.divInt n d).num<0)),sa] 0 none)).ext.get h5.n=some (.cells [.bool true,sq2] 0 none):=by rw[get_put_old _ _ (by omega)];exact kd8
  have kpB:=kpA.put gB (.cells [.bool (decide (((Rat.divInt n d).den:Int)<0)),sb] 0 none)
  have hdf:decide (((Rat.divInt n d).den:Int)<0)=false:=decide_eq_false (by omega)
  rw[hdf] at kpB hB ⊢
  refine⟨sa,sb,(((x6.trans hE7).trans hE8).put (by omega) _).put (by omega) _,by simp (disch:=try exact dx) only[get_put_same,get_put_old],get_put_same _ _ rfl,by simp (disch:=try exact dx) only[get_put_old];exact kr8,hA.keep (hE8.keep.trans kpB),hB.keep kpB,by simp,by simp,by simp⟩
 ·have hd:0<d:=by
   have : ¬d<0:=fun h=>by have:=hls.2 h;simp at hb;omega
   omega
  obtain⟨b1,b2⟩:=low_pos (n:=n) hd
  simp -dsimp (disch:=try exact dx) only[wpS,wpT]
  rw[b1] at gn hqA
  rw[b2] at gd hqB
  exact⟨sq,sq2,x6,gn,gd,gr,hqA,hqB,by simp,by simp,by simp⟩
 rintro fr2 h7 ⟨sa,sb,x7,k1,k2,k3,hA,hB,f4,f6,f8⟩
 have q1:=row_of k1
 have q2:=row_of k2
 obtain⟨_,c8,o8⟩:=hA.co
 obtain⟨_,c9,o9⟩:=hB.co
 rw[d_seq]
 simp -dsimp (disch:=try exact dx) only[wpS,wpT,zE,zL,zA,ld123,bv169,pl169_0,pl169_1,st169,ld169,f4,f6,f8,q1,q2,k3,o8,o9,List.drop_zero,tk_two]
 have hdf:decide (((Rat.divInt n d).den:Int)<0)=false:=decide_eq_false (by omega)
 rw[hdf] at hB
 have kp:=(Keep.refl h7).put k3 (.cells [.bool (decide ((Rat.divInt n d).num<0)),sa,.bool false,sb] 0 none)
 exact⟨x7.put (by omega) _,_,_,_,_,rfl,hA.keep kp,hB.keep kp⟩
end Go.Id

namespace Go.Id
open Go
open Go.Proofs.Tryz (prog)
open Nat renaming reduceAdd→zA,reduceEqDiff→zE,reduceLeDiff→zL
set_option maxHeartbeats 16000000
theorem PRat.parts {h:IH} {v:Value} {q:Rat} (p:PRat h v q) : ∃a s b t,v=.agg #[a,s,b,t]∧PLong h (.agg #[a,s]) q.num∧PLong h (.agg #[b,t]) q.den∧s.cells = #[s]∧cellOK s=true∧t.cells = #[t]∧cellOK t=true∧cellOK a=true∧cellOK b=true:=by
 obtain⟨a,s,b,t,rfl,h1,h2⟩:=p
 obtain⟨rfl,c1,o1⟩:=h1.co
 obtain⟨rfl,c2,o2⟩:=h2.co
 exact⟨_,s,_,t,rfl,h1,h2,c1,o1,c2,o2,rfl,rfl⟩
theorem pl4 {H:IH} {k:Nat} {a s b t:Value} (g:H.ext.get k=some (.cells [a,s,b,t] 0 none)):load prog H 123 (ptr (2*k) 0)=some (.agg #[a,s])∧load prog H 123 (ptr (2*k) 2)=some (.agg #[b,t])∧load prog H 169 (ptr (2*k) 0)=some (.agg #[a,s,b,t]):=by
 have r:=row_of g
 refine⟨?_,?_,?_⟩
 ·simp -dsimp (disch:=try exact dx) only[wpS,wpT,zL,zA,ld123,r]
  rfl
 ·simp -dsimp (disch:=try exact dx) only[wpS,wpT,zL,zA,ld123,r]
  rfl
 ·simp -dsimp (disch:=try exact dx) only[wpS,wpT,zL,zA,ld169,r]
  rfl
theorem pl2 {H:IH} {k:Nat} {a s:Value} (g:H.ext.get k=some (.cells [a,s] 0 none)):load prog H 123 (ptr (2*k) 0)=some (.agg #[a,s]):=by
 have r:=row_of g
 simp -dsimp (disch:=try exact dx) only[wpS,wpT,zL,zA,ld123,r]
 rfl
theorem rplus_ok {h:IH} {v w:Value} {x y:Rat} {a b:Nat} (hv:PRat h v x) (hw:PRat h w y) (qx:QB a x) (qy:QB b y) (hk:a+b+1<16000000) :
  WV prog (.func (.func 117) #[] #[]) [v,w] h fun r h'=>Ext h h'∧PRat h' r (x+y):=by
 obtain⟨a1,s1,b1,t1,rfl,hn1,hd1,c1,o1,c2,o2,o3,o4⟩:=hv.parts
 obtain⟨a2,s2,b2,t2,rfl,hn2,hd2,c5,o5,c6,o6,o7,o8⟩:=hw.parts
 refine enter (nt:=22) (rs:=[.cell 4 169]) Proofs.Tryz.func117 rfl rfl rfl (by simp) ?_
 simp -dsimp (disch:=try exact dx) only[wpS,zE,zA,zc169]
 obtain⟨H0,hH0,n0,E0,g0,g1,g2⟩:=boxes3 h [a1,s1,b1,t1] [a2,s2,b2,t2] ZR
 rw[←hH0]
 clear hH0
 have X0:=Ext.refl H0
 obtain⟨L1,L2,_⟩:=pl4 g0
 obtain⟨L3,L4,_⟩:=pl4 g1
 refine drawn [(6,[4]),(8,[4]),(12,[4,9,10]),(14,[4,9,10])] (by kernel_rfl) (by kernel_rfl) rfl ?_
 simp -dsimp (disch:=try exact dx) only[wpS,wpT,zE,zL,zA,fa169_0,ld123,fa169_1,row_of g0,row_of g1,tkA,tkB]
 refine call (ptimes_ok (hn1.keep E0.keep) (hd2.keep E0.keep) (half_bits qx.1 (by omega)) (half_bits qy.den' (by omega))) ?_
 rintro r1 h1 ⟨X1,p1⟩
 have m1:=X1.n
 simp -dsimp (disch:=try exact dx) only[wpS,wpT,zE,zL,zA,fa169_0,ld123,fa169_1,row_of (X1.kept (by omega) g0),row_of (X1.kept (by omega) g1),tkA,tkB]
 refine call (ptimes_ok (hn2.keep (E0.trans X1).keep) (hd1.keep (E0.trans X1).keep) (half_bits qy.1 (by omega)) (half_bits qx.den' (by omega))) ?_
 rintro r2 h2 ⟨hE2,p2⟩
 have m2:=hE2.n
 have X2:=X1.trans hE2
 simp -dsimp (disch:=try exact dx) only[wpS,zE]
 have b1':=mul_bits qx.1 qy.den'
 have b2':=mul_bits qy.1 qx.den'
 have b3':=qx.addN qy
 have b4':=mul_bits qx.den' qy.den'
 have sb1:SmallI (x.num*y.den):=small_bits b1' (by omega)
 have sb2:SmallI (y.num*x.den):=small_bits b2' (by omega)
 have sb3:SmallI (x.num*y.den+y.num*x.den):=small_bits b3' hk
 have sb4:SmallI ((x.den:Int)*y.den):=small_bits b4' (by omega)
 refine call (pplus_ok (p1.keep hE2.keep) p2 sb1 sb2) ?_
 rintro r3 h3 ⟨hE3,p3⟩
 have m3:=hE3.n
 have X3:=X2.trans hE3
 simp -dsimp (disch:=try exact dx) only[wpS,wpT,zE,zL,zA,ld123,fa169_1,row_of (X3.kept (by omega) g0),row_of (X3.kept (by omega) g1),tkB]
 refine call (ptimes_ok (hd1.keep (E0.trans X3).keep) (hd2.keep (E0.trans X3).keep) (half_bits qx.den' (by omega)) (half_bits qy.den' (by omega))) ?_
 rintro r4 h4 ⟨hE4,p4⟩
 have m4:=hE4.n
 have X4:=X3.trans hE4
 simp -dsimp (disch:=try exact dx) only[wpS,zE]
 refine call (lowest_ok (p3.keep hE4.keep) p4 sb3 sb4 (dd_ne x y)) ?_
 rintro r5 h5 ⟨hE5,p5⟩
 have m5:=hE5.n
 have X5:=X4.trans hE5
 rw[←rat_add] at p5
 obtain⟨a3,s3,b3,t3,rfl,_,_,d1,o1,d2,o2,o3,o4⟩:=p5.parts
 have kg:=X5.kept (by omega) g2
 simp -dsimp (disch:=try exact dx) only[wpS,wpT,zE,zL,zA,st169,kg,o1,o2,o3,o4]
 refine⟨by repeat' first|refine wpSteady_c2 ?_ ?_|refine wpSteady_t2 ?_ ?_|exact wpSteady_one rfl rfl rfl rfl (steady_ext (H0:=H0) rfl (by omega) (by assumption) (by assumption) (by with_reducible assumption)),?_⟩
 simp -dsimp (disch:=try exact dx) only[wpS,wpT,zE,zL,zA,ld169,tk4']
 exact⟨(E0.trans X5).put (by omega) _,p5.keep ((Keep.refl _).put kg _)⟩
theorem rtimes_ok {h:IH} {v w:Value} {x y:Rat} {a b:Nat} (hv:PRat h v x) (hw:PRat h w y) (qx:QB a x) (qy:QB b y) (hk:a+b<16000000) :
  WV prog (.func (.func 118) #[] #[]) [v,w] h fun r h'=>Ext h h'∧PRat h' r (x*y):=by
 obtain⟨a1,s1,b1,t1,rfl,hn1,hd1,c1,o1,c2,o2,o3,o4⟩:=hv.parts
 obtain⟨a2,s2,b2,t2,rfl,hn2,hd2,c5,o5,c6,o6,o7,o8⟩:=hw.parts
 refine enter (nt:=16) (rs:=[.cell 4 169]) Proofs.Tryz.func118 rfl rfl rfl (by simp) ?_
 simp -dsimp (disch:=try exact dx) only[wpS,zE,zA,zc169]
 obtain⟨H0,hH0,n0,E0,g0,g1,g2⟩:=boxes3 h [a1,s1,b1,t1] [a2,s2,b2,t2] ZR
 rw[←hH0]
 clear hH0
 have X0:=Ext.refl H0
 obtain⟨L1,L2,_⟩:=pl4 g0
 obtain⟨L3,L4,_⟩:=pl4 g1
 have sb1:SmallI (x.num*y.num):=small_bits (mul_bits qx.1 qy.1) hk
 have sb2:SmallI ((x.den:Int)*y.den):=small_bits (mul_bits qx.den' qy.den') hk
 refine drawn [(6,[4]),(8,[4])] (by kernel_rfl) (by kernel_rfl) rfl ?_
 simp -dsimp (disch:=try exact dx) only[wpS,wpT,zE,zL,zA,fa169_0,ld123,row_of g0,row_of g1,tkA]
 refine call (ptimes_ok (hn1.keep E0.keep) (hn2.keep E0.keep) (half_bits qx.1 (by omega)) (half_bits qy.1 (by omega))) ?_
 rintro r1 h1 ⟨X1,p1⟩
 have m1:=X1.n
 simp -dsimp (disch:=try exact dx) only[wpS,wpT,zE,zL,zA,ld123,fa169_1,row_of (X1.kept (by omega) g0),row_of (X1.kept (by omega) g1),tkB]
 refine call (ptimes_ok (hd1.keep (E0.trans X1).keep) (hd2.keep (E0.trans X1).keep) (half_bits qx.den' (by omega)) (half_bits qy.den' (by omega))) ?_
 rintro r2 h2 ⟨hE2,p2⟩
 have m2:=hE2.n
 have X2:=X1.trans hE2
 simp -dsimp (disch:=try exact dx) only[wpS,zE]
 refine call (lowest_ok (p1.keep hE2.keep) p2 sb1 sb2 (dd_ne x y)) ?_
 rintro r5 h5 ⟨hE5,p5⟩
 have m5:=hE5.n
 have X5:=X2.trans hE5
 rw[←rat_mul] at p5
 obtain⟨a3,s3,b3,t3,rfl,_,_,d1,o1,d2,o2,o3,o4⟩:=p5.parts
 have kg:=X5.kept (by omega) g2
 simp -dsimp (disch:=try exact dx) only[wpS,wpT,zE,zL,zA,st169,kg,o1,o2,o3,o4]
 refine⟨by repeat' first|refine wpSteady_c2 ?_ ?_|refine wpSteady_t2 ?_ ?_|exact wpSteady_one rfl rfl rfl rfl (steady_ext (H0:=H0) rfl (by omega) (by assumption) (by assumption) (by with_reducible assumption)),?_⟩
 simp -dsimp (disch:=try exact dx) only[wpS,wpT,zE,zL,zA,ld169,tk4']
 exact⟨(E0.trans X5).put (by omega) _,p5.keep ((Keep.refl _).put kg _)⟩
theorem rover_ok {h:IH} {v w:Value} {x y:Rat} {a b:Nat} (hv:PRat h v x) (hw:PRat h w y) (qx:QB a x) (qy:QB b y) (hk:a+b<16000000) (y0:y≠0) :
  WV prog (.func (.func 152) #[] #[]) [v,w] h fun r h'=>Ext h h'∧PRat h' r (x / y):=by
 obtain⟨a1,s1,b1,t1,rfl,hn1,hd1,c1,o1,c2,o2,o3,o4⟩:=hv.parts
 obtain⟨a2,s2,b2,t2,rfl,hn2,hd2,c5,o5,c6,o6,o7,o8⟩:=hw.parts
 refine enter (nt:=16) (rs:=[.cell 4 169]) Proofs.Tryz.func152 rfl rfl rfl (by simp) ?_
 simp -dsimp (disch:=try exact dx) only[wpS,zE,zA,zc169]
 obtain⟨H0,hH0,n0,E0,g0,g1,g2⟩:=boxes3 h [a1,s1,b1,t1] [a2,s2,b2,t2] ZR
 rw[←hH0]
 clear hH0
 have X0:=Ext.refl H0
 obtain⟨L1,L2,_⟩:=pl4 g0
 obtain⟨L3,L4,_⟩:=pl4 g1
 have sb1:SmallI (x.num*y.den):=small_bits (mul_bits qx.1 qy.den') hk
 have sb2:SmallI ((x.den:Int)*y.num):=small_bits (mul_bits qx.den' qy.1) hk
 refine drawn [(6,[4]),(8,[4])] (by kernel_rfl) (by kernel_rfl) rfl ?_
 simp -dsimp (disch:=try exact dx) only[wpS,wpT,zE,zL,zA,fa169_0,ld123,fa169_1,row_of g0,row_of g1,tkA,tkB]
 refine call (ptimes_ok (hn1.keep E0.keep) (hd2.keep E0.keep) (half_bits qx.1 (by omega)) (half_bits qy.den' (by omega))) ?_
 rintro r1 h1 ⟨X1,p1⟩
 have m1:=X1.n
 simp -dsimp (disch:=try exact dx) only[wpS,wpT,zE,zL,zA,fa169_0,ld123,fa169_1,row_of (X1.kept (by omega) g0),row_of (X1.kept (by omega) g1),tkA,tkB]
 refine call (ptimes_ok (hd1.keep (E0.trans X1).keep) (hn2.keep (E0.trans X1).keep) (half_bits qx.den' (by omega)) (half_bits qy.1 (by omega))) ?_
 rintro r2 h2 ⟨hE2,p2⟩
 have m2:=hE2.n
 have X2:=X1.trans hE2
 simp -dsimp (disch:=try exact dx) only[wpS,zE]
 refine call (lowest_ok (p1.keep hE2.keep) p2 sb1 sb2 (Int.mul_ne_zero (den_ne x) (num_ne y0))) ?_
 rintro r5 h5 ⟨hE5,p5⟩
 have m5:=hE5.n
 have X5:=X2.trans hE5
 rw[←rat_div] at p5
 obtain⟨a3,s3,b3,t3,rfl,_,_,d1,o1,d2,o2,o3,o4⟩:=p5.parts
 have kg:=X5.kept (by omega) g2
 simp -dsimp (disch:=try exact dx) only[wpS,wpT,zE,zL,zA,st169,kg,o1,o2,o3,o4]
 refine⟨by repeat' first|refine wpSteady_c2 ?_ ?_|refine wpSteady_t2 ?_ ?_|exact wpSteady_one rfl rfl rfl rfl (steady_ext (H0:=H0) rfl (by omega) (by assumption) (by assumption) (by with_reducible assumption)),?_⟩
 simp -dsimp (disch:=try exact dx) only[wpS,wpT,zE,zL,zA,ld169,tk4']
 exact⟨(E0.trans X5).put (by omega) _,p5.keep ((Keep.refl _).put kg _)⟩
theorem cmp_rat (x y:Rat):(if x.num*y.den<y.num*x.den then (-1:Int) else if x.num*y.den=y.num*x.den then 0 else 1)=if x<y then -1 else if x=y then 0 else 1:=by
 simp only[Rat.lt_iff,Rat.eq_iff_mul_eq_mul]
theorem rcmp_ok {h:IH} {v w:Value} {x y:Rat} {a b:Nat} (hv:PRat h v x) (hw:PRat h w y) (qx:QB a x) (qy:QB b y) (hk:a+b<16000000) :
  WV prog (.func (.func 107) #[] #[]) [v,w] h fun r h'=>Ext h h'∧r=KI (if x<y then -1 else if x=y then 0 else 1):=by
 obtain⟨a1,s1,b1,t1,rfl,hn1,hd1,c1,o1,c2,o2,o3,o4⟩:=hv.parts
 obtain⟨a2,s2,b2,t2,rfl,hn2,hd2,c5,o5,c6,o6,o7,o8⟩:=hw.parts
 refine enter (nt:=16) (rs:=[.tmp 4]) Proofs.Tryz.func107 rfl rfl rfl (by simp) ?_
 simp -dsimp (disch:=try exact dx) only[wpS,zE,zA]
 obtain⟨H0,hH0,n0,E0,g0,g1⟩:=boxes2 h [a1,s1,b1,t1] [a2,s2,b2,t2]
 rw[←hH0]
 clear hH0
 have X0:=Ext.refl H0
 obtain⟨L1,L2,_⟩:=pl4 g0
 obtain⟨L3,L4,_⟩:=pl4 g1
 have sb1:SmallI (x.num*y.den):=small_bits (mul_bits qx.1 qy.den') hk
 have sb2:SmallI (y.num*x.den):=small_bits (by rw[Nat.add_comm];exact mul_bits qy.1 qx.den') hk
 refine drawn [(6,[4]),(8,[4])] (by kernel_rfl) (by kernel_rfl) rfl ?_
 simp -dsimp (disch:=try exact dx) only[wpS,wpT,zE,zL,zA,fa169_0,ld123,fa169_1,row_of g0,row_of g1,tkA,tkB]
 refine call (ptimes_ok (hn1.keep E0.keep) (hd2.keep E0.keep) (half_bits qx.1 (by omega)) (half_bits qy.den' (by omega))) ?_
 rintro r1 h1 ⟨X1,p1⟩
 have m1:=X1.n
 simp -dsimp (disch:=try exact dx) only[wpS,wpT,zE,zL,zA,fa169_0,ld123,fa169_1,row_of (X1.kept (by omega) g0),row_of (X1.kept (by omega) g1),tkA,tkB]
 refine call (ptimes_ok (hn2.keep (E0.trans X1).keep) (hd1.keep (E0.trans X1).keep) (half_bits qy.1 (by omega)) (half_bits qx.den' (by omega))) ?_
 rintro r2 h2 ⟨hE2,p2⟩
 have m2:=hE2.n
 have X2:=X1.trans hE2
 simp -dsimp (disch:=try exact dx) only[wpS,zE]
 refine call (pcmp_ok (p1.keep hE2.keep) p2 sb1 sb2) ?_
 rintro _ h5 ⟨hE5,rfl⟩
 have X5:=X2.trans hE5
 rw[cmp_rat]
 simp -dsimp (disch:=try exact dx) only[wpS,zE]
 refine⟨by repeat' first|refine wpSteady_c2 ?_ ?_|refine wpSteady_t2 ?_ ?_|exact wpSteady_one rfl rfl rfl rfl (steady_ext (H0:=H0) rfl (by omega) (by assumption) (by assumption) (by with_reducible assumption)),?_⟩
 simp -dsimp (disch:=try exact dx) only[wpS,wpT,zE,zA]
 exact E0.trans X5
theorem rturned_ok {h:IH} {v:Value} {x:Rat} (hv:PRat h v x) :
  WV prog (.func (.func 216) #[] #[]) [v] h fun r h'=>Ext h h'∧PRat h' r (-x):=by
 obtain⟨a1,s1,b1,t1,rfl,hn1,hd1,c1,o1,c2,o2,o3,o4⟩:=hv.parts
 refine enter (nt:=9) (rs:=[.cell 2 169]) Proofs.Tryz.func216 rfl rfl rfl (by simp) ?_
 simp -dsimp (disch:=try exact dx) only[wpS,zc169]
 obtain⟨H0,hH0,n0,E0,g0,g1⟩:=boxes2 h [a1,s1,b1,t1] ZR
 rw[←hH0]
 clear hH0
 have X0:=Ext.refl H0
 obtain⟨L1,L2,_⟩:=pl4 g0
 refine drawn [(4,[2])] (by kernel_rfl) (by kernel_rfl) rfl ?_
 simp -dsimp (disch:=try exact dx) only[wpS,wpT,zE,zL,zA,fa169_0,ld123,row_of g0,tkA]
 refine call (pturned_ok (hn1.keep E0.keep)) ?_
 rintro r1 h1 ⟨X1,p1⟩
 have m1:=X1.n
 obtain⟨s3,rfl,c5,o5⟩:=p1.cells2
 have kg:=X1.kept (by omega) g1
 simp -dsimp (disch:=try exact dx) only[wpS,wpT,zE,zL,zA,ld123,fa169_1,bv169,pl169_0,pl169_1,st169,row_of (X1.kept (by omega) g0),kg,tkB,o5,o2,o4]
 refine⟨by repeat' first|refine wpSteady_c2 ?_ ?_|refine wpSteady_t2 ?_ ?_|exact wpSteady_one rfl rfl rfl rfl (steady_ext (H0:=H0) rfl (by omega) (by assumption) (by assumption) (by with_reducible assumption)),?_⟩
 simp -dsimp (disch:=try exact dx) only[wpS,wpT,zE,zL,zA,ld169,tk4']
 have kp:=(Keep.refl h1).put kg (.cells [.bool (decide (-x.num<0)),s3,b1,t1] 0 none)
 exact⟨(E0.trans X1).put (by omega) _,_,_,_,_,rfl,p1.keep kp,hd1.keep ((E0.trans X1).keep.trans kp)⟩
theorem rminus_ok {h:IH} {v w:Value} {x y:Rat} {a b:Nat} (hv:PRat h v x) (hw:PRat h w y) (qx:QB a x) (qy:QB b y) (hk:a+b+1<16000000) :
  WV prog (.func (.func 160) #[] #[]) [v,w] h fun r h'=>Ext h h'∧PRat h' r (x - y):=by
 obtain⟨a1,s1,b1,t1,rfl,hn1,hd1,c1,o1,c2,o2,o3,o4⟩:=hv.parts
 obtain⟨a2,s2,b2,t2,rfl,hn2,hd2,c5,o5,c6,o6,o7,o8⟩:=hw.parts
 refine enter (nt:=9) (rs:=[.cell 4 169]) Proofs.Tryz.func160 rfl rfl rfl (by simp) ?_
 simp -dsimp (disch:=try exact dx) only[wpS,zE,zA,zc169]
 obtain⟨H0,hH0,n0,E0,g0,g1,g2⟩:=boxes3 h [a1,s1,b1,t1] [a2,s2,b2,t2] ZR
 rw[←hH0]
 clear hH0
 have X0:=Ext.refl H0
 obtain⟨_,_,L1⟩:=pl4 g0
 obtain⟨_,_,L2⟩:=pl4 g1
 refine drawn [(0,[3])] (by kernel_rfl) (by kernel_rfl) rfl ?_
 simp -dsimp (disch:=try exact dx) only[wpS,wpT,zE,zL,zA,ld169,row_of g0,row_of g1,tk4']
 refine call (rturned_ok (hw.keep E0.keep)) ?_
 rintro r1 h1 ⟨X1,p1⟩
 have m1:=X1.n
 simp -dsimp (disch:=try exact dx) only[wpS,zE]
 refine call (rplus_ok (hv.keep (E0.trans X1).keep) p1 qx qy.neg hk) ?_
 rintro r2 h2 ⟨hE2,p2⟩
 have X2:=X1.trans hE2
 have m2:=hE2.n
 rw[←Rat.sub_eq_add_neg] at p2
 obtain⟨a3,s3,b3,t3,rfl,_,_,d1,o1,d2,o2,o3,o4⟩:=p2.parts
 have kg:=X2.kept (by omega) g2
 simp -dsimp (disch:=try exact dx) only[wpS,wpT,zE,zL,zA,st169,kg,o1,o2,o3,o4]
 refine⟨by repeat' first|refine wpSteady_c2 ?_ ?_|refine wpSteady_t2 ?_ ?_|exact wpSteady_one rfl rfl rfl rfl (steady_ext (H0:=H0) rfl (by omega) (by assumption) (by assumption) (by with_reducible assumption)),?_⟩
 simp -dsimp (disch:=try exact dx) only[wpS,wpT,zE,zL,zA,ld169,tk4']
 exact⟨(E0.trans X2).put (by omega) _,p2.keep ((Keep.refl _).put kg _)⟩
end Go.Id
