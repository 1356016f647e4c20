/-
  Contracts: the reference's fractions: lowest terms. Contracts: the reference's fractions: sums, differences, products, quotients, order.
-/
import Derived.Test.YtjhnilfelokpcaaGreatTemperLevelsAt
import Derived.Test.YtjhnilfelokpcaaGreatTemperLevelsBe
import Derived.Test.YtjhnilfelokpcaaGreatTemperLevelsBb
import Derived.Test.YtjhnilfelokpcaaGreatTemperLevelsAw
import Derived.Test.YtjhnilfelokpcaaGreatTemperLevelsBf
import Derived.Test.YtjhnilfelokpcaaGreatTemperLevelsAs
set_option linter.unusedVariables false
set_option linter.unusedSimpArgs false
set_option linter.defProp false
set_option linter.deprecated false
namespace Go.Id
open Go
open Nat renaming reduceAdd→zA,reduceEqDiff→zE,reduceLeDiff→zL
set_option maxHeartbeats 16000000
def RPair (h:IH) (v:Value) (n d:Int):Prop:=∃a s b t,v=.agg #[a,s,b,t]∧LongIs h (.agg #[a,s]) n∧LongIs h (.agg #[b,t]) d
theorem RPair.keep {h h':IH} {v:Value} {n d:Int} (p:RPair h v n d) (e:Keep h h'):RPair h' v n d:=let ⟨a,s,b,t,h1,h2,h3⟩:=p;⟨a,s,b,t,h1,h2.keep e,h3.keep e⟩
def RRat (h:IH) (v:Value) (q:Rat):Prop:=RPair h v q.num q.den
theorem RRat.keep {h h':IH} {v:Value} {q:Rat} (p:RRat h v q) (e:Keep h h'):RRat h' v q:=RPair.keep p e
theorem LongIs.cells2 {h:IH} {v:Value} {z:Int} (d:LongIs h v z) : ∃s,v=.agg #[.bool (decide (z<0)),s]∧s.cells = #[s]∧cellOK s=true:=let ⟨s,n,a,b,c,_⟩:=d.form;⟨s,a,b,c⟩
theorem LongIs.co {h:IH} {a s:Value} {z:Int} (d:LongIs h (.agg #[a,s]) z):a=.bool (decide (z<0))∧s.cells = #[s]∧cellOK s=true:=by
 obtain⟨s',h1,h2,h3⟩:=d.cells2
 cases h1
 exact⟨rfl,h2,h3⟩
theorem low_turn {n d:Int} (hd:d<0):n / (-(Int.gcd n d:Int))=(Rat.divInt n d).num∧d / (-(Int.gcd n d:Int))=(Rat.divInt n d).den:=by
 obtain⟨a,b⟩:=low_neg (n:=n) hd
 rw[Int.ediv_neg,Int.ediv_neg]
 exact⟨a,b⟩
theorem rlowest_ok {h:IH} {v w:Value} {n d:Int} (hv:LongIs h v n) (hw:LongIs h w d) (sn:SmallI n) (sd:SmallI d) (d0:d≠0) :
  WV Proofs.Tryz.prog (.func (.func 154) #[] #[]) [v,w] h fun r h'=>Ext h h'∧RRat h' r (Rat.divInt n d):=by
 obtain⟨s,rfl,c1,o1⟩:=hv.cells2
 obtain⟨t,rfl,c2,o2⟩:=hw.cells2
 have sg:SmallI (Int.gcd n d:Int):=by
  have h1:Int.gcd n d≤d.natAbs:=Nat.le_of_dvd (by omega) (Nat.gcd_dvd_right _ _)
  exact small_nat (sd.le h1)
 refine enter (nt:=32) (rs:=[.cell 4 186]) Proofs.Tryz.func154 rfl rfl rfl (by simp) ?_
 simp -dsimp (disch:=try exact dx) only[wpS,wpT,zE,zL,zA,zc186,ld131]
 obtain⟨H0,hH0,n0,E0,g0,g1,g2⟩:=boxes3 h [.bool (decide (n<0)),s] [.bool (decide (d<0)),t] ZR
 rw[←hH0]
 clear hH0
 refine call (divisor_ok (hv.keep E0.keep) (hw.keep E0.keep) sn sd) ?_
 rintro _ h1 ⟨hE1,hg⟩
 obtain⟨sg1,rfl,c3,o3⟩:=hg.cells2
 have hng:decide ((Int.gcd n d:Int)<0)=false:=decide_eq_false (by omega)
 rw[hng] at hg ⊢
 have x1:=E0.trans hE1
 have n1:=(hE1).n;try simp only[new_n,put_n] at n1
 simp -dsimp (disch:=try exact dx) only[wpS,wpT,zE,zL,zA,zc131,st131,fa131_0,ld4,o3,row_of (hE1.kept (by omega) g1),tk2']
 obtain⟨H2,hH2⟩ : ∃H2,H2=(h1.new (.cells ZL 0 none)).put h1.n (.cells [.bool false,sg1] 0 none):=⟨_,rfl⟩
 have e2:Ext h1 H2:=by rw[hH2];exact((Ext.refl _).new _).put (Nat.le_refl _) _
 have n2:H2.n=h1.n+1:=by rw[hH2];rfl
 have gg:H2.ext.get h1.n=some (.cells [.bool false,sg1] 0 none):=by rw[hH2];simp (disch:=try exact dx) only[get_put_same]
 rw[←hH2]
 clear hH2
 have x2:=x1.trans e2
 have kk0:=e2.kept (by omega) (hE1.kept (by omega) g0)
 have kk1:=e2.kept (by omega) (hE1.kept (by omega) g1)
 have kk2:=e2.kept (by omega) (hE1.kept (by omega) g2)
 refine bq_cut (fun fr2 H3 => ∃(g:Int) (ag sg2:Value),Ext h H3∧h1.n+1≤H3.n∧H3.ext.get h.n=some (.cells [.bool (decide (n<0)),s] 0 none)∧H3.ext.get (h.n+1)=some (.cells [.bool (decide (d<0)),t] 0 none)∧H3.ext.get (h.n+1+1)=some (.cells ZR 0 none)∧H3.ext.get h1.n=some (.cells [ag,sg2] 0 none)∧LongIs H3 (.agg #[ag,sg2]) g∧SmallI g∧g≠0∧n / g=(Rat.divInt n d).num∧d / g=(Rat.divInt n d).den ∧
  LongIs H3 (.agg #[.bool (decide (n<0)),s]) n∧LongIs H3 (.agg #[.bool (decide (d<0)),t]) d∧fget fr2 2=some (ptr (2*h.n) 0)∧fget fr2 3=some (ptr (2*(h.n+1)) 0)∧fget fr2 4=some (ptr (2*(h.n+1+1)) 0)∧fget fr2 5=some (ptr (2*h1.n) 0)) (fun hb=>?_) (fun hb=>?_) ?_
 ·have hd:d<0:=by simpa using hb
  obtain⟨b1,b2⟩:=low_turn (n:=n) hd
  simp -dsimp (disch:=try exact dx) only[wpS,wpT,zE,zL,zA,ld131,row_of gg,tk2']
  refine call (turn_ok (hg.keep e2.keep)) ?_
  rintro _ h3 ⟨hE3,hT⟩
  obtain⟨sT,rfl,c4,o4⟩:=hT.cells2
  have n3:=(hE3).n;try simp only[new_n,put_n] at n3
  have kg:=hE3.kept (by omega) gg
  simp -dsimp (disch:=try exact dx) only[wpS,wpT,zE,zL,zA,st131,kg,o4]
  have kp:=(Keep.refl h3).put kg (.cells [.bool (decide (-(Int.gcd n d:Int)<0)),sT] 0 none)
  have x3:=x2.trans hE3
  have hng:=gcd_ne (n:=n) (d:=d) (by omega)
  refine⟨-(Int.gcd n d:Int),_,sT,x3.put (by omega) _,by simp only[put_n];omega,by simp (disch:=try exact dx) only[get_put_old];exact hE3.kept (by omega) kk0,by simp (disch:=try exact dx) only[get_put_old];exact hE3.kept (by omega) kk1,by simp (disch:=try exact dx) only[get_put_old];exact hE3.kept (by omega) kk2,get_put_same _ _ rfl,hT.keep kp,by rw[SmallI,Int.natAbs_neg];exact sg,by omega,b1,b2,hv.keep (x3.keep.trans kp),hw.keep (x3.keep.trans kp),by simp,by simp,by simp,by simp⟩
 ·have hd:0<d:=by
   have : ¬d<0:=by simpa using hb
   omega
  obtain⟨b1,b2⟩:=low_pos (n:=n) hd
  simp -dsimp (disch:=try exact dx) only[wpS,wpT]
  exact⟨Int.gcd n d,_,sg1,x2,by omega,kk0,kk1,kk2,gg,hg.keep e2.keep,sg,gcd_ne d0,b1,b2,hv.keep x2.keep,hw.keep x2.keep,by simp,by simp,by simp,by simp⟩
 clear hg kk0 kk1 kk2 gg x2 e2
 rintro fr2 H3 ⟨g,ag,sg2,x3,n3,k0,k1,k2,kg,hg,sgg,g0',b1,b2,hv3,hw3,f2,f3,f4,f5⟩
 rw[d_seq]
 simp -dsimp (disch:=try exact dx) only[wpS,wpT,zE,zL,zA,ld131,f2,f5,row_of k0,row_of kg,tk2']
 refine call (lparts_ok hv3 hg sn sgg g0') ?_
 rintro _ h4 ⟨hE4,q,u,rfl,hq,hu⟩
 rw[b1] at hq
 obtain⟨sq,rfl,c4,o4⟩:=hq.cells2
 obtain⟨su,rfl,c5,o5⟩:=hu.cells2
 have n4:=(hE4).n;try simp only[new_n,put_n] at n4
 have x4:=x3.trans hE4
 simp -dsimp (disch:=try exact dx) only[wpS,wpT,zE,zL,zA,ld131,zc131,st131,o4,o5,f3,f5,row_of (hE4.kept (by omega) k1),row_of (hE4.kept (by omega) kg),tk2']
 obtain⟨H5,hH5⟩ : ∃H4,H4=((((h4.new (.cells ZL 0 none)).new (.cells ZL 0 none)).put h4.n (.cells [.bool (decide ((Rat.divInt n d).num<0)),sq] 0 none)).put (h4.n+1) (.cells [.bool (decide (n % g<0)),su] 0 none)):=⟨_,rfl⟩
 have e5:Ext h4 H5:=by rw[hH5];exact((((Ext.refl _).new _).new _).put (Nat.le_refl _) _).put (by omega) _
 have n5:H5.n=h4.n+2:=by rw[hH5];rfl
 have gq:H5.ext.get h4.n=some (.cells [.bool (decide ((Rat.divInt n d).num<0)),sq] 0 none):=by rw[hH5];simp (disch:=try exact dx) only[get_put_same,get_put_old]
 rw[←hH5]
 clear hH5
 refine call (lparts_ok (hw3.keep (hE4.trans e5).keep) (hg.keep (hE4.trans e5).keep) sd sgg g0') ?_
 rintro _ h6 ⟨hE6,q2,u2,rfl,hq2,hu2⟩
 rw[b2] at hq2
 obtain⟨sq2,rfl,c6,o6⟩:=hq2.cells2
 obtain⟨su2,rfl,c7,o7⟩:=hu2.cells2
 have n6:=(hE6).n;try simp only[new_n,put_n] at n6
 have hdf:decide (((Rat.divInt n d).den:Int)<0)=false:=decide_eq_false (by omega)
 rw[hdf] at hq2 ⊢
 have x6:=(x4.trans e5).trans hE6
 have kq:=hE6.kept (by omega) gq
 have kr:=hE6.kept (by omega) (e5.kept (by omega) (hE4.kept (by omega) k2))
 simp -dsimp (disch:=try exact dx) only[wpS,wpT,zE,zL,zA,ld131,zc131,st131,bv186,pl186_0,pl186_1,st186,ld186,o6,o7,f4,row_of kq,kr,o4,tk2',tk4']
 refine⟨?_,_,_,_,_,rfl,hq.keep ((e5.trans hE6).keep.trans ?_),hq2.keep ?_⟩
 ·exact((((x6.new _).new _).put (by omega) _).put (by omega) _).put (by omega) _
 ·exact(((((Keep.refl h6).new _).new _).put (cs:=ZL) (f:=none) (by simp (disch:=try exact dx) only[get_new_same,get_new_old]) _).put (cs:=ZL) (f:=none) (by simp (disch:=try exact dx) only[get_new_same,get_put_old]) _).put (cs:=ZR) (f:=none) (by simp (disch:=try exact dx) only[get_new_old,get_put_old];exact kr) _
 ·exact(((((Keep.refl h6).new _).new _).put (cs:=ZL) (f:=none) (by simp (disch:=try exact dx) only[get_new_same,get_new_old]) _).put (cs:=ZL) (f:=none) (by simp (disch:=try exact dx) only[get_new_same,get_put_old]) _).put (cs:=ZR) (f:=none) (by simp (disch:=try exact dx) only[get_new_old,get_put_old];exact kr) _
end Go.Id

namespace Go.Id
open Go
open Go.Proofs.Tryz (prog)
open Nat renaming reduceAdd→zA,reduceEqDiff→zE,reduceLeDiff→zL
set_option maxHeartbeats 16000000
theorem RRat.parts {h:IH} {v:Value} {q:Rat} (p:RRat h v q) : ∃a s b t,v=.agg #[a,s,b,t]∧LongIs h (.agg #[a,s]) q.num∧LongIs h (.agg #[b,t]) q.den∧s.cells = #[s]∧cellOK s=true∧t.cells = #[t]∧cellOK t=true∧cellOK a=true∧cellOK b=true:=by
 obtain⟨a,s,b,t,rfl,h1,h2⟩:=p
 obtain⟨rfl,c1,o1⟩:=h1.co
 obtain⟨rfl,c2,o2⟩:=h2.co
 exact⟨_,s,_,t,rfl,h1,h2,c1,o1,c2,o2,rfl,rfl⟩
theorem ql4 {H:IH} {k:Nat} {a s b t:Value} (g:H.ext.get k=some (.cells [a,s,b,t] 0 none)):load prog H 131 (ptr (2*k) 0)=some (.agg #[a,s])∧load prog H 131 (ptr (2*k) 2)=some (.agg #[b,t])∧load prog H 186 (ptr (2*k) 0)=some (.agg #[a,s,b,t]):=by
 have r:=row_of g
 refine⟨?_,?_,?_⟩
 ·simp -dsimp (disch:=try exact dx) only[wpS,wpT,zL,zA,ld131,r]
  rfl
 ·simp -dsimp (disch:=try exact dx) only[wpS,wpT,zL,zA,ld131,r]
  rfl
 ·rw[load_agg ag186 sz186,rd_of r]
  rfl
theorem qplus_ok {h:IH} {v w:Value} {x y:Rat} {a b:Nat} (hv:RRat h v x) (hw:RRat h w y) (qx:QB a x) (qy:QB b y) (hk:a+b+1<16000000) :
  WV prog (.func (.func 168) #[] #[]) [v,w] h fun r h'=>Ext h h'∧RRat h' r (x+y):=by
 obtain⟨a1,s1,b1,t1,rfl,hn1,hd1,c1,o1,c2,o2,o3,o4⟩:=hv.parts
 obtain⟨a2,s2,b2,t2,rfl,hn2,hd2,c5,o5,c6,o6,o7,o8⟩:=hw.parts
 refine enter (nt:=22) (rs:=[.cell 4 186]) Proofs.Tryz.func168 rfl rfl rfl (by simp) ?_
 simp -dsimp (disch:=try exact dx) only[wpS,zE,zA,zc186]
 obtain⟨H0,hH0,n0,E0,g0,g1,g2⟩:=boxes3 h [a1,s1,b1,t1] [a2,s2,b2,t2] ZR
 rw[←hH0]
 clear hH0
 have X0:=Ext.refl H0
 obtain⟨L1,L2,_⟩:=ql4 g0
 obtain⟨L3,L4,_⟩:=ql4 g1
 refine drawn [(6,[4]),(8,[4]),(12,[4,9,10]),(14,[4,9,10])] (by kernel_rfl) (by kernel_rfl) rfl ?_
 simp -dsimp (disch:=try exact dx) only[wpS,wpT,zE,zL,zA,fa186_0,ld131,fa186_1,row_of g0,row_of g1,tkA,tkB]
 refine call (times_ok (hn1.keep E0.keep) (hd2.keep E0.keep) (half_bits qx.1 (by omega)) (half_bits qy.den' (by omega))) ?_
 rintro r1 h1 ⟨X1,p1⟩
 have m1:=X1.n
 simp -dsimp (disch:=try exact dx) only[wpS,wpT,zE,zL,zA,fa186_0,ld131,fa186_1,row_of (X1.kept (by omega) g0),row_of (X1.kept (by omega) g1),tkA,tkB]
 refine call (times_ok (hn2.keep (E0.trans X1).keep) (hd1.keep (E0.trans X1).keep) (half_bits qy.1 (by omega)) (half_bits qx.den' (by omega))) ?_
 rintro r2 h2 ⟨hE2,p2⟩
 have m2:=hE2.n
 have X2:=X1.trans hE2
 simp -dsimp (disch:=try exact dx) only[wpS,zE]
 have b1':=mul_bits qx.1 qy.den'
 have b2':=mul_bits qy.1 qx.den'
 have b3':=qx.addN qy
 have b4':=mul_bits qx.den' qy.den'
 have sb1:SmallI (x.num*y.den):=small_bits b1' (by omega)
 have sb2:SmallI (y.num*x.den):=small_bits b2' (by omega)
 have sb3:SmallI (x.num*y.den+y.num*x.den):=small_bits b3' hk
 have sb4:SmallI ((x.den:Int)*y.den):=small_bits b4' (by omega)
 refine call (plus_ok (p1.keep hE2.keep) p2 sb1 sb2) ?_
 rintro r3 h3 ⟨hE3,p3⟩
 have m3:=hE3.n
 have X3:=X2.trans hE3
 simp -dsimp (disch:=try exact dx) only[wpS,wpT,zE,zL,zA,ld131,fa186_1,row_of (X3.kept (by omega) g0),row_of (X3.kept (by omega) g1),tkB]
 refine call (times_ok (hd1.keep (E0.trans X3).keep) (hd2.keep (E0.trans X3).keep) (half_bits qx.den' (by omega)) (half_bits qy.den' (by omega))) ?_
 rintro r4 h4 ⟨hE4,p4⟩
 have m4:=hE4.n
 have X4:=X3.trans hE4
 simp -dsimp (disch:=try exact dx) only[wpS,zE]
 refine call (rlowest_ok (p3.keep hE4.keep) p4 sb3 sb4 (dd_ne x y)) ?_
 rintro r5 h5 ⟨hE5,p5⟩
 have m5:=hE5.n
 have X5:=X4.trans hE5
 rw[←rat_add] at p5
 obtain⟨a3,s3,b3,t3,rfl,_,_,d1,o1,d2,o2,o3,o4⟩:=p5.parts
 have kg:=X5.kept (by omega) g2
 simp -dsimp (disch:=try exact dx) only[wpS,wpT,zE,zL,zA,st186,kg,o1,o2,o3,o4]
 refine⟨by repeat' first|refine wpSteady_c2 ?_ ?_|refine wpSteady_t2 ?_ ?_|exact wpSteady_one rfl rfl rfl rfl (steady_ext (H0:=H0) rfl (by omega) (by assumption) (by assumption) (by with_reducible assumption)),?_⟩
 simp -dsimp (disch:=try exact dx) only[wpS,wpT,zE,zL,zA,ld186,tk4']
 exact⟨(E0.trans X5).put (by omega) _,p5.keep ((Keep.refl _).put kg _)⟩
theorem qtimes_ok {h:IH} {v w:Value} {x y:Rat} {a b:Nat} (hv:RRat h v x) (hw:RRat h w y) (qx:QB a x) (qy:QB b y) (hk:a+b<16000000) :
  WV prog (.func (.func 130) #[] #[]) [v,w] h fun r h'=>Ext h h'∧RRat h' r (x*y):=by
 obtain⟨a1,s1,b1,t1,rfl,hn1,hd1,c1,o1,c2,o2,o3,o4⟩:=hv.parts
 obtain⟨a2,s2,b2,t2,rfl,hn2,hd2,c5,o5,c6,o6,o7,o8⟩:=hw.parts
 refine enter (nt:=16) (rs:=[.cell 4 186]) Proofs.Tryz.func130 rfl rfl rfl (by simp) ?_
 simp -dsimp (disch:=try exact dx) only[wpS,zE,zA,zc186]
 obtain⟨H0,hH0,n0,E0,g0,g1,g2⟩:=boxes3 h [a1,s1,b1,t1] [a2,s2,b2,t2] ZR
 rw[←hH0]
 clear hH0
 have X0:=Ext.refl H0
 obtain⟨L1,L2,_⟩:=ql4 g0
 obtain⟨L3,L4,_⟩:=ql4 g1
 have sb1:SmallI (x.num*y.num):=small_bits (mul_bits qx.1 qy.1) hk
 have sb2:SmallI ((x.den:Int)*y.den):=small_bits (mul_bits qx.den' qy.den') hk
 refine drawn [(6,[4]),(8,[4])] (by kernel_rfl) (by kernel_rfl) rfl ?_
 simp -dsimp (disch:=try exact dx) only[wpS,wpT,zE,zL,zA,fa186_0,ld131,row_of g0,row_of g1,tkA]
 refine call (times_ok (hn1.keep E0.keep) (hn2.keep E0.keep) (half_bits qx.1 (by omega)) (half_bits qy.1 (by omega))) ?_
 rintro r1 h1 ⟨X1,p1⟩
 have m1:=X1.n
 simp -dsimp (disch:=try exact dx) only[wpS,wpT,zE,zL,zA,ld131,fa186_1,row_of (X1.kept (by omega) g0),row_of (X1.kept (by omega) g1),tkB]
 refine call (times_ok (hd1.keep (E0.trans X1).keep) (hd2.keep (E0.trans X1).keep) (half_bits qx.den' (by omega)) (half_bits qy.den' (by omega))) ?_
 rintro r2 h2 ⟨hE2,p2⟩
 have m2:=hE2.n
 have X2:=X1.trans hE2
 simp -dsimp (disch:=try exact dx) only[wpS,zE]
 refine call (rlowest_ok (p1.keep hE2.keep) p2 sb1 sb2 (dd_ne x y)) ?_
 rintro r5 h5 ⟨hE5,p5⟩
 have m5:=hE5.n
 have X5:=X2.trans hE5
 rw[←rat_mul] at p5
 obtain⟨a3,s3,b3,t3,rfl,_,_,d1,o1,d2,o2,o3,o4⟩:=p5.parts
 have kg:=X5.kept (by omega) g2
 simp -dsimp (disch:=try exact dx) only[wpS,wpT,zE,zL,zA,st186,kg,o1,o2,o3,o4]
 refine⟨by repeat' first|refine wpSteady_c2 ?_ ?_|refine wpSteady_t2 ?_ ?_|exact wpSteady_one rfl rfl rfl rfl (steady_ext (H0:=H0) rfl (by omega) (by assumption) (by assumption) (by with_reducible assumption)),?_⟩
 simp -dsimp (disch:=try exact dx) only[wpS,wpT,zE,zL,zA,ld186,tk4']
 exact⟨(E0.trans X5).put (by omega) _,p5.keep ((Keep.refl _).put kg _)⟩
theorem qover_ok {h:IH} {v w:Value} {x y:Rat} {a b:Nat} (hv:RRat h v x) (hw:RRat h w y) (qx:QB a x) (qy:QB b y) (hk:a+b<16000000) (y0:y≠0) :
  WV prog (.func (.func 167) #[] #[]) [v,w] h fun r h'=>Ext h h'∧RRat h' r (x / y):=by
 obtain⟨a1,s1,b1,t1,rfl,hn1,hd1,c1,o1,c2,o2,o3,o4⟩:=hv.parts
 obtain⟨a2,s2,b2,t2,rfl,hn2,hd2,c5,o5,c6,o6,o7,o8⟩:=hw.parts
 refine enter (nt:=16) (rs:=[.cell 4 186]) Proofs.Tryz.func167 rfl rfl rfl (by simp) ?_
 simp -dsimp (disch:=try exact dx) only[wpS,zE,zA,zc186]
 obtain⟨H0,hH0,n0,E0,g0,g1,g2⟩:=boxes3 h [a1,s1,b1,t1] [a2,s2,b2,t2] ZR
 rw[←hH0]
 clear hH0
 have X0:=Ext.refl H0
 obtain⟨L1,L2,_⟩:=ql4 g0
 obtain⟨L3,L4,_⟩:=ql4 g1
 have sb1:SmallI (x.num*y.den):=small_bits (mul_bits qx.1 qy.den') hk
 have sb2:SmallI ((x.den:Int)*y.num):=small_bits (mul_bits qx.den' qy.1) hk
 refine drawn [(6,[4]),(8,[4])] (by kernel_rfl) (by kernel_rfl) rfl ?_
 simp -dsimp (disch:=try exact dx) only[wpS,wpT,zE,zL,zA,fa186_0,ld131,fa186_1,row_of g0,row_of g1,tkA,tkB]
 refine call (times_ok (hn1.keep E0.keep) (hd2.keep E0.keep) (half_bits qx.1 (by omega)) (half_bits qy.den' (by omega))) ?_
 rintro r1 h1 ⟨X1,p1⟩
 have m1:=X1.n
 simp -dsimp (disch:=try exact dx) only[wpS,wpT,zE,zL,zA,fa186_0,ld131,fa186_1,row_of (X1.kept (by omega) g0),row_of (X1.kept (by omega) g1),tkA,tkB]
 refine call (times_ok (hd1.keep (E0.trans X1).keep) (hn2.keep (E0.trans X1).keep) (half_bits qx.den' (by omega)) (half_bits qy.1 (by omega))) ?_
 rintro r2 h2 ⟨hE2,p2⟩
 have m2:=hE2.n
 have X2:=X1.trans hE2
 simp -dsimp (disch:=try exact dx) only[wpS,zE]
 refine call (rlowest_ok (p1.keep hE2.keep) p2 sb1 sb2 (Int.mul_ne_zero (den_ne x) (num_ne y0))) ?_
 rintro r5 h5 ⟨hE5,p5⟩
 have m5:=hE5.n
 have X5:=X2.trans hE5
 rw[←rat_div] at p5
 obtain⟨a3,s3,b3,t3,rfl,_,_,d1,o1,d2,o2,o3,o4⟩:=p5.parts
 have kg:=X5.kept (by omega) g2
 simp -dsimp (disch:=try exact dx) only[wpS,wpT,zE,zL,zA,st186,kg,o1,o2,o3,o4]
 refine⟨by repeat' first|refine wpSteady_c2 ?_ ?_|refine wpSteady_t2 ?_ ?_|exact wpSteady_one rfl rfl rfl rfl (steady_ext (H0:=H0) rfl (by omega) (by assumption) (by assumption) (by with_reducible assumption)),?_⟩
 simp -dsimp (disch:=try exact dx) only[wpS,wpT,zE,zL,zA,ld186,tk4']
 exact⟨(E0.trans X5).put (by omega) _,p5.keep ((Keep.refl _).put kg _)⟩
theorem ord_rat (x y:Rat):(if x.num*y.den<y.num*x.den then (-1:Int) else if y.num*x.den<x.num*y.den then 1 else 0)=if x<y then -1 else if x=y then 0 else 1:=by
 simp only[Rat.lt_iff,Rat.eq_iff_mul_eq_mul]
 split
 ·rfl
 ·split<;>split<;>first|rfl|omega
theorem qorder_ok {h:IH} {v w:Value} {x y:Rat} {a b:Nat} (hv:RRat h v x) (hw:RRat h w y) (qx:QB a x) (qy:QB b y) (hk:a+b<16000000) :
  WV prog (.func (.func 129) #[] #[]) [v,w] h fun r h'=>Ext h h'∧r=KI (if x<y then -1 else if x=y then 0 else 1):=by
 obtain⟨a1,s1,b1,t1,rfl,hn1,hd1,c1,o1,c2,o2,o3,o4⟩:=hv.parts
 obtain⟨a2,s2,b2,t2,rfl,hn2,hd2,c5,o5,c6,o6,o7,o8⟩:=hw.parts
 refine enter (nt:=16) (rs:=[.tmp 4]) Proofs.Tryz.func129 rfl rfl rfl (by simp) ?_
 simp -dsimp (disch:=try exact dx) only[wpS,zE,zA]
 obtain⟨H0,hH0,n0,E0,g0,g1⟩:=boxes2 h [a1,s1,b1,t1] [a2,s2,b2,t2]
 rw[←hH0]
 clear hH0
 have X0:=Ext.refl H0
 obtain⟨L1,L2,_⟩:=ql4 g0
 obtain⟨L3,L4,_⟩:=ql4 g1
 have sb1:SmallI (x.num*y.den):=small_bits (mul_bits qx.1 qy.den') hk
 have sb2:SmallI (y.num*x.den):=small_bits (by rw[Nat.add_comm];exact mul_bits qy.1 qx.den') hk
 refine drawn [(6,[4]),(8,[4])] (by kernel_rfl) (by kernel_rfl) rfl ?_
 simp -dsimp (disch:=try exact dx) only[wpS,wpT,zE,zL,zA,fa186_0,ld131,fa186_1,row_of g0,row_of g1,tkA,tkB]
 refine call (times_ok (hn1.keep E0.keep) (hd2.keep E0.keep) (half_bits qx.1 (by omega)) (half_bits qy.den' (by omega))) ?_
 rintro r1 h1 ⟨X1,p1⟩
 have m1:=X1.n
 simp -dsimp (disch:=try exact dx) only[wpS,wpT,zE,zL,zA,fa186_0,ld131,fa186_1,row_of (X1.kept (by omega) g0),row_of (X1.kept (by omega) g1),tkA,tkB]
 refine call (times_ok (hn2.keep (E0.trans X1).keep) (hd1.keep (E0.trans X1).keep) (half_bits qy.1 (by omega)) (half_bits qx.den' (by omega))) ?_
 rintro r2 h2 ⟨hE2,p2⟩
 have m2:=hE2.n
 have X2:=X1.trans hE2
 simp -dsimp (disch:=try exact dx) only[wpS,zE]
 refine call (lorder_ok (p1.keep hE2.keep) p2 sb1 sb2) ?_
 rintro _ h5 ⟨hE5,rfl⟩
 have X5:=X2.trans hE5
 rw[ord_rat]
 simp -dsimp (disch:=try exact dx) only[wpS,zE]
 refine⟨by repeat' first|refine wpSteady_c2 ?_ ?_|refine wpSteady_t2 ?_ ?_|exact wpSteady_one rfl rfl rfl rfl (steady_ext (H0:=H0) rfl (by omega) (by assumption) (by assumption) (by with_reducible assumption)),?_⟩
 simp -dsimp (disch:=try exact dx) only[wpS,wpT,zE,zA]
 exact E0.trans X5
theorem qturn_ok {h:IH} {v:Value} {x:Rat} (hv:RRat h v x) :
  WV prog (.func (.func 217) #[] #[]) [v] h fun r h'=>Ext h h'∧RRat h' r (-x):=by
 obtain⟨a1,s1,b1,t1,rfl,hn1,hd1,c1,o1,c2,o2,o3,o4⟩:=hv.parts
 refine enter (nt:=9) (rs:=[.cell 2 186]) Proofs.Tryz.func217 rfl rfl rfl (by simp) ?_
 simp -dsimp (disch:=try exact dx) only[wpS,zc186]
 obtain⟨H0,hH0,n0,E0,g0,g1⟩:=boxes2 h [a1,s1,b1,t1] ZR
 rw[←hH0]
 clear hH0
 have X0:=Ext.refl H0
 obtain⟨L1,L2,_⟩:=ql4 g0
 refine drawn [(4,[2])] (by kernel_rfl) (by kernel_rfl) rfl ?_
 simp -dsimp (disch:=try exact dx) only[wpS,wpT,zE,zL,zA,fa186_0,ld131,row_of g0,tkA]
 refine call (turn_ok (hn1.keep E0.keep)) ?_
 rintro r1 h1 ⟨X1,p1⟩
 have m1:=X1.n
 obtain⟨s3,rfl,c5,o5⟩:=p1.cells2
 have kg:=X1.kept (by omega) g1
 simp -dsimp (disch:=try exact dx) only[wpS,wpT,zE,zL,zA,ld131,fa186_1,bv186,pl186_0,pl186_1,st186,row_of (X1.kept (by omega) g0),kg,tkB,o5,o2,o4]
 refine⟨by repeat' first|refine wpSteady_c2 ?_ ?_|refine wpSteady_t2 ?_ ?_|exact wpSteady_one rfl rfl rfl rfl (steady_ext (H0:=H0) rfl (by omega) (by assumption) (by assumption) (by with_reducible assumption)),?_⟩
 simp -dsimp (disch:=try exact dx) only[wpS,wpT,zE,zL,zA,ld186,tk4']
 have kp:=(Keep.refl h1).put kg (.cells [.bool (decide (-x.num<0)),s3,b1,t1] 0 none)
 exact⟨(E0.trans X1).put (by omega) _,_,_,_,_,rfl,p1.keep kp,hd1.keep ((E0.trans X1).keep.trans kp)⟩
theorem qminus_ok {h:IH} {v w:Value} {x y:Rat} {a b:Nat} (hv:RRat h v x) (hw:RRat h w y) (qx:QB a x) (qy:QB b y) (hk:a+b+1<16000000) :
  WV prog (.func (.func 169) #[] #[]) [v,w] h fun r h'=>Ext h h'∧RRat h' r (x - y):=by
 obtain⟨a1,s1,b1,t1,rfl,hn1,hd1,c1,o1,c2,o2,o3,o4⟩:=hv.parts
 obtain⟨a2,s2,b2,t2,rfl,hn2,hd2,c5,o5,c6,o6,o7,o8⟩:=hw.parts
 refine enter (nt:=9) (rs:=[.cell 4 186]) Proofs.Tryz.func169 rfl rfl rfl (by simp) ?_
 simp -dsimp (disch:=try exact dx) only[wpS,zE,zA,zc186]
 obtain⟨H0,hH0,n0,E0,g0,g1,g2⟩:=boxes3 h [a1,s1,b1,t1] [a2,s2,b2,t2] ZR
 rw[←hH0]
 clear hH0
 have X0:=Ext.refl H0
 obtain⟨_,_,L1⟩:=ql4 g0
 obtain⟨_,_,L2⟩:=ql4 g1
 refine drawn [(0,[3])] (by kernel_rfl) (by kernel_rfl) rfl ?_
 simp -dsimp (disch:=try exact dx) only[wpS,wpT,zE,zL,zA,ld186,row_of g0,row_of g1,tk4']
 refine call (qturn_ok (hw.keep E0.keep)) ?_
 rintro r1 h1 ⟨X1,p1⟩
 have m1:=X1.n
 simp -dsimp (disch:=try exact dx) only[wpS,zE]
 refine call (qplus_ok (hv.keep (E0.trans X1).keep) p1 qx qy.neg hk) ?_
 rintro r2 h2 ⟨hE2,p2⟩
 have X2:=X1.trans hE2
 have m2:=hE2.n
 rw[←Rat.sub_eq_add_neg] at p2
 obtain⟨a3,s3,b3,t3,rfl,_,_,d1,o1,d2,o2,o3,o4⟩:=p2.parts
 have kg:=X2.kept (by omega) g2
 simp -dsimp (disch:=try exact dx) only[wpS,wpT,zE,zL,zA,st186,kg,o1,o2,o3,o4]
 refine⟨by repeat' first|refine wpSteady_c2 ?_ ?_|refine wpSteady_t2 ?_ ?_|exact wpSteady_one rfl rfl rfl rfl (steady_ext (H0:=H0) rfl (by omega) (by assumption) (by assumption) (by with_reducible assumption)),?_⟩
 simp -dsimp (disch:=try exact dx) only[wpS,wpT,zE,zL,zA,ld186,tk4']
 exact⟨(E0.trans X2).put (by omega) _,p2.keep ((Keep.refl _).put kg _)⟩
end Go.Id

namespace Go.Id
open Go
open Go.Proofs.Tryz (prog)
open Nat renaming reduceAdd→zA,reduceEqDiff→zE,reduceLeDiff→zL
set_option maxHeartbeats 16000000
theorem quick_ok {h:IH} (n d:Int) (hn:In64 n) (hd:In64 d) (d0:d≠0):WV prog (.func (.func 122) #[] #[]) [KI n,KI d] h fun r h'=>Ext h h'∧RRat h' r (Rat.divInt n d):=by
 refine enter (nt:=10) (rs:=[.cell 4 186]) Proofs.Tryz.func122 rfl rfl rfl (by simp) ?_
 simp -dsimp (disch:=try exact dx) only[wpS,zE,zA,zc186]
 have E1:Ext h (h.new (.cells ZR 0 none)):=(Ext.refl h).new _
 have g1:(h.new (.cells ZR 0 none)).ext.get h.n=some (.cells ZR 0 none):=by simp (disch:=try exact dx) only[get_new_same]
 refine call (long1_ok n hn) ?_
 rintro _ h1 ⟨X1,p1⟩
 simp -dsimp (disch:=try exact dx) only[wpS,zE]
 refine call (long1_ok d hd) ?_
 rintro _ h2 ⟨X2,p2⟩
 simp -dsimp (disch:=try exact dx) only[wpS,zE]
 have sn:SmallI n:=small64 (by have:=hn.1;have:=hn.2;omega)
 have sd:SmallI d:=small64 (by have:=hd.1;have:=hd.2;omega)
 refine call (rlowest_ok (p1.keep X2.keep) p2 sn sd d0) ?_
 rintro _ h3 ⟨X3,p3⟩
 have m1:=X1.n
 have m2:=X2.n
 have m3:=X3.n
 simp only[new_n] at m1
 obtain⟨a3,s3,b3,t3,rfl,_,_,d1,o1,d2,o2,o3,o4⟩:=p3.parts
 have kg:=X3.kept (by omega) (X2.kept (by omega) (X1.kept (by simp) g1))
 simp -dsimp (disch:=try exact dx) only[wpS,wpT,zE,zL,zA,st186,ld186,kg,o1,o2,o3,o4,tk4']
 exact⟨(((E1.trans X1).trans X2).trans X3).put (by omega) _,p3.keep ((Keep.refl _).put kg _)⟩
theorem refin_ok {h:IH} (n d:Nat) (hn:n<W8) (hd:d<W8):WV prog (.func (.func 127) #[] #[]) [shV n d] h fun r h'=>Ext h h'∧RPair h' r (wdI n) (wdI d):=by
 refine enter (nt:=10) (rs:=[.cell 2 186]) Proofs.Tryz.func127 rfl rfl rfl (by simp) ?_
 simp -dsimp (disch:=try exact dx) only[wpS,zc186,shV_cells]
 obtain⟨H0,hH0,n0,E0,g0,g1⟩:=boxes2 h (shC n d) ZR
 rw[←hH0]
 clear hH0
 have X0:=Ext.refl H0
 obtain⟨L1,L2,_⟩:=psh g0
 refine drawn [(4,[2])] (by kernel_rfl) (by kernel_rfl) rfl ?_
 simp -dsimp (disch:=try exact dx) only[wpS,zE,zL,fa48_0,ld44,row_of g0,shC_len,sh_take1]
 refine call (in_ok n hn) ?_
 rintro r1 h1 ⟨X1,p1⟩
 have m1:=X1.n
 simp -dsimp (disch:=try exact dx) only[wpS,zE,zL,zA,ld44,fa48_1,row_of (X1.kept (by omega) g0),shC_len,sh_take2]
 refine call (in_ok d hd) ?_
 rintro r2 h2 ⟨hE2,p2⟩
 have m2:=hE2.n
 have X2:=X1.trans hE2
 obtain⟨s1,rfl,c1,o1⟩:=p1.cells2
 obtain⟨s2,rfl,c2,o2⟩:=p2.cells2
 have kg:=X2.kept (by omega) g1
 simp -dsimp (disch:=try exact dx) only[wpS,wpT,zE,zL,zA,bv186,pl186_0,pl186_1,st186,kg,o1,o2]
 refine⟨by repeat' first|refine wpSteady_c2 ?_ ?_|refine wpSteady_t2 ?_ ?_|exact wpSteady_one rfl rfl rfl rfl (steady_ext (H0:=H0) rfl (by omega) (by assumption) (by assumption) (by with_reducible assumption)),?_⟩
 simp -dsimp (disch:=try exact dx) only[wpS,wpT,zE,zL,zA,ld186,tk4']
 have kp:=(Keep.refl h2).put kg (.cells [.bool (decide (wdI n<0)),s1,.bool (decide (wdI d<0)),s2] 0 none)
 exact⟨(E0.trans X2).put (by omega) _,_,_,_,_,rfl,p1.keep (hE2.keep.trans kp),p2.keep kp⟩
theorem refout_ok {h:IH} {v:Value} {q:Rat} (hv:RRat h v q):WV prog (.func (.func 121) #[] #[]) [v] h fun r h'=>Ext h h'∧r=(open Classical in if QW q then .tuple #[shareV q,KI 0] else .tuple #[shV 0 0,KI 6]):=by
 obtain⟨a1,s1,b1,t1,rfl,hn1,hd1,c1,o1,c2,o2,o3,o4⟩:=hv.parts
 refine enter (nt:=30) (rs:=[.cell 2 48,.tmp 3]) Proofs.Tryz.func121 rfl rfl rfl (by simp) ?_
 simp -dsimp (disch:=try exact dx) only[wpS,wpT,zE,zL,zA,zc48,fa186_0,ld131]
 obtain⟨H0,hH0,n0,E0,g0,g1⟩:=boxes2 h [a1,s1,b1,t1] Z16
 rw[←hH0]
 clear hH0
 simp -dsimp (disch:=try exact dx) only[tkA]
 refine call (out_ok (hn1.keep E0.keep)) ?_
 rintro _ h1 ⟨X1,rfl⟩
 have m1:=X1.n
 obtain⟨w1,e1,hw⟩ : ∃w1 e1,(if InW q.num then Value.tuple #[wideV q.num,KI 0] else .tuple #[wdV 0,KI 6])=.tuple #[wdV w1,KI e1]∧(InW q.num∧w1=wideN q.num∧e1=0 ∨ ¬InW q.num∧e1=6):=by
  by_cases hi:InW q.num
  ·exact⟨_,0,by rw[if_pos hi],.inl ⟨hi,rfl,rfl⟩⟩
  ·exact⟨0,6,by rw[if_neg hi],.inr ⟨hi,rfl⟩⟩
 rw[hw.1]
 have k0:=X1.kept (by omega) g0
 have k1:=X1.kept (by omega) g1
 simp -dsimp (disch:=try exact dx) only[wpS,wpT,zE,zL,zA,ld131,zc44,st44,fa186_1,cells8,wdC_len,wdC_all,wd_spl,row_of k0,tkA,tkB]
 obtain⟨H2,hH2⟩ : ∃H2,H2=(h1.new (.cells [ZW,ZW,ZW,ZW,ZW,ZW,ZW,ZW] 0 none)).put h1.n (.cells (wdC w1) 0 none):=⟨_,rfl⟩
 have e2:Ext h1 H2:=by rw[hH2];exact((Ext.refl _).new _).put (Nat.le_refl _) _
 have n2:H2.n=h1.n+1:=by rw[hH2];rfl
 have ga:H2.ext.get h1.n=some (.cells (wdC w1) 0 none):=by rw[hH2];simp (disch:=try exact dx) only[get_put_same]
 have k1':=e2.kept (by omega) k1
 rw[←hH2]
 clear hH2
 refine call (out_ok (hd1.keep ((E0.trans X1).trans e2).keep)) ?_
 rintro _ h3 ⟨X3,rfl⟩
 have m3:=X3.n
 obtain⟨w2,f2,hw2⟩ : ∃w1 e1,(if InW (q.den:Int) then Value.tuple #[wideV q.den,KI 0] else .tuple #[wdV 0,KI 6])=.tuple #[wdV w1,KI e1]∧(InW (q.den:Int)∧w1=wideN q.den∧e1=0 ∨ ¬InW (q.den:Int)∧e1=6):=by
  by_cases hi:InW (q.den:Int)
  ·exact⟨_,0,by rw[if_pos hi],.inl ⟨hi,rfl,rfl⟩⟩
  ·exact⟨0,6,by rw[if_neg hi],.inr ⟨hi,rfl⟩⟩
 rw[hw2.1]
 have ga3:=X3.kept (by omega) ga
 have k3:=X3.kept (by omega) k1'
 have xx:=((E0.trans X1).trans e2).trans X3
 rcases hw.2 with⟨i1,rfl,rfl⟩|⟨i1,rfl⟩
 ·rcases hw2.2 with⟨i2,rfl,rfl⟩|⟨i2,rfl⟩
  ·rw[if_pos (show QW q from⟨i1,i2⟩)]
   simp -dsimp (disch:=try exact dx) only[wpS,wpT,zE,zL,zA,zc44,st44,bv48,st48,ld44,pl48_0,pl48_1,ld48,cells8,wdC_len,wdC_all,wd_spl,row_of ga3,k3,wd_take,sh_sp1,sh_sp2,sh_sp3,shC_len,shC_all,sh_take]
   exact⟨(((xx.new _).put (by omega) _).put (by omega) _),rfl⟩
  ·rw[if_neg (show ¬QW q from fun h=>i2 h.2)]
   simp -dsimp (disch:=try exact dx) only[wpS,wpT,zE,zL,zA,zc44,st44,bv48,st48,ld48,cells8,wdC_len,wdC_all,wd_spl,k3,sh_tz]
   exact⟨(((xx.new _).put (by omega) _).put (by omega) _),by rw[sh_zeroV]⟩
 ·rw[if_neg (show ¬QW q from fun h=>i1 h.1)]
  simp -dsimp (disch:=try exact dx) only[wpS,wpT,zE,zL,zA,zc44,st44,bv48,st48,ld48,cells8,wdC_len,wdC_all,wd_spl,k3,sh_tz]
  exact⟨(((xx.new _).put (by omega) _).put (by omega) _),by rw[sh_zeroV]⟩
theorem ref02Of_ok {h:IH} (n d:Int) (hn:In64 n) (hd:In64 d) (d0:d≠0):WV prog (.func (.func 43) #[] #[]) [KI n,KI d] h fun r h'=>Ext h h'∧r=.tuple #[shareV (Rat.divInt n d),KI 0]:=by
 have hd':(d == 0)=false:=by simpa using d0
 refine enter (nt:=15) (rs:=[.cell 4 48,.tmp 5]) Proofs.Tryz.func43 rfl rfl rfl (by simp) ?_
 simp -dsimp (disch:=try exact dx) only[wpS,zE,zA,zc48,hd']
 have E1:Ext h (h.new (.cells Z16 0 none)):=(Ext.refl h).new _
 have g1:(h.new (.cells Z16 0 none)).ext.get h.n=some (.cells Z16 0 none):=by simp (disch:=try exact dx) only[get_new_same]
 refine call (quick_ok n d hn hd d0) ?_
 rintro _ h1 ⟨X1,p1⟩
 simp -dsimp (disch:=try exact dx) only[wpS,zE]
 refine call (refout_ok p1) ?_
 rintro _ h2 ⟨X2,rfl⟩
 rw[if_pos (qw_div hn hd d0)]
 have m1:=X1.n
 have m2:=X2.n
 simp only[new_n] at m1
 have kg:=X2.kept (by omega) (X1.kept (by simp) g1)
 simp -dsimp (disch:=try exact dx) only[wpS,wpT,zE,zL,zA,st48,ld48,kg,shV_cells,shC_len,shC_all,sh_sp3,sh_take]
 exact⟨((E1.trans X1).trans X2).put (by omega) _,rfl⟩
end Go.Id

namespace Go.Id
open Go
end Go.Id

namespace Go.Id
open Go
open Go.Proofs.Tryz (prog)
section
variable {P:Program}
theorem pr_program:pureRun P (program)=some P:=rfl
theorem pr_part_agg {e:TypeId} {n:Nat} (hA:isAggT P e=some true) (hs:sizeT P e=some n) (cs:Array Value) (off:Nat):pureRun P (part e cs off)=some (.agg (cs.extract off (off+n))):=by
 unfold part
 have h1:pureRun P (isAgg e)=some true:=by
  unfold isAgg
  simp only[isAggT,Option.map_eq_some_iff] at hA
  obtain⟨d,hd,hA⟩:=hA
  rw[pr_bind (pr_underlying hd)]
  cases d<;>first|rfl|(simp at hA)
 rw[pr_bind h1]
 simp only[if_true]
 rw[pr_bind (pr_sizeOf hs)]
 rfl
theorem binop_neq_gen {t:TypeId} {x y:Array Value} {b:Bool} (hg:P.eqGuardType P.depth t=false) (hx:plain (.agg x)=true) (hy:plain (.agg y)=true) (h:pureRun P (Op.equal t (.agg x) (.agg y))=some b) (ox oy:Operand):binop P .neq t ox oy (.agg x) (.agg y)=some (.bool (!b)):=by
 refine binop_of P t ox oy hx hy rfl ?_
 have h1:pureRun P (eqGuard .neq t ox oy (.agg x) (.agg y))=some ():=by
  show pureRun P (if (!P.eqGuardType P.depth t)=true then _ else _)=_
  rw[hg];rfl
 rw[pr_bind h1]
 show pureRun P (Op.equal t _ _ >>= fun r=>pure (Value.bool !r))=_
 rw[pr_bind h];rfl
end
theorem sh_ext1 (n d:Nat):((shC n d).toArray).extract 0 8=(wdC n).toArray:=by
 simp only[List.extract_toArray,List.extract_eq_take_drop]
 rw[show(8 - 0)=8 from rfl,sh_take1]
theorem sh_ext2 (n d:Nat):((shC n d).toArray).extract 8 16=(wdC d).toArray:=by
 simp only[List.extract_toArray,List.extract_eq_take_drop]
 rw[show(16 - 8)=8 from rfl,sh_take2]
theorem wd_equalIn {n m:Nat} (hn:n<W8) (hm:m<W8) (k:Nat):pureRun prog (Op.equalIn (k+2) 44 (.agg (wdC n).toArray) (.agg (wdC m).toArray))=some (decide (n=m)):=by
 rw[wdC_map,wdC_map,pr_equal_arr u44 u42 sz42 _ _ _ (by simp) (by simp),wd_dec hn hm]
theorem sh_equalIn {n d n' d':Nat} (h1:n<W8) (h2:d<W8) (h3:n'<W8) (h4:d'<W8) (k:Nat):pureRun prog (Op.equalIn (k+3) 48 (.agg (shC n d).toArray) (.agg (shC n' d').toArray))=some (decide (n=n'∧d=d')):=by
 unfold Op.equalIn
 rw[pr_bind (pr_underlying (show Program.underlying prog 48=some (.struct { toList:=[{ name := "N",type:=44,offset:=0,embedded:=false,tag := "",pkgPath := "",byteOffset:=0 },{ name := "D",type:=44,offset:=8,embedded:=false,tag := "",pkgPath := "",byteOffset:=64 }] }) by kernel_rfl))]
 simp only
 rw[pr_bind pr_program,show Program.stoodInHeld prog 48=false by kernel_rfl]
 have seq : ∀{α β:Type} (s:Sem α) (f:α→Sem β),pureRun prog (s >>= f)=(pureRun prog s).bind fun a=>pureRun prog (f a):=fun s f=>pureRun_seq _ f s
 have p1:=fun(n d:Nat)=>pr_part_agg (P:=prog) ag44 sz44 (shC n d).toArray 0
 have p2:=fun(n d:Nat)=>pr_part_agg (P:=prog) ag44 sz44 (shC n d).toArray 8
 have n1:("N" ≠ "_")=True:=by simp
 have n2:("D" ≠ "_")=True:=by simp
 simp only[Bool.false_eq_true,if_false,←Array.forIn_toList,List.forIn_cons,List.forIn_nil,seq,n1,n2,if_true,p1,Option.bind_some,Nat.zero_add,sh_ext1,wd_equalIn h1 h3]
 by_cases e1:n=n'
 ·simp only[decide_eq_true e1,Bool.not_true,Bool.false_eq_true,if_false,pr_pure,Option.bind_some,seq,p2,show(8+8:Nat)=16 from rfl,sh_ext2,wd_equalIn h2 h4]
  by_cases e2:d=d'
  ·simp only[decide_eq_true e2,Bool.not_true,Bool.false_eq_true,if_false,pr_pure,Option.bind_some]
   rw[decide_eq_true (And.intro e1 e2)]
  ·simp only[decide_eq_false e2,Bool.not_false,if_true,pr_pure,Option.bind_some]
   rw[decide_eq_false (fun h=>e2 h.2)]
 ·simp only[decide_eq_false e1,Bool.not_false,if_true,pr_pure,Option.bind_some]
  rw[decide_eq_false (fun h=>e1 h.1)]
theorem sh_plain (n d:Nat):plain (.agg (shC n d).toArray)=true:=by
 simp only[plain,shC,wdC]
 simp[scal]
theorem sh_neq {n d n' d':Nat} (h1:n<W8) (h2:d<W8) (h3:n'<W8) (h4:d'<W8) (ox oy:Operand):binop prog .neq 48 ox oy (.agg (shC n d).toArray) (.agg (shC n' d').toArray)=some (.bool (!decide (n=n'∧d=d'))):=by
 exact binop_neq_gen (by kernel_rfl) (sh_plain _ _) (sh_plain _ _) (sh_equalIn h1 h2 h3 h4 9997) ox oy
end Go.Id

namespace Go.Id
open Go
end Go.Id

namespace Go.Id
open Go
end Go.Id

namespace Go.Id
open Go
end Go.Id

namespace Go.Id
open Go
end Go.Id
