/-
  Contracts: the program's long integers: divisors, quotients with remainders. Contracts: the program's fractions: lowest terms, sums, products, quotients.
-/
import Derived.Test.YtnanhedgenokpaaGreatTemperMovesAt
import Derived.Test.YtnanhedgenokpaaGreatTemperMovesBb
import Derived.Test.YtnanhedgenokpaaGreatTemperMovesBc
set_option linter.unusedVariables false
set_option linter.unusedSimpArgs false
set_option linter.defProp false
set_option linter.deprecated false
namespace Go.Id
open Go
open Go.Proofs.Tryz (prog)
open Nat renaming reduceAdd→zA,reduceEqDiff→zE,reduceLeDiff→zL
set_option maxHeartbeats 16000000
theorem qJ {h:IH} {v w:Value} {x y:Int} (hv:bq h v x) (hw:bq h w y) (sx:aS x) (sy:aS y) :
  WV prog (.func (.func 185) #[] #[]) [v,w] h fun r h'=>Ext h h'∧bq h' r (Int.gcd x y):=by
 obtain⟨s,rfl,hS⟩:=hv
 obtain⟨t,rfl,hT⟩:=hw
 obtain⟨ds,hD,hN,hx⟩:=id hS
 obtain⟨es,hE,hM,hy⟩:=id hT
 refine enter (nt:=26) (rs:=[.cell 4 137]) Proofs.Tryz.func185 rfl rfl rfl (by simp) ?_
 simp -dsimp (disch:=try exact dx) only[wpS,zE,zA,fU,iZ,oM]
 have kk : ∀o1 o2 o3,Ext h (((h.new o1).new o2).new o3):=fun o1 o2 o3=>(((Ext.refl h).new _).new _).new _
 refine loop (fun m fr h1 => ∃(xv yv:Value) (a:Nat),Ext (((h.new (.cells [.bool (decide (x<0)),s] 0 none)).new (.cells [.bool (decide (y<0)),t] 0 none)).new (.cells ZL 0 none)) h1∧Wrd h1 xv a∧Wrd h1 yv m∧Small a∧Small m∧Nat.gcd a m=Int.gcd x y∧ah fr 4=some (ptr (2*(h.n+1+1)) 0)∧ah fr 5=some xv∧ah fr 6=some yv) y.natAbs
  ⟨s,t,x.natAbs,Ext.refl _,hS.ab (kk _ _ _).ab,hT.ab (kk _ _ _).ab,sx,sy,rfl,by simp,by simp,by simp⟩ ?_
 clear hS hT hD hN hx hE hM hy ds es
 rintro m fr h1 ⟨xv,yv,a,hE1,hA,hB,sa,sb,Fq,f4,f5,f6⟩
 obtain⟨ds,hD,hN,hx⟩:=id hA
 obtain⟨es,hE,hM,hy⟩:=id hB
 have hz:=hM.jM
 rw[hy] at hz
 have l1:ds.length≤1000000:=mu hN (by rw[hx];exact sa)
 have l2:es.length≤1000000:=mu hM (by rw[hy];exact sb)
 by_cases hm:m=0
 ·have hes:es = []:=hz.1 hm
  have Qb:nT prog h1 135 yv=some (.int .i64 ((0:Nat):Int)):=by have:=hE.1.len (P:=prog) ff h1;rw[hes] at this;exact this
  have hg:h1.ext.get (h.n+1+1)=some (.cells ZL 0 none):=by rw[hE1.get _ (by simp)];exact aa _ _ rfl
  simp -dsimp (disch:=try exact dx) only[wpS,wpT,zE,zL,zA,yh,ng,dI,bh,f4,f5,f6,Qb,hD.1.cells,hD.1.cok,hg]
  refine⟨((kk _ _ _).trans hE1).put (by omega) _,xv,?_,?_⟩
  ·simp
  ·subst hm
   rw[Nat.gcd_zero_right] at Fq
   rw[Int.natAbs_natCast,←Fq]
   exact hA.ab ((aF.refl _).put hg _)
 ·have hl:0<es.length:=by
   apply Nat.pos_of_ne_zero;intro h0
   exact hm (hz.2 (List.length_eq_zero_iff.1 h0))
  simp -dsimp (disch:=try exact dx) only[wpS,wpT,zE,f5,f6,hE.1.len ff]
  refine call (xS hD hE hN hM (by rw[hy];exact hm) l1 l2) ?_
  rintro _ h2 ⟨hE2,q,r,rfl,hq,hr⟩
  rw[hx,hy] at hr
  have hlt:=Nat.mod_lt a (Nat.pos_of_ne_zero hm)
  simp -dsimp (disch:=try exact dx) only[wpS,zE,f6]
  refine⟨a % m,hlt,yv,r,m,hE1.trans hE2,hB.ab hE2.ab,hr,sb,sb.le (Nat.le_of_lt hlt),?_,by simp[f4],by simp,by simp⟩
  rw[←Fq,Nat.gcd_comm a m,Nat.gcd_rec m a,Nat.gcd_comm]
theorem MM {h:IH}:Wrd (h.new (.cells [.int .u64 1] 1 none)) (.slice (some ⟨2*h.n,0,none⟩) 1 3) 1 :=
 ⟨[1],⟨oY (h:=h) (sz:=1) (m:=1) (cs:=[K64 1]) (by omega) rfl (by omega),fun x hx=>by simp at hx;omega,by simp⟩,.inr (by simp),by simp[B.au,B.az]⟩
theorem pB {h:IH} {v w:Value} {x y:Int} (hv:bq h v x) (hw:bq h w y) (sx:aS x) (sy:aS y) (y0:y≠0) :
  WV prog (.func (.func 186) #[] #[]) [v,w] h fun r h'=>Ext h h' ∧ ∃q t,r=.tuple #[q,t]∧bq h' q (x / y)∧bq h' t (x % y):=by
 obtain⟨s,rfl,hS⟩:=hv
 obtain⟨t,rfl,hT⟩:=hw
 obtain⟨ds,hD,hN,hx⟩:=id hS
 obtain⟨es,hE,hM,hy⟩:=id hT
 have l1:ds.length≤1000000:=mu hN (by rw[hx];exact sx)
 have l2:es.length≤1000000:=mu hM (by rw[hy];exact sy)
 refine enter (nt:=47) (rs:=[.cell 4 137,.cell 5 137]) Proofs.Tryz.func186 rfl rfl rfl (by simp) ?_
 simp -dsimp (disch:=try exact dx) only[wpS,zE,zA,fU,iZ,oM]
 have kk : ∀o1 o2 o3 o4,Ext h ((((h.new o1).new o2).new o3).new o4):=fun o1 o2 o3 o4=>((((Ext.refl h).new _).new _).new _).new _
 refine call (xS (hD.ab (kk _ _ _ _).ab) (hE.ab (kk _ _ _ _).ab) hN hM (by rw[hy];omega) l1 l2) ?_
 rintro _ h1 ⟨hE1,q,r,rfl,⟨qs,hq,hqv⟩,⟨rs,hr,hrn,hrv⟩⟩
 rw[hx,hy] at hqv hrv
 have n1:h.n+4≤h1.n:=hE1.n
 have g0:h1.ext.get h.n=some (.cells [.bool (decide (x<0)),s] 0 none):=by rw[hE1.get _ (by simp<;>omega)];simp (disch:=try exact dx) only[aa,ao]
 have g1:h1.ext.get (h.n+1)=some (.cells [.bool (decide (y<0)),t] 0 none):=by rw[hE1.get _ (by simp<;>omega)];simp (disch:=try exact dx) only[aa,ao]
 have g2:h1.ext.get (h.n+1+1)=some (.cells ZL 0 none):=by rw[hE1.get _ (by simp<;>omega)];simp (disch:=try exact dx) only[aa,ao]
 have g3:h1.ext.get (h.n+1+1+1)=some (.cells ZL 0 none):=by rw[hE1.get _ (by simp<;>omega)];simp (disch:=try exact dx) only[aa]
 have x1:Ext h h1:=(kk _ _ _ _).trans hE1
 have eT1:=hE.ab x1.ab
 clear hE1 kk
 have r0:=bg g0
 have r1:=bg g1
 simp -dsimp (disch:=try exact dx) only[wpS,zE]
 refine drawn [(8,[6])] (by kernel_rfl) (by kernel_rfl) rfl ?_
 simp -dsimp (disch:=try exact dx) only[wpS,zE,ic,ld4,bn4,r0,r1,tf]
 refine call (fD hq _) ?_
 rintro q2 h2 ⟨hE2,hq2⟩
 have r02:h2.row (2*h.n)=some [.bool (decide (x<0)),s]:=by rw[hE2.row (.inr (by omega))];exact r0
 simp -dsimp (disch:=try exact dx) only[wpS,zE,ic,ld4,r02]
 refine call (fD (hr.ab hE2.ab) _) ?_
 rintro t2 h3 ⟨hE3,ht2⟩
 rw[hqv] at hq2
 rw[hrv] at ht2
 have pa:=GH (x:=x) y0
 have pb:=GG (x:=x) y0
 have aQ:=vk (decide (x<0) != decide (y<0)) (x.natAbs / y.natAbs)
 have aR:=vk (decide (x<0)) (x.natAbs % y.natAbs)
 generalize (if (decide (x<0) != decide (y<0))=true then -((x.natAbs / y.natAbs:Nat):Int) else ((x.natAbs / y.natAbs:Nat):Int))=Q at *
 generalize (if decide (x<0)=true then -((x.natAbs % y.natAbs:Nat):Int) else ((x.natAbs % y.natAbs:Nat):Int))=R at *
 have sQ:aS Q:=Small.le sx (by rw[aQ];exact Nat.div_le_self _ _)
 have sR:aS R:=Small.le sy (by rw[aR];exact Nat.le_of_lt (Nat.mod_lt _ (by omega)))
 obtain⟨sq,n3,rfl,c3,o3,_,_⟩:=hq2.form
 obtain⟨st,n4,rfl,c4,o4,_,_⟩:=ht2.form
 have x3:Ext h h3:=(x1.trans hE2).trans hE3
 have n2:=hE2.n
 have n3':=hE3.n
 have g2':=(hE3.get _ (by omega)).trans ((hE2.get _ (by omega)).trans g2)
 have g3':=(hE3.get _ (by omega)).trans ((hE2.get _ (by omega)).trans g3)
 have g1':=(hE3.get _ (by omega)).trans ((hE2.get _ (by omega)).trans g1)
 simp -dsimp (disch:=try exact dx) only[wpS,wpT,zE,zL,zA,dI,o3,o4,g2',g3']
 refine⟨ak rfl rfl rfl rfl (aA (av:=ptr (2*h.n) 0) (v:=.bool (decide (x<0))) rfl ?_ ?_),?_⟩
 ·simp -dsimp (disch:=try exact dx) only[wpS,ld4,r02]
 ·simp -dsimp (disch:=try exact dx) only[wpS,ld4,r0]
 simp -dsimp (disch:=try exact dx) only[wpS,wpT,zE,zA,ic,ld4]
 obtain⟨h4,hh4⟩ : ∃h4,h4=(h3.put (h.n+1+1) (.cells [.bool (decide (Q<0)),sq] 0 none)).put (h.n+1+1+1) (.cells [.bool (decide (R<0)),st] 0 none):=⟨_,rfl⟩
 have g8:h4.ext.get (h.n+1+1)=some (.cells [.bool (decide (Q<0)),sq] 0 none):=by rw[hh4];simp (disch:=try exact dx) only[ad,ae]
 have g9:h4.ext.get (h.n+1+1+1)=some (.cells [.bool (decide (R<0)),st] 0 none):=by rw[hh4];simp (disch:=try exact dx) only[ad]
 have g7:h4.ext.get (h.n+1)=some (.cells [.bool (decide (y<0)),t] 0 none):=by rw[hh4];simp (disch:=try exact dx) only[ae];exact g1'
 have n5:h4.n=h3.n:=by rw[hh4];rfl
 have k4:aF h3 h4:=by rw[hh4];exact((aF.refl h3).put g2' _).put (by rw[ae _ _ (by omega)];exact g3') _
 have x4:Ext h h4:=by rw[hh4];exact(x3.put (by omega) _).put (by omega) _
 have hQ0:=hq2.ab (hE3.ab.trans k4)
 have hR0:=ht2.ab k4
 have eT4:=eT1.ab ((hE2.trans hE3).ab.trans k4)
 rw[←hh4]
 clear hh4 g2' g3' g1' r0 r1 g0 g1 g2 g3
 have r9:=bg g9
 have r8:=bg g8
 have r7:=bg g7
 refine fR (fun fr2 h5 => ∃sq st,Ext h h5∧h5.ext.get (h.n+1+1)=some (.cells [.bool (decide (x / y<0)),sq] 0 none)∧h5.ext.get (h.n+1+1+1)=some (.cells [.bool (decide (x % y<0)),st] 0 none)∧bq h5 (.agg #[.bool (decide (x / y<0)),sq]) (x / y)∧bq h5 (.agg #[.bool (decide (x % y<0)),st]) (x % y) ∧
  ah fr2 4=some (ptr (2*(h.n+1+1)) 0)∧ah fr2 5=some (ptr (2*(h.n+1+1+1)) 0)) (fun hb=>?_) (fun hb=>?_) ?_
 ·have hb':R<0:=by simpa using hb
  obtain⟨b1,b2⟩:=pb hb'
  rw[decide_eq_true hb'] at hR0 r9 g9
  simp -dsimp (disch:=try exact dx) only[wpS,wpT,zE,zL,zA,fU,iZ,oM,dI,yh,ng,bh,r7,r9,List.drop_zero,dQ,hE.1.cells,hE.1.cok]
  have xA:Ext h ((h4.new (.cells ZL 0 none)).put h4.n (.cells [.bool false,t] 0 none)):=(x4.new _).put (by omega) _
  have xB:Ext h4 ((h4.new (.cells ZL 0 none)).put h4.n (.cells [.bool false,t] 0 none)):=((Ext.refl h4).new _).put (by omega) _
  have hY:bq ((h4.new (.cells ZL 0 none)).put h4.n (.cells [.bool false,t] 0 none)) (.agg #[.bool false,t]) (y.natAbs:Int):=⟨t,by simp,by rw[Int.natAbs_natCast];exact⟨es,eT4.ab xB.ab,hM,hy⟩⟩
  refine call (rY (hR0.ab xB.ab) hY sR (iF sy)) ?_
  rintro t5 h5 ⟨hE5,ht5⟩
  rw[b2] at ht5
  obtain⟨s5,_,rfl,c5,o5,_,_⟩:=ht5.form
  have n6:=(hE5).n;try simp only[al,aq] at n6
  have x5:=xB.trans hE5
  have k9:=(x5.get _ (by omega)).trans g9
  have k8:=(x5.get _ (by omega)).trans g8
  have k7:=(x5.get _ (by omega)).trans g7
  have rr7:=bg k7
  have rr8:=bg k8
  simp -dsimp (disch:=try exact dx) only[wpS,wpT,zE,zL,zA,fU,ic,ld4,dI,yh,ng,bh,Ms,rZ,k9,o5,rr7,rr8,List.drop_zero,dQ]
  obtain⟨h6,hh6⟩ : ∃h6,h6=((((h5.put (h.n+1+1+1) (.cells [.bool (decide (x % y<0)),s5] 0 none)).new (.cells [.int .u64 1] 1 none)).new (.cells ZL 0 none)).put (h5.n+1) (.cells [.bool (!decide (y<0)),.slice (some ⟨2*h5.n,0,none⟩) 1 3] 0 none)):=⟨_,rfl⟩
  have k5:aF h5 h6:=by rw[hh6];exact((((aF.refl h5).put k9 _).new _).new _).put (cs:=ZL) (f:=none) (by simp (disch:=try exact dx) only[aa]) _
  have y6:Ext h h6:=by rw[hh6];exact(((((xA.trans hE5).put (by omega) _).new _).new _).put (by first|omega|(simp only[al,aq];omega)) _)
  have j9:h6.ext.get (h.n+1+1+1)=some (.cells [.bool (decide (x % y<0)),s5] 0 none):=by rw[hh6];simp (disch:=try exact dx) only[ao,ad,ae]
  have j8:h6.ext.get (h.n+1+1)=some (.cells [.bool (decide (Q<0)),sq] 0 none):=by rw[hh6];simp (disch:=try exact dx) only[ao,ae];exact k8
  have n7:h6.n=h5.n+2:=by rw[hh6];rfl
  have UM:bq h6 (.agg #[.bool (!decide (y<0)),.slice (some ⟨2*h5.n,0,none⟩) 1 3]) (if y<0 then 1 else -1):=by
   refine⟨.slice (some ⟨2*h5.n,0,none⟩) 1 3,?_,?_⟩
   ·by_cases hy0:y<0<;>simp[hy0]<;>rfl
   ·rw[show(if y<0 then (1:Int) else -1).natAbs=1 by split<;>rfl,hh6]
    have w1:=MM (h:=h5.put (h.n+1+1+1) (.cells [.bool (decide (x % y<0)),s5] 0 none))
    exact w1.ab (((aF.refl _).new _).put (cs:=ZL) (f:=none) (by simp (disch:=try exact dx) only[aa]) _)
  have jr8:=bg j8
  rw[←hh6]
  have T0:aS (if y<0 then (1:Int) else -1):=by split<;>exact AW
  refine call (rY (hQ0.ab (x5.ab.trans k5)) UM sQ T0) ?_
  rintro t7 h7 ⟨hE7,ht7⟩
  have hqq:Q+(if y<0 then (1:Int) else -1)=x / y:=by
   rw[←b1]
  rw[hqq] at ht7
  obtain⟨s7,_,rfl,c7,o7,_,_⟩:=ht7.form
  have n8:=(hE7).n;try simp only[al,aq] at n8
  have i8:=(hE7.get _ (by omega)).trans j8
  have i9:=(hE7.get _ (by omega)).trans j9
  simp -dsimp (disch:=try exact dx) only[wpS,wpT,zE,zL,zA,dI,i8,o7]
  have k7':=(aF.refl h7).put i8 (.cells [.bool (decide (x / y<0)),s7] 0 none)
  refine⟨s7,s5,(y6.trans hE7).put (by omega) _,ad _ _ rfl,by simp (disch:=try exact dx) only[ae];exact i9,ht7.ab k7',ht5.ab ((k5.trans hE7.ab).trans k7'),by simp,by simp⟩
 ·have hb' : ¬R<0:=by simpa using hb
  obtain⟨b1,b2⟩:=pa hb'
  simp -dsimp (disch:=try exact dx) only[wpS,wpT]
  subst b1;subst b2
  exact⟨sq,st,x4,g8,g9,hQ0,hR0,by simp,by simp⟩
 rintro fr2 h5 ⟨sq,st,x5,k8,k9,hQ,hR,f4,f5⟩
 have q8:=bg k8
 have q9:=bg k9
 obtain⟨s8,n8,e8,c8,o8,_,_⟩:=hQ.form
 obtain⟨s9,n9,e9,c9,o9,_,_⟩:=hR.form
 cases e8
 cases e9
 rw[kf]
 refine drawn [(1,[3])] (by kernel_rfl) (by kernel_rfl) rfl ?_
 simp -dsimp (disch:=try exact dx) only[wpS,wpT,zE,zL,zA,dI,bh,f4,f5,q8,q9,k8,k9,o8,o9,List.drop_zero,dQ]
 have k5:=(aF.refl h5).put k8 (.cells [.bool (decide (x / y<0)),sq] 0 none)
 have k3':(h5.put (h.n+1+1) (.cells [.bool (decide (x / y<0)),sq] 0 none)).ext.get (h.n+1+1+1)=some (.cells [.bool (decide (x % y<0)),st] 0 none):=by rw[ae _ _ (by omega)];exact k9
 have k6:=k5.put k3' (.cells [.bool (decide (x % y<0)),st] 0 none)
 refine⟨ak rfl rfl rfl rfl (aA (av:=ptr (2*(h.n+1+1+1)) 0) (v:=.agg #[.bool (decide (x % y<0)),st]) ?_ ?_ ?_),?_⟩
 ·simp -dsimp (disch:=try exact dx) only[wpS,zE,f5]
 ·simp -dsimp (disch:=try exact dx) only[wpS,wpT,zL,zA,bh,q9,List.drop_zero,dQ]
 ·simp -dsimp (disch:=try exact dx) only[wpS,wpT,zL,zA,bh,q9,List.drop_zero,dQ]
 simp -dsimp (disch:=try exact dx) only[wpS,wpT,zE,zL,zA,bh,f4,f5,List.drop_zero,dQ]
 exact⟨(x5.put (by omega) _).put (by omega) _,_,_,rfl,hQ.ab k6,hR.ab k6⟩
end Go.Id

namespace Go.Id
open Go
open Nat renaming reduceAdd→zA,reduceEqDiff→zE,reduceLeDiff→zL
set_option maxHeartbeats 16000000
abbrev ZR:List Value:=[.bool false,.slice none 0 0,.bool false,.slice none 0 0]
def uT (h:IH) (v:Value) (n d:Int):Prop:=∃a s b t,v=.agg #[a,s,b,t]∧bq h (.agg #[a,s]) n∧bq h (.agg #[b,t]) d
theorem uT.ab {h h':IH} {v:Value} {n d:Int} (p:uT h v n d) (e:aF h h'):uT h' v n d:=let ⟨a,s,b,t,h1,h2,h3⟩:=p;⟨a,s,b,t,h1,h2.ab e,h3.ab e⟩
def dU (h:IH) (v:Value) (q:Rat):Prop:=uT h v q.num q.den
theorem dU.ab {h h':IH} {v:Value} {q:Rat} (p:dU h v q) (e:aF h h'):dU h' v q:=uT.ab p e
theorem bq.cT {h:IH} {v:Value} {z:Int} (d:bq h v z) : ∃s,v=.agg #[.bool (decide (z<0)),s]∧s.cells = #[s]∧aG s=true:=let ⟨s,n,a,b,c,_⟩:=d.form;⟨s,a,b,c⟩
theorem bq.co {h:IH} {a s:Value} {z:Int} (d:bq h (.agg #[a,s]) z):a=.bool (decide (z<0))∧s.cells = #[s]∧aG s=true:=by
 obtain⟨s',h1,h2,h3⟩:=d.cT
 cases h1
 exact⟨rfl,h2,h3⟩
theorem aT {x k:Nat} (h:x≤2 ^ k) (hk:k<16000000):pW x:=by
 refine .mk (Nat.lt_of_le_of_lt h ?_)
 rw[Kn 4294967296 2 500000 32 16000000 (by decide) (by decide)]
 exact Nm 2 k 16000000 (by decide) hk
theorem bU {x k:Nat} (h:x≤2 ^ k) (hk:k<16000000):Small x:=(aT h hk).small
theorem pE {h:IH} {v w:Value} {n d:Int} (hv:bq h v n) (hw:bq h w d) (sn:aS n) (sd:aS d) (d0:d≠0) :
  WV Proofs.Tryz.prog (.func (.func 105) #[] #[]) [v,w] h fun r h'=>Ext h h'∧dU h' r (Rat.divInt n d):=by
 obtain⟨s,rfl,c1,o1⟩:=hv.cT
 obtain⟨t,rfl,c2,o2⟩:=hw.cT
 have sg:aS (Int.gcd n d:Int):=by
  have h1:Int.gcd n d≤d.natAbs:=Nat.le_of_dvd (by omega) (Nat.gcd_dvd_right _ _)
  exact iF (sd.le h1)
 refine enter (nt:=34) (rs:=[.cell 4 139]) Proofs.Tryz.func105 rfl rfl rfl (by simp) ?_
 simp -dsimp (disch:=try exact dx) only[wpS,wpT,zE,zL,zA,jQ,bh]
 obtain⟨H0,hH0,n0,E0,g0,g1,g2⟩:=gP h [.bool (decide (n<0)),s] [.bool (decide (d<0)),t] ZR
 rw[←hH0]
 refine call (qJ (hv.ab E0.ab) (hw.ab E0.ab) sn sd) ?_
 rintro _ h1 ⟨hE1,hg⟩
 obtain⟨sg1,rfl,c3,o3⟩:=hg.cT
 have hng:decide ((Int.gcd n d:Int)<0)=false:=decide_eq_false (by omega)
 rw[hng] at hg
 have x1:=E0.trans hE1
 have n1:=(hE1).n;try simp only[al,aq] at n1
 have r0:=ai (hE1.kept (by omega) g0)
 simp -dsimp (disch:=try exact dx) only[wpS,wpT,zE,zL,zA,bh,fU,dI,o3,r0,yy]
 obtain⟨H2,hH2⟩ : ∃H2,H2=(h1.new (.cells ZL 0 none)).put h1.n (.cells [.bool false,sg1] 0 none):=⟨_,rfl⟩
 have e2:Ext h1 H2:=by rw[hH2];exact((Ext.refl _).new _).put (Nat.le_refl _) _
 have n2:H2.n=h1.n+1:=by rw[hH2];rfl
 have gg:H2.ext.get h1.n=some (.cells [.bool false,sg1] 0 none):=by rw[hH2];simp (disch:=try exact dx) only[ad]
 rw[←hH2]
 have x2:=x1.trans e2
 refine call (pB (hv.ab x2.ab) (hg.ab e2.ab) sn sg (xG d0)) ?_
 rintro _ h3 ⟨hE3,q,u,rfl,hq,hu⟩
 obtain⟨sq,rfl,c4,o4⟩:=hq.cT
 obtain⟨su,rfl,c5,o5⟩:=hu.cT
 have n3:=(hE3).n;try simp only[al,aq] at n3
 have x3:=x2.trans hE3
 have r1:=ai (hE3.kept (by omega) (e2.kept (by omega) (hE1.kept (by omega) g1)))
 have r3:=ai (hE3.kept (by omega) gg)
 simp -dsimp (disch:=try exact dx) only[wpS,wpT,zE,zL,zA,bh,fU,dI,o4,o5,r1,r3,yy]
 obtain⟨H4,hH4⟩ : ∃H4,H4=((((h3.new (.cells ZL 0 none)).new (.cells ZL 0 none)).put h3.n (.cells [.bool (decide (n / (Int.gcd n d:Int)<0)),sq] 0 none)).put (h3.n+1) (.cells [.bool (decide (n % (Int.gcd n d:Int)<0)),su] 0 none)):=⟨_,rfl⟩
 have e4:Ext h3 H4:=by rw[hH4];exact((((Ext.refl _).new _).new _).put (Nat.le_refl _) _).put (by omega) _
 have n4:H4.n=h3.n+2:=by rw[hH4];rfl
 have gq:H4.ext.get h3.n=some (.cells [.bool (decide (n / (Int.gcd n d:Int)<0)),sq] 0 none):=by rw[hH4];simp (disch:=try exact dx) only[ad,ae]
 rw[←hH4]
 have x4:=x3.trans e4
 refine call (pB (hw.ab x4.ab) (hg.ab ((e2.trans hE3).trans e4).ab) sd sg (xG d0)) ?_
 rintro _ h5 ⟨hE5,q2,u2,rfl,hq2,hu2⟩
 obtain⟨sq2,rfl,c6,o6⟩:=hq2.cT
 obtain⟨su2,rfl,c7,o7⟩:=hu2.cT
 have n5:=(hE5).n;try simp only[al,aq] at n5
 have x5:=x4.trans hE5
 simp -dsimp (disch:=try exact dx) only[wpS,wpT,zE,zL,zA,fU,dI,ic,ld4,o6,o7]
 obtain⟨H6,hH6⟩ : ∃H6,H6=((((h5.new (.cells ZL 0 none)).new (.cells ZL 0 none)).put h5.n (.cells [.bool (decide (d / (Int.gcd n d:Int)<0)),sq2] 0 none)).put (h5.n+1) (.cells [.bool (decide (d % (Int.gcd n d:Int)<0)),su2] 0 none)):=⟨_,rfl⟩
 have e6:Ext h5 H6:=by rw[hH6];exact((((Ext.refl _).new _).new _).put (Nat.le_refl _) _).put (by omega) _
 have n6:H6.n=h5.n+2:=by rw[hH6];rfl
 have gd:H6.ext.get h5.n=some (.cells [.bool (decide (d / (Int.gcd n d:Int)<0)),sq2] 0 none):=by rw[hH6];simp (disch:=try exact dx) only[ad,ae]
 have x6:=x5.trans e6
 have gn:=e6.kept (by omega) (hE5.kept (by omega) gq)
 have gr:=e6.kept (by omega) (hE5.kept (by omega) (e4.kept (by omega) (hE3.kept (by omega) (e2.kept (by omega) (hE1.kept (by omega) g2)))))
 have hqA:=hq.ab ((e4.trans hE5).trans e6).ab
 have hqB:=hq2.ab e6.ab
 rw[←hH6]
 clear hH0 hH2 hH4 hH6
 have rn:=ai gn
 have rd:=ai gd
 have hls:=KJ (n:=n) d0
 refine fR (fun fr2 h7 => ∃sa sb,Ext h h7∧h7.ext.get h3.n=some (.cells [.bool (decide ((Rat.divInt n d).num<0)),sa] 0 none)∧h7.ext.get h5.n=some (.cells [.bool (decide (((Rat.divInt n d).den:Int)<0)),sb] 0 none)∧h7.ext.get (h.n+1+1)=some (.cells ZR 0 none)∧bq h7 (.agg #[.bool (decide ((Rat.divInt n d).num<0)),sa]) (Rat.divInt n d).num∧bq h7 (.agg #[.bool (decide (((Rat.divInt n d).den:Int)<0)),sb]) (Rat.divInt n d).den ∧
  ah fr2 4=some (ptr (2*(h.n+1+1)) 0)∧ah fr2 6=some (ptr (2*h3.n) 0)∧ah fr2 8=some (ptr (2*h5.n) 0)) (fun hb=>?_) (fun hb=>?_) ?_
 ·have hd:d<0:=hls.1 (by simpa using hb)
  obtain⟨b1,b2⟩:=vB (n:=n) hd
  rw[hb] at hqB gd rd
  refine drawn [(2,[1])] (by kernel_rfl) (by kernel_rfl) rfl ?_
  simp -dsimp (disch:=try exact dx) only[wpS,wpT,zE,zL,zA,bh,rn,List.drop_zero,dQ]
  refine call (nc hqA) ?_
  rintro _ h7 ⟨hE7,hA⟩
  rw[b1] at hA
  obtain⟨sa,rfl,c8,o8⟩:=hA.cT
  have n7:=(hE7).n;try simp only[al,aq] at n7
  have kd:=hE7.kept (by omega) gd
  have rd7:=ai kd
  simp -dsimp (disch:=try exact dx) only[wpS,wpT,zE,zL,zA,bh,rd7,List.drop_zero,dQ]
  refine call (nc (hqB.ab hE7.ab)) ?_
  rintro _ h8 ⟨hE8,hB⟩
  rw[b2] at hB
  obtain⟨sb,rfl,c9,o9⟩:=hB.cT
  have n8:=(hE8).n;try simp only[al,aq] at n8
  have kn8:=hE8.kept (by omega) (hE7.kept (by omega) gn)
  have kd8:=hE8.kept (by omega) kd
  have kr8:=hE8.kept (by omega) (hE7.kept (by omega) gr)
  simp -dsimp (disch:=try exact dx) only[wpS,wpT,zE,zL,zA,dI,kn8,kd8,o8,o9]
  refine⟨ak rfl rfl rfl rfl (aA (av:=ptr (2*h5.n) 0) (v:=.agg #[.bool true,sq2]) rfl ?_ ?_),?_⟩
  ·simp -dsimp (disch:=try exact dx) only[wpS,wpT,zL,zA,bh,rd7,List.drop_zero,dQ]
   try rfl
  ·simp -dsimp (disch:=try exact dx) only[wpS,wpT,zL,zA,bh,rd,List.drop_zero,dQ]
   try rfl
  simp -dsimp (disch:=try exact dx) only[wpS,wpT,zA]
  have kpA:=(aF.refl h8).put kn8 (.cells [.bool (decide ((Rat.divInt n d).num<0)),sa] 0 none)
  have gB:(h8.put h3.n (.cells [.bool (decide ((Rat.divInt n d).num<0)),sa] 0 none)).ext.get h5.n=some (.cells [.bool true,sq2] 0 none):=by rw[ae _ _ (by omega)];exact kd8
  have kpB:=kpA.put gB (.cells [.bool (decide (((Rat.divInt n d).den:Int)<0)),sb] 0 none)
  have hdf:decide (((Rat.divInt n d).den:Int)<0)=false:=decide_eq_false (by omega)
  rw[hdf] at kpB hB ⊢
  refine⟨sa,sb,(((x6.trans hE7).trans hE8).put (by omega) _).put (by omega) _,by simp (disch:=try exact dx) only[ad,ae],ad _ _ rfl,by simp (disch:=try exact dx) only[ae];exact kr8,hA.ab (hE8.ab.trans kpB),hB.ab kpB,by simp,by simp,by simp⟩
 ·have hd:0<d:=by
   have : ¬d<0:=fun h=>by have:=hls.2 h;simp at hb;omega
   omega
  obtain⟨b1,b2⟩:=pF (n:=n) hd
  simp -dsimp (disch:=try exact dx) only[wpS,wpT]
  rw[b1] at gn hqA
  rw[b2] at gd hqB
  exact⟨sq,sq2,x6,gn,gd,gr,hqA,hqB,by simp,by simp,by simp⟩
 rintro fr2 h7 ⟨sa,sb,x7,k1,k2,k3,hA,hB,f4,f6,f8⟩
 have q1:=ai k1
 have q2:=ai k2
 obtain⟨_,c8,o8⟩:=hA.co
 obtain⟨_,c9,o9⟩:=hB.co
 rw[kf]
 simp -dsimp (disch:=try exact dx) only[wpS,wpT,zE,zL,zA,bh,Hp,vy,vx,jh,iJ,f4,f6,f8,q1,q2,k3,o8,o9,List.drop_zero,dQ]
 have hdf:decide (((Rat.divInt n d).den:Int)<0)=false:=decide_eq_false (by omega)
 rw[hdf] at hB
 have kp:=(aF.refl h7).put k3 (.cells [.bool (decide ((Rat.divInt n d).num<0)),sa,.bool false,sb] 0 none)
 exact⟨x7.put (by omega) _,_,_,_,_,rfl,hA.ab kp,hB.ab kp⟩
end Go.Id

namespace Go.Id
open Go
open Go.Proofs.Tryz (prog)
open Nat renaming reduceAdd→zA,reduceEqDiff→zE,reduceLeDiff→zL
set_option maxHeartbeats 16000000
theorem dU.parts {h:IH} {v:Value} {q:Rat} (p:dU h v q) : ∃a s b t,v=.agg #[a,s,b,t]∧bq h (.agg #[a,s]) q.num∧bq h (.agg #[b,t]) q.den∧s.cells = #[s]∧aG s=true∧t.cells = #[t]∧aG t=true∧aG a=true∧aG b=true:=by
 obtain⟨a,s,b,t,rfl,h1,h2⟩:=p
 obtain⟨rfl,c1,o1⟩:=h1.co
 obtain⟨rfl,c2,o2⟩:=h2.co
 exact⟨_,s,_,t,rfl,h1,h2,c1,o1,c2,o2,rfl,rfl⟩
theorem pl4 {H:IH} {k:Nat} {a s b t:Value} (g:H.ext.get k=some (.cells [a,s,b,t] 0 none)):load prog H 137 (ptr (2*k) 0)=some (.agg #[a,s])∧load prog H 137 (ptr (2*k) 2)=some (.agg #[b,t])∧load prog H 139 (ptr (2*k) 0)=some (.agg #[a,s,b,t]):=by
 have r:=ai g
 refine⟨?_,?_,?_⟩
 ·simp -dsimp (disch:=try exact dx) only[wpS,wpT,zL,zA,bh,r]
  rfl
 ·simp -dsimp (disch:=try exact dx) only[wpS,wpT,zL,zA,bh,r]
  rfl
 ·simp -dsimp (disch:=try exact dx) only[wpS,wpT,zL,zA,iJ,r]
  rfl
theorem pl2 {H:IH} {k:Nat} {a s:Value} (g:H.ext.get k=some (.cells [a,s] 0 none)):load prog H 137 (ptr (2*k) 0)=some (.agg #[a,s]):=by
 have r:=ai g
 simp -dsimp (disch:=try exact dx) only[wpS,wpT,zL,zA,bh,r]
 rfl
theorem CF {h:IH} {v w:Value} {x y:Rat} {a b:Nat} (hv:dU h v x) (hw:dU h w y) (qx:QB a x) (qy:QB b y) (hk:a+b+1<16000000) :
  WV prog (.func (.func 130) #[] #[]) [v,w] h fun r h'=>Ext h h'∧dU h' r (x+y):=by
 obtain⟨a1,s1,b1,t1,rfl,hn1,hd1,c1,o1,c2,o2,o3,o4⟩:=hv.parts
 obtain⟨a2,s2,b2,t2,rfl,hn2,hd2,c5,o5,c6,o6,o7,o8⟩:=hw.parts
 refine enter (nt:=22) (rs:=[.cell 4 139]) Proofs.Tryz.func130 rfl rfl rfl (by simp) ?_
 simp -dsimp (disch:=try exact dx) only[wpS,zE,zA,jQ]
 obtain⟨H0,hH0,n0,E0,g0,g1,g2⟩:=gP h [a1,s1,b1,t1] [a2,s2,b2,t2] ZR
 rw[←hH0]
 clear hH0
 have X0:=Ext.refl H0
 obtain⟨L1,L2,_⟩:=pl4 g0
 obtain⟨L3,L4,_⟩:=pl4 g1
 refine drawn [(6,[4]),(8,[4]),(12,[4,9,10]),(14,[4,9,10])] (by kernel_rfl) (by kernel_rfl) rfl ?_
 simp -dsimp (disch:=try exact dx) only[wpS,wpT,zE,zL,zA,iY,bh,hZ,ai g0,ai g1,tkA,tkB]
 refine call (dL (hn1.ab E0.ab) (hd2.ab E0.ab) (aT qx.1 (by omega)) (aT qy.fA (by omega))) ?_
 rintro r1 h1 ⟨X1,p1⟩
 have m1:=X1.n
 simp -dsimp (disch:=try exact dx) only[wpS,wpT,zE,zL,zA,iY,bh,hZ,ai (X1.kept (by omega) g0),ai (X1.kept (by omega) g1),tkA,tkB]
 refine call (dL (hn2.ab (E0.trans X1).ab) (hd1.ab (E0.trans X1).ab) (aT qy.1 (by omega)) (aT qx.fA (by omega))) ?_
 rintro r2 h2 ⟨hE2,p2⟩
 have m2:=hE2.n
 have X2:=X1.trans hE2
 simp -dsimp (disch:=try exact dx) only[wpS,zE]
 have b1':=bX qx.1 qy.fA
 have b2':=bX qy.1 qx.fA
 have b3':=qx.Q3 qy
 have b4':=bX qx.fA qy.fA
 have sb1:aS (x.num*y.den):=bU b1' (by omega)
 have sb2:aS (y.num*x.den):=bU b2' (by omega)
 have sb3:aS (x.num*y.den+y.num*x.den):=bU b3' hk
 have sb4:aS ((x.den:Int)*y.den):=bU b4' (by omega)
 refine call (rY (p1.ab hE2.ab) p2 sb1 sb2) ?_
 rintro r3 h3 ⟨hE3,p3⟩
 have m3:=hE3.n
 have X3:=X2.trans hE3
 simp -dsimp (disch:=try exact dx) only[wpS,wpT,zE,zL,zA,bh,hZ,ai (X3.kept (by omega) g0),ai (X3.kept (by omega) g1),tkB]
 refine call (dL (hd1.ab (E0.trans X3).ab) (hd2.ab (E0.trans X3).ab) (aT qx.fA (by omega)) (aT qy.fA (by omega))) ?_
 rintro r4 h4 ⟨hE4,p4⟩
 have m4:=hE4.n
 have X4:=X3.trans hE4
 simp -dsimp (disch:=try exact dx) only[wpS,zE]
 refine call (pE (p3.ab hE4.ab) p4 sb3 sb4 (DH x y)) ?_
 rintro r5 h5 ⟨hE5,p5⟩
 have m5:=hE5.n
 have X5:=X4.trans hE5
 rw[←A7] at p5
 obtain⟨a3,s3,b3,t3,rfl,_,_,d1,o1,d2,o2,o3,o4⟩:=p5.parts
 have kg:=X5.kept (by omega) g2
 simp -dsimp (disch:=try exact dx) only[wpS,wpT,zE,zL,zA,jh,kg,o1,o2,o3,o4]
 refine⟨by repeat' first|refine aN ?_ ?_|refine aI ?_ ?_|exact ak rfl rfl rfl rfl (aJ (H0:=H0) rfl (by omega) (by assumption) (by assumption) (by with_reducible assumption)),?_⟩
 simp -dsimp (disch:=try exact dx) only[wpS,wpT,zE,zL,zA,iJ,kA]
 exact⟨(E0.trans X5).put (by omega) _,p5.ab ((aF.refl _).put kg _)⟩
theorem Ig {h:IH} {v w:Value} {x y:Rat} {a b:Nat} (hv:dU h v x) (hw:dU h w y) (qx:QB a x) (qy:QB b y) (hk:a+b<16000000) :
  WV prog (.func (.func 93) #[] #[]) [v,w] h fun r h'=>Ext h h'∧dU h' r (x*y):=by
 obtain⟨a1,s1,b1,t1,rfl,hn1,hd1,c1,o1,c2,o2,o3,o4⟩:=hv.parts
 obtain⟨a2,s2,b2,t2,rfl,hn2,hd2,c5,o5,c6,o6,o7,o8⟩:=hw.parts
 refine enter (nt:=16) (rs:=[.cell 4 139]) Proofs.Tryz.func93 rfl rfl rfl (by simp) ?_
 simp -dsimp (disch:=try exact dx) only[wpS,zE,zA,jQ]
 obtain⟨H0,hH0,n0,E0,g0,g1,g2⟩:=gP h [a1,s1,b1,t1] [a2,s2,b2,t2] ZR
 rw[←hH0]
 clear hH0
 have X0:=Ext.refl H0
 obtain⟨L1,L2,_⟩:=pl4 g0
 obtain⟨L3,L4,_⟩:=pl4 g1
 have sb1:aS (x.num*y.num):=bU (bX qx.1 qy.1) hk
 have sb2:aS ((x.den:Int)*y.den):=bU (bX qx.fA qy.fA) hk
 refine drawn [(6,[4]),(8,[4])] (by kernel_rfl) (by kernel_rfl) rfl ?_
 simp -dsimp (disch:=try exact dx) only[wpS,wpT,zE,zL,zA,iY,bh,ai g0,ai g1,tkA]
 refine call (dL (hn1.ab E0.ab) (hn2.ab E0.ab) (aT qx.1 (by omega)) (aT qy.1 (by omega))) ?_
 rintro r1 h1 ⟨X1,p1⟩
 have m1:=X1.n
 simp -dsimp (disch:=try exact dx) only[wpS,wpT,zE,zL,zA,bh,hZ,ai (X1.kept (by omega) g0),ai (X1.kept (by omega) g1),tkB]
 refine call (dL (hd1.ab (E0.trans X1).ab) (hd2.ab (E0.trans X1).ab) (aT qx.fA (by omega)) (aT qy.fA (by omega))) ?_
 rintro r2 h2 ⟨hE2,p2⟩
 have m2:=hE2.n
 have X2:=X1.trans hE2
 simp -dsimp (disch:=try exact dx) only[wpS,zE]
 refine call (pE (p1.ab hE2.ab) p2 sb1 sb2 (DH x y)) ?_
 rintro r5 h5 ⟨hE5,p5⟩
 have m5:=hE5.n
 have X5:=X2.trans hE5
 rw[←Gp] at p5
 obtain⟨a3,s3,b3,t3,rfl,_,_,d1,o1,d2,o2,o3,o4⟩:=p5.parts
 have kg:=X5.kept (by omega) g2
 simp -dsimp (disch:=try exact dx) only[wpS,wpT,zE,zL,zA,jh,kg,o1,o2,o3,o4]
 refine⟨by repeat' first|refine aN ?_ ?_|refine aI ?_ ?_|exact ak rfl rfl rfl rfl (aJ (H0:=H0) rfl (by omega) (by assumption) (by assumption) (by with_reducible assumption)),?_⟩
 simp -dsimp (disch:=try exact dx) only[wpS,wpT,zE,zL,zA,iJ,kA]
 exact⟨(E0.trans X5).put (by omega) _,p5.ab ((aF.refl _).put kg _)⟩
theorem wM {h:IH} {v w:Value} {x y:Rat} {a b:Nat} (hv:dU h v x) (hw:dU h w y) (qx:QB a x) (qy:QB b y) (hk:a+b<16000000) (y0:y≠0) :
  WV prog (.func (.func 94) #[] #[]) [v,w] h fun r h'=>Ext h h'∧dU h' r (x / y):=by
 obtain⟨a1,s1,b1,t1,rfl,hn1,hd1,c1,o1,c2,o2,o3,o4⟩:=hv.parts
 obtain⟨a2,s2,b2,t2,rfl,hn2,hd2,c5,o5,c6,o6,o7,o8⟩:=hw.parts
 refine enter (nt:=16) (rs:=[.cell 4 139]) Proofs.Tryz.func94 rfl rfl rfl (by simp) ?_
 simp -dsimp (disch:=try exact dx) only[wpS,zE,zA,jQ]
 obtain⟨H0,hH0,n0,E0,g0,g1,g2⟩:=gP h [a1,s1,b1,t1] [a2,s2,b2,t2] ZR
 rw[←hH0]
 clear hH0
 have X0:=Ext.refl H0
 obtain⟨L1,L2,_⟩:=pl4 g0
 obtain⟨L3,L4,_⟩:=pl4 g1
 have sb1:aS (x.num*y.den):=bU (bX qx.1 qy.fA) hk
 have sb2:aS ((x.den:Int)*y.num):=bU (bX qx.fA qy.1) hk
 refine drawn [(6,[4]),(8,[4])] (by kernel_rfl) (by kernel_rfl) rfl ?_
 simp -dsimp (disch:=try exact dx) only[wpS,wpT,zE,zL,zA,iY,bh,hZ,ai g0,ai g1,tkA,tkB]
 refine call (dL (hn1.ab E0.ab) (hd2.ab E0.ab) (aT qx.1 (by omega)) (aT qy.fA (by omega))) ?_
 rintro r1 h1 ⟨X1,p1⟩
 have m1:=X1.n
 simp -dsimp (disch:=try exact dx) only[wpS,wpT,zE,zL,zA,iY,bh,hZ,ai (X1.kept (by omega) g0),ai (X1.kept (by omega) g1),tkA,tkB]
 refine call (dL (hd1.ab (E0.trans X1).ab) (hn2.ab (E0.trans X1).ab) (aT qx.fA (by omega)) (aT qy.1 (by omega))) ?_
 rintro r2 h2 ⟨hE2,p2⟩
 have m2:=hE2.n
 have X2:=X1.trans hE2
 simp -dsimp (disch:=try exact dx) only[wpS,zE]
 refine call (pE (p1.ab hE2.ab) p2 sb1 sb2 (Int.mul_ne_zero (BJ x) (Kw y0))) ?_
 rintro r5 h5 ⟨hE5,p5⟩
 have m5:=hE5.n
 have X5:=X2.trans hE5
 rw[←Gq] at p5
 obtain⟨a3,s3,b3,t3,rfl,_,_,d1,o1,d2,o2,o3,o4⟩:=p5.parts
 have kg:=X5.kept (by omega) g2
 simp -dsimp (disch:=try exact dx) only[wpS,wpT,zE,zL,zA,jh,kg,o1,o2,o3,o4]
 refine⟨by repeat' first|refine aN ?_ ?_|refine aI ?_ ?_|exact ak rfl rfl rfl rfl (aJ (H0:=H0) rfl (by omega) (by assumption) (by assumption) (by with_reducible assumption)),?_⟩
 simp -dsimp (disch:=try exact dx) only[wpS,wpT,zE,zL,zA,iJ,kA]
 exact⟨(E0.trans X5).put (by omega) _,p5.ab ((aF.refl _).put kg _)⟩
theorem Oo (x y:Rat):(if x.num*y.den<y.num*x.den then (-1:Int) else if x.num*y.den=y.num*x.den then 0 else 1)=if x<y then -1 else if x=y then 0 else 1:=by
 simp only[Rat.lt_iff,Rat.eq_iff_mul_eq_mul]
theorem Gn {h:IH} {v w:Value} {x y:Rat} {a b:Nat} (hv:dU h v x) (hw:dU h w y) (qx:QB a x) (qy:QB b y) (hk:a+b<16000000) :
  WV prog (.func (.func 95) #[] #[]) [v,w] h fun r h'=>Ext h h'∧r=KI (if x<y then -1 else if x=y then 0 else 1):=by
 obtain⟨a1,s1,b1,t1,rfl,hn1,hd1,c1,o1,c2,o2,o3,o4⟩:=hv.parts
 obtain⟨a2,s2,b2,t2,rfl,hn2,hd2,c5,o5,c6,o6,o7,o8⟩:=hw.parts
 refine enter (nt:=16) (rs:=[.tmp 4]) Proofs.Tryz.func95 rfl rfl rfl (by simp) ?_
 simp -dsimp (disch:=try exact dx) only[wpS,zE,zA]
 obtain⟨H0,hH0,n0,E0,g0,g1⟩:=gl h [a1,s1,b1,t1] [a2,s2,b2,t2]
 rw[←hH0]
 clear hH0
 have X0:=Ext.refl H0
 obtain⟨L1,L2,_⟩:=pl4 g0
 obtain⟨L3,L4,_⟩:=pl4 g1
 have sb1:aS (x.num*y.den):=bU (bX qx.1 qy.fA) hk
 have sb2:aS (y.num*x.den):=bU (by rw[Nat.add_comm];exact bX qy.1 qx.fA) hk
 refine drawn [(6,[4]),(8,[4])] (by kernel_rfl) (by kernel_rfl) rfl ?_
 simp -dsimp (disch:=try exact dx) only[wpS,wpT,zE,zL,zA,iY,bh,hZ,ai g0,ai g1,tkA,tkB]
 refine call (dL (hn1.ab E0.ab) (hd2.ab E0.ab) (aT qx.1 (by omega)) (aT qy.fA (by omega))) ?_
 rintro r1 h1 ⟨X1,p1⟩
 have m1:=X1.n
 simp -dsimp (disch:=try exact dx) only[wpS,wpT,zE,zL,zA,iY,bh,hZ,ai (X1.kept (by omega) g0),ai (X1.kept (by omega) g1),tkA,tkB]
 refine call (dL (hn2.ab (E0.trans X1).ab) (hd1.ab (E0.trans X1).ab) (aT qy.1 (by omega)) (aT qx.fA (by omega))) ?_
 rintro r2 h2 ⟨hE2,p2⟩
 have m2:=hE2.n
 have X2:=X1.trans hE2
 simp -dsimp (disch:=try exact dx) only[wpS,zE]
 refine call (GF (p1.ab hE2.ab) p2 sb1 sb2) ?_
 rintro _ h5 ⟨hE5,rfl⟩
 have X5:=X2.trans hE5
 rw[Oo]
 simp -dsimp (disch:=try exact dx) only[wpS,zE]
 refine⟨by repeat' first|refine aN ?_ ?_|refine aI ?_ ?_|exact ak rfl rfl rfl rfl (aJ (H0:=H0) rfl (by omega) (by assumption) (by assumption) (by with_reducible assumption)),?_⟩
 simp -dsimp (disch:=try exact dx) only[wpS,wpT,zE,zA]
 exact E0.trans X5
theorem ED {h:IH} {v:Value} {x:Rat} (hv:dU h v x) :
  WV prog (.func (.func 178) #[] #[]) [v] h fun r h'=>Ext h h'∧dU h' r (-x):=by
 obtain⟨a1,s1,b1,t1,rfl,hn1,hd1,c1,o1,c2,o2,o3,o4⟩:=hv.parts
 refine enter (nt:=9) (rs:=[.cell 2 139]) Proofs.Tryz.func178 rfl rfl rfl (by simp) ?_
 simp -dsimp (disch:=try exact dx) only[wpS,jQ]
 obtain⟨H0,hH0,n0,E0,g0,g1⟩:=gl h [a1,s1,b1,t1] ZR
 rw[←hH0]
 clear hH0
 have X0:=Ext.refl H0
 obtain⟨L1,L2,_⟩:=pl4 g0
 refine drawn [(4,[2])] (by kernel_rfl) (by kernel_rfl) rfl ?_
 simp -dsimp (disch:=try exact dx) only[wpS,wpT,zE,zL,zA,iY,bh,ai g0,tkA]
 refine call (nc (hn1.ab E0.ab)) ?_
 rintro r1 h1 ⟨X1,p1⟩
 have m1:=X1.n
 obtain⟨s3,rfl,c5,o5⟩:=p1.cT
 have kg:=X1.kept (by omega) g1
 simp -dsimp (disch:=try exact dx) only[wpS,wpT,zE,zL,zA,bh,hZ,Hp,vy,vx,jh,ai (X1.kept (by omega) g0),kg,tkB,o5,o2,o4]
 refine⟨by repeat' first|refine aN ?_ ?_|refine aI ?_ ?_|exact ak rfl rfl rfl rfl (aJ (H0:=H0) rfl (by omega) (by assumption) (by assumption) (by with_reducible assumption)),?_⟩
 simp -dsimp (disch:=try exact dx) only[wpS,wpT,zE,zL,zA,iJ,kA]
 have kp:=(aF.refl h1).put kg (.cells [.bool (decide (-x.num<0)),s3,b1,t1] 0 none)
 exact⟨(E0.trans X1).put (by omega) _,_,_,_,_,rfl,p1.ab kp,hd1.ab ((E0.trans X1).ab.trans kp)⟩
theorem Ik {h:IH} {v w:Value} {x y:Rat} {a b:Nat} (hv:dU h v x) (hw:dU h w y) (qx:QB a x) (qy:QB b y) (hk:a+b+1<16000000) :
  WV prog (.func (.func 96) #[] #[]) [v,w] h fun r h'=>Ext h h'∧dU h' r (x - y):=by
 obtain⟨a1,s1,b1,t1,rfl,hn1,hd1,c1,o1,c2,o2,o3,o4⟩:=hv.parts
 obtain⟨a2,s2,b2,t2,rfl,hn2,hd2,c5,o5,c6,o6,o7,o8⟩:=hw.parts
 refine enter (nt:=9) (rs:=[.cell 4 139]) Proofs.Tryz.func96 rfl rfl rfl (by simp) ?_
 simp -dsimp (disch:=try exact dx) only[wpS,zE,zA,jQ]
 obtain⟨H0,hH0,n0,E0,g0,g1,g2⟩:=gP h [a1,s1,b1,t1] [a2,s2,b2,t2] ZR
 rw[←hH0]
 clear hH0
 have X0:=Ext.refl H0
 obtain⟨_,_,L1⟩:=pl4 g0
 obtain⟨_,_,L2⟩:=pl4 g1
 refine drawn [(0,[3])] (by kernel_rfl) (by kernel_rfl) rfl ?_
 simp -dsimp (disch:=try exact dx) only[wpS,wpT,zE,zL,zA,iJ,ai g0,ai g1,kA]
 refine call (ED (hw.ab E0.ab)) ?_
 rintro r1 h1 ⟨X1,p1⟩
 have m1:=X1.n
 simp -dsimp (disch:=try exact dx) only[wpS,zE]
 refine call (CF (hv.ab (E0.trans X1).ab) p1 qx qy.neg hk) ?_
 rintro r2 h2 ⟨hE2,p2⟩
 have X2:=X1.trans hE2
 have m2:=hE2.n
 rw[←Rat.sub_eq_add_neg] at p2
 obtain⟨a3,s3,b3,t3,rfl,_,_,d1,o1,d2,o2,o3,o4⟩:=p2.parts
 have kg:=X2.kept (by omega) g2
 simp -dsimp (disch:=try exact dx) only[wpS,wpT,zE,zL,zA,jh,kg,o1,o2,o3,o4]
 refine⟨by repeat' first|refine aN ?_ ?_|refine aI ?_ ?_|exact ak rfl rfl rfl rfl (aJ (H0:=H0) rfl (by omega) (by assumption) (by assumption) (by with_reducible assumption)),?_⟩
 simp -dsimp (disch:=try exact dx) only[wpS,wpT,zE,zL,zA,iJ,kA]
 exact⟨(E0.trans X2).put (by omega) _,p2.ab ((aF.refl _).put kg _)⟩
end Go.Id
