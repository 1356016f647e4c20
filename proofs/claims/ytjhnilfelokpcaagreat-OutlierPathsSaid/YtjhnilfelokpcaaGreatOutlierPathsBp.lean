/-
  Contracts: reference 4: words, Below. Contracts: reference 04: digits, Wide.
-/
import Derived.Test.YtjhnilfelokpcaaGreatOutlierPathsAq
import Derived.Test.YtjhnilfelokpcaaGreatOutlierPathsBg
import Derived.Test.YtjhnilfelokpcaaGreatOutlierPathsBf
import Derived.Test.YtjhnilfelokpcaaGreatOutlierPathsBi
set_option linter.unusedVariables false
set_option linter.unusedSimpArgs false
set_option linter.defProp false
set_option linter.deprecated false
namespace Go.Id
open Go
open Nat renaming reduceAdd→zA,reduceEqDiff→zE,reduceLeDiff→zL
set_option maxHeartbeats 16000000
theorem Rz {x:Nat} (hx:x<18446744073709551616):(.agg #[K64 x,.int .u64 0,.int .u64 0,.int .u64 0,.int .u64 0,.int .u64 0,.int .u64 0,.int .u64 0]:Value)=wdV x:=by
 have h0:wrd x 0=x:=by unfold wrd;rw[Nat.pow_zero,Nat.div_one,Nat.mod_eq_of_lt hx]
 have h1 : ∀i,1≤i→wrd x i=0:=fun i hi=>hZ (i:=1) (by rw[Nat.pow_one];exact hx) hi
 have e:wdV x=.agg #[K64 (wrd x 0),K64 (wrd x 1),K64 (wrd x 2),K64 (wrd x 3),K64 (wrd x 4),K64 (wrd x 5),K64 (wrd x 6),K64 (wrd x 7)]:=rfl
 rw[e,h0,h1 1 (by omega),h1 2 (by omega),h1 3 (by omega),h1 4 (by omega),h1 5 (by omega),h1 6 (by omega),h1 7 (by omega)]
 rfl
theorem Ed:18446744073709551616<H8:=by unfold H8;decide +kernel
theorem Rw {x:Nat} (hx:x<18446744073709551616):x<W8:=by
 have:=Ed
 have:=cC
 omega
theorem NG {x:Nat} (hx:x<18446744073709551616):wdI x=(x:Int):=by
 have:=Ed
 unfold wdI
 rw[if_pos (by omega)]
theorem Q3 {x:Nat} (hx:x<18446744073709551616):dY Proofs.Tryz.prog 44 [(0,K64 x)]=some (wdV x):=by
 rw[←Rz hx]
 kernel_rfl
theorem Ec {h:IH} {x:Nat} (hx:x<18446744073709551616):WV Proofs.Tryz.prog (.func (.func 183) #[] #[]) [K64 x] h fun r h'=>Ext h h'∧aV h' r (x:Int):=by
 have E1:Ext h (h.new (.cells [.bool false,.slice none 0 0] 0 none)):=(Ext.refl h).new _
 have g1:(h.new (.cells [.bool false,.slice none 0 0] 0 none)).ext.get h.n=some (.cells [.bool false,.slice none 0 0] 0 none):=by simp (disch:=try exact dx) only[ab]
 refine enter (nt:=6) (rs:=[.cell 2 131]) Proofs.Tryz.func183 rfl rfl rfl (by simp) ?_
 simp -dsimp (disch:=try exact dx) only[wpS,zE,dh,Q3 hx]
 refine call (mO x (Rw hx)) ?_
 rintro r1 h1 ⟨X1,p1⟩
 rw[NG hx] at p1
 obtain⟨s1,n1,rfl,c3,o3,_,_⟩:=p1.form
 have k1:=X1.kept (by simp) g1
 have m1:=X1.n
 simp only[ax] at m1
 simp -dsimp (disch:=try exact dx) only[wpS,wpT,zE,zL,zA,bY,bq,k1,o3,kH]
 exact⟨(E1.trans X1).put (by omega) _,p1.ae ((aN.refl _).put k1 _)⟩
theorem Ho {h:IH} {s:Nat} {n:Int} (hs:s<18446744073709551616) (hn:jP n) :
  WV Proofs.Tryz.prog (.func (.func 88) #[] #[]) [chV s,KI n] h fun r h'=>Ext h h'∧r=wj s n:=by
 unfold wj
 obtain⟨H0,hH0,n0,E0,k0,k1⟩:=iQ h [K64 s] [.int .u64 0]
 refine enter (nt:=50) (rs:=[.tmp 4,.cell 5 63,.tmp 6]) Proofs.Tryz.func88 rfl rfl rfl (by simp) ?_
 simp -dsimp (disch:=try exact dx) only[wpS,zE,zA,jr,chV]
 rw[←hH0]
 clear hH0
 by_cases c1:n<1
 ·have d1:decide (n<1)=true:=decide_eq_true c1
  rw[if_pos c1]
  simp -dsimp (disch:=try exact dx) only[wpS,wpT,zE,zL,eX,dj,bZ,d1,k1,tk1]
  exact⟨E0.put (by omega) _,rfl⟩
 have d1:decide (n<1)=false:=decide_eq_false c1
 rw[if_neg c1]
 obtain⟨m,rfl⟩ : ∃m:Nat,n=(m:Int):=⟨n.toNat,by omega⟩
 have hn2:=hn.2
 rw[Int.toNat_natCast]
 obtain⟨l1,l2,l3⟩:=FP (n:=m) (by omega) (by omega)
 simp -dsimp (disch:=try exact dx) only[wpS,d1]
 refine call (eP 2 ⟨by omega,by omega⟩) ?_
 rintro r1 h1 ⟨X1,p1⟩
 simp -dsimp (disch:=try exact dx) only[wpS,zE]
 refine call (oH (k:=64) p1 (by omega)) ?_
 rintro r2 h2 ⟨X2,p2⟩
 simp -dsimp (disch:=try exact dx) only[wpS,zE]
 refine call (eP (m:Int) hn) ?_
 rintro r3 h3 ⟨X3,p3⟩
 simp -dsimp (disch:=try exact dx) only[wpS,zE]
 have q2:=p2.ae X3.ae
 have Xo:fF (m:Int):=aS (k:=64) (by rw[Int.natAbs_natCast];omega) (by omega)
 refine call (lq q2 p3 (mi (by omega)).small Xo.small (by omega)) ?_
 rintro _ h4 ⟨X4,u,t,rfl,p4,p5⟩
 have ek:((2 ^ 64:Nat):Int) / (m:Int)=((18446744073709551616 / m:Nat):Int):=by
  rw[show(2 ^ 64:Nat)=18446744073709551616 from rfl];exact(Int.natCast_ediv _ _).symm
 rw[ek] at p4
 clear ek
 generalize ((2 ^ 64:Nat):Int) % (m:Int)=zt at p5
 obtain⟨q,hq⟩ : ∃q,q=18446744073709551616 / m:=⟨_,rfl⟩
 rw[←hq] at p4
 obtain⟨su,nu,rfl,c4,o4,_,_⟩:=p4.form
 obtain⟨st,nt,rfl,c5,o5,_,_⟩:=p5.form
 have X14:=((X1.trans X2).trans X3).trans X4
 have m4:=X14.n
 have hu:decide ((q:Int)<0)=false:=decide_eq_false (by omega)
 rw[hu] at p4 ⊢
 simp -dsimp (disch:=try exact dx) only[wpS,wpT,zE,zL,zA,dh,bY,o4,o5]
 obtain⟨bt,hbt⟩ : ∃b,b=decide (zt<0):=⟨_,rfl⟩
 rw[←hbt]
 obtain⟨H5,hH5⟩ : ∃H,H=(((h4.new (.cells [.bool false,.slice none 0 0] 0 none)).new (.cells [.bool false,.slice none 0 0] 0 none)).put h4.n (.cells [.bool false,su] 0 none)).put (h4.n+1) (.cells [.bool bt,st] 0 none):=⟨_,rfl⟩
 have n5:H5.n=h4.n+2:=by rw[hH5];rfl
 have X5:Ext h4 H5:=by rw[hH5];exact(((Ext.refl _).new _).new _).put (by omega) _ |>.put (by omega) _
 have g5:H5.ext.get h4.n=some (.cells [.bool false,su] 0 none):=by rw[hH5];simp (disch:=try exact dx) only[aa,ah]
 rw[←hH5]
 clear hH5
 have L5:=ql2 g5
 have Y5:=Ext.refl H5
 refine drawn [(0,[3])] (by kernel_rfl) (by kernel_rfl) rfl ?_
 simp -dsimp (disch:=try exact dx) only[wpS,wpT,zE,zL,zA,bq,aj g5,kH]
 refine call (eP (m:Int) hn) ?_
 rintro r6 h6 ⟨X6,p6⟩
 have m6:=X6.n
 simp -dsimp (disch:=try exact dx) only[wpS,zE]
 have Zz:fF (q:Int):=aS (k:=64) (by rw[Int.natAbs_natCast,hq];exact Nat.div_le_self _ _) (by omega)
 refine call (gv (p4.ae (X5.trans X6).ae) p6 Zz Xo) ?_
 rintro r7 h7 ⟨X7,p7⟩
 have m7:=X7.n
 have X67:=X6.trans X7
 have el:(q:Int)*(m:Int)=((ni m:Nat):Int):=by unfold ni;rw[hq];exact(Int.natCast_mul _ _).symm
 rw[el] at p7
 obtain⟨s7,n7,rfl,c7,o7,_,_⟩:=p7.form
 have hl7:decide (((ni m:Nat):Int)<0)=false:=decide_eq_false (by omega)
 rw[hl7] at p7 ⊢
 simp -dsimp (disch:=try exact dx) only[wpS,wpT,zE,zL,zA,dh,bY,o7]
 refine⟨by repeat' first|refine ba ?_ ?_|refine aX ?_ ?_|exact ao rfl rfl rfl rfl (aD (H0:=H5) rfl (by omega) (by assumption) (by assumption) (by with_reducible assumption)),?_⟩
 obtain⟨H7,hH7⟩ : ∃H,H=(h7.new (.cells [.bool false,.slice none 0 0] 0 none)).put h7.n (.cells [.bool false,s7] 0 none):=⟨_,rfl⟩
 have n8:H7.n=h7.n+1:=by rw[hH7];rfl
 have X8:Ext h7 H7:=by rw[hH7];exact((Ext.refl _).new _).put (Nat.le_refl _) _
 have g9:H7.ext.get h7.n=some (.cells [.bool false,s7] 0 none):=by rw[hH7];simp (disch:=try exact dx) only[aa]
 simp -dsimp (disch:=try exact dx) only[wpS,wpT,zE,zA,eX]
 rw[←hH7]
 clear hH7
 have XX:=(X14.trans X5).trans (X67.trans X8)
 have hT:=Ct
 refine loop (fun j fr hh => ∃i si:Nat,i+j=TR∧Ext h hh∧h7.n<hh.n∧hh.ext.get h.n=some (.cells [K64 si] 0 none)∧hh.ext.get (h.n+1)=some (.cells [.int .u64 0] 0 none)∧hh.ext.get h7.n=some (.cells [.bool false,s7] 0 none)∧aV hh (.agg #[.bool false,s7]) ((ni m:Nat):Int)∧si<18446744073709551616∧fM m TR s=fM m (TR - i) si∧ai fr 1=some (KI (m:Int))∧ai fr 2=some (ptr (2*h.n) 0)∧ai fr 5=some (ptr (2*(h.n+1)) 0)∧ai fr 9=some (ptr (2*h7.n) 0)∧ai fr 10=some (KN i)) TR
  ⟨0,s,by omega,E0.trans XX,by omega,XX.kept (by omega) k0,XX.kept (by omega) k1,g9,p7.ae X8.ae,hs,rfl,by simp,by simp,by simp,by simp,by simp⟩ ?_
 rintro j fr hh ⟨i,si,hij,a1,a2,a3,a4,a5,a6,a7,a8,f1,f2,f5,f9,f10⟩
 have an:=a1.n
 simp -dsimp (disch:=try exact dx) only[wpS,wpT,zE,eX,f10]
 refine aA ?_ ?_<;>intro hc<;>simp only[decide_eq_true_eq,decide_eq_false_iff_not] at hc
 ·simp -dsimp (disch:=try exact dx) only[wpS,wpT,zE,zL,eX,bZ,f2,aj a3,tk1]
  refine call (EY a7) ?_
  rintro _ v1 ⟨V1,rfl⟩
  have vn:=V1.n
  have b3:=V1.kept (by omega) a3
  have b4:=V1.kept (by omega) a4
  have b5:=V1.kept (by omega) a5
  obtain⟨x,hx⟩ : ∃x,x=nxO si:=⟨_,rfl⟩
  obtain⟨s',hs'⟩ : ∃x,x=nxS si:=⟨_,rfl⟩
  have xb:=zh si
  have sb:=zg si
  rw[←hx] at xb ⊢
  rw[←hs'] at sb ⊢
  have gn:((v1.new (.cells [.int .u64 0] 0 none)).put v1.n (.cells [K64 s'] 0 none)).ext.get v1.n=some (.cells [K64 s'] 0 none):=by simp (disch:=try exact dx) only[aa]
  have go:((v1.new (.cells [.int .u64 0] 0 none)).put v1.n (.cells [K64 s'] 0 none)).ext.get h.n=some (.cells [K64 si] 0 none):=by rw[ah _ _ (by omega),ar _ _ (by omega)];exact b3
  simp -dsimp (disch:=try exact dx) only[wpS,wpT,zE,zL,jr,eX,dj,bZ,chV,tk1,f2,aj gn,go]
  obtain⟨H9,hH9⟩ : ∃H,H=((v1.new (.cells [.int .u64 0] 0 none)).put v1.n (.cells [K64 s'] 0 none)).put h.n (.cells [K64 s'] 0 none):=⟨_,rfl⟩
  have e9:Ext h H9:=by rw[hH9];exact(((a1.trans V1).new _).put (by omega) _).put (Nat.le_refl _) _
  have n9:H9.n=v1.n+1:=by rw[hH9];rfl
  have k9:aN v1 H9:=by rw[hH9];exact(((Ext.refl v1).new _).put (Nat.le_refl _) _).ae.put go _
  have d3:H9.ext.get h.n=some (.cells [K64 s'] 0 none):=by rw[hH9];simp (disch:=try exact dx) only[aa]
  have d4:H9.ext.get (h.n+1)=some (.cells [.int .u64 0] 0 none):=by rw[hH9,ah _ _ (by omega),ah _ _ (by omega),ar _ _ (by omega)];exact b4
  have d5:H9.ext.get h7.n=some (.cells [.bool false,s7] 0 none):=by rw[hH9,ah _ _ (by omega),ah _ _ (by omega),ar _ _ (by omega)];exact b5
  have d6:=a6.ae (V1.ae.trans k9)
  rw[←hH9]
  clear hH9
  have L9:=ql2 d5
  have Y9:=Ext.refl H9
  refine drawn [(2,[1])] (by kernel_rfl) (by kernel_rfl) rfl ?_
  simp -dsimp (disch:=try exact dx) only[wpS,zE]
  refine call (Ec xb) ?_
  rintro w1 v2 ⟨V2,q1⟩
  have vn2:=V2.n
  simp -dsimp (disch:=try exact dx) only[wpS,wpT,zE,zL,zA,bq,f9,aj (V2.kept (by omega) d5),kH]
  have ZI:fF ((ni m:Nat):Int):=aS (k:=64) (by rw[Int.natAbs_natCast];omega) (by omega)
  have Zw:fF (x:Int):=aS (k:=64) (by rw[Int.natAbs_natCast];omega) (by omega)
  refine call (ly q1 (d6.ae V2.ae) Zw.small ZI.small) ?_
  rintro _ v3 ⟨V3,rfl⟩
  have vn3:=V3.n
  have V23:=V2.trans V3
  obtain⟨p,hp⟩ : ∃p,TR - i=p+1:=⟨TR - i - 1,by omega⟩
  have a11:=a8
  rw[hp,fM,←hx,←hs'] at a11
  by_cases cx:x<ni m
  ·rw[if_pos cx] at a11
   rw[if_pos (show(x:Int)<((ni m:Nat):Int) by omega)]
   obtain⟨r,hr⟩ : ∃r,r=x % m:=⟨_,rfl⟩
   have rb:r<m:=by rw[hr];exact Nat.mod_lt _ (by omega)
   have er:(x:Int) % (m:Int)=(r:Int):=by rw[hr,Int.natCast_emod]
   simp -dsimp (disch:=try exact dx) only[wpS,wpT,zE]
   refine⟨ao rfl rfl rfl rfl (aD (H0:=H9) f9 (by omega) V2 Y9 L9),?_⟩
   have z3:=V23.kept (by omega) d3
   have z4:=V23.kept (by omega) d4
   simp -dsimp (disch:=try exact dx) only[wpS,wpT,zE,zL,zA,eX,dj,bZ,vT,vP,f1,f2,f5,aj z3,z4,tk1,er]
   rw[a11,←hr]
   exact⟨(e9.trans V23).put (by omega) _,rfl⟩
  ·rw[if_neg cx] at a11
   rw[if_neg (show ¬(x:Int)<((ni m:Nat):Int) by omega)]
   obtain⟨z,hz,hz0⟩ : ∃z:Int,(if ((ni m:Nat):Int)<(x:Int) then (1:Int) else 0)=z∧0≤z:=⟨_,rfl,by split<;>omega⟩
   rw[hz]
   simp -dsimp (disch:=try exact dx) only[wpS,wpT,zE]
   refine⟨ao rfl rfl rfl rfl (aD (H0:=H9) f9 (by omega) V2 Y9 L9),?_⟩
   simp -dsimp (disch:=try exact dx) only[wpS,wpT,zE,zA,eX,f10]
   refine⟨j - 1,by omega,i+1,s',by omega,e9.trans V23,by omega,V23.kept (by omega) d3,V23.kept (by omega) d4,V23.kept (by omega) d5,d6.ae V23.ae,sb,by rw[show TR - (i+1)=p by omega];exact a11,by simp[f1],by simp[f2],by simp[f5],by simp[f9],by simp⟩
 ·have hi:TR - i=0:=by omega
  rw[hi,fM] at a8
  rw[a8]
  simp -dsimp (disch:=try exact dx) only[wpS,wpT,zE,zL,eX,dj,bZ,f5,a4,tk1]
  exact⟨a1.put (by omega) _,rfl⟩
end Go.Id

namespace Go.Id
open Go
open Nat renaming reduceAdd→zA,reduceEqDiff→zE,reduceLeDiff→zL
set_option maxHeartbeats 16000000
theorem pow2_lt {a b:Nat} (h:a<b):(2:Nat) ^ a<2 ^ b:=Nat.pow_lt_pow_right (by omega) h
theorem pow2_le {a b:Nat} (h:a≤b):(2:Nat) ^ a≤2 ^ b:=Nat.pow_le_pow_right (by omega) h
theorem nL {a k:Nat} (h:a≤2 ^ k) (hk:k≤4000):fF (a:Int):=aS (k:=k) (by rw[Int.natAbs_natCast];exact h) (by omega)
theorem jk {h:IH} {v:Value} {z:Int} (d:aV h v z) (h0:0≤z) : ∃s,v=.agg #[.bool false,s]∧s.cells = #[s]∧aH s=true:=by
 obtain⟨s,h1,h2,h3⟩:=d.cP
 rw[decide_eq_false (by omega)] at h1
 exact⟨s,h1,h2,h3⟩
theorem Hs {h:IH} {v:Value} {a:Nat} (hv:aV h v (a:Int)) (ha:a≤2 ^ 512) :
  WV Proofs.Tryz.prog (.func (.func 229) #[] #[]) [v] h fun r h'=>Ext h h'∧r=KN (ph a):=by
 obtain⟨s,rfl,c1,o1⟩:=jk hv (by omega)
 obtain⟨H0,hH0⟩ : ∃H,H=h.new (.cells [.bool false,s] 0 none):=⟨_,rfl⟩
 have E0:Ext h H0:=by rw[hH0];exact(Ext.refl h).new _
 have n0:H0.n=h.n+1:=by rw[hH0];rfl
 have k0:H0.ext.get h.n=some (.cells [.bool false,s] 0 none):=by rw[hH0];simp (disch:=try exact dx) only[ab]
 have ak:ph a≤513:=by
  apply Classical.byContradiction
  intro hc
  have h1:513<ph a:=by omega
  rw[ou] at h1
  have h2:(2:Nat) ^ 512<2 ^ 513:=pow2_lt (a:=512) (b:=513) (by omega)
  omega
 refine enter (nt:=13) (rs:=[.tmp 2]) Proofs.Tryz.func229 rfl rfl rfl (by simp) ?_
 simp -dsimp (disch:=try exact dx) only[wpS]
 rw[←hH0]
 clear hH0
 refine loop (fun m fr hh => ∃k:Nat,k+m=600∧k≤ph a∧Ext H0 hh∧ai fr 1=some (ptr (2*h.n) 0)∧ai fr 3=some (KN k)) 600
  ⟨0,by omega,by omega,Ext.refl _,by simp,by simp⟩ ?_
 rintro m fr hh ⟨k,hkm,hka,hE,f1,f3⟩
 have nn:=hE.n
 have g0:=hE.kept (by omega) k0
 have X0:=Ext.refl hh
 have L1:=ql2 g0
 simp -dsimp (disch:=try exact dx) only[wpS]
 refine drawn [(3,[0,2])] (by kernel_rfl) (by kernel_rfl) rfl ?_
 simp -dsimp (disch:=try exact dx) only[wpS]
 refine call (eP 2 ⟨by omega,by omega⟩) ?_
 rintro r1 h1 ⟨X1,p1⟩
 simp -dsimp (disch:=try exact dx) only[wpS,zE,f3]
 refine call (oH (k:=k) p1 (by omega)) ?_
 rintro r2 h2 ⟨X2,p2⟩
 have X12:=X1.trans X2
 have g2:=X12.kept (by omega) g0
 simp -dsimp (disch:=try exact dx) only[wpS,wpT,zE,zL,zA,bq,f1,aj g2,kH]
 refine call (ly p2 (hv.ae ((E0.trans hE).trans X12).ae) (mi (by omega)).small (nL ha (by omega)).small) ?_
 rintro _ h3 ⟨X3,rfl⟩
 have E3:=(hE.trans X12).trans X3
 by_cases hk:k<ph a
 ·have h4:=(ou a k).1 hk
  obtain⟨z,hz,hz0⟩ : ∃z:Int,(if ((2 ^ k:Nat):Int)<(a:Int) then (-1:Int) else if (a:Int)<((2 ^ k:Nat):Int) then 1 else 0)=z∧z≤0:=⟨_,rfl,by split;omega;split<;>omega⟩
  rw[hz]
  simp -dsimp (disch:=try exact dx) only[wpS,wpT,zE]
  refine⟨aX (ao rfl rfl rfl rfl (aD (H0:=hh) (b:=2*h.n) (o:=0) f1 (by omega) X12 X0 L1)) (ao rfl rfl rfl rfl (aD (H0:=hh) (b:=2*h.n) (o:=0) f1 (by omega) X12 X1 L1)),?_⟩
  simp -dsimp (disch:=try exact dx) only[wpS,wpT,zE,zA,f3]
  exact⟨m - 1,by omega,k+1,by omega,by omega,E3,by simp[f1],by simp⟩
 ·have h4 : ¬2 ^ k≤a:=fun h=>hk ((ou a k).2 h)
  obtain⟨z,hz,hz0⟩ : ∃z:Int,(if ((2 ^ k:Nat):Int)<(a:Int) then (-1:Int) else if (a:Int)<((2 ^ k:Nat):Int) then 1 else 0)=z∧0<z:=⟨_,rfl,by rw[if_neg (by omega),if_pos (by omega)];omega⟩
  rw[hz]
  simp -dsimp (disch:=try exact dx) only[wpS,wpT,zE]
  refine⟨aX (ao rfl rfl rfl rfl (aD (H0:=hh) (b:=2*h.n) (o:=0) f1 (by omega) X12 X0 L1)) (ao rfl rfl rfl rfl (aD (H0:=hh) (b:=2*h.n) (o:=0) f1 (by omega) X12 X1 L1)),?_⟩
  simp -dsimp (disch:=try exact dx) only[wpS,wpT,zE,zA,f3]
  exact⟨E0.trans E3,by rw[show k=ph a by omega]⟩
theorem BQ {H:IH} {k s:Nat} (g:H.ext.get k=some (.cells [K64 s] 0 none)):load Proofs.Tryz.prog H 63 (ptr (2*k) 0)=some (.agg #[K64 s]):=by
 have r:=aj g
 simp -dsimp (disch:=try exact dx) only[wpS,wpT,zL,bZ,r,tk1]
structure WB (h hh:IH) (b7 b9 b10:Nat) (s7 s9 s10:Value) (n k:Nat):Prop where
 e:Ext h hh
 l7:h.n+1+1+1+1≤b7
 l9:b7<b9
 l10:b9<b10
 lt:b10<hh.n
 g4:hh.ext.get (h.n+1+1)=some (.cells [ZW,ZW,ZW,ZW,ZW,ZW,ZW,ZW] 0 none)
 g5:hh.ext.get (h.n+1+1+1)=some (.cells [.int .u64 0] 0 none)
 g7:hh.ext.get b7=some (.cells [.bool false,s7] 0 none)
 g9:hh.ext.get b9=some (.cells [.bool false,s9] 0 none)
 g10:hh.ext.get b10=some (.cells [.bool false,s10] 0 none)
 p7:aV hh (.agg #[.bool false,s7]) ((n:Nat):Int)
 p9:aV hh (.agg #[.bool false,s9]) ((2 ^ 64:Nat):Int)
 p10:aV hh (.agg #[.bool false,s10]) ((2 ^ k:Nat):Int)
theorem WB.ext {h hh h':IH} {b7 b9 b10:Nat} {s7 s9 s10:Value} {n k:Nat} (w:WB h hh b7 b9 b10 s7 s9 s10 n k) (X:Ext hh h'):WB h h' b7 b9 b10 s7 s9 s10 n k:=by
 have h1:=w.l7;have h2:=w.l9;have h3:=w.l10;have h4:=w.lt
 exact⟨w.e.trans X,w.l7,w.l9,w.l10,Nat.lt_of_lt_of_le w.lt X.n,X.kept (by omega) w.g4,X.kept (by omega) w.g5,X.kept (by omega) w.g7,X.kept (by omega) w.g9,X.kept (by omega) w.g10,w.p7.ae X.ae,w.p9.ae X.ae,w.p10.ae X.ae⟩
theorem WB.put {h hh:IH} {b7 b9 b10:Nat} {s7 s9 s10:Value} {n k:Nat} (w:WB h hh b7 b9 b10 s7 s9 s10 n k) {b:Nat} {c:List Value} {f:Option Nat} (hb:hh.ext.get b=some (.cells c 0 f)) (h1:b=h.n∨b10<b) (o:bR):WB h (hh.put b o) b7 b9 b10 s7 s9 s10 n k:=by
 have K:=(aN.refl hh).put hb o
 have h5:=w.l7;have h2:=w.l9;have h3:=w.l10;have h4:=w.lt
 exact⟨w.e.put (by omega) _,w.l7,w.l9,w.l10,w.lt,by rw[ah _ _ (by omega)];exact w.g4,by rw[ah _ _ (by omega)];exact w.g5,by rw[ah _ _ (by omega)];exact w.g7,by rw[ah _ _ (by omega)];exact w.g9,by rw[ah _ _ (by omega)];exact w.g10,w.p7.ae K,w.p9.ae K,w.p10.ae K⟩
structure FW (fr:Fr) (h:IH) (b7 b9 b10 k:Nat):Prop where
 f2:ai fr 2=some (ptr (2*h.n) 0)
 f4:ai fr 4=some (ptr (2*(h.n+1+1)) 0)
 f5:ai fr 5=some (ptr (2*(h.n+1+1+1)) 0)
 f7:ai fr 7=some (ptr (2*b7) 0)
 f8:ai fr 8=some (KN k)
 f9:ai fr 9=some (ptr (2*b9) 0)
 f10:ai fr 10=some (ptr (2*b10) 0)
theorem vJ (q:Nat) (hq:q≤60):fF (((18446744073709551616 ^ q:Nat)):Int):=nL (k:=64*q) (by rw[show(18446744073709551616:Nat)=2 ^ 64 from rfl,←Nat.pow_mul];exact Nat.le_refl _) (by omega)
theorem mj {a b:Nat} (h:a≤b) (hb:fF (b:Int)):fF (a:Int):=by
 unfold fF rG at *
 rw[Int.natAbs_natCast] at *
 exact Nat.lt_of_le_of_lt h hb
set_option maxRecDepth 100000 in
theorem LD {h:IH} {s n:Nat} (hn:n<W8) (hs:s<18446744073709551616) :
  WV Proofs.Tryz.prog (.func (.func 181) #[] #[]) [chV s,wdV n] h fun r h'=>Ext h h'∧r=AY s n:=by
 unfold AY
 obtain⟨H0,hH0⟩ : ∃H,H=(((h.new (.cells [K64 s] 0 none)).new (.cells (wdC n) 0 none)).new (.cells [ZW,ZW,ZW,ZW,ZW,ZW,ZW,ZW] 0 none)).new (.cells [.int .u64 0] 0 none):=⟨_,rfl⟩
 have nH0:H0.n=h.n+4:=by rw[hH0];rfl
 have E0:Ext h H0:=by rw[hH0];exact((((Ext.refl h).new _).new _).new _).new _
 have c2:H0.ext.get h.n=some (.cells [K64 s] 0 none):=by rw[hH0];simp (disch:=try exact dx) only[ab,ar]
 have c3:H0.ext.get (h.n+1)=some (.cells (wdC n) 0 none):=by rw[hH0];simp (disch:=try exact dx) only[ab,ar]
 have c4:H0.ext.get (h.n+1+1)=some (.cells [ZW,ZW,ZW,ZW,ZW,ZW,ZW,ZW] 0 none):=by rw[hH0];simp (disch:=try exact dx) only[ab,ar]
 have c5:H0.ext.get (h.n+1+1+1)=some (.cells [.int .u64 0] 0 none):=by rw[hH0];simp (disch:=try exact dx) only[ab]
 refine enter (nt:=86) (rs:=[.cell 4 44,.cell 5 63,.tmp 6]) Proofs.Tryz.func181 rfl rfl rfl (by simp) ?_
 simp -dsimp (disch:=try exact dx) only[wpS,zE,zL,zA,fo,jr,bL,chV,aY,aq,aK]
 rw[←hH0]
 clear hH0
 refine call (EW n hn) ?_
 rintro _ h1 ⟨X1,rfl⟩
 have m1:=X1.n
 have q2:=X1.kept (by omega) c2
 have q3:=X1.kept (by omega) c3
 have q4:=X1.kept (by omega) c4
 have q5:=X1.kept (by omega) c5
 by_cases cn:wdI n<1
 ·rw[if_pos cn]
  obtain⟨z,hz,hz0⟩ : ∃z:Int,(if wdI n<0 then (-1:Int) else if 0<wdI n then 1 else 0)=z∧z<1:=⟨_,rfl,by split;omega;split<;>omega⟩
  rw[hz]
  have X:=E0.trans X1
  simp -dsimp (disch:=try exact dx) only[wpS,wpT,zE,zL,zA,bL,gV,eX,dr,dj,bZ,q4,q5,tk1]
  refine⟨(X.put (by omega) _).put (by omega) _,?_⟩
  rw[←eF]
  rfl
 rw[if_neg cn]
 have nH:n<H8:=by
  apply Classical.byContradiction
  intro hh
  unfold wdI at cn
  rw[if_neg hh] at cn
  omega
 have en:wdI n=(n:Int):=jR nH
 rw[en] at cn
 have nb:n≤2 ^ 511:=by rw[←D0];omega
 have nb2:n≤2 ^ 512:=Nat.le_trans nb (pow2_le (a:=511) (b:=512) (by omega))
 rw[en,if_neg (by omega),if_pos (by omega)]
 simp -dsimp (disch:=try exact dx) only[wpS,wpT,zE,zL,bL,aj q3,aq,aK]
 refine call (mO n hn) ?_
 rintro _ h2 ⟨X2,p2⟩
 rw[en] at p2
 obtain⟨s7,rfl,u1,u2⟩:=jk p2 (by omega)
 have m2:=X2.n
 simp -dsimp (disch:=try exact dx) only[wpS,wpT,zE,zL,zA,dh,bY,u2]
 obtain⟨H3,hH3⟩ : ∃H,H=(h2.new (.cells ZL 0 none)).put h2.n (.cells [.bool false,s7] 0 none):=⟨_,rfl⟩
 have E3:Ext h2 H3:=by rw[hH3];exact((Ext.refl h2).new _).put (Nat.le_refl _) _
 have n3:H3.n=h2.n+1:=by rw[hH3];rfl
 have g7:H3.ext.get h2.n=some (.cells [.bool false,s7] 0 none):=by rw[hH3];simp (disch:=try exact dx) only[aa]
 rw[←hH3]
 clear hH3
 have X3:=Ext.refl H3
 have L7:=ql2 g7
 refine drawn [(0,[2])] (by kernel_rfl) (by kernel_rfl) rfl ?_
 simp -dsimp (disch:=try exact dx) only[wpS,wpT,zE,zL,zA,bq,aj g7,kH]
 refine call (eP 1 ⟨by omega,by omega⟩) ?_
 rintro r4 h4 ⟨X4,p4⟩
 simp -dsimp (disch:=try exact dx) only[wpS,zE]
 have sn:fF (n:Int):=nL nb2 (by omega)
 refine call (zo (p2.ae (E3.trans X4).ae) p4 sn.small (mi (i:=0) (by omega)).small) ?_
 rintro r5 h5 ⟨X5,p5⟩
 rw[show(n:Int) - 1=((n - 1:Nat):Int) by omega] at p5
 simp -dsimp (disch:=try exact dx) only[wpS,zE]
 refine call (Hs p5 (by omega)) ?_
 rintro _ h6 ⟨X6,rfl⟩
 have X46:=(X4.trans X5).trans X6
 have XX:=(X1.trans X2).trans (E3.trans X46)
 have m6:=X46.n
 obtain⟨k,hk⟩ : ∃k,k=ph (n - 1):=⟨_,rfl⟩
 have kb:k≤511:=by rw[hk];exact KJ (by omega)
 unfold jx
 rw[←hk]
 simp -dsimp (disch:=try exact dx) only[wpS,zE]
 refine⟨ao rfl rfl rfl rfl (aD (H0:=H3) rfl (by omega) X3 X4 L7),?_⟩
 by_cases k0:k=0
 ·rw[if_pos k0]
  subst k0
  have w2:=XX.kept (by omega) c2
  have w4:=XX.kept (by omega) c4
  have w5:=XX.kept (by omega) c5
  simp -dsimp (disch:=try exact dx) only[wpS,wpT,zE,zA]
  refine drawn [(1,[3])] (by kernel_rfl) (by kernel_rfl) rfl ?_
  simp -dsimp (disch:=try exact dx) only[wpS,wpT,zE,zL,zA,gV,dr,dj,bZ,aj w2,w4,w5,tk1]
  have v2:(h6.put (h.n+1+1) (.cells [ZW,ZW,ZW,ZW,ZW,ZW,ZW,ZW] 0 none)).ext.get h.n=some (.cells [K64 s] 0 none):=by rw[ah _ _ (by omega)];exact w2
  refine⟨ao rfl rfl rfl rfl (aT rfl (BQ w2) (BQ v2)),?_⟩
  simp -dsimp (disch:=try exact dx) only[wpS,wpT,zE,zL,zA,bL,bZ,tk1]
  refine⟨((E0.trans XX).put (by omega) _).put (by omega) _,?_⟩
  rw[←eF]
  rfl
 rw[if_neg k0]
 have dk:(((k:Nat):Int) == 0)=false:=by simp;omega
 simp -dsimp (disch:=try exact dx) only[wpS,wpT,zE,zA,dk]
 refine call (eP 2 ⟨by omega,by omega⟩) ?_
 rintro r7 h7 ⟨X7,p7⟩
 simp -dsimp (disch:=try exact dx) only[wpS,zE]
 refine call (oH (k:=64) p7 (by omega)) ?_
 rintro _ h8 ⟨X8,p8⟩
 obtain⟨s9,rfl,v1,v2⟩:=jk p8 (by omega)
 simp -dsimp (disch:=try exact dx) only[wpS,wpT,zE,zL,zA,dh,bY,v2]
 obtain⟨H9,hH9⟩ : ∃H,H=(h8.new (.cells ZL 0 none)).put h8.n (.cells [.bool false,s9] 0 none):=⟨_,rfl⟩
 have E9:Ext h8 H9:=by rw[hH9];exact((Ext.refl h8).new _).put (Nat.le_refl _) _
 have n9:H9.n=h8.n+1:=by rw[hH9];rfl
 have g9:H9.ext.get h8.n=some (.cells [.bool false,s9] 0 none):=by rw[hH9];simp (disch:=try exact dx) only[aa]
 rw[←hH9]
 clear hH9
 refine call (eP 2 ⟨by omega,by omega⟩) ?_
 rintro r10 h10 ⟨X10,p10⟩
 simp -dsimp (disch:=try exact dx) only[wpS,zE]
 refine call (oH (k:=k) p10 (by omega)) ?_
 rintro _ h11 ⟨X11,p11⟩
 obtain⟨s10,rfl,w1,w2⟩:=jk p11 (Int.natCast_nonneg _)
 simp -dsimp (disch:=try exact dx) only[wpS,wpT,zE,zL,zA,gV,eX,dh,bY,w2]
 obtain⟨H12,PZ⟩ : ∃H,H=(h11.new (.cells ZL 0 none)).put h11.n (.cells [.bool false,s10] 0 none):=⟨_,rfl⟩
 have E12:Ext h11 H12:=by rw[PZ];exact((Ext.refl h11).new _).put (Nat.le_refl _) _
 have n12:H12.n=h11.n+1:=by rw[PZ];rfl
 have g10:H12.ext.get h11.n=some (.cells [.bool false,s10] 0 none):=by rw[PZ];simp (disch:=try exact dx) only[aa]
 rw[←PZ]
 clear PZ
 have X78:=X7.trans X8
 have IK:=X10.trans X11
 have m8:=X78.n
 have m11:=IK.n
 have A9:=IK.trans E12
 have A7:=(X46.trans X78).trans (E9.trans A9)
 have A0:=XX.trans (X78.trans (E9.trans A9))
 have w0:WB h H12 h2.n h8.n h11.n s7 s9 s10 n k:=⟨E0.trans A0,by omega,by omega,by omega,by omega,A0.kept (by omega) c4,A0.kept (by omega) c5,A7.kept (by omega) g7,A9.kept (by omega) g9,g10,p2.ae (E3.trans A7).ae,p8.ae (E9.trans A9).ae,p11.ae E12.ae⟩
 have gs:=A0.kept (by omega) c2
 have hT:=Ct
 refine loop (fun j fr hh => ∃i si:Nat,i+j=TR∧WB h hh h2.n h8.n h11.n s7 s9 s10 n k∧hh.ext.get h.n=some (.cells [K64 si] 0 none)∧si<18446744073709551616∧mF n k TR s=mF n k (TR - i) si∧FW fr h h2.n h8.n h11.n k∧ai fr 11=some (KN i)) TR
  ⟨0,s,by omega,w0,gs,hs,rfl,⟨by simp,by simp,by simp,by simp,by simp,by simp,by simp⟩,by simp⟩ ?_
 clear w0 gs
 rintro j fr hh ⟨i,si,hij,w,gs,hsi,hT2,F,f11⟩
 simp -dsimp (disch:=try exact dx) only[wpS,wpT,zE,gV,eX,oo,f11]
 refine aA ?_ ?_<;>intro hc<;>simp only[decide_eq_true_eq,decide_eq_false_iff_not] at hc
 ·have hi:i<TR:=by omega
  simp -dsimp (disch:=try exact dx) only[wpS,wpT,zE,gV,eX,oo]
  refine call (eP 1 ⟨by omega,by omega⟩) ?_
  rintro _ h13 ⟨X13,p13⟩
  obtain⟨sP,rfl,y1,y2⟩:=jk p13 (by omega)
  have m13:=X13.n
  have wl:=w.lt
  have wl7:=w.l7
  have wl9:=w.l9
  have wl10:=w.l10
  simp -dsimp (disch:=try exact dx) only[wpS,wpT,zE,zL,zA,gV,eX,dh,bY,y2]
  obtain⟨H14,MH⟩ : ∃H,H=(((h13.new (.cells ZL 0 none)).new (.cells ZL 0 none)).put h13.n (.cells [.bool false,.slice none 0 0] 0 none)).put (h13.n+1) (.cells [.bool false,sP] 0 none):=⟨_,rfl⟩
  have E14:Ext h13 H14:=by rw[MH];exact((((Ext.refl h13).new _).new _).put (Nat.le_refl _) _).put (Nat.le_succ _) _
  have n14:H14.n=h13.n+2:=by rw[MH];rfl
  have gA:H14.ext.get h13.n=some (.cells [.bool false,.slice none 0 0] 0 none):=by rw[MH];simp (disch:=try exact dx) only[aa,ah]
  have gB:H14.ext.get (h13.n+1)=some (.cells [.bool false,sP] 0 none):=by rw[MH];simp (disch:=try exact dx) only[aa]
  rw[←MH]
  clear MH
  obtain⟨mm,hmm⟩ : ∃mm,mm=(k+63) / 64:=⟨_,rfl⟩
  have mb:mm≤8:=by omega
  have w14:=w.ext (X13.trans E14)
  have XH:=(X13.trans E14).kept (by omega) gs
  refine loop (fun m2 fr H => ∃(q:Nat) (sA sB:Value),q+m2=mm∧WB h H h2.n h8.n h11.n s7 s9 s10 n k∧h13.n+1<H.n∧H.ext.get h.n=some (.cells [K64 (cf q si).2] 0 none)∧H.ext.get h13.n=some (.cells [.bool false,sA] 0 none)∧H.ext.get (h13.n+1)=some (.cells [.bool false,sB] 0 none)∧aV H (.agg #[.bool false,sA]) (((cf q si).1:Nat):Int)∧aV H (.agg #[.bool false,sB]) ((18446744073709551616 ^ q:Nat):Int)∧FW fr h h2.n h8.n h11.n k∧ai fr 11=some (KN i)∧ai fr 12=some (ptr (2*h13.n) 0)∧ai fr 13=some (ptr (2*(h13.n+1)) 0)∧ai fr 14=some (KN (64*q))) mm
   ⟨0,.slice none 0 0,sP,by omega,w14,by omega,XH,gA,gB,vC _,p13.ae E14.ae,⟨by simp[F.f2],by simp[F.f4],by simp[F.f5],by simp[F.f7],by simp[F.f8],by simp[F.f9],by simp[F.f10]⟩,by simp[f11],by simp,by simp,by simp⟩ ?_
  clear w14 XH gA gB w gs F f11
  rintro m2 fr H ⟨q,sA,sB,hqm,w,lH,gs,gA,gB,pA,pB,F,f11,f12,f13,f14⟩
  have wlt:=w.lt
  simp -dsimp (disch:=try exact dx) only[wpS,wpT,zE,gV,eX,f14,F.f8]
  refine aA ?_ ?_<;>intro hc2<;>simp only[decide_eq_true_eq,decide_eq_false_iff_not] at hc2
  ·have hq:q<mm:=by omega
   have hst:=qC (m:=q) hsi
   have ho:=zh (cf q si).2
   simp -dsimp (disch:=try exact dx) only[wpS,wpT,zE,zL,gV,eX,bZ,F.f2,aj gs,tk1]
   refine call (EY hst) ?_
   rintro _ h15 ⟨X15,rfl⟩
   have m15:=X15.n
   have XG:=X15.kept (by omega) gs
   simp -dsimp (disch:=try exact dx) only[wpS,wpT,zE,zL,jr,gV,eX,dj,bZ,F.f2,chV,XG,tk1]
   obtain⟨H16,uA⟩ : ∃X,X=((h15.new (.cells [.int .u64 0] 0 none)).put h15.n (.cells [K64 (nxS (cf q si).2)] 0 none)).put h.n (.cells [K64 (nxS (cf q si).2)] 0 none):=⟨_,rfl⟩
   have E16:Ext h15 ((h15.new (.cells [.int .u64 0] 0 none)).put h15.n (.cells [K64 (nxS (cf q si).2)] 0 none)):=((Ext.refl h15).new _).put (Nat.le_refl _) _
   have SN:=E16.kept (by omega) XG
   have w16:WB h H16 h2.n h8.n h11.n s7 s9 s10 n k:=by rw[uA];exact(w.ext (X15.trans E16)).put SN (.inl rfl) _
   have K16:aN H H16:=by rw[uA];exact(X15.trans E16).ae.put SN _
   have n16:H16.n=h15.n+1:=by rw[uA];rfl
   have gs':H16.ext.get h.n=some (.cells [K64 (nxS (cf q si).2)] 0 none):=by rw[uA];exact aa _ _ rfl
   have gA':H16.ext.get h13.n=some (.cells [.bool false,sA] 0 none):=by rw[uA,ah _ _ (by omega)];exact(X15.trans E16).kept (by omega) gA
   have gB':H16.ext.get (h13.n+1)=some (.cells [.bool false,sB] 0 none):=by rw[uA,ah _ _ (by omega)];exact(X15.trans E16).kept (by omega) gB
   rw[←uA]
   clear uA
   have pA':=pA.ae K16
   have pB':=pB.ae K16
   have X16:=Ext.refl H16
   have LA:=ql2 gA'
   have LB:=ql2 gB'
   refine drawn [(0,[4,5]),(3,[2])] (by kernel_rfl) (by kernel_rfl) rfl ?_
   simp -dsimp (disch:=try exact dx) only[wpS,wpT,zE,zL,zA,bq,f12,aj gA',kH]
   refine call (Ec ho) ?_
   rintro r17 h17 ⟨X17,p17⟩
   have Z4:=X17.kept (by omega) gB'
   simp -dsimp (disch:=try exact dx) only[wpS,wpT,zE,zL,zA,bq,f13,aj Z4,kH]
   have hx:fF ((nxO (cf q si).2:Nat):Int):=nL (k:=64) (by omega) (by omega)
   have hp:=vJ q (by omega)
   have hp1:=vJ (q+1) (by omega)
   have hd:=mj (Nat.le_of_lt (qD q si)) hp
   have hd1:=mj (Nat.le_of_lt (qD (q+1) si)) hp1
   refine call (gv p17 (pB'.ae X17.ae) hx hp) ?_
   rintro r18 h18 ⟨X18,p18⟩
   rw[←Int.natCast_mul] at p18
   have Wg:=X17.trans X18
   simp -dsimp (disch:=try exact dx) only[wpS,zE]
   have hle:nxO (cf q si).2*18446744073709551616 ^ q≤(cf (q+1) si).1:=Nat.le_add_left _ _
   refine call (oN (pA'.ae Wg.ae) p18 hd.small (mj hle hd1).small) ?_
   rintro _ h19 ⟨X19,p19⟩
   rw[←Int.natCast_add,show(cf q si).1+nxO (cf q si).2*18446744073709551616 ^ q=(cf (q+1) si).1 from rfl] at p19
   obtain⟨sA',rfl,a1,a2⟩:=jk p19 (Int.natCast_nonneg _)
   have X79:=Wg.trans X19
   have m19:=X79.n
   have VG:=X79.kept (by omega) gA'
   have Z3:=X79.kept (by omega) gB'
   have P2:=X79.kept (by omega) gs'
   simp -dsimp (disch:=try exact dx) only[wpS,wpT,zE,zL,zA,bY,f12,VG,a2]
   refine⟨ba (aX (ao rfl rfl rfl rfl (aD (H0:=H16) (b:=2*h13.n) (o:=0) f12 (by omega) X16 X17 LA)) (ao rfl rfl rfl rfl (aD (H0:=H16) (b:=2*h13.n) (o:=0) f12 (by omega) X16 Wg LA))) (ao rfl rfl rfl rfl (aD (H0:=H16) (b:=2*(h13.n+1)) (o:=0) f13 (by omega) X17 X16 LB)),?_⟩
   have w19:=(w16.ext X79).put VG (.inr (by omega)) (.cells [.bool false,sA'] 0 none)
   obtain⟨H20,Ga⟩ : ∃X,X=h19.put h13.n (.cells [.bool false,sA'] 0 none):=⟨_,rfl⟩
   have K20:aN h19 H20:=by rw[Ga];exact(aN.refl h19).put VG _
   have n20:H20.n=h19.n:=by rw[Ga];rfl
   have Z5:H20.ext.get h13.n=some (.cells [.bool false,sA'] 0 none):=by rw[Ga];exact aa _ _ rfl
   have XI:H20.ext.get (h13.n+1)=some (.cells [.bool false,sB] 0 none):=by rw[Ga,ah _ _ (by omega)];exact Z3
   have VD:H20.ext.get h.n=some (.cells [K64 (nxS (cf q si).2)] 0 none):=by rw[Ga,ah _ _ (by omega)];exact P2
   rw[←Ga] at w19
   rw[←Ga]
   clear Ga
   simp -dsimp (disch:=try exact dx) only[wpS,wpT,zE,zL,zA,gV,eX,bq,f13,F.f9,aj XI,aj w19.g9,kH]
   refine call (gv ((pB'.ae X79.ae).ae K20) w19.p9 hp (mi (by omega))) ?_
   rintro _ h21 ⟨X21,p21⟩
   have e21:((18446744073709551616 ^ q:Nat):Int)*((2 ^ 64:Nat):Int)=((18446744073709551616 ^ (q+1):Nat):Int):=by
    have e2:(2 ^ 64:Nat)=18446744073709551616:=rfl
    rw[e2,←Int.natCast_mul,←Nat.pow_succ]
   rw[e21] at p21
   obtain⟨sB',rfl,b1,b2⟩:=jk p21 (Int.natCast_nonneg _)
   have m21:=X21.n
   have VF:=X21.kept (by omega) XI
   simp -dsimp (disch:=try exact dx) only[wpS,wpT,zE,zL,zA,gV,eX,bY,f13,f14,VF,b2]
   have K22:aN h21 (h21.put (h13.n+1) (.cells [.bool false,sB'] 0 none)):=(aN.refl h21).put VF _
   refine⟨m2 - 1,by omega,q+1,sA',sB',by omega,(w19.ext X21).put VF (.inr (by omega)) _,by simp only[ay];omega,?_,?_,aa _ _ rfl,((p19.ae K20).ae X21.ae).ae K22,p21.ae K22,⟨by simp[F.f2],by simp[F.f4],by simp[F.f5],by simp[F.f7],by simp[F.f8],by simp[F.f9],by simp[F.f10]⟩,by simp[f11],by simp[f12],by simp[f13],?_⟩
   ·rw[ah _ _ (by omega)];exact X21.kept (by omega) VD
   ·rw[ah _ _ (by omega)];exact X21.kept (by omega) Z5
   ·simp;omega
  ·obtain rfl:q=mm:=by omega
   have hd:=mj (Nat.le_of_lt (qD q si)) (vJ q (by omega))
   have hst:=qC (m:=q) hsi
   have pw:(0:Nat)<2 ^ k:=Nat.two_pow_pos k
   simp -dsimp (disch:=try exact dx) only[wpS,wpT,zE,zL,zA,gV,eX,bq,f12,F.f10,aj gA,aj w.g10,kH]
   refine call (lq pA w.p10 hd.small (mi (i:=k) (by omega)).small (by omega)) ?_
   rintro _ h15 ⟨X15,u,t,rfl,pu,pt⟩
   rw[show((cf q si).1:Int) / ((2 ^ k:Nat):Int)=(((cf q si).1 / 2 ^ k:Nat):Int) from(Int.natCast_ediv _ _).symm] at pu
   rw[show((cf q si).1:Int) % ((2 ^ k:Nat):Int)=(((cf q si).1 % 2 ^ k:Nat):Int) from(Int.natCast_emod _ _).symm] at pt
   obtain⟨su,rfl,a1,a2⟩:=jk pu (Int.natCast_nonneg _)
   obtain⟨st,rfl,b1,b2⟩:=jk pt (Int.natCast_nonneg _)
   have m15:=X15.n
   simp -dsimp (disch:=try exact dx) only[wpS,wpT,zE,zL,zA,gV,eX,dh,bY,bq,a2,b2]
   obtain⟨H16,uA⟩ : ∃X,X=(((h15.new (.cells ZL 0 none)).new (.cells ZL 0 none)).put h15.n (.cells [.bool false,su] 0 none)).put (h15.n+1) (.cells [.bool false,st] 0 none):=⟨_,rfl⟩
   have E16:Ext h15 H16:=by rw[uA];exact((((Ext.refl h15).new _).new _).put (Nat.le_refl _) _).put (Nat.le_succ _) _
   have n16:H16.n=h15.n+2:=by rw[uA];rfl
   have g18:H16.ext.get (h15.n+1)=some (.cells [.bool false,st] 0 none):=by rw[uA];simp (disch:=try exact dx) only[aa]
   rw[←uA]
   clear uA
   have X56:=X15.trans E16
   have w16:=w.ext X56
   have SN:=X56.kept (by omega) gs
   obtain⟨rest,mg⟩ : ∃rest,rest=(cf q si).1 % 2 ^ k:=⟨_,rfl⟩
   rw[←mg] at pt
   have rb:rest<2 ^ k:=by rw[mg];exact Nat.mod_lt _ pw
   have rb2:rest≤2 ^ 511:=Nat.le_trans (Nat.le_of_lt rb) (pow2_le (a:=k) (b:=511) kb)
   simp -dsimp (disch:=try exact dx) only[wpS,wpT,zE,zL,zA,bq,F.f7,aj w16.g7,kH]
   refine call (ly (pt.ae E16.ae) w16.p7 (nL rb2 (by omega)).small sn.small) ?_
   rintro _ h17 ⟨X17,rfl⟩
   have m17:=X17.n
   have w17:=w16.ext X17
   have XF:=X17.kept (by omega) SN
   have g17:=X17.kept (by omega) g18
   have e1:TR - i=(TR - i - 1)+1:=by omega
   rw[e1,mF,←hmm,←mg] at hT2
   by_cases c:rest<n
   ·rw[if_pos c] at hT2
    obtain⟨z,hz,hz0⟩ : ∃z:Int,(if (rest:Int)<(n:Int) then (-1:Int) else if (n:Int)<(rest:Int) then 1 else 0)=z∧z<0:=⟨_,rfl,by rw[if_pos (by omega)];omega⟩
    rw[hz,hT2]
    simp -dsimp (disch:=try exact dx) only[wpS,wpT,zE,zL,zA,gV,eX,bq,aj g17,kH]
    refine call (y8 (pt.ae (E16.trans X17).ae)) ?_
    rintro _ h18 ⟨X18,rfl⟩
    have m18:=X18.n
    have iw:InW (rest:Int):=by unfold InW;omega
    have ev:pz (rest:Int)=wdV rest:=by show wdV (bW (rest:Int))=_;rw[nA (by omega)];rfl
    rw[if_pos iw,ev]
    simp -dsimp (disch:=try exact dx) only[wpS,wpT,zE,zL,zA,fo,gV,eX,dr,aY,aq,aM,bf]
    obtain⟨H19,PY⟩ : ∃X,X=(h18.new (.cells [ZW,ZW,ZW,ZW,ZW,ZW,ZW,ZW] 0 none)).put h18.n (.cells (wdC rest) 0 none):=⟨_,rfl⟩
    have E19:Ext h18 H19:=by rw[PY];exact((Ext.refl h18).new _).put (Nat.le_refl _) _
    have n19:H19.n=h18.n+1:=by rw[PY];rfl
    have g19:H19.ext.get h18.n=some (.cells (wdC rest) 0 none):=by rw[PY];simp (disch:=try exact dx) only[aa]
    rw[←PY]
    clear PY
    have w19:=w17.ext (X18.trans E19)
    have P2:=(X18.trans E19).kept (by omega) XF
    have VD:(H19.put (h.n+1+1) (.cells (wdC rest) 0 none)).ext.get h.n=some (.cells [K64 (cf q si).2] 0 none):=by rw[ah _ _ (by omega)];exact P2
    refine drawn [(1,[3])] (by kernel_rfl) (by kernel_rfl) rfl ?_
    simp -dsimp (disch:=try exact dx) only[wpS,wpT,zE,zL,zA,bL,dr,dj,bZ,F.f2,F.f4,F.f5,aj g19,aj P2,w19.g4,w19.g5,aq,aM,bf,aK,tk1]
    refine⟨ao rfl rfl rfl rfl (aT F.f2 (BQ P2) (BQ VD)),?_⟩
    simp -dsimp (disch:=try exact dx) only[wpS,wpT,zE,zL,zA,bL,gV,eX,bZ,F.f4,F.f5,aq,aK,tk1]
    exact⟨(w19.e.put (by omega) _).put (by omega) _,rfl⟩
   ·rw[if_neg c] at hT2
    obtain⟨z,hz,hz0⟩ : ∃z:Int,(if (rest:Int)<(n:Int) then (-1:Int) else if (n:Int)<(rest:Int) then 1 else 0)=z∧0≤z:=⟨_,rfl,by rw[if_neg (by omega)];split<;>omega⟩
    rw[hz]
    simp -dsimp (disch:=try exact dx) only[wpS,wpT,zE,gV,eX,f11]
    exact⟨j - 1,by omega,i+1,(cf q si).2,by omega,w17,XF,hst,by rw[hT2,show TR - i - 1=TR - (i+1) by omega],⟨by simp[F.f2],by simp[F.f4],by simp[F.f5],by simp[F.f7],by simp[F.f8],by simp[F.f9],by simp[F.f10]⟩,by simp⟩
 ·have e0:TR - i=0:=by omega
  rw[hT2,e0,mF]
  simp -dsimp (disch:=try exact dx) only[wpS,wpT,zE,zL,zA,bL,gV,eX,dr,dj,bZ,oo,F.f4,F.f5,w.g4,w.g5,tk1]
  have wl:=w.lt
  refine⟨(w.e.put (by omega) _).put (by omega) _,?_⟩
  rw[←eF]
  rfl
end Go.Id
